/- Contracts of the reader's Bool, Count and End, and of NewReader. -/
import Derived.Test.YtflabbdnkoejjaaRd4
namespace Go.Proofs.Ytflabbdnkoejjaa
open Go.RowKit

set_option maxRecDepth 100000 in
theorem rBool (br : Nat) (r : Rd) (w : World) (hr : RdAt w br r) (hk : r.Ok) :
    Calls Try.prog 32 #[Value.pointer (some ⟨br, 0, none⟩)] w fun e w' => e = .returned (Value.bool r.bool.1) ∧ Fr [br] w w' ∧ RdAt w' br r.bool.2 := by
  have hmf : ∀ (fn : Fn) (first cap : Array Value) (w : World), (Instr.makeFunc fn first cap).run Try.prog w = .ok (.func fn first cap) w := fun _ _ _ _ => rfl
  have hf0 : Fr [] w (w.alloc (.cells #[Value.pointer (some ⟨br, 0, none⟩)] 64)) := (Fr.refl _ _).alloc _
  have ha0 : At (w.alloc (.cells #[Value.pointer (some ⟨br, 0, none⟩)] 64)) w.heap.size 64 [Value.pointer (some ⟨br, 0, none⟩)] := At.new w _ _
  have hr0 : RdAt (w.alloc (.cells #[Value.pointer (some ⟨br, 0, none⟩)] 64)) br r := ReaderAt.fr hr hf0
  have H := Lib.hid (And.intro hr0 (And.intro hk (And.intro hf0 ha0)))
  clear hr hk hf0 ha0 hr0
  by_cases h0 : r.err = 0
  · obtain ⟨D, off, last, err⟩ := r
    simp only at h0
    subst h0
    have hdec : ∀ W, Fr [] (w.alloc (.cells #[Value.pointer (some ⟨br, 0, none⟩)] 64)) W → ReaderAt W br D off last 0 → Calls Try.prog 52 #[Value.pointer (some ⟨w.heap.size, 0, none⟩)] W (BoolRes br D off last W) :=
      fun W hf hr => boolc_any w.heap.size br D off last W (H.out.2.2.2.fr hf (by simp)) hr H.out.2.1.off H.out.2.1.len
    have HD := Lib.hid hdec
    clear hdec
    cases hb : rdBool D off with
    | some p =>
      obtain ⟨v, m⟩ := p
      have HB := Lib.hid hb
      clear hb
      go_enter Try.func32, Try.ntmps32
      go_wp2_with fail
      refine (readBool_some br D off last m v w.heap.size _ H.out.1 (fun W hf hr => (HD.out W hf hr).mono (fun e w' h => by unfold BoolRes at h; rw [HB.out] at h; exact ⟨h.2.1, h.1, h.2.2⟩))).mono ?_
      rintro e w1 ⟨rfl, hf, hr1⟩
      have H1 := Lib.hid (And.intro (H.out.2.2.1.mono (S' := [br]) (by simp) |>.trans hf) hr1)
      clear hf hr1
      go_wp2_with fail
      go_ret
      simp only [Rd.bool, if_true, HB.out]
      exact ⟨rfl, H1.out⟩
    | none =>
      have HB := Lib.hid hb
      clear hb
      go_enter Try.func32, Try.ntmps32
      go_wp2_with fail
      refine (readBool_none br D off last 3 false w.heap.size _ H.out.1 (by decide) (fun W hf hr => (HD.out W hf hr).mono (fun e w' h => by unfold BoolRes at h; rw [HB.out] at h; exact ⟨h.2.1, h.1, off, h.2.2⟩))).mono ?_
      rintro e w1 ⟨rfl, hf, hr1⟩
      have H1 := Lib.hid (And.intro (H.out.2.2.1.mono (S' := [br]) (by simp) |>.trans hf) hr1)
      clear hf hr1
      go_wp2_with fail
      go_ret
      simp only [Rd.bool, if_true, HB.out]
      exact ⟨rfl, H1.out⟩
  · have e : r.bool = (false, r) := by unfold Rd.bool; rw [if_neg h0]
    have HE := Lib.hid (And.intro h0 e)
    clear h0 e
    go_enter Try.func32, Try.ntmps32
    go_wp2_with fail
    refine (readBool_err br r _ _ H.out.1 HE.out.1).mono ?_
    rintro e w1 ⟨rfl, hf, hr1⟩
    have H1 := Lib.hid (And.intro ((H.out.2.2.1.trans hf).mono (S' := [br]) (by simp)) hr1)
    clear hf hr1
    go_wp2_with fail
    go_ret
    rw [HE.out.2]
    exact ⟨rfl, H1.out⟩

/-- What limited leaves. -/
def LimRes (br : Nat) (D : List UInt8) (off last : Nat) (most : Int) (w : World) (e : Ending) (w' : World) : Prop :=
  Fr [br] w w' ∧ match rdNum D off with
    | none => e = .returned (.tuple #[Value.int .i64 0, Value.int .i64 3]) ∧ ∃ off' : Nat, ReaderAt w' br D off' last 0
    | some (n, m) => if max most 0 < (n : Int) then e = .returned (.tuple #[Value.int .i64 0, Value.int .i64 2]) ∧ ∃ off' : Nat, ReaderAt w' br D off' last 0 else e = .returned (.tuple #[Value.int .i64 (n : Int), Value.int .i64 0]) ∧ ReaderAt w' br D m last 0

set_option maxRecDepth 100000 in
theorem limited_any (br : Nat) (D : List UInt8) (off last : Nat) (most : Int) (w : World) (hr : ReaderAt w br D off last 0) (ho : off ≤ D.length) (hD : D.length ≤ 4294967296) (hm : Fit64 most) :
    Calls Try.prog 55 #[Value.pointer (some ⟨br, 0, none⟩), Value.int .i64 most] w (LimRes br D off last most w) := by
  have H := Lib.hid (And.intro hr (And.intro ho hD))
  have hm0 := hm.1
  have hm1 := hm.2
  clear hr ho hD hm
  cases hb : rdNum D off with
  | none =>
    have HB := Lib.hid hb
    clear hb
    go_enter Try.func55, Try.ntmps55
    go_wp2_with fail
    refine (number_none br D off last _ H.out.1 H.out.2.1 H.out.2.2 HB.out).mono ?_
    rintro e w1 ⟨rfl, hf, off', ho', hr1⟩
    have H1 := Lib.hid (And.intro hf hr1)
    clear hf hr1 ho'
    go_wp2_with fail
    go_ret2
    unfold LimRes
    rw [HB.out]
    exact ⟨H1.out.1, rfl, off', H1.out.2⟩
  | some p =>
    obtain ⟨n, m⟩ := p
    have hu := (rdNum_le _ _ _ _ hb).2.2
    have hI : (n : Int) ≤ 18446744073709551615 := by unfold U64 at hu; omega
    have HB := Lib.hid hb
    clear hb hu
    by_cases hg : max most 0 < (n : Int)
    · have HG := Lib.hid hg
      go_enter Try.func55, Try.ntmps55
      go_wp2_with fail
      refine (number_some br D off last _ H.out.1 H.out.2.1 H.out.2.2 n m HB.out).mono ?_
      rintro e w1 ⟨rfl, hf, hr1, _, _⟩
      have H1 := Lib.hid (And.intro hf hr1)
      clear hf hr1
      go_wp2_with fail
      all_goals
        go_ret2
        unfold LimRes
        rw [HB.out]
        simp only
        rw [if_pos HG.out]
        exact ⟨H1.out.1, rfl, m, H1.out.2⟩
    · have HG := Lib.hid hg
      have hg' : (n : Int) ≤ max most 0 := by omega
      have hn2 : (n : Int) ≤ 9223372036854775807 := by omega
      clear hg
      go_enter Try.func55, Try.ntmps55
      go_wp2_with fail
      refine (number_some br D off last _ H.out.1 H.out.2.1 H.out.2.2 n m HB.out).mono ?_
      rintro e w1 ⟨rfl, hf, hr1, _, _⟩
      have H1 := Lib.hid (And.intro hf hr1)
      clear hf hr1
      go_wp2_with fail
      all_goals
        go_ret2
        unfold LimRes
        rw [HB.out]
        simp only
        rw [if_neg (by have := HG.out; omega)]
        exact ⟨H1.out.1, rfl, H1.out.2⟩

set_option maxRecDepth 100000 in
theorem countc_any (bx by_ br : Nat) (D : List UInt8) (off last : Nat) (most : Int) (w : World) (hx : At w bx 64 [Value.pointer (some ⟨br, 0, none⟩)]) (hy : At w by_ 3 [Value.int .i64 most]) (hr : ReaderAt w br D off last 0) (ho : off ≤ D.length) (hD : D.length ≤ 4294967296) (hm : Fit64 most) :
    Calls Try.prog 54 #[Value.pointer (some ⟨bx, 0, none⟩), Value.pointer (some ⟨by_, 0, none⟩)] w (LimRes br D off last most w) := by
  have x0 : w.cell? ⟨bx, 0, none⟩ = some (Value.pointer (some ⟨br, 0, none⟩)) := by rw [hx.cell]; rfl
  have y0 : w.cell? ⟨by_, 0, none⟩ = some (Value.int .i64 most) := by rw [hy.cell]; rfl
  have H := Lib.hid (limited_any br D off last most w hr ho hD hm)
  clear hr ho hD hm hx hy
  go_enter Try.func54, Try.ntmps54
  go_wp2_with fail
  refine H.out.mono ?_
  intro e w1 h
  have HH := Lib.hid h
  unfold LimRes at h
  obtain ⟨hf, h⟩ := h
  split at h
  · obtain ⟨rfl, _⟩ := h
    clear hf
    go_wp2_with fail
    go_ret2
    exact HH.out
  · split at h
    · obtain ⟨rfl, _⟩ := h
      clear hf
      go_wp2_with fail
      go_ret2
      exact HH.out
    · obtain ⟨rfl, _⟩ := h
      clear hf
      go_wp2_with fail
      go_ret2
      exact HH.out

def Rd.count (r : Rd) (most : Int) : Nat × Rd := if r.err = 0 then (match rdNum r.D r.off with
  | none => (0, r.fail 3)
  | some (n, m) => if max most 0 < (n : Int) then (0, r.fail 2) else (n, r.done m)) else (0, r)

set_option maxRecDepth 100000 in
set_option maxHeartbeats 1000000 in
theorem rCount (br : Nat) (r : Rd) (most : Int) (w : World) (hr : RdAt w br r) (hk : r.Ok) (hm : Fit64 most) :
    Calls Try.prog 33 #[Value.pointer (some ⟨br, 0, none⟩), Value.int .i64 most] w fun e w' => e = .returned (Value.int .i64 ((r.count most).1 : Int)) ∧ Fr [br] w w' ∧ RdAt w' br (r.count most).2 := by
  have hmf : ∀ (fn : Fn) (first cap : Array Value) (w : World), (Instr.makeFunc fn first cap).run Try.prog w = .ok (.func fn first cap) w := fun _ _ _ _ => rfl
  have hlt : br < w.heap.size := by obtain ⟨A, c, ha, _⟩ := hr; exact ha.lt
  have hf0 : Fr [] w ((w.alloc (.cells #[Value.pointer (some ⟨br, 0, none⟩)] 64)).alloc (.cells #[Value.int .i64 most] 3)) := ((Fr.refl _ _).alloc _).alloc _
  have ha0 : At ((w.alloc (.cells #[Value.pointer (some ⟨br, 0, none⟩)] 64)).alloc (.cells #[Value.int .i64 most] 3)) w.heap.size 64 [Value.pointer (some ⟨br, 0, none⟩)] := (At.new w _ [Value.pointer (some ⟨br, 0, none⟩)]).alloc _
  have hb0 : At ((w.alloc (.cells #[Value.pointer (some ⟨br, 0, none⟩)] 64)).alloc (.cells #[Value.int .i64 most] 3)) (w.heap.size + 1) 3 [Value.int .i64 most] := by
    have := At.new (w.alloc (.cells #[Value.pointer (some ⟨br, 0, none⟩)] 64)) 3 [Value.int .i64 most]
    simpa using this
  have hr0 : RdAt ((w.alloc (.cells #[Value.pointer (some ⟨br, 0, none⟩)] 64)).alloc (.cells #[Value.int .i64 most] 3)) br r := ReaderAt.fr hr hf0
  have H := Lib.hid (And.intro hr0 (And.intro hk (And.intro hf0 (And.intro ha0 hb0))))
  have HM := Lib.hid hm
  clear hr hk hf0 ha0 hr0 hb0 hm
  by_cases h0 : r.err = 0
  · obtain ⟨D, off, last, err⟩ := r
    simp only at h0
    subst h0
    have hdec : ∀ W, Fr [] ((w.alloc (.cells #[Value.pointer (some ⟨br, 0, none⟩)] 64)).alloc (.cells #[Value.int .i64 most] 3)) W → ReaderAt W br D off last 0 → Calls Try.prog 54 #[Value.pointer (some ⟨w.heap.size, 0, none⟩), Value.pointer (some ⟨w.heap.size + 1, 0, none⟩)] W (LimRes br D off last most W) :=
      fun W hf hr => countc_any w.heap.size (w.heap.size + 1) br D off last most W (H.out.2.2.2.1.fr hf (by simp)) (H.out.2.2.2.2.fr hf (by simp)) hr H.out.2.1.off H.out.2.1.len HM.out
    have HD := Lib.hid hdec
    clear hdec
    cases hb : rdNum D off with
    | none =>
      have HB := Lib.hid hb
      clear hb
      go_enter Try.func33, Try.ntmps33
      go_wp2_with fail
      refine (readCnt_none br D off last 3 0 w.heap.size (w.heap.size + 1) _ H.out.1 (by decide) (fun W hf hr => (HD.out W hf hr).mono (fun e w' h => by unfold LimRes at h; rw [HB.out] at h; exact ⟨h.2.1, h.1, h.2.2⟩))).mono ?_
      rintro e w1 ⟨rfl, hf, hr1⟩
      have H1 := Lib.hid (And.intro (H.out.2.2.1.mono (S' := [br]) (by simp) |>.trans hf) hr1)
      clear hf hr1
      go_wp2_with fail
      go_ret
      simp only [Rd.count, if_true, HB.out]
      exact ⟨rfl, H1.out⟩
    | some p =>
      obtain ⟨n, m⟩ := p
      have HB := Lib.hid hb
      clear hb
      by_cases hg : max most 0 < (n : Int)
      · have HG := Lib.hid hg
        clear hg
        go_enter Try.func33, Try.ntmps33
        go_wp2_with fail
        refine (readCnt_none br D off last 2 0 w.heap.size (w.heap.size + 1) _ H.out.1 (by decide) (fun W hf hr => (HD.out W hf hr).mono (fun e w' h => by unfold LimRes at h; rw [HB.out] at h; simp only [if_pos HG.out] at h; exact ⟨h.2.1, h.1, h.2.2⟩))).mono ?_
        rintro e w1 ⟨rfl, hf, hr1⟩
        have H1 := Lib.hid (And.intro (H.out.2.2.1.mono (S' := [br]) (by simp) |>.trans hf) hr1)
        clear hf hr1
        go_wp2_with fail
        go_ret
        simp only [Rd.count, if_true, HB.out, if_pos HG.out]
        exact ⟨rfl, H1.out⟩
      · have HG := Lib.hid hg
        clear hg
        go_enter Try.func33, Try.ntmps33
        go_wp2_with fail
        refine (readCnt_some br D off last m (n : Int) w.heap.size (w.heap.size + 1) _ H.out.1 (fun W hf hr => (HD.out W hf hr).mono (fun e w' h => by unfold LimRes at h; rw [HB.out] at h; simp only at h; rw [if_neg (by have := HG.out; omega)] at h; exact ⟨h.2.1, h.1, h.2.2⟩))).mono ?_
        rintro e w1 ⟨rfl, hf, hr1⟩
        have H1 := Lib.hid (And.intro (H.out.2.2.1.mono (S' := [br]) (by simp) |>.trans hf) hr1)
        clear hf hr1
        go_wp2_with fail
        go_ret
        simp only [Rd.count, if_true, HB.out]
        rw [if_neg (by have := HG.out; omega)]
        exact ⟨rfl, H1.out⟩
  · have e : r.count most = (0, r) := by unfold Rd.count; rw [if_neg h0]
    have HE := Lib.hid (And.intro h0 e)
    clear h0 e
    go_enter Try.func33, Try.ntmps33
    go_wp2_with fail
    refine (readCnt_err br r _ _ H.out.1 HE.out.1).mono ?_
    rintro e w1 ⟨rfl, hf, hr1⟩
    have H1 := Lib.hid (And.intro ((H.out.2.2.1.trans hf).mono (S' := [br]) (by simp)) hr1)
    clear hf hr1
    go_wp2_with fail
    go_ret
    rw [HE.out.2]
    exact ⟨rfl, H1.out⟩

/-- The error at the end. -/
def Rd.end_ (r : Rd) : Int := if r.err ≠ 0 then r.err else if r.off < r.D.length then 3 else 0

set_option maxRecDepth 100000 in
theorem rEnd (br : Nat) (r : Rd) (w : World) (hr : RdAt w br r) (hk : r.Ok) :
    Calls Try.prog 34 #[Value.pointer (some ⟨br, 0, none⟩)] w fun e w' => e = .returned (.tuple #[Value.int .i64 (r.off : Int), Value.int .i64 r.end_]) ∧ Fr [] w w' := by
  obtain ⟨A, c, ha, hrow⟩ := hr
  have c0 : w.cell? ⟨br, 0, none⟩ = some (.slice A r.D.length c) := by rw [ha.cell]; rfl
  have c1 : w.cell? ⟨br, 1, none⟩ = some (Value.int .i64 (r.off : Int)) := by rw [ha.cell]; rfl
  have c3 : w.cell? ⟨br, 3, none⟩ = some (Value.int .i64 r.err) := by rw [ha.cell]; rfl
  have hDI : (r.D.length : Int) ≤ 4294967296 := by have := hk.len; omega
  clear ha hrow hk
  by_cases h0 : r.err = 0
  · have hb : (r.err != 0) = false := by simpa using h0
    by_cases hl : r.off < r.D.length
    · have hlI : decide (r.off < r.D.length) = true := by simpa using hl
      have he : r.end_ = 3 := by unfold Rd.end_; rw [if_neg (by simpa using h0), if_pos hl]
      have HE := Lib.hid he
      clear h0 he
      go_enter Try.func34, Try.ntmps34
      go_wp2_with fail
      go_quiet (fail)
      go_wp2_with fail
      go_ret2
      rw [HE.out]
      exact ⟨rfl, (Fr.refl _ _).drewN _⟩
    · have hlI : decide (r.off < r.D.length) = false := by simpa using hl
      have he : r.end_ = 0 := by unfold Rd.end_; rw [if_neg (by simpa using h0), if_neg hl]
      have HE := Lib.hid he
      clear h0 he
      go_enter Try.func34, Try.ntmps34
      go_wp2_with fail
      go_quiet (fail)
      go_wp2_with fail
      go_ret2
      rw [HE.out]
      exact ⟨rfl, (Fr.refl _ _).drewN _⟩
  · have hb : (r.err != 0) = true := by simpa using h0
    have he : r.end_ = r.err := by unfold Rd.end_; rw [if_pos h0]
    have HE := Lib.hid he
    clear h0 he
    go_enter Try.func34, Try.ntmps34
    go_wp2_with fail
    go_quiet (fail)
    go_wp2_with fail
    go_ret2
    rw [HE.out]
    exact ⟨rfl, (Fr.refl _ _).drewN _⟩

set_option maxRecDepth 100000 in
theorem newReader_any (A : Option Addr) (c : Nat) (D : List UInt8) (w : World) (hD : D.length ≤ 4294967296) (hrow : RowIn w A (B8 D)) :
    Calls Try.prog 30 #[.slice A D.length c] w fun e w' => ∃ br, e = .returned (Value.pointer (some ⟨br, 0, none⟩)) ∧ w.heap.size ≤ br ∧ Fr [] w w' ∧ RdAt w' br ⟨D, 0, 0, 0⟩ := by
  have H := Lib.hid (And.intro hrow hD)
  clear hrow hD
  go_enter Try.func30, Try.ntmps30
  go_wp2_with (at_builtin; refine wpList_app el_u8 rfl (.tmp 3) (.tmp 4) rfl w.heap.size _ 0 [] rfl (by exact World.ownsRow_made _ #[] 0 (Nat.le_refl _) (Nat.zero_le _) rfl) A _ c (B8 D) rfl (by rw [B8_length]; simp) (by exact CellsAt.of_row (H.out.1.fr0 ((Fr.refl _ _).alloc _))) (B8_one _) (by have := H.out.2; omega) (by simp) ?_; intro v2 w2 hown2 hg2 hb2; obtain ⟨A2, c2, rfl⟩ := ownsRow_form hown2)
  go_ret
  have hf : Fr [] w w2 := ((Fr.refl [] w).alloc _).grown hg2 (fun g hg => .inr (by have hg' : some w.heap.size = some g := hg; injection hg' with hg'; omega))
  refine ⟨w2.heap.size, rfl, hf.size, hf.alloc _, A2, c2, ?_, ?_⟩
  · have := At.new w2 90 [.slice A2 D.length c2, Value.int .i64 0, Value.int .i64 0, Value.int .i64 0]
    simpa using this
  · have := ownsRow_base hown2 (Nat.zero_le w.heap.size)
    simpa using this.alloc _

end Go.Proofs.Ytflabbdnkoejjaa
