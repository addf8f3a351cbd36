/- Contracts of readValue at bools and ints. -/
import Derived.Test.YtlepfnihpdhcaaaGreatDoorRd2
import Derived.Test.YtlepfnihpdhcaaaGreatDoorWire1
namespace Go.Proofs.YtlepfnihpdhcaaaGreatDoor
open Go.RowKit
variable {X : Option Addr × Nat}

/-- The deferred closure of readValue[int]: the reader's last offset is set. -/
theorem rvClose_ok_Cnt (b0 b1 b2 br : Nat) (A : Option Addr) (n c : Nat) (off last start : Int) (w : World) (h0 : At w b0 3 [Value.int .i64 start]) (h1 : At w b1 114 [Value.pointer (some ⟨br, 0, none⟩)]) (hr : At w br 146 [.slice A n c, Value.int .i64 off, Value.int .i64 last, Value.int .i64 0]) :
    CallsD Tryz.prog 100 #[Value.pointer (some ⟨b0, 0, none⟩), Value.pointer (some ⟨b1, 0, none⟩), Value.pointer (some ⟨b2, 0, none⟩)] .returning w fun e u' w' => u' = .returning ∧ e = .returned (.tuple #[]) ∧ w' = w.setCell ⟨br, 2, none⟩ (Value.int .i64 start) := by
  have c0 : w.cell? ⟨b0, 0, none⟩ = some (Value.int .i64 start) := by rw [h0.cell]; rfl
  have c1 : w.cell? ⟨b1, 0, none⟩ = some (Value.pointer (some ⟨br, 0, none⟩)) := by rw [h1.cell]; rfl
  have c2 : w.cell? ⟨br, 2, none⟩ = some (Value.int .i64 last) := by rw [hr.cell]; rfl
  have c3 : w.cell? ⟨br, 3, none⟩ = some (Value.int .i64 0) := by rw [hr.cell]; rfl
  have z2 := hr.frozen 2
  have hne : b1 ≠ br := h1.ne hr (by decide)
  clear h0 h1 hr
  go_enter_d Tryz.func100, Tryz.ntmps100
  go_wp2_with fail
  go_end0
  exact ⟨rfl, rfl⟩

/-- .. where there is an error, the offset and the value are set back. -/
theorem rvClose_err_Cnt (b0 b1 b2 br : Nat) (A : Option Addr) (n c : Nat) (off last start err : Int) (v : Value) (w : World) (h0 : At w b0 3 [Value.int .i64 start]) (h1 : At w b1 114 [Value.pointer (some ⟨br, 0, none⟩)]) (h2 : At w b2 3 [v]) (hr : At w br 146 [.slice A n c, Value.int .i64 off, Value.int .i64 last, Value.int .i64 err]) (he : err ≠ 0) (hb : b2 ≠ b0 ∧ b2 ≠ br) :
    CallsD Tryz.prog 100 #[Value.pointer (some ⟨b0, 0, none⟩), Value.pointer (some ⟨b1, 0, none⟩), Value.pointer (some ⟨b2, 0, none⟩)] .returning w fun e u' w' => u' = .returning ∧ e = .returned (.tuple #[]) ∧ w' = ((w.setCell ⟨br, 2, none⟩ (Value.int .i64 start)).setCell ⟨br, 1, none⟩ (Value.int .i64 start)).setCell ⟨b2, 0, none⟩ (Value.int .i64 0) := by
  have c0 : w.cell? ⟨b0, 0, none⟩ = some (Value.int .i64 start) := by rw [h0.cell]; rfl
  have c1 : w.cell? ⟨b1, 0, none⟩ = some (Value.pointer (some ⟨br, 0, none⟩)) := by rw [h1.cell]; rfl
  have cr1 : w.cell? ⟨br, 1, none⟩ = some (Value.int .i64 off) := by rw [hr.cell]; rfl
  have c2 : w.cell? ⟨br, 2, none⟩ = some (Value.int .i64 last) := by rw [hr.cell]; rfl
  have c3 : w.cell? ⟨br, 3, none⟩ = some (Value.int .i64 err) := by rw [hr.cell]; rfl
  have c4 : w.cell? ⟨b2, 0, none⟩ = some v := by rw [h2.cell]; rfl
  have z2 := hr.frozen 2
  have z1 := hr.frozen 1
  have z4 := h2.frozen 0
  have hne : b1 ≠ br := h1.ne hr (by decide)
  have hne2 : b2 ≠ br := hb.2
  have hne0 : b0 ≠ br := h0.ne hr (by decide)
  have heb : (err != 0) = true := by simpa using he
  clear h0 h1 hr h2 he hb
  go_enter_d Tryz.func100, Tryz.ntmps100
  go_wp2_with fail
  go_end0
  exact ⟨rfl, rfl⟩

set_option maxRecDepth 100000 in
set_option maxHeartbeats 4000000 in
theorem readCnt_some (br : Nat) (D : List UInt8) (off last m : Nat) (x : Int) (bx by_ : Nat) (w : World) (hr : ReaderAt X w br D off last 0)
    (hdec : ∀ W, Fr [] w W → ReaderAt X W br D off last 0 → Calls Tryz.prog 85 #[Value.pointer (some ⟨bx, 0, none⟩), Value.pointer (some ⟨by_, 0, none⟩)] W fun e w' => e = .returned (.tuple #[Value.int .i64 x, Value.int .i64 0]) ∧ Fr [br] W w' ∧ ReaderAt X w' br D m last 0) :
    Calls Tryz.prog 84 #[Value.pointer (some ⟨br, 0, none⟩), .func (.func 85) #[] #[Value.pointer (some ⟨bx, 0, none⟩), Value.pointer (some ⟨by_, 0, none⟩)]] w fun e w' => e = .returned (Value.int .i64 x) ∧ Fr [br] w w' ∧ ReaderAt X w' br D m off 0 := by
  obtain ⟨A, c, hX, ha, hrow⟩ := hr
  have c1 : w.cell? ⟨br, 1, none⟩ = some (Value.int .i64 (off : Int)) := by rw [ha.cell]; rfl
  have c3 : w.cell? ⟨br, 3, none⟩ = some (Value.int .i64 0) := by rw [ha.cell]; rfl
  have hlt := ha.lt
  have HR := Lib.hid (And.intro ha hrow)
  have HD := Lib.hid hdec
  clear ha hrow hdec
  have hmf : ∀ (fn : Fn) (first cap : Array Value) (w : World), (Instr.makeFunc fn first cap).run Tryz.prog w = .ok (.func fn first cap) w := fun _ _ _ _ => rfl
  go_enter_defers Tryz.func84, Tryz.ntmps84
  go_wp2_with fail
  obtain ⟨W, hW⟩ : ∃ W, W = ((w.alloc (Obj.cells #[Value.pointer (some ⟨br, 0, none⟩)] 114)).alloc (Obj.cells #[Value.int .i64 0] 3)).alloc (Obj.cells #[Value.int .i64 (off : Int)] 3) := ⟨_, rfl⟩
  rw [← hW]
  have HW : Hid (At W w.heap.size 114 [Value.pointer (some ⟨br, 0, none⟩)] ∧ At W (w.heap.size + 1) 3 [Value.int .i64 0] ∧ At W (w.heap.size + 1 + 1) 3 [Value.int .i64 (off : Int)] ∧ Fr [] w W ∧ ReaderAt X W br D off last 0) := by
    rw [hW]
    refine ⟨((At.new w 114 [Value.pointer (some ⟨br, 0, none⟩)]).alloc _).alloc _, ?_, ?_, (((Fr.refl _ _).alloc _).alloc _).alloc _, A, c, hX, ((HR.out.1.alloc _).alloc _).alloc _, ((HR.out.2.alloc _).alloc _).alloc _⟩
    · have := (At.new (w.alloc (Obj.cells #[Value.pointer (some ⟨br, 0, none⟩)] 114)) 3 [Value.int .i64 0]).alloc (Obj.cells #[Value.int .i64 (off : Int)] 3)
      simpa using this
    · have := At.new ((w.alloc (Obj.cells #[Value.pointer (some ⟨br, 0, none⟩)] 114)).alloc (Obj.cells #[Value.int .i64 0] 3)) 3 [Value.int .i64 (off : Int)]
      simpa using this
  clear hW c1 c3
  have d0 : W.cell? ⟨w.heap.size, 0, none⟩ = some (Value.pointer (some ⟨br, 0, none⟩)) := by rw [HW.out.1.cell]; rfl
  have nb1 : w.heap.size ≠ br := by omega
  have nb2 : br ≠ w.heap.size := by omega
  go_region_held3 (fun w' => w'.cell? ⟨w.heap.size, 0, none⟩ = some (Value.pointer (some ⟨br, 0, none⟩))) (go_keep) (first | (go_at_call 85; refine (HD.out W.drew (by exact HW.out.2.2.2.1.drew) (by exact HW.out.2.2.2.2)).mono ?_; rintro e w1 ⟨rfl, hf1, hr1⟩; obtain ⟨e0, e1, z1, e3, z3⟩ := rv_cells (W := W) HW.out.1 HW.out.2.1 HW.out.2.2.2.2 hf1 hr1; have H1 := Lib.hid (And.intro hf1 hr1); clear hf1 hr1))
  go_wp2_with fail
  obtain ⟨k0, k1, k2, k3, kf⟩ := rv_end HW.out.1 HW.out.2.1 HW.out.2.2.1 HW.out.2.2.2.2 H1.out.1 H1.out.2 (Value.int .i64 x) (Value.int .i64 0) (by omega) (by decide)
  refine leaves_cons (f := 100) (args := #[Value.pointer (some ⟨w.heap.size + 1 + 1, 0, none⟩), Value.pointer (some ⟨w.heap.size, 0, none⟩), Value.pointer (some ⟨w.heap.size + 1, 0, none⟩)]) (by simp) (by simp [go_sem]) ?_
  obtain ⟨A', c', hX', k3'⟩ := k3
  refine (rvClose_ok_Cnt _ _ _ br A' _ c' _ _ _ _ k2 k0 k3'.1).mono ?_
  rintro e u' w'' ⟨rfl, rfl, rfl⟩
  obtain ⟨g1, g2, g3⟩ := rv_done (off := off) HW.out.2.2.2.1 kf (by omega) k1 (by decide) k3'.1 k3'.2 hX'
  exact ⟨Value.int .i64 x, by simp [results, Tryz.results84, go_sem, g1], rfl, g2, g3⟩

set_option maxRecDepth 100000 in
set_option maxHeartbeats 4000000 in
theorem readCnt_none (br : Nat) (D : List UInt8) (off last : Nat) (er : Int) (x : Int) (bx by_ : Nat) (w : World) (hr : ReaderAt X w br D off last 0) (he : er ≠ 0)
    (hdec : ∀ W, Fr [] w W → ReaderAt X W br D off last 0 → Calls Tryz.prog 85 #[Value.pointer (some ⟨bx, 0, none⟩), Value.pointer (some ⟨by_, 0, none⟩)] W fun e w' => e = .returned (.tuple #[Value.int .i64 x, Value.int .i64 er]) ∧ Fr [br] W w' ∧ ∃ off' : Nat, ReaderAt X w' br D off' last 0) :
    Calls Tryz.prog 84 #[Value.pointer (some ⟨br, 0, none⟩), .func (.func 85) #[] #[Value.pointer (some ⟨bx, 0, none⟩), Value.pointer (some ⟨by_, 0, none⟩)]] w fun e w' => e = .returned (Value.int .i64 0) ∧ Fr [br] w w' ∧ ReaderAt X w' br D off off er := by
  have HE := Lib.hid he
  clear he
  obtain ⟨A, c, hX, ha, hrow⟩ := hr
  have c1 : w.cell? ⟨br, 1, none⟩ = some (Value.int .i64 (off : Int)) := by rw [ha.cell]; rfl
  have c3 : w.cell? ⟨br, 3, none⟩ = some (Value.int .i64 0) := by rw [ha.cell]; rfl
  have hlt := ha.lt
  have HR := Lib.hid (And.intro ha hrow)
  have HD := Lib.hid hdec
  clear ha hrow hdec
  have hmf : ∀ (fn : Fn) (first cap : Array Value) (w : World), (Instr.makeFunc fn first cap).run Tryz.prog w = .ok (.func fn first cap) w := fun _ _ _ _ => rfl
  go_enter_defers Tryz.func84, Tryz.ntmps84
  go_wp2_with fail
  obtain ⟨W, hW⟩ : ∃ W, W = ((w.alloc (Obj.cells #[Value.pointer (some ⟨br, 0, none⟩)] 114)).alloc (Obj.cells #[Value.int .i64 0] 3)).alloc (Obj.cells #[Value.int .i64 (off : Int)] 3) := ⟨_, rfl⟩
  rw [← hW]
  have HW : Hid (At W w.heap.size 114 [Value.pointer (some ⟨br, 0, none⟩)] ∧ At W (w.heap.size + 1) 3 [Value.int .i64 0] ∧ At W (w.heap.size + 1 + 1) 3 [Value.int .i64 (off : Int)] ∧ Fr [] w W ∧ ReaderAt X W br D off last 0) := by
    rw [hW]
    refine ⟨((At.new w 114 [Value.pointer (some ⟨br, 0, none⟩)]).alloc _).alloc _, ?_, ?_, (((Fr.refl _ _).alloc _).alloc _).alloc _, A, c, hX, ((HR.out.1.alloc _).alloc _).alloc _, ((HR.out.2.alloc _).alloc _).alloc _⟩
    · have := (At.new (w.alloc (Obj.cells #[Value.pointer (some ⟨br, 0, none⟩)] 114)) 3 [Value.int .i64 0]).alloc (Obj.cells #[Value.int .i64 (off : Int)] 3)
      simpa using this
    · have := At.new ((w.alloc (Obj.cells #[Value.pointer (some ⟨br, 0, none⟩)] 114)).alloc (Obj.cells #[Value.int .i64 0] 3)) 3 [Value.int .i64 (off : Int)]
      simpa using this
  clear hW c1 c3
  have d0 : W.cell? ⟨w.heap.size, 0, none⟩ = some (Value.pointer (some ⟨br, 0, none⟩)) := by rw [HW.out.1.cell]; rfl
  have nb1 : w.heap.size ≠ br := by omega
  have nb2 : br ≠ w.heap.size := by omega
  go_region_held3 (fun w' => w'.cell? ⟨w.heap.size, 0, none⟩ = some (Value.pointer (some ⟨br, 0, none⟩))) (go_keep) (first | (go_at_call 85; refine (HD.out W.drew (by exact HW.out.2.2.2.1.drew) (by exact HW.out.2.2.2.2)).mono ?_; rintro e w1 ⟨rfl, hf1, off', hr1⟩; obtain ⟨e0, e1, z1, e3, z3⟩ := rv_cells (W := W) HW.out.1 HW.out.2.1 HW.out.2.2.2.2 hf1 hr1; have H1 := Lib.hid (And.intro hf1 hr1); clear hf1 hr1))
  go_wp2_with fail
  obtain ⟨k0, k1, k2, k3, kf⟩ := rv_end HW.out.1 HW.out.2.1 HW.out.2.2.1 HW.out.2.2.2.2 H1.out.1 H1.out.2 (Value.int .i64 x) (Value.int .i64 er) (by omega) (by decide)
  refine leaves_cons (f := 100) (args := #[Value.pointer (some ⟨w.heap.size + 1 + 1, 0, none⟩), Value.pointer (some ⟨w.heap.size, 0, none⟩), Value.pointer (some ⟨w.heap.size + 1, 0, none⟩)]) (by simp) (by simp [go_sem]) ?_
  obtain ⟨A', c', hX', k3'⟩ := k3
  refine (rvClose_err_Cnt _ _ _ br A' _ c' _ _ _ er (Value.int .i64 x) _ k2 k0 k1 k3'.1 HE.out (by omega)).mono ?_
  rintro e u' w'' ⟨rfl, rfl, rfl⟩
  obtain ⟨g1, g2, g3⟩ := rv_failed (off := off) (z := Value.int .i64 0) HW.out.2.2.2.1 kf (by omega) k1 (by decide) (by decide) k3'.1 k3'.2 hX'
  exact ⟨Value.int .i64 0, by simp [results, Tryz.results84, go_sem, g1], rfl, g2, g3⟩

set_option maxRecDepth 100000 in
theorem readCnt_err (br : Nat) (r : Rd) (fv : Value) (w : World) (hr : RdAt X w br r) (h0 : r.err ≠ 0) :
    Calls Tryz.prog 84 #[Value.pointer (some ⟨br, 0, none⟩), fv] w fun e w' => e = .returned (Value.int .i64 0) ∧ Fr [] w w' ∧ RdAt X w' br r := by
  have hr0 := hr
  obtain ⟨A, c, hX, ha, hrow⟩ := hr
  have c3 : w.cell? ⟨br, 3, none⟩ = some (Value.int .i64 r.err) := by rw [ha.cell]; rfl
  have hb : (r.err != 0) = true := by simpa using h0
  have hlt := ha.lt
  have HR := Lib.hid hr0
  clear ha hrow hr0 h0
  go_enter_defers Tryz.func84, Tryz.ntmps84
  go_wp2_with fail
  have hf : Fr [] w ((w.alloc (Obj.cells #[Value.pointer (some ⟨br, 0, none⟩)] 114)).alloc (Obj.cells #[Value.int .i64 0] 3)) := ((Fr.refl _ _).alloc _).alloc _
  exact ⟨Value.int .i64 0, by simp [results, Tryz.results84, go_sem], rfl, hf, ReaderAt.fr HR.out hf⟩


end Go.Proofs.YtlepfnihpdhcaaaGreatDoor
namespace Go.Proofs.YtlepfnihpdhcaaaGreatDoor
open Go.RowKit
variable {X : Option Addr × Nat}

theorem Rd.Ok.uint {r : Rd} (h : r.Ok) (hn : ∀ n m, rdNum r.D r.off = some (n, m) → m ≤ r.D.length) : r.uint.2.Ok := by
  unfold Rd.uint
  split
  · cases hd : rdNum r.D r.off with
    | none => exact ⟨h.off, h.len⟩
    | some p => exact ⟨hn p.1 p.2 hd, h.len⟩
  · exact h

theorem rdNum_le (D : List UInt8) (off n m : Nat) (h : rdNum D off = some (n, m)) : off < m ∧ m ≤ D.length ∧ U64 n := by
  unfold rdNum at h
  split at h
  · cases h
  · rename_i b hb
    split at h
    · rename_i hc
      simp only [Option.some.injEq, Prod.mk.injEq] at h
      obtain ⟨rfl, rfl⟩ := h
      have hl := (List.getElem?_eq_some_iff.1 hb).1
      rw [List.length_drop] at hl
      refine ⟨by omega, by omega, ?_⟩
      unfold U64
      rw [accN_succ _ _ b hb]
      have h1 := accN_lt (ahead (D.drop off)) (D.drop off)
      by_cases h9 : ahead (D.drop off) = 9
      · have hb1 : b.toNat ≤ 1 := by omega
        rw [h9] at h1 ⊢
        have h2 : b.toNat % 128 ≤ 1 := by omega
        have h3 : b.toNat % 128 * 128 ^ 9 ≤ 1 * 128 ^ 9 := Nat.mul_le_mul_right _ h2
        have h4 : 128 ^ 9 + 1 * 128 ^ 9 ≤ 18446744073709551616 := by decide
        omega
      · have h2 : b.toNat % 128 ≤ 127 := by omega
        have h3 : b.toNat % 128 * 128 ^ (ahead (D.drop off)) ≤ 127 * 128 ^ (ahead (D.drop off)) := Nat.mul_le_mul_right _ h2
        have h4 : 128 ^ (ahead (D.drop off)) ≤ 128 ^ 8 := Nat.pow_le_pow_right (by omega) (by omega)
        have h5 : 128 * 128 ^ 8 < 18446744073709551616 := by decide
        omega
    · cases h

theorem rUint (br : Nat) (r : Rd) (w : World) (hr : RdAt X w br r) (hk : r.Ok) :
    Calls Tryz.prog 90 #[Value.pointer (some ⟨br, 0, none⟩)] w fun e w' => e = .returned (.int .u64 (r.uint.1 : Int)) ∧ Fr [br] w w' ∧ RdAt X w' br r.uint.2 := by
  have hmf : ∀ (fn : Fn) (first cap : Array Value) (w : World), (Instr.makeFunc fn first cap).run Tryz.prog w = .ok (.func fn first cap) w := fun _ _ _ _ => rfl
  have H := Lib.hid (And.intro hr hk)
  clear hr hk
  by_cases h0 : r.err = 0
  · have H0 := Lib.hid h0
    clear h0
    go_enter Tryz.func90, Tryz.ntmps90
    go_wp2_with fail
    refine (readU64_ok br r _ H.out.1 H.out.2 H0.out).mono ?_
    rintro e w1 ⟨rfl, hf, hr1⟩
    have H1 := Lib.hid (And.intro hf hr1)
    clear hf hr1
    go_wp2_with fail
    go_ret
    exact ⟨rfl, H1.out⟩
  · have H0 := Lib.hid h0
    clear h0
    go_enter Tryz.func90, Tryz.ntmps90
    go_wp2_with fail
    refine (readU64_err br r _ _ H.out.1 H0.out).mono ?_
    rintro e w1 ⟨rfl, hf, hr1⟩
    have H1 := Lib.hid (And.intro (hf.mono (S' := [br]) (by simp)) hr1)
    clear hf hr1
    have e : r.uint = (0, r) := by unfold Rd.uint; rw [if_neg H0.out]
    have HE := Lib.hid e
    clear e
    go_wp2_with fail
    go_ret
    rw [HE.out]
    exact ⟨rfl, H1.out⟩

/-- The int with a zigzag number. -/
def unzig (n : Nat) : Int := if n % 2 = 1 then -((n / 2 : Nat) : Int) - 1 else ((n / 2 : Nat) : Int)

theorem unzig_fit (n : Nat) (h : U64 n) : Fit64 (unzig n) := by
  unfold U64 at h
  unfold unzig Fit64
  split <;> omega

theorem unzig_zig (n : Int) : unzig (zig n) = n := by
  unfold unzig zig
  by_cases h : n < 0
  · simp only [h, if_true]
    rw [if_pos (by omega)]
    omega
  · simp only [h, if_false]
    rw [if_neg (by omega)]
    omega

def Rd.int (r : Rd) : Int × Rd := (unzig r.uint.1, r.uint.2)

theorem Rd.uint_u64 (r : Rd) : U64 r.uint.1 := by
  unfold Rd.uint
  split
  · cases hd : rdNum r.D r.off with
    | none => show 0 < 18446744073709551616; decide
    | some p => exact (rdNum_le _ _ p.1 p.2 hd).2.2
  · show 0 < 18446744073709551616; decide


end Go.Proofs.YtlepfnihpdhcaaaGreatDoor
namespace Go.Proofs.YtlepfnihpdhcaaaGreatDoor
open Go.RowKit
variable {X : Option Addr × Nat}

/-- What limited leaves. -/
def LimRes (X : Option Addr × Nat) (br : Nat) (D : List UInt8) (off last : Nat) (most : Int) (w : World) (e : Ending) (w' : World) : Prop :=
  Fr [br] w w' ∧ match rdNum D off with
    | none => e = .returned (.tuple #[Value.int .i64 0, Value.int .i64 3]) ∧ ∃ off' : Nat, ReaderAt X w' br D off' last 0
    | some (n, m) => if max most 0 < (n : Int) then e = .returned (.tuple #[Value.int .i64 0, Value.int .i64 2]) ∧ ∃ off' : Nat, ReaderAt X w' br D off' last 0 else e = .returned (.tuple #[Value.int .i64 (n : Int), Value.int .i64 0]) ∧ ReaderAt X w' br D m last 0

set_option maxRecDepth 100000 in
theorem limited_any (br : Nat) (D : List UInt8) (off last : Nat) (most : Int) (w : World) (hr : ReaderAt X w br D off last 0) (ho : off ≤ D.length) (hD : D.length ≤ 4294967296) (hm : Fit64 most) :
    Calls Tryz.prog 86 #[Value.pointer (some ⟨br, 0, none⟩), Value.int .i64 most] w (LimRes X br D off last most w) := by
  have H := Lib.hid (And.intro hr (And.intro ho hD))
  have hm0 := hm.1
  have hm1 := hm.2
  clear hr ho hD hm
  cases hb : rdNum D off with
  | none =>
    have HB := Lib.hid hb
    clear hb
    go_enter Tryz.func86, Tryz.ntmps86
    go_wp2_with fail
    refine (number_none br D off last _ H.out.1 H.out.2.1 H.out.2.2 HB.out).mono ?_
    rintro e w1 ⟨rfl, hf, off', ho', hr1⟩
    have H1 := Lib.hid (And.intro hf hr1)
    clear hf hr1 ho'
    go_wp2_with fail
    go_ret2
    unfold LimRes
    rw [HB.out]
    exact ⟨H1.out.1, rfl, off', H1.out.2⟩
  | some p =>
    obtain ⟨n, m⟩ := p
    have hu := (rdNum_le _ _ _ _ hb).2.2
    have hI : (n : Int) ≤ 18446744073709551615 := by unfold U64 at hu; omega
    have HB := Lib.hid hb
    clear hb hu
    by_cases hg : max most 0 < (n : Int)
    · have HG := Lib.hid hg
      go_enter Tryz.func86, Tryz.ntmps86
      go_wp2_with fail
      refine (number_some br D off last _ H.out.1 H.out.2.1 H.out.2.2 n m HB.out).mono ?_
      rintro e w1 ⟨rfl, hf, hr1, _, _⟩
      have H1 := Lib.hid (And.intro hf hr1)
      clear hf hr1
      go_wp2_with fail
      all_goals
        go_ret2
        unfold LimRes
        rw [HB.out]
        simp only
        rw [if_pos HG.out]
        exact ⟨H1.out.1, rfl, m, H1.out.2⟩
    · have HG := Lib.hid hg
      have hg' : (n : Int) ≤ max most 0 := by omega
      have hn2 : (n : Int) ≤ 9223372036854775807 := by omega
      clear hg
      go_enter Tryz.func86, Tryz.ntmps86
      go_wp2_with fail
      refine (number_some br D off last _ H.out.1 H.out.2.1 H.out.2.2 n m HB.out).mono ?_
      rintro e w1 ⟨rfl, hf, hr1, _, _⟩
      have H1 := Lib.hid (And.intro hf hr1)
      clear hf hr1
      go_wp2_with fail
      all_goals
        go_ret2
        unfold LimRes
        rw [HB.out]
        simp only
        rw [if_neg (by have := HG.out; omega)]
        exact ⟨H1.out.1, rfl, H1.out.2⟩

set_option maxRecDepth 100000 in
theorem countc_any (bx by_ br : Nat) (D : List UInt8) (off last : Nat) (most : Int) (w : World) (hx : At w bx 114 [Value.pointer (some ⟨br, 0, none⟩)]) (hy : At w by_ 3 [Value.int .i64 most]) (hr : ReaderAt X w br D off last 0) (ho : off ≤ D.length) (hD : D.length ≤ 4294967296) (hm : Fit64 most) :
    Calls Tryz.prog 85 #[Value.pointer (some ⟨bx, 0, none⟩), Value.pointer (some ⟨by_, 0, none⟩)] w (LimRes X br D off last most w) := by
  have x0 : w.cell? ⟨bx, 0, none⟩ = some (Value.pointer (some ⟨br, 0, none⟩)) := by rw [hx.cell]; rfl
  have y0 : w.cell? ⟨by_, 0, none⟩ = some (Value.int .i64 most) := by rw [hy.cell]; rfl
  have H := Lib.hid (limited_any br D off last most w hr ho hD hm)
  clear hr ho hD hm hx hy
  go_enter Tryz.func85, Tryz.ntmps85
  go_wp2_with fail
  refine H.out.mono ?_
  intro e w1 h
  have HH := Lib.hid h
  unfold LimRes at h
  obtain ⟨hf, h⟩ := h
  split at h
  · obtain ⟨rfl, _⟩ := h
    clear hf
    go_wp2_with fail
    go_ret2
    exact HH.out
  · split at h
    · obtain ⟨rfl, _⟩ := h
      clear hf
      go_wp2_with fail
      go_ret2
      exact HH.out
    · obtain ⟨rfl, _⟩ := h
      clear hf
      go_wp2_with fail
      go_ret2
      exact HH.out

def Rd.count (r : Rd) (most : Int) : Nat × Rd := if r.err = 0 then (match rdNum r.D r.off with
  | none => (0, r.fail 3)
  | some (n, m) => if max most 0 < (n : Int) then (0, r.fail 2) else (n, r.done m)) else (0, r)

set_option maxRecDepth 100000 in
set_option maxHeartbeats 1000000 in
theorem rCount (br : Nat) (r : Rd) (most : Int) (w : World) (hr : RdAt X w br r) (hk : r.Ok) (hm : Fit64 most) :
    Calls Tryz.prog 61 #[Value.pointer (some ⟨br, 0, none⟩), Value.int .i64 most] w fun e w' => e = .returned (Value.int .i64 ((r.count most).1 : Int)) ∧ Fr [br] w w' ∧ RdAt X w' br (r.count most).2 := by
  have hmf : ∀ (fn : Fn) (first cap : Array Value) (w : World), (Instr.makeFunc fn first cap).run Tryz.prog w = .ok (.func fn first cap) w := fun _ _ _ _ => rfl
  have hlt : br < w.heap.size := by obtain ⟨A, c, hX, ha, _⟩ := hr; exact ha.lt
  have hf0 : Fr [] w ((w.alloc (.cells #[Value.pointer (some ⟨br, 0, none⟩)] 114)).alloc (.cells #[Value.int .i64 most] 3)) := ((Fr.refl _ _).alloc _).alloc _
  have ha0 : At ((w.alloc (.cells #[Value.pointer (some ⟨br, 0, none⟩)] 114)).alloc (.cells #[Value.int .i64 most] 3)) w.heap.size 114 [Value.pointer (some ⟨br, 0, none⟩)] := (At.new w _ [Value.pointer (some ⟨br, 0, none⟩)]).alloc _
  have hb0 : At ((w.alloc (.cells #[Value.pointer (some ⟨br, 0, none⟩)] 114)).alloc (.cells #[Value.int .i64 most] 3)) (w.heap.size + 1) 3 [Value.int .i64 most] := by
    have := At.new (w.alloc (.cells #[Value.pointer (some ⟨br, 0, none⟩)] 114)) 3 [Value.int .i64 most]
    simpa using this
  have hr0 : RdAt X ((w.alloc (.cells #[Value.pointer (some ⟨br, 0, none⟩)] 114)).alloc (.cells #[Value.int .i64 most] 3)) br r := ReaderAt.fr hr hf0
  have H := Lib.hid (And.intro hr0 (And.intro hk (And.intro hf0 (And.intro ha0 hb0))))
  have HM := Lib.hid hm
  clear hr hk hf0 ha0 hr0 hb0 hm
  by_cases h0 : r.err = 0
  · obtain ⟨D, off, last, err⟩ := r
    simp only at h0
    subst h0
    have hdec : ∀ W, Fr [] ((w.alloc (.cells #[Value.pointer (some ⟨br, 0, none⟩)] 114)).alloc (.cells #[Value.int .i64 most] 3)) W → ReaderAt X W br D off last 0 → Calls Tryz.prog 85 #[Value.pointer (some ⟨w.heap.size, 0, none⟩), Value.pointer (some ⟨w.heap.size + 1, 0, none⟩)] W (LimRes X br D off last most W) :=
      fun W hf hr => countc_any w.heap.size (w.heap.size + 1) br D off last most W (H.out.2.2.2.1.fr hf (by simp)) (H.out.2.2.2.2.fr hf (by simp)) hr H.out.2.1.off H.out.2.1.len HM.out
    have HD := Lib.hid hdec
    clear hdec
    cases hb : rdNum D off with
    | none =>
      have HB := Lib.hid hb
      clear hb
      go_enter Tryz.func61, Tryz.ntmps61
      go_wp2_with fail
      refine (readCnt_none br D off last 3 0 w.heap.size (w.heap.size + 1) _ H.out.1 (by decide) (fun W hf hr => (HD.out W hf hr).mono (fun e w' h => by unfold LimRes at h; rw [HB.out] at h; exact ⟨h.2.1, h.1, h.2.2⟩))).mono ?_
      rintro e w1 ⟨rfl, hf, hr1⟩
      have H1 := Lib.hid (And.intro (H.out.2.2.1.mono (S' := [br]) (by simp) |>.trans hf) hr1)
      clear hf hr1
      go_wp2_with fail
      go_ret
      simp only [Rd.count, if_true, HB.out]
      exact ⟨rfl, H1.out⟩
    | some p =>
      obtain ⟨n, m⟩ := p
      have HB := Lib.hid hb
      clear hb
      by_cases hg : max most 0 < (n : Int)
      · have HG := Lib.hid hg
        clear hg
        go_enter Tryz.func61, Tryz.ntmps61
        go_wp2_with fail
        refine (readCnt_none br D off last 2 0 w.heap.size (w.heap.size + 1) _ H.out.1 (by decide) (fun W hf hr => (HD.out W hf hr).mono (fun e w' h => by unfold LimRes at h; rw [HB.out] at h; simp only [if_pos HG.out] at h; exact ⟨h.2.1, h.1, h.2.2⟩))).mono ?_
        rintro e w1 ⟨rfl, hf, hr1⟩
        have H1 := Lib.hid (And.intro (H.out.2.2.1.mono (S' := [br]) (by simp) |>.trans hf) hr1)
        clear hf hr1
        go_wp2_with fail
        go_ret
        simp only [Rd.count, if_true, HB.out, if_pos HG.out]
        exact ⟨rfl, H1.out⟩
      · have HG := Lib.hid hg
        clear hg
        go_enter Tryz.func61, Tryz.ntmps61
        go_wp2_with fail
        refine (readCnt_some br D off last m (n : Int) w.heap.size (w.heap.size + 1) _ H.out.1 (fun W hf hr => (HD.out W hf hr).mono (fun e w' h => by unfold LimRes at h; rw [HB.out] at h; simp only at h; rw [if_neg (by have := HG.out; omega)] at h; exact ⟨h.2.1, h.1, h.2.2⟩))).mono ?_
        rintro e w1 ⟨rfl, hf, hr1⟩
        have H1 := Lib.hid (And.intro (H.out.2.2.1.mono (S' := [br]) (by simp) |>.trans hf) hr1)
        clear hf hr1
        go_wp2_with fail
        go_ret
        simp only [Rd.count, if_true, HB.out]
        rw [if_neg (by have := HG.out; omega)]
        exact ⟨rfl, H1.out⟩
  · have e : r.count most = (0, r) := by unfold Rd.count; rw [if_neg h0]
    have HE := Lib.hid (And.intro h0 e)
    clear h0 e
    go_enter Tryz.func61, Tryz.ntmps61
    go_wp2_with fail
    refine (readCnt_err br r _ _ H.out.1 HE.out.1).mono ?_
    rintro e w1 ⟨rfl, hf, hr1⟩
    have H1 := Lib.hid (And.intro ((H.out.2.2.1.trans hf).mono (S' := [br]) (by simp)) hr1)
    clear hf hr1
    go_wp2_with fail
    go_ret
    rw [HE.out.2]
    exact ⟨rfl, H1.out⟩

/-- The error at the end. -/
def Rd.end_ (r : Rd) : Int := if r.err ≠ 0 then r.err else if r.off < r.D.length then 3 else 0

set_option maxRecDepth 100000 in
theorem rEnd (br : Nat) (r : Rd) (w : World) (hr : RdAt X w br r) (hk : r.Ok) :
    Calls Tryz.prog 63 #[Value.pointer (some ⟨br, 0, none⟩)] w fun e w' => e = .returned (.tuple #[Value.int .i64 (r.off : Int), Value.int .i64 r.end_]) ∧ Fr [] w w' := by
  obtain ⟨A, c, hX, ha, hrow⟩ := hr
  have c0 : w.cell? ⟨br, 0, none⟩ = some (.slice A r.D.length c) := by rw [ha.cell]; rfl
  have c1 : w.cell? ⟨br, 1, none⟩ = some (Value.int .i64 (r.off : Int)) := by rw [ha.cell]; rfl
  have c3 : w.cell? ⟨br, 3, none⟩ = some (Value.int .i64 r.err) := by rw [ha.cell]; rfl
  have hDI : (r.D.length : Int) ≤ 4294967296 := by have := hk.len; omega
  clear ha hrow hk
  by_cases h0 : r.err = 0
  · have hb : (r.err != 0) = false := by simpa using h0
    by_cases hl : r.off < r.D.length
    · have hlI : decide (r.off < r.D.length) = true := by simpa using hl
      have he : r.end_ = 3 := by unfold Rd.end_; rw [if_neg (by simpa using h0), if_pos hl]
      have HE := Lib.hid he
      clear h0 he
      go_enter Tryz.func63, Tryz.ntmps63
      go_wp2_with fail
      go_quiet (fail)
      go_wp2_with fail
      go_ret2
      rw [HE.out]
      exact ⟨rfl, (Fr.refl _ _).drewN _⟩
    · have hlI : decide (r.off < r.D.length) = false := by simpa using hl
      have he : r.end_ = 0 := by unfold Rd.end_; rw [if_neg (by simpa using h0), if_neg hl]
      have HE := Lib.hid he
      clear h0 he
      go_enter Tryz.func63, Tryz.ntmps63
      go_wp2_with fail
      go_quiet (fail)
      go_wp2_with fail
      go_ret2
      rw [HE.out]
      exact ⟨rfl, (Fr.refl _ _).drewN _⟩
  · have hb : (r.err != 0) = true := by simpa using h0
    have he : r.end_ = r.err := by unfold Rd.end_; rw [if_pos h0]
    have HE := Lib.hid he
    clear h0 he
    go_enter Tryz.func63, Tryz.ntmps63
    go_wp2_with fail
    go_quiet (fail)
    go_wp2_with fail
    go_ret2
    rw [HE.out]
    exact ⟨rfl, (Fr.refl _ _).drewN _⟩

set_option maxRecDepth 100000 in
theorem newReader_any (A : Option Addr) (c : Nat) (D : List UInt8) (w : World) (hD : D.length ≤ 4294967296) (hrow : RowIn w A (B8 D)) :
    Calls Tryz.prog 60 #[.slice A D.length c] w fun e w' => ∃ br A2 c2, e = .returned (Value.pointer (some ⟨br, 0, none⟩)) ∧ w.heap.size ≤ br ∧ Fr [] w w' ∧ RdAt (A2, c2) w' br ⟨D, 0, 0, 0⟩ ∧ w'.ownsRow w.heap.size 5 1 (.slice A2 D.length c2) D.length (B8 D) := by
  have H := Lib.hid (And.intro hrow hD)
  clear hrow hD
  go_enter Tryz.func60, Tryz.ntmps60
  go_wp2_with (at_builtin; refine wpList_app el_u8 rfl (.tmp 3) (.tmp 4) rfl w.heap.size _ 0 [] rfl (by exact World.ownsRow_made _ #[] 0 (Nat.le_refl _) (Nat.zero_le _) rfl) A _ c (B8 D) rfl (by rw [B8_length]; simp) (by exact CellsAt.of_row (H.out.1.fr0 ((Fr.refl _ _).alloc _))) (B8_one _) (by have := H.out.2; omega) (by simp) ?_; intro v2 w2 hown2 hg2 hb2; obtain ⟨A2, c2, rfl⟩ := ownsRow_form hown2)
  go_ret
  have hf : Fr [] w w2 := ((Fr.refl [] w).alloc _).grown hg2 (fun g hg => .inr (by have hg' : some w.heap.size = some g := hg; injection hg' with hg'; omega))
  refine ⟨w2.heap.size, A2, c2, rfl, hf.size, hf.alloc _, ⟨A2, c2, rfl, ?_, ?_⟩, ?_⟩
  · have := At.new w2 146 [.slice A2 D.length c2, Value.int .i64 0, Value.int .i64 0, Value.int .i64 0]
    simpa using this
  · have := ownsRow_base hown2 (Nat.zero_le w.heap.size)
    simpa using this.alloc _
  · simpa using hown2.alloc _

end Go.Proofs.YtlepfnihpdhcaaaGreatDoor
