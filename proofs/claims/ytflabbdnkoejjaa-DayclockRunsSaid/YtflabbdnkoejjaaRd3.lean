/- Contracts of readValue at bools and ints. -/
import Derived.Test.YtflabbdnkoejjaaRd2
namespace Go.Proofs.Ytflabbdnkoejjaa
open Go.RowKit

/-- The deferred closure of readValue[bool]: the reader's last offset is set. -/
theorem rvClose_ok_Bool (b0 b1 b2 br : Nat) (A : Option Addr) (n c : Nat) (off last start : Int) (w : World) (h0 : At w b0 3 [Value.int .i64 start]) (h1 : At w b1 64 [Value.pointer (some ⟨br, 0, none⟩)]) (hr : At w br 90 [.slice A n c, Value.int .i64 off, Value.int .i64 last, Value.int .i64 0]) :
    CallsD Try.prog 74 #[Value.pointer (some ⟨b0, 0, none⟩), Value.pointer (some ⟨b1, 0, none⟩), Value.pointer (some ⟨b2, 0, none⟩)] .returning w fun e u' w' => u' = .returning ∧ e = .returned (.tuple #[]) ∧ w' = w.setCell ⟨br, 2, none⟩ (Value.int .i64 start) := by
  have c0 : w.cell? ⟨b0, 0, none⟩ = some (Value.int .i64 start) := by rw [h0.cell]; rfl
  have c1 : w.cell? ⟨b1, 0, none⟩ = some (Value.pointer (some ⟨br, 0, none⟩)) := by rw [h1.cell]; rfl
  have c2 : w.cell? ⟨br, 2, none⟩ = some (Value.int .i64 last) := by rw [hr.cell]; rfl
  have c3 : w.cell? ⟨br, 3, none⟩ = some (Value.int .i64 0) := by rw [hr.cell]; rfl
  have z2 := hr.frozen 2
  have hne : b1 ≠ br := h1.ne hr (by decide)
  clear h0 h1 hr
  go_enter_d Try.func74, Try.ntmps74
  go_wp2_with fail
  go_end0
  exact ⟨rfl, rfl⟩

/-- .. where there is an error, the offset and the value are set back. -/
theorem rvClose_err_Bool (b0 b1 b2 br : Nat) (A : Option Addr) (n c : Nat) (off last start err : Int) (v : Value) (w : World) (h0 : At w b0 3 [Value.int .i64 start]) (h1 : At w b1 64 [Value.pointer (some ⟨br, 0, none⟩)]) (h2 : At w b2 4 [v]) (hr : At w br 90 [.slice A n c, Value.int .i64 off, Value.int .i64 last, Value.int .i64 err]) (he : err ≠ 0) (hb : b2 ≠ b0 ∧ b2 ≠ br) :
    CallsD Try.prog 74 #[Value.pointer (some ⟨b0, 0, none⟩), Value.pointer (some ⟨b1, 0, none⟩), Value.pointer (some ⟨b2, 0, none⟩)] .returning w fun e u' w' => u' = .returning ∧ e = .returned (.tuple #[]) ∧ w' = ((w.setCell ⟨br, 2, none⟩ (Value.int .i64 start)).setCell ⟨br, 1, none⟩ (Value.int .i64 start)).setCell ⟨b2, 0, none⟩ (Value.bool false) := by
  have c0 : w.cell? ⟨b0, 0, none⟩ = some (Value.int .i64 start) := by rw [h0.cell]; rfl
  have c1 : w.cell? ⟨b1, 0, none⟩ = some (Value.pointer (some ⟨br, 0, none⟩)) := by rw [h1.cell]; rfl
  have cr1 : w.cell? ⟨br, 1, none⟩ = some (Value.int .i64 off) := by rw [hr.cell]; rfl
  have c2 : w.cell? ⟨br, 2, none⟩ = some (Value.int .i64 last) := by rw [hr.cell]; rfl
  have c3 : w.cell? ⟨br, 3, none⟩ = some (Value.int .i64 err) := by rw [hr.cell]; rfl
  have c4 : w.cell? ⟨b2, 0, none⟩ = some v := by rw [h2.cell]; rfl
  have z2 := hr.frozen 2
  have z1 := hr.frozen 1
  have z4 := h2.frozen 0
  have hne : b1 ≠ br := h1.ne hr (by decide)
  have hne2 : b2 ≠ br := hb.2
  have hne0 : b0 ≠ br := h0.ne hr (by decide)
  have heb : (err != 0) = true := by simpa using he
  clear h0 h1 hr h2 he hb
  go_enter_d Try.func74, Try.ntmps74
  go_wp2_with fail
  go_end0
  exact ⟨rfl, rfl⟩

set_option maxRecDepth 100000 in
set_option maxHeartbeats 4000000 in
theorem readBool_some (br : Nat) (D : List UInt8) (off last m : Nat) (x : Bool) (bx : Nat) (w : World) (hr : ReaderAt w br D off last 0)
    (hdec : ∀ W, Fr [] w W → ReaderAt W br D off last 0 → Calls Try.prog 52 #[Value.pointer (some ⟨bx, 0, none⟩)] W fun e w' => e = .returned (.tuple #[Value.bool x, Value.int .i64 0]) ∧ Fr [br] W w' ∧ ReaderAt w' br D m last 0) :
    Calls Try.prog 51 #[Value.pointer (some ⟨br, 0, none⟩), .func (.func 52) #[] #[Value.pointer (some ⟨bx, 0, none⟩)]] w fun e w' => e = .returned (Value.bool x) ∧ Fr [br] w w' ∧ ReaderAt w' br D m off 0 := by
  obtain ⟨A, c, ha, hrow⟩ := hr
  have c1 : w.cell? ⟨br, 1, none⟩ = some (Value.int .i64 (off : Int)) := by rw [ha.cell]; rfl
  have c3 : w.cell? ⟨br, 3, none⟩ = some (Value.int .i64 0) := by rw [ha.cell]; rfl
  have hlt := ha.lt
  have HR := Lib.hid (And.intro ha hrow)
  have HD := Lib.hid hdec
  clear ha hrow hdec
  have hmf : ∀ (fn : Fn) (first cap : Array Value) (w : World), (Instr.makeFunc fn first cap).run Try.prog w = .ok (.func fn first cap) w := fun _ _ _ _ => rfl
  go_enter_defers Try.func51, Try.ntmps51
  go_wp2_with fail
  obtain ⟨W, hW⟩ : ∃ W, W = ((w.alloc (Obj.cells #[Value.pointer (some ⟨br, 0, none⟩)] 64)).alloc (Obj.cells #[Value.bool false] 4)).alloc (Obj.cells #[Value.int .i64 (off : Int)] 3) := ⟨_, rfl⟩
  rw [← hW]
  have HW : Hid (At W w.heap.size 64 [Value.pointer (some ⟨br, 0, none⟩)] ∧ At W (w.heap.size + 1) 4 [Value.bool false] ∧ At W (w.heap.size + 1 + 1) 3 [Value.int .i64 (off : Int)] ∧ Fr [] w W ∧ ReaderAt W br D off last 0) := by
    rw [hW]
    refine ⟨((At.new w 64 [Value.pointer (some ⟨br, 0, none⟩)]).alloc _).alloc _, ?_, ?_, (((Fr.refl _ _).alloc _).alloc _).alloc _, A, c, ((HR.out.1.alloc _).alloc _).alloc _, ((HR.out.2.alloc _).alloc _).alloc _⟩
    · have := (At.new (w.alloc (Obj.cells #[Value.pointer (some ⟨br, 0, none⟩)] 64)) 4 [Value.bool false]).alloc (Obj.cells #[Value.int .i64 (off : Int)] 3)
      simpa using this
    · have := At.new ((w.alloc (Obj.cells #[Value.pointer (some ⟨br, 0, none⟩)] 64)).alloc (Obj.cells #[Value.bool false] 4)) 3 [Value.int .i64 (off : Int)]
      simpa using this
  clear hW c1 c3
  have d0 : W.cell? ⟨w.heap.size, 0, none⟩ = some (Value.pointer (some ⟨br, 0, none⟩)) := by rw [HW.out.1.cell]; rfl
  have nb1 : w.heap.size ≠ br := by omega
  have nb2 : br ≠ w.heap.size := by omega
  go_region_held3 (fun w' => w'.cell? ⟨w.heap.size, 0, none⟩ = some (Value.pointer (some ⟨br, 0, none⟩))) (go_keep) (first | (go_at_call 52; refine (HD.out W.drew (by exact HW.out.2.2.2.1.drew) (by exact HW.out.2.2.2.2)).mono ?_; rintro e w1 ⟨rfl, hf1, hr1⟩; obtain ⟨e0, e1, z1, e3, z3⟩ := rv_cells (W := W) HW.out.1 HW.out.2.1 HW.out.2.2.2.2 hf1 hr1; have H1 := Lib.hid (And.intro hf1 hr1); clear hf1 hr1))
  go_wp2_with fail
  obtain ⟨k0, k1, k2, k3, kf⟩ := rv_end HW.out.1 HW.out.2.1 HW.out.2.2.1 HW.out.2.2.2.2 H1.out.1 H1.out.2 (Value.bool x) (Value.int .i64 0) (by omega) (by decide)
  refine leaves_cons (f := 74) (args := #[Value.pointer (some ⟨w.heap.size + 1 + 1, 0, none⟩), Value.pointer (some ⟨w.heap.size, 0, none⟩), Value.pointer (some ⟨w.heap.size + 1, 0, none⟩)]) (by simp) (by simp [go_sem]) ?_
  obtain ⟨A', c', k3'⟩ := k3
  refine (rvClose_ok_Bool _ _ _ br A' _ c' _ _ _ _ k2 k0 k3'.1).mono ?_
  rintro e u' w'' ⟨rfl, rfl, rfl⟩
  obtain ⟨g1, g2, g3⟩ := rv_done (off := off) HW.out.2.2.2.1 kf (by omega) k1 (by decide) k3'.1 k3'.2
  exact ⟨Value.bool x, by simp [results, Try.results51, go_sem, g1], rfl, g2, g3⟩

set_option maxRecDepth 100000 in
set_option maxHeartbeats 4000000 in
theorem readBool_none (br : Nat) (D : List UInt8) (off last : Nat) (er : Int) (x : Bool) (bx : Nat) (w : World) (hr : ReaderAt w br D off last 0) (he : er ≠ 0)
    (hdec : ∀ W, Fr [] w W → ReaderAt W br D off last 0 → Calls Try.prog 52 #[Value.pointer (some ⟨bx, 0, none⟩)] W fun e w' => e = .returned (.tuple #[Value.bool x, Value.int .i64 er]) ∧ Fr [br] W w' ∧ ∃ off' : Nat, ReaderAt w' br D off' last 0) :
    Calls Try.prog 51 #[Value.pointer (some ⟨br, 0, none⟩), .func (.func 52) #[] #[Value.pointer (some ⟨bx, 0, none⟩)]] w fun e w' => e = .returned (Value.bool false) ∧ Fr [br] w w' ∧ ReaderAt w' br D off off er := by
  have HE := Lib.hid he
  clear he
  obtain ⟨A, c, ha, hrow⟩ := hr
  have c1 : w.cell? ⟨br, 1, none⟩ = some (Value.int .i64 (off : Int)) := by rw [ha.cell]; rfl
  have c3 : w.cell? ⟨br, 3, none⟩ = some (Value.int .i64 0) := by rw [ha.cell]; rfl
  have hlt := ha.lt
  have HR := Lib.hid (And.intro ha hrow)
  have HD := Lib.hid hdec
  clear ha hrow hdec
  have hmf : ∀ (fn : Fn) (first cap : Array Value) (w : World), (Instr.makeFunc fn first cap).run Try.prog w = .ok (.func fn first cap) w := fun _ _ _ _ => rfl
  go_enter_defers Try.func51, Try.ntmps51
  go_wp2_with fail
  obtain ⟨W, hW⟩ : ∃ W, W = ((w.alloc (Obj.cells #[Value.pointer (some ⟨br, 0, none⟩)] 64)).alloc (Obj.cells #[Value.bool false] 4)).alloc (Obj.cells #[Value.int .i64 (off : Int)] 3) := ⟨_, rfl⟩
  rw [← hW]
  have HW : Hid (At W w.heap.size 64 [Value.pointer (some ⟨br, 0, none⟩)] ∧ At W (w.heap.size + 1) 4 [Value.bool false] ∧ At W (w.heap.size + 1 + 1) 3 [Value.int .i64 (off : Int)] ∧ Fr [] w W ∧ ReaderAt W br D off last 0) := by
    rw [hW]
    refine ⟨((At.new w 64 [Value.pointer (some ⟨br, 0, none⟩)]).alloc _).alloc _, ?_, ?_, (((Fr.refl _ _).alloc _).alloc _).alloc _, A, c, ((HR.out.1.alloc _).alloc _).alloc _, ((HR.out.2.alloc _).alloc _).alloc _⟩
    · have := (At.new (w.alloc (Obj.cells #[Value.pointer (some ⟨br, 0, none⟩)] 64)) 4 [Value.bool false]).alloc (Obj.cells #[Value.int .i64 (off : Int)] 3)
      simpa using this
    · have := At.new ((w.alloc (Obj.cells #[Value.pointer (some ⟨br, 0, none⟩)] 64)).alloc (Obj.cells #[Value.bool false] 4)) 3 [Value.int .i64 (off : Int)]
      simpa using this
  clear hW c1 c3
  have d0 : W.cell? ⟨w.heap.size, 0, none⟩ = some (Value.pointer (some ⟨br, 0, none⟩)) := by rw [HW.out.1.cell]; rfl
  have nb1 : w.heap.size ≠ br := by omega
  have nb2 : br ≠ w.heap.size := by omega
  go_region_held3 (fun w' => w'.cell? ⟨w.heap.size, 0, none⟩ = some (Value.pointer (some ⟨br, 0, none⟩))) (go_keep) (first | (go_at_call 52; refine (HD.out W.drew (by exact HW.out.2.2.2.1.drew) (by exact HW.out.2.2.2.2)).mono ?_; rintro e w1 ⟨rfl, hf1, off', hr1⟩; obtain ⟨e0, e1, z1, e3, z3⟩ := rv_cells (W := W) HW.out.1 HW.out.2.1 HW.out.2.2.2.2 hf1 hr1; have H1 := Lib.hid (And.intro hf1 hr1); clear hf1 hr1))
  go_wp2_with fail
  obtain ⟨k0, k1, k2, k3, kf⟩ := rv_end HW.out.1 HW.out.2.1 HW.out.2.2.1 HW.out.2.2.2.2 H1.out.1 H1.out.2 (Value.bool x) (Value.int .i64 er) (by omega) (by decide)
  refine leaves_cons (f := 74) (args := #[Value.pointer (some ⟨w.heap.size + 1 + 1, 0, none⟩), Value.pointer (some ⟨w.heap.size, 0, none⟩), Value.pointer (some ⟨w.heap.size + 1, 0, none⟩)]) (by simp) (by simp [go_sem]) ?_
  obtain ⟨A', c', k3'⟩ := k3
  refine (rvClose_err_Bool _ _ _ br A' _ c' _ _ _ er (Value.bool x) _ k2 k0 k1 k3'.1 HE.out (by omega)).mono ?_
  rintro e u' w'' ⟨rfl, rfl, rfl⟩
  obtain ⟨g1, g2, g3⟩ := rv_failed (off := off) (z := Value.bool false) HW.out.2.2.2.1 kf (by omega) k1 (by decide) (by decide) k3'.1 k3'.2
  exact ⟨Value.bool false, by simp [results, Try.results51, go_sem, g1], rfl, g2, g3⟩

set_option maxRecDepth 100000 in
theorem readBool_err (br : Nat) (r : Rd) (fv : Value) (w : World) (hr : RdAt w br r) (h0 : r.err ≠ 0) :
    Calls Try.prog 51 #[Value.pointer (some ⟨br, 0, none⟩), fv] w fun e w' => e = .returned (Value.bool false) ∧ Fr [] w w' ∧ RdAt w' br r := by
  have hr0 := hr
  obtain ⟨A, c, ha, hrow⟩ := hr
  have c3 : w.cell? ⟨br, 3, none⟩ = some (Value.int .i64 r.err) := by rw [ha.cell]; rfl
  have hb : (r.err != 0) = true := by simpa using h0
  have hlt := ha.lt
  have HR := Lib.hid hr0
  clear ha hrow hr0 h0
  go_enter_defers Try.func51, Try.ntmps51
  go_wp2_with fail
  have hf : Fr [] w ((w.alloc (Obj.cells #[Value.pointer (some ⟨br, 0, none⟩)] 64)).alloc (Obj.cells #[Value.bool false] 4)) := ((Fr.refl _ _).alloc _).alloc _
  exact ⟨Value.bool false, by simp [results, Try.results51, go_sem], rfl, hf, ReaderAt.fr HR.out hf⟩


/-- The deferred closure of readValue[int]: the reader's last offset is set. -/
theorem rvClose_ok_Cnt (b0 b1 b2 br : Nat) (A : Option Addr) (n c : Nat) (off last start : Int) (w : World) (h0 : At w b0 3 [Value.int .i64 start]) (h1 : At w b1 64 [Value.pointer (some ⟨br, 0, none⟩)]) (hr : At w br 90 [.slice A n c, Value.int .i64 off, Value.int .i64 last, Value.int .i64 0]) :
    CallsD Try.prog 75 #[Value.pointer (some ⟨b0, 0, none⟩), Value.pointer (some ⟨b1, 0, none⟩), Value.pointer (some ⟨b2, 0, none⟩)] .returning w fun e u' w' => u' = .returning ∧ e = .returned (.tuple #[]) ∧ w' = w.setCell ⟨br, 2, none⟩ (Value.int .i64 start) := by
  have c0 : w.cell? ⟨b0, 0, none⟩ = some (Value.int .i64 start) := by rw [h0.cell]; rfl
  have c1 : w.cell? ⟨b1, 0, none⟩ = some (Value.pointer (some ⟨br, 0, none⟩)) := by rw [h1.cell]; rfl
  have c2 : w.cell? ⟨br, 2, none⟩ = some (Value.int .i64 last) := by rw [hr.cell]; rfl
  have c3 : w.cell? ⟨br, 3, none⟩ = some (Value.int .i64 0) := by rw [hr.cell]; rfl
  have z2 := hr.frozen 2
  have hne : b1 ≠ br := h1.ne hr (by decide)
  clear h0 h1 hr
  go_enter_d Try.func75, Try.ntmps75
  go_wp2_with fail
  go_end0
  exact ⟨rfl, rfl⟩

/-- .. where there is an error, the offset and the value are set back. -/
theorem rvClose_err_Cnt (b0 b1 b2 br : Nat) (A : Option Addr) (n c : Nat) (off last start err : Int) (v : Value) (w : World) (h0 : At w b0 3 [Value.int .i64 start]) (h1 : At w b1 64 [Value.pointer (some ⟨br, 0, none⟩)]) (h2 : At w b2 3 [v]) (hr : At w br 90 [.slice A n c, Value.int .i64 off, Value.int .i64 last, Value.int .i64 err]) (he : err ≠ 0) (hb : b2 ≠ b0 ∧ b2 ≠ br) :
    CallsD Try.prog 75 #[Value.pointer (some ⟨b0, 0, none⟩), Value.pointer (some ⟨b1, 0, none⟩), Value.pointer (some ⟨b2, 0, none⟩)] .returning w fun e u' w' => u' = .returning ∧ e = .returned (.tuple #[]) ∧ w' = ((w.setCell ⟨br, 2, none⟩ (Value.int .i64 start)).setCell ⟨br, 1, none⟩ (Value.int .i64 start)).setCell ⟨b2, 0, none⟩ (Value.int .i64 0) := by
  have c0 : w.cell? ⟨b0, 0, none⟩ = some (Value.int .i64 start) := by rw [h0.cell]; rfl
  have c1 : w.cell? ⟨b1, 0, none⟩ = some (Value.pointer (some ⟨br, 0, none⟩)) := by rw [h1.cell]; rfl
  have cr1 : w.cell? ⟨br, 1, none⟩ = some (Value.int .i64 off) := by rw [hr.cell]; rfl
  have c2 : w.cell? ⟨br, 2, none⟩ = some (Value.int .i64 last) := by rw [hr.cell]; rfl
  have c3 : w.cell? ⟨br, 3, none⟩ = some (Value.int .i64 err) := by rw [hr.cell]; rfl
  have c4 : w.cell? ⟨b2, 0, none⟩ = some v := by rw [h2.cell]; rfl
  have z2 := hr.frozen 2
  have z1 := hr.frozen 1
  have z4 := h2.frozen 0
  have hne : b1 ≠ br := h1.ne hr (by decide)
  have hne2 : b2 ≠ br := hb.2
  have hne0 : b0 ≠ br := h0.ne hr (by decide)
  have heb : (err != 0) = true := by simpa using he
  clear h0 h1 hr h2 he hb
  go_enter_d Try.func75, Try.ntmps75
  go_wp2_with fail
  go_end0
  exact ⟨rfl, rfl⟩

set_option maxRecDepth 100000 in
set_option maxHeartbeats 4000000 in
theorem readCnt_some (br : Nat) (D : List UInt8) (off last m : Nat) (x : Int) (bx by_ : Nat) (w : World) (hr : ReaderAt w br D off last 0)
    (hdec : ∀ W, Fr [] w W → ReaderAt W br D off last 0 → Calls Try.prog 54 #[Value.pointer (some ⟨bx, 0, none⟩), Value.pointer (some ⟨by_, 0, none⟩)] W fun e w' => e = .returned (.tuple #[Value.int .i64 x, Value.int .i64 0]) ∧ Fr [br] W w' ∧ ReaderAt w' br D m last 0) :
    Calls Try.prog 53 #[Value.pointer (some ⟨br, 0, none⟩), .func (.func 54) #[] #[Value.pointer (some ⟨bx, 0, none⟩), Value.pointer (some ⟨by_, 0, none⟩)]] w fun e w' => e = .returned (Value.int .i64 x) ∧ Fr [br] w w' ∧ ReaderAt w' br D m off 0 := by
  obtain ⟨A, c, ha, hrow⟩ := hr
  have c1 : w.cell? ⟨br, 1, none⟩ = some (Value.int .i64 (off : Int)) := by rw [ha.cell]; rfl
  have c3 : w.cell? ⟨br, 3, none⟩ = some (Value.int .i64 0) := by rw [ha.cell]; rfl
  have hlt := ha.lt
  have HR := Lib.hid (And.intro ha hrow)
  have HD := Lib.hid hdec
  clear ha hrow hdec
  have hmf : ∀ (fn : Fn) (first cap : Array Value) (w : World), (Instr.makeFunc fn first cap).run Try.prog w = .ok (.func fn first cap) w := fun _ _ _ _ => rfl
  go_enter_defers Try.func53, Try.ntmps53
  go_wp2_with fail
  obtain ⟨W, hW⟩ : ∃ W, W = ((w.alloc (Obj.cells #[Value.pointer (some ⟨br, 0, none⟩)] 64)).alloc (Obj.cells #[Value.int .i64 0] 3)).alloc (Obj.cells #[Value.int .i64 (off : Int)] 3) := ⟨_, rfl⟩
  rw [← hW]
  have HW : Hid (At W w.heap.size 64 [Value.pointer (some ⟨br, 0, none⟩)] ∧ At W (w.heap.size + 1) 3 [Value.int .i64 0] ∧ At W (w.heap.size + 1 + 1) 3 [Value.int .i64 (off : Int)] ∧ Fr [] w W ∧ ReaderAt W br D off last 0) := by
    rw [hW]
    refine ⟨((At.new w 64 [Value.pointer (some ⟨br, 0, none⟩)]).alloc _).alloc _, ?_, ?_, (((Fr.refl _ _).alloc _).alloc _).alloc _, A, c, ((HR.out.1.alloc _).alloc _).alloc _, ((HR.out.2.alloc _).alloc _).alloc _⟩
    · have := (At.new (w.alloc (Obj.cells #[Value.pointer (some ⟨br, 0, none⟩)] 64)) 3 [Value.int .i64 0]).alloc (Obj.cells #[Value.int .i64 (off : Int)] 3)
      simpa using this
    · have := At.new ((w.alloc (Obj.cells #[Value.pointer (some ⟨br, 0, none⟩)] 64)).alloc (Obj.cells #[Value.int .i64 0] 3)) 3 [Value.int .i64 (off : Int)]
      simpa using this
  clear hW c1 c3
  have d0 : W.cell? ⟨w.heap.size, 0, none⟩ = some (Value.pointer (some ⟨br, 0, none⟩)) := by rw [HW.out.1.cell]; rfl
  have nb1 : w.heap.size ≠ br := by omega
  have nb2 : br ≠ w.heap.size := by omega
  go_region_held3 (fun w' => w'.cell? ⟨w.heap.size, 0, none⟩ = some (Value.pointer (some ⟨br, 0, none⟩))) (go_keep) (first | (go_at_call 54; refine (HD.out W.drew (by exact HW.out.2.2.2.1.drew) (by exact HW.out.2.2.2.2)).mono ?_; rintro e w1 ⟨rfl, hf1, hr1⟩; obtain ⟨e0, e1, z1, e3, z3⟩ := rv_cells (W := W) HW.out.1 HW.out.2.1 HW.out.2.2.2.2 hf1 hr1; have H1 := Lib.hid (And.intro hf1 hr1); clear hf1 hr1))
  go_wp2_with fail
  obtain ⟨k0, k1, k2, k3, kf⟩ := rv_end HW.out.1 HW.out.2.1 HW.out.2.2.1 HW.out.2.2.2.2 H1.out.1 H1.out.2 (Value.int .i64 x) (Value.int .i64 0) (by omega) (by decide)
  refine leaves_cons (f := 75) (args := #[Value.pointer (some ⟨w.heap.size + 1 + 1, 0, none⟩), Value.pointer (some ⟨w.heap.size, 0, none⟩), Value.pointer (some ⟨w.heap.size + 1, 0, none⟩)]) (by simp) (by simp [go_sem]) ?_
  obtain ⟨A', c', k3'⟩ := k3
  refine (rvClose_ok_Cnt _ _ _ br A' _ c' _ _ _ _ k2 k0 k3'.1).mono ?_
  rintro e u' w'' ⟨rfl, rfl, rfl⟩
  obtain ⟨g1, g2, g3⟩ := rv_done (off := off) HW.out.2.2.2.1 kf (by omega) k1 (by decide) k3'.1 k3'.2
  exact ⟨Value.int .i64 x, by simp [results, Try.results53, go_sem, g1], rfl, g2, g3⟩

set_option maxRecDepth 100000 in
set_option maxHeartbeats 4000000 in
theorem readCnt_none (br : Nat) (D : List UInt8) (off last : Nat) (er : Int) (x : Int) (bx by_ : Nat) (w : World) (hr : ReaderAt w br D off last 0) (he : er ≠ 0)
    (hdec : ∀ W, Fr [] w W → ReaderAt W br D off last 0 → Calls Try.prog 54 #[Value.pointer (some ⟨bx, 0, none⟩), Value.pointer (some ⟨by_, 0, none⟩)] W fun e w' => e = .returned (.tuple #[Value.int .i64 x, Value.int .i64 er]) ∧ Fr [br] W w' ∧ ∃ off' : Nat, ReaderAt w' br D off' last 0) :
    Calls Try.prog 53 #[Value.pointer (some ⟨br, 0, none⟩), .func (.func 54) #[] #[Value.pointer (some ⟨bx, 0, none⟩), Value.pointer (some ⟨by_, 0, none⟩)]] w fun e w' => e = .returned (Value.int .i64 0) ∧ Fr [br] w w' ∧ ReaderAt w' br D off off er := by
  have HE := Lib.hid he
  clear he
  obtain ⟨A, c, ha, hrow⟩ := hr
  have c1 : w.cell? ⟨br, 1, none⟩ = some (Value.int .i64 (off : Int)) := by rw [ha.cell]; rfl
  have c3 : w.cell? ⟨br, 3, none⟩ = some (Value.int .i64 0) := by rw [ha.cell]; rfl
  have hlt := ha.lt
  have HR := Lib.hid (And.intro ha hrow)
  have HD := Lib.hid hdec
  clear ha hrow hdec
  have hmf : ∀ (fn : Fn) (first cap : Array Value) (w : World), (Instr.makeFunc fn first cap).run Try.prog w = .ok (.func fn first cap) w := fun _ _ _ _ => rfl
  go_enter_defers Try.func53, Try.ntmps53
  go_wp2_with fail
  obtain ⟨W, hW⟩ : ∃ W, W = ((w.alloc (Obj.cells #[Value.pointer (some ⟨br, 0, none⟩)] 64)).alloc (Obj.cells #[Value.int .i64 0] 3)).alloc (Obj.cells #[Value.int .i64 (off : Int)] 3) := ⟨_, rfl⟩
  rw [← hW]
  have HW : Hid (At W w.heap.size 64 [Value.pointer (some ⟨br, 0, none⟩)] ∧ At W (w.heap.size + 1) 3 [Value.int .i64 0] ∧ At W (w.heap.size + 1 + 1) 3 [Value.int .i64 (off : Int)] ∧ Fr [] w W ∧ ReaderAt W br D off last 0) := by
    rw [hW]
    refine ⟨((At.new w 64 [Value.pointer (some ⟨br, 0, none⟩)]).alloc _).alloc _, ?_, ?_, (((Fr.refl _ _).alloc _).alloc _).alloc _, A, c, ((HR.out.1.alloc _).alloc _).alloc _, ((HR.out.2.alloc _).alloc _).alloc _⟩
    · have := (At.new (w.alloc (Obj.cells #[Value.pointer (some ⟨br, 0, none⟩)] 64)) 3 [Value.int .i64 0]).alloc (Obj.cells #[Value.int .i64 (off : Int)] 3)
      simpa using this
    · have := At.new ((w.alloc (Obj.cells #[Value.pointer (some ⟨br, 0, none⟩)] 64)).alloc (Obj.cells #[Value.int .i64 0] 3)) 3 [Value.int .i64 (off : Int)]
      simpa using this
  clear hW c1 c3
  have d0 : W.cell? ⟨w.heap.size, 0, none⟩ = some (Value.pointer (some ⟨br, 0, none⟩)) := by rw [HW.out.1.cell]; rfl
  have nb1 : w.heap.size ≠ br := by omega
  have nb2 : br ≠ w.heap.size := by omega
  go_region_held3 (fun w' => w'.cell? ⟨w.heap.size, 0, none⟩ = some (Value.pointer (some ⟨br, 0, none⟩))) (go_keep) (first | (go_at_call 54; refine (HD.out W.drew (by exact HW.out.2.2.2.1.drew) (by exact HW.out.2.2.2.2)).mono ?_; rintro e w1 ⟨rfl, hf1, off', hr1⟩; obtain ⟨e0, e1, z1, e3, z3⟩ := rv_cells (W := W) HW.out.1 HW.out.2.1 HW.out.2.2.2.2 hf1 hr1; have H1 := Lib.hid (And.intro hf1 hr1); clear hf1 hr1))
  go_wp2_with fail
  obtain ⟨k0, k1, k2, k3, kf⟩ := rv_end HW.out.1 HW.out.2.1 HW.out.2.2.1 HW.out.2.2.2.2 H1.out.1 H1.out.2 (Value.int .i64 x) (Value.int .i64 er) (by omega) (by decide)
  refine leaves_cons (f := 75) (args := #[Value.pointer (some ⟨w.heap.size + 1 + 1, 0, none⟩), Value.pointer (some ⟨w.heap.size, 0, none⟩), Value.pointer (some ⟨w.heap.size + 1, 0, none⟩)]) (by simp) (by simp [go_sem]) ?_
  obtain ⟨A', c', k3'⟩ := k3
  refine (rvClose_err_Cnt _ _ _ br A' _ c' _ _ _ er (Value.int .i64 x) _ k2 k0 k1 k3'.1 HE.out (by omega)).mono ?_
  rintro e u' w'' ⟨rfl, rfl, rfl⟩
  obtain ⟨g1, g2, g3⟩ := rv_failed (off := off) (z := Value.int .i64 0) HW.out.2.2.2.1 kf (by omega) k1 (by decide) (by decide) k3'.1 k3'.2
  exact ⟨Value.int .i64 0, by simp [results, Try.results53, go_sem, g1], rfl, g2, g3⟩

set_option maxRecDepth 100000 in
theorem readCnt_err (br : Nat) (r : Rd) (fv : Value) (w : World) (hr : RdAt w br r) (h0 : r.err ≠ 0) :
    Calls Try.prog 53 #[Value.pointer (some ⟨br, 0, none⟩), fv] w fun e w' => e = .returned (Value.int .i64 0) ∧ Fr [] w w' ∧ RdAt w' br r := by
  have hr0 := hr
  obtain ⟨A, c, ha, hrow⟩ := hr
  have c3 : w.cell? ⟨br, 3, none⟩ = some (Value.int .i64 r.err) := by rw [ha.cell]; rfl
  have hb : (r.err != 0) = true := by simpa using h0
  have hlt := ha.lt
  have HR := Lib.hid hr0
  clear ha hrow hr0 h0
  go_enter_defers Try.func53, Try.ntmps53
  go_wp2_with fail
  have hf : Fr [] w ((w.alloc (Obj.cells #[Value.pointer (some ⟨br, 0, none⟩)] 64)).alloc (Obj.cells #[Value.int .i64 0] 3)) := ((Fr.refl _ _).alloc _).alloc _
  exact ⟨Value.int .i64 0, by simp [results, Try.results53, go_sem], rfl, hf, ReaderAt.fr HR.out hf⟩


end Go.Proofs.Ytflabbdnkoejjaa
