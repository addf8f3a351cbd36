/- Contracts of readValue, at numbers, and of the reader's Uint and Int. -/
import Derived.Test.YtlepfnihpdhcaaaGreatDoorRd1
import Derived.Defers
import Derived.Deep.RegionHeld3
namespace Go.Proofs.YtlepfnihpdhcaaaGreatDoor
open Go.RowKit
variable {X : Option Addr × Nat}

/-- The state of a reader. -/
structure Rd where
  D : List UInt8
  off : Nat
  last : Nat
  err : Int

structure Rd.Ok (r : Rd) : Prop where
  off : r.off ≤ r.D.length
  len : r.D.length ≤ 4294967296

def RdAt (X : Option Addr × Nat) (w : World) (br : Nat) (r : Rd) : Prop := ReaderAt X w br r.D r.off r.last r.err
def Rd.done (r : Rd) (m : Nat) : Rd := { r with off := m, last := r.off }
def Rd.fail (r : Rd) (e : Int) : Rd := { r with last := r.off, err := e }
def Rd.uint (r : Rd) : Nat × Rd := if r.err = 0 then (match rdNum r.D r.off with | some (n, m) => (n, r.done m) | none => (0, r.fail 3)) else (0, r)

/-- The deferred closure of readValue: the reader's last offset is set; where there is an error, the offset and the value are set back. -/
theorem rvClose_ok (b0 b1 b2 br : Nat) (A : Option Addr) (n c : Nat) (off last start : Int) (w : World) (h0 : At w b0 3 [Value.int .i64 start]) (h1 : At w b1 114 [Value.pointer (some ⟨br, 0, none⟩)]) (hr : At w br 146 [.slice A n c, Value.int .i64 off, Value.int .i64 last, Value.int .i64 0]) :
    CallsD Tryz.prog 122 #[Value.pointer (some ⟨b0, 0, none⟩), Value.pointer (some ⟨b1, 0, none⟩), Value.pointer (some ⟨b2, 0, none⟩)] .returning w fun e u' w' => u' = .returning ∧ e = .returned (.tuple #[]) ∧ w' = w.setCell ⟨br, 2, none⟩ (Value.int .i64 start) := by
  have c0 : w.cell? ⟨b0, 0, none⟩ = some (Value.int .i64 start) := by rw [h0.cell]; rfl
  have c1 : w.cell? ⟨b1, 0, none⟩ = some (Value.pointer (some ⟨br, 0, none⟩)) := by rw [h1.cell]; rfl
  have c2 : w.cell? ⟨br, 2, none⟩ = some (Value.int .i64 last) := by rw [hr.cell]; rfl
  have c3 : w.cell? ⟨br, 3, none⟩ = some (Value.int .i64 0) := by rw [hr.cell]; rfl
  have z2 := hr.frozen 2
  have hne : b1 ≠ br := h1.ne hr (by decide)
  clear h0 h1 hr
  go_enter_d Tryz.func122, Tryz.ntmps122
  go_wp2_with fail
  go_end0
  exact ⟨rfl, rfl⟩

theorem rvClose_err (b0 b1 b2 br : Nat) (A : Option Addr) (n c : Nat) (off last start err : Int) (v : Int) (w : World) (h0 : At w b0 3 [Value.int .i64 start]) (h1 : At w b1 114 [Value.pointer (some ⟨br, 0, none⟩)]) (h2 : At w b2 140 [.int .u64 v]) (hr : At w br 146 [.slice A n c, Value.int .i64 off, Value.int .i64 last, Value.int .i64 err]) (he : err ≠ 0) :
    CallsD Tryz.prog 122 #[Value.pointer (some ⟨b0, 0, none⟩), Value.pointer (some ⟨b1, 0, none⟩), Value.pointer (some ⟨b2, 0, none⟩)] .returning w fun e u' w' => u' = .returning ∧ e = .returned (.tuple #[]) ∧ w' = ((w.setCell ⟨br, 2, none⟩ (Value.int .i64 start)).setCell ⟨br, 1, none⟩ (Value.int .i64 start)).setCell ⟨b2, 0, none⟩ (.int .u64 0) := by
  have c0 : w.cell? ⟨b0, 0, none⟩ = some (Value.int .i64 start) := by rw [h0.cell]; rfl
  have c1 : w.cell? ⟨b1, 0, none⟩ = some (Value.pointer (some ⟨br, 0, none⟩)) := by rw [h1.cell]; rfl
  have cr1 : w.cell? ⟨br, 1, none⟩ = some (Value.int .i64 off) := by rw [hr.cell]; rfl
  have c2 : w.cell? ⟨br, 2, none⟩ = some (Value.int .i64 last) := by rw [hr.cell]; rfl
  have c3 : w.cell? ⟨br, 3, none⟩ = some (Value.int .i64 err) := by rw [hr.cell]; rfl
  have c4 : w.cell? ⟨b2, 0, none⟩ = some (.int .u64 v) := by rw [h2.cell]; rfl
  have z2 := hr.frozen 2
  have z1 := hr.frozen 1
  have z4 := h2.frozen 0
  have hne : b1 ≠ br := h1.ne hr (by decide)
  have hne2 : b2 ≠ br := h2.ne hr (by decide)
  have hne0 : b0 ≠ br := h0.ne hr (by decide)
  have heb : (err != 0) = true := by simpa using he
  clear h0 h1 hr h2 he
  go_enter_d Tryz.func122, Tryz.ntmps122
  go_wp2_with fail
  go_end0
  exact ⟨rfl, rfl⟩

theorem number_some (br : Nat) (D : List UInt8) (off last : Nat) (w : World) (hr : ReaderAt X w br D off last 0) (ho : off ≤ D.length) (hD : D.length ≤ 4294967296) (n m : Nat) (h : rdNum D off = some (n, m)) :
    Calls Tryz.prog 101 #[Value.pointer (some ⟨br, 0, none⟩)] w fun e w' => e = .returned (.tuple #[.int .u64 (n : Int), Value.int .i64 0]) ∧ Fr [br] w w' ∧ ReaderAt X w' br D m last 0 ∧ m ≤ D.length ∧ U64 n := by
  refine (number_any br D off last w hr ho hD).mono ?_
  rintro e w' ⟨hf, off', h1, h2, h3⟩
  rw [h] at h3
  obtain ⟨rfl, rfl, hu⟩ := h3
  exact ⟨rfl, hf, h2, h1, hu⟩

theorem number_none (br : Nat) (D : List UInt8) (off last : Nat) (w : World) (hr : ReaderAt X w br D off last 0) (ho : off ≤ D.length) (hD : D.length ≤ 4294967296) (h : rdNum D off = none) :
    Calls Tryz.prog 101 #[Value.pointer (some ⟨br, 0, none⟩)] w fun e w' => e = .returned (.tuple #[.int .u64 0, Value.int .i64 3]) ∧ Fr [br] w w' ∧ ∃ off', off' ≤ D.length ∧ ReaderAt X w' br D off' last 0 := by
  refine (number_any br D off last w hr ho hD).mono ?_
  rintro e w' ⟨hf, off', h1, h2, h3⟩
  rw [h] at h3
  exact ⟨h3, hf, off', h1, h2⟩

theorem ReaderAt.ne {w : World} {br b : Nat} {D : List UInt8} {off last : Nat} {err : Int} {t : TypeId} {l : List Value} (h : ReaderAt X w br D off last err) (ha : At w b t l) (hne : t ≠ 146) : b ≠ br := by
  obtain ⟨A, c, hX, h1, _⟩ := h
  exact ha.ne h1 hne

theorem rv_cells {W w1 : World} {br B b2 : Nat} {D : List UInt8} {off last off' last' : Nat} {err : Int} {t2 : TypeId} {v2 : Value} (h0 : At W B 114 [Value.pointer (some ⟨br, 0, none⟩)]) (h1 : At W b2 t2 [v2]) (hr : ReaderAt X W br D off last 0) (hf : Fr [br] W.drew w1) (hr1 : ReaderAt X w1 br D off' last' err) (ht : t2 ≠ 146 := by decide) :
    w1.cell? ⟨B, 0, none⟩ = some (Value.pointer (some ⟨br, 0, none⟩)) ∧ w1.cell? ⟨b2, 0, none⟩ = some v2 ∧ w1.frozen? ⟨b2, 0, none⟩ = false ∧ w1.cell? ⟨br, 3, none⟩ = some (Value.int .i64 err) ∧ w1.frozen? ⟨br, 3, none⟩ = false := by
  have n0 := hr.ne h0 (by decide)
  have n1 := hr.ne h1 ht
  have k0 : At w1 B 114 [Value.pointer (some ⟨br, 0, none⟩)] := (At.drew h0).fr hf (by simpa using n0)
  have k1 : At w1 b2 t2 [v2] := (At.drew h1).fr hf (by simpa using n1)
  obtain ⟨A, c, hX, h3, _⟩ := hr1
  exact ⟨by rw [k0.cell]; rfl, by rw [k1.cell]; rfl, k1.frozen 0, by rw [h3.cell]; rfl, h3.frozen 3⟩

/-- Behind the statement that decodes: the value and the error are stored. -/
theorem rv_end {W w1 : World} {br B b2 b3 : Nat} {D : List UInt8} {off last off' last' : Nat} {start : Int} {t2 : TypeId} {v2 : Value} (h0 : At W B 114 [Value.pointer (some ⟨br, 0, none⟩)]) (h1 : At W b2 t2 [v2]) (h3 : At W b3 3 [Value.int .i64 start]) (hr : ReaderAt X W br D off last 0) (hf : Fr [br] W.drew w1) (hr1 : ReaderAt X w1 br D off' last' 0)
    (v er : Value) (hb : b2 ≠ br ∧ b2 ≠ B ∧ b2 ≠ b3 ∧ b3 ≠ br) (ht8 : t2 ≠ 5) :
    At (((w1.setCell ⟨b2, 0, none⟩ v).setCell ⟨br, 3, none⟩ er).setCell ⟨b2, 0, none⟩ v) B 114 [Value.pointer (some ⟨br, 0, none⟩)] ∧ At (((w1.setCell ⟨b2, 0, none⟩ v).setCell ⟨br, 3, none⟩ er).setCell ⟨b2, 0, none⟩ v) b2 t2 [v] ∧ At (((w1.setCell ⟨b2, 0, none⟩ v).setCell ⟨br, 3, none⟩ er).setCell ⟨b2, 0, none⟩ v) b3 3 [Value.int .i64 start] ∧
    (∃ A c, X = (A, c) ∧ At (((w1.setCell ⟨b2, 0, none⟩ v).setCell ⟨br, 3, none⟩ er).setCell ⟨b2, 0, none⟩ v) br 146 [.slice A D.length c, Value.int .i64 (off' : Int), Value.int .i64 (last' : Int), er] ∧ (((w1.setCell ⟨b2, 0, none⟩ v).setCell ⟨br, 3, none⟩ er).setCell ⟨b2, 0, none⟩ v).ownsRow 0 5 1 (.slice A D.length c) D.length (B8 D)) ∧
    Fr [br, b2] W (((w1.setCell ⟨b2, 0, none⟩ v).setCell ⟨br, 3, none⟩ er).setCell ⟨b2, 0, none⟩ v) := by
  obtain ⟨hb1, hb2, hb3, hb4⟩ := hb
  have n0 := hr.ne h0 (by decide)
  have n1 : b2 ≠ br := hb1
  have k0 : At w1 B 114 [Value.pointer (some ⟨br, 0, none⟩)] := (At.drew h0).fr hf (by simpa using n0)
  have k1 : At w1 b2 t2 [v2] := (At.drew h1).fr hf (by simpa using n1)
  have k3 : At w1 b3 3 [Value.int .i64 start] := (At.drew h3).fr hf (by simpa using hb4)
  obtain ⟨A, c, hX, hra, hrow⟩ := hr1
  have f1 : Fr [br, b2] W (((w1.setCell ⟨b2, 0, none⟩ v).setCell ⟨br, 3, none⟩ er).setCell ⟨b2, 0, none⟩ v) := by
    have : Fr [br] W w1 := ⟨hf.os, hf.tape, hf.output, hf.size, hf.block⟩
    exact (((this.mono (S' := [br, b2]) (by simp)).setCell (.inl (by simp)) _).setCell (.inl (by simp)) _).setCell (.inl (by simp)) _
  refine ⟨((k0.far (by simpa using hb2.symm) _).far (by simpa using n0) _).far (by simpa using hb2.symm) _, ?_, ((k3.far (by simpa using hb3.symm) _).far (by simpa using hb4) _).far (by simpa using hb3.symm) _, ⟨A, c, hX, ?_, ?_⟩, f1⟩
  · exact ((k1.set 0 v).far (by simpa using n1) _).set 0 v
  · exact ((hra.far (by simpa using n1.symm) _).set 3 er).far (by simpa using n1.symm) _
  · have f2 : Fr [br, b2] w1 (((w1.setCell ⟨b2, 0, none⟩ v).setCell ⟨br, 3, none⟩ er).setCell ⟨b2, 0, none⟩ v) := ((((Fr.refl _ _).setCell (.inl (by simp)) _).setCell (.inl (by simp)) _).setCell (.inl (by simp)) _)
    refine ownsRow_fr hrow f2 ?_
    intro g hg hm
    simp only [List.mem_cons, List.not_mem_nil, or_false] at hm
    rcases hm with rfl | rfl
    · exact own_ne hrow hra (by decide) hg
    · exact own_ne hrow k1 (Ne.symm ht8) hg

/-- Where a value has been read. -/
theorem rv_done {W w5 : World} {w : World} {br : Nat} {D : List UInt8} {off m last : Nat} {b2 : Nat} {t2 : TypeId} {v : Value} {A : Option Addr} {c : Nat} (hW : Fr [] w W) (hf : Fr [br, b2] W w5) (hb2 : w.heap.size ≤ b2) (h2 : At w5 b2 t2 [v]) (ht : t2 ≠ 146)
    (hr : At w5 br 146 [.slice A D.length c, Value.int .i64 (m : Int), Value.int .i64 (last : Int), Value.int .i64 0]) (hrow : w5.ownsRow 0 5 1 (.slice A D.length c) D.length (B8 D)) (hX : X = (A, c)) :
    (w5.setCell ⟨br, 2, none⟩ (Value.int .i64 (off : Int))).cell? ⟨b2, 0, none⟩ = some v ∧ Fr [br] w (w5.setCell ⟨br, 2, none⟩ (Value.int .i64 (off : Int))) ∧ ReaderAt X (w5.setCell ⟨br, 2, none⟩ (Value.int .i64 (off : Int))) br D m off 0 := by
  have hne := h2.ne hr ht
  refine ⟨by rw [(h2.far (by simpa using hne) _).cell]; rfl, ?_, A, c, hX, hr.set 2 _, ?_⟩
  · refine ((hW.mono (S' := [br]) (by simp)).trans' hf ?_).setCell (.inl (by simp)) _
    intro x hx
    simp only [List.mem_cons, List.not_mem_nil, or_false] at hx
    rcases hx with rfl | rfl
    · exact .inl (by simp)
    · exact .inr hb2
  · refine ownsRow_fr (S := [br]) hrow ((Fr.refl _ _).setCell (.inl (by simp)) _) ?_
    intro g hg hm
    have : g = br := by simpa using hm
    subst this
    exact own_ne hrow hr (by decide) hg

/-- Where reading has failed. -/
theorem rv_failed {W w5 : World} {w : World} {br : Nat} {D : List UInt8} {off m last : Nat} {b2 : Nat} {t2 : TypeId} {v z : Value} {er : Int} {A : Option Addr} {c : Nat} (hW : Fr [] w W) (hf : Fr [br, b2] W w5) (hb2 : w.heap.size ≤ b2) (h2 : At w5 b2 t2 [v]) (ht : t2 ≠ 146) (ht8 : t2 ≠ 5)
    (hr : At w5 br 146 [.slice A D.length c, Value.int .i64 (m : Int), Value.int .i64 (last : Int), Value.int .i64 er]) (hrow : w5.ownsRow 0 5 1 (.slice A D.length c) D.length (B8 D)) (hX : X = (A, c)) :
    (((w5.setCell ⟨br, 2, none⟩ (Value.int .i64 (off : Int))).setCell ⟨br, 1, none⟩ (Value.int .i64 (off : Int))).setCell ⟨b2, 0, none⟩ z).cell? ⟨b2, 0, none⟩ = some z ∧ Fr [br] w (((w5.setCell ⟨br, 2, none⟩ (Value.int .i64 (off : Int))).setCell ⟨br, 1, none⟩ (Value.int .i64 (off : Int))).setCell ⟨b2, 0, none⟩ z) ∧ ReaderAt X (((w5.setCell ⟨br, 2, none⟩ (Value.int .i64 (off : Int))).setCell ⟨br, 1, none⟩ (Value.int .i64 (off : Int))).setCell ⟨b2, 0, none⟩ z) br D off off er := by
  have hne := h2.ne hr ht
  refine ⟨by rw [(((h2.far (by simpa using hne) _).far (by simpa using hne) _).set 0 z).cell]; rfl, ?_, A, c, hX, (((hr.set 2 _).set 1 _).far (by simpa using hne.symm) _), ?_⟩
  · refine ((((hW.mono (S' := [br]) (by simp)).trans' hf ?_).setCell (.inl (by simp)) _).setCell (.inl (by simp)) _).setCell (.inr hb2) _
    intro x hx
    simp only [List.mem_cons, List.not_mem_nil, or_false] at hx
    rcases hx with rfl | rfl
    · exact .inl (by simp)
    · exact .inr hb2
  · refine ownsRow_fr (S := [br, b2]) hrow ((((Fr.refl _ _).setCell (.inl (by simp)) _).setCell (.inl (by simp)) _).setCell (.inl (by simp)) _) ?_
    intro g hg hm
    simp only [List.mem_cons, List.not_mem_nil, or_false] at hm
    rcases hm with rfl | rfl
    · exact own_ne hrow hr (by decide) hg
    · exact own_ne hrow h2 (Ne.symm ht8) hg

set_option maxRecDepth 100000 in
set_option maxHeartbeats 4000000 in
theorem readU64_ok (br : Nat) (r : Rd) (w : World) (hr : RdAt X w br r) (hk : r.Ok) (h0 : r.err = 0) :
    Calls Tryz.prog 105 #[Value.pointer (some ⟨br, 0, none⟩), .func (.func 101) #[Value.pointer (some ⟨br, 0, none⟩)] #[]] w fun e w' => e = .returned (.int .u64 (r.uint.1 : Int)) ∧ Fr [br] w w' ∧ RdAt X w' br r.uint.2 := by
  obtain ⟨D, off, last, err⟩ := r
  simp only at h0
  subst h0
  obtain ⟨A, c, hX, ha, hrow⟩ := hr
  have c1 : w.cell? ⟨br, 1, none⟩ = some (Value.int .i64 (off : Int)) := by rw [ha.cell]; rfl
  have c3 : w.cell? ⟨br, 3, none⟩ = some (Value.int .i64 0) := by rw [ha.cell]; rfl
  have hlt := ha.lt
  have HR := Lib.hid (And.intro ha hrow)
  have HK := Lib.hid hk
  clear ha hrow hk
  have hmf : ∀ (fn : Fn) (first cap : Array Value) (w : World), (Instr.makeFunc fn first cap).run Tryz.prog w = .ok (.func fn first cap) w := fun _ _ _ _ => rfl
  go_enter_defers Tryz.func105, Tryz.ntmps105
  go_wp2_with fail
  obtain ⟨W, hW⟩ : ∃ W, W = ((w.alloc (Obj.cells #[Value.pointer (some ⟨br, 0, none⟩)] 114)).alloc (Obj.cells #[Value.int IntKind.u64 0] 140)).alloc (Obj.cells #[Value.int .i64 (off : Int)] 3) := ⟨_, rfl⟩
  rw [← hW]
  have HW : Hid (At W w.heap.size 114 [Value.pointer (some ⟨br, 0, none⟩)] ∧ At W (w.heap.size + 1) 140 [.int .u64 0] ∧ At W (w.heap.size + 1 + 1) 3 [Value.int .i64 (off : Int)] ∧ Fr [] w W ∧ ReaderAt X W br D off last 0) := by
    rw [hW]
    refine ⟨((At.new w 114 [Value.pointer (some ⟨br, 0, none⟩)]).alloc _).alloc _, ?_, ?_, (((Fr.refl _ _).alloc _).alloc _).alloc _, A, c, hX, ((HR.out.1.alloc _).alloc _).alloc _, ((HR.out.2.alloc _).alloc _).alloc _⟩
    · have := (At.new (w.alloc (Obj.cells #[Value.pointer (some ⟨br, 0, none⟩)] 114)) 140 [.int .u64 0]).alloc (Obj.cells #[Value.int .i64 (off : Int)] 3)
      simpa using this
    · have := At.new ((w.alloc (Obj.cells #[Value.pointer (some ⟨br, 0, none⟩)] 114)).alloc (Obj.cells #[Value.int IntKind.u64 0] 140)) 3 [Value.int .i64 (off : Int)]
      simpa using this
  clear hW c1 c3
  have d0 : W.cell? ⟨w.heap.size, 0, none⟩ = some (Value.pointer (some ⟨br, 0, none⟩)) := by rw [HW.out.1.cell]; rfl
  have nb1 : w.heap.size ≠ br := by omega
  have nb2 : br ≠ w.heap.size := by omega
  cases hrd : rdNum D off with
  | some p =>
    obtain ⟨n, m⟩ := p
    have HD := Lib.hid hrd
    clear hrd
    go_region_held3 (fun w' => w'.cell? ⟨w.heap.size, 0, none⟩ = some (Value.pointer (some ⟨br, 0, none⟩))) (go_keep) (first | (go_at_call 101; refine (number_some br D off last _ (by exact HW.out.2.2.2.2) HK.out.off HK.out.len n m HD.out).mono ?_; rintro e w1 ⟨rfl, hf1, hr1, hm1, hu1⟩; obtain ⟨e0, e1, z1, e3, z3⟩ := rv_cells (W := W) HW.out.1 HW.out.2.1 HW.out.2.2.2.2 hf1 hr1; have H1 := Lib.hid (And.intro hf1 (And.intro hr1 (And.intro hm1 hu1))); clear hf1 hr1 hm1 hu1))
    go_wp2_with fail
    obtain ⟨k0, k1, k2, k3, kf⟩ := rv_end HW.out.1 HW.out.2.1 HW.out.2.2.1 HW.out.2.2.2.2 H1.out.1 H1.out.2.1 (.int .u64 (n : Int)) (Value.int .i64 0) (by omega) (by decide)
    refine leaves_cons (f := 122) (args := #[Value.pointer (some ⟨w.heap.size + 1 + 1, 0, none⟩), Value.pointer (some ⟨w.heap.size, 0, none⟩), Value.pointer (some ⟨w.heap.size + 1, 0, none⟩)]) (by simp) (by simp [go_sem]) ?_
    obtain ⟨A', c', hX', k3'⟩ := k3
    refine (rvClose_ok _ _ _ br A' _ c' _ _ _ _ k2 k0 k3'.1).mono ?_
    rintro e u' w'' ⟨rfl, rfl, rfl⟩
    obtain ⟨g1, g2, g3⟩ := rv_done (off := off) HW.out.2.2.2.1 kf (by omega) k1 (by decide) k3'.1 k3'.2 hX'
    refine ⟨.int .u64 (n : Int), by simp [results, Tryz.results105, go_sem, g1], ?_, g2, ?_⟩
    · simp only [Rd.uint, if_true, HD.out]
    · simp only [Rd.uint, if_true, HD.out]
      exact g3
  | none =>
    have HD := Lib.hid hrd
    clear hrd
    go_region_held3 (fun w' => w'.cell? ⟨w.heap.size, 0, none⟩ = some (Value.pointer (some ⟨br, 0, none⟩))) (go_keep) (first | (go_at_call 101; refine (number_none br D off last _ (by exact HW.out.2.2.2.2) HK.out.off HK.out.len HD.out).mono ?_; rintro e w1 ⟨rfl, hf1, off', hm1, hr1⟩; obtain ⟨e0, e1, z1, e3, z3⟩ := rv_cells (W := W) HW.out.1 HW.out.2.1 HW.out.2.2.2.2 hf1 hr1; have H1 := Lib.hid (And.intro hf1 (And.intro hr1 hm1)); clear hf1 hr1 hm1))
    go_wp2_with fail
    obtain ⟨k0, k1, k2, k3, kf⟩ := rv_end HW.out.1 HW.out.2.1 HW.out.2.2.1 HW.out.2.2.2.2 H1.out.1 H1.out.2.1 (.int .u64 0) (Value.int .i64 3) (by omega) (by decide)
    refine leaves_cons (f := 122) (args := #[Value.pointer (some ⟨w.heap.size + 1 + 1, 0, none⟩), Value.pointer (some ⟨w.heap.size, 0, none⟩), Value.pointer (some ⟨w.heap.size + 1, 0, none⟩)]) (by simp) (by simp [go_sem]) ?_
    obtain ⟨A', c', hX', k3'⟩ := k3
    refine (rvClose_err _ _ _ br A' _ c' _ _ _ 3 0 _ k2 k0 k1 k3'.1 (by decide)).mono ?_
    rintro e u' w'' ⟨rfl, rfl, rfl⟩
    obtain ⟨g1, g2, g3⟩ := rv_failed (off := off) (z := .int .u64 0) HW.out.2.2.2.1 kf (by omega) k1 (by decide) (by decide) k3'.1 k3'.2 hX'
    refine ⟨.int .u64 0, by simp [results, Tryz.results105, go_sem, g1], ?_, g2, ?_⟩
    · simp only [Rd.uint, if_true, HD.out]
      rfl
    · simp only [Rd.uint, if_true, HD.out]
      exact g3

set_option maxRecDepth 100000 in
theorem readU64_err (br : Nat) (r : Rd) (fv : Value) (w : World) (hr : RdAt X w br r) (h0 : r.err ≠ 0) :
    Calls Tryz.prog 105 #[Value.pointer (some ⟨br, 0, none⟩), fv] w fun e w' => e = .returned (.int .u64 0) ∧ Fr [] w w' ∧ RdAt X w' br r := by
  have hr0 := hr
  obtain ⟨A, c, hX, ha, hrow⟩ := hr
  have c3 : w.cell? ⟨br, 3, none⟩ = some (Value.int .i64 r.err) := by rw [ha.cell]; rfl
  have hb : (r.err != 0) = true := by simpa using h0
  have hlt := ha.lt
  have HR := Lib.hid hr0
  clear ha hrow hr0 h0
  go_enter_defers Tryz.func105, Tryz.ntmps105
  go_wp2_with fail
  have hf : Fr [] w ((w.alloc (Obj.cells #[Value.pointer (some ⟨br, 0, none⟩)] 114)).alloc (Obj.cells #[Value.int IntKind.u64 0] 140)) := ((Fr.refl _ _).alloc _).alloc _
  exact ⟨.int .u64 0, by simp [results, Tryz.results105, go_sem], rfl, hf, ReaderAt.fr HR.out hf⟩

end Go.Proofs.YtlepfnihpdhcaaaGreatDoor
