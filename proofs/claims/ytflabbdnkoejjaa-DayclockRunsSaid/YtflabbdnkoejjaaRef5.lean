/- Contracts of the reference's reader. -/
import Derived.Test.YtflabbdnkoejjaaRef4
import Derived.Deep.RegionHeld3
namespace Go.Proofs.Ytflabbdnkoejjaa
open Go.RowKit

/-- The reference's reader. -/
def RRAt (w : World) (br : Nat) (A : Option Addr) (c : Nat) (r : Rd) : Prop :=
  ∃ last : Nat, At w br 82 [.slice A r.D.length c, Value.int .i64 (r.off : Int), Value.int .i64 (last : Int), Value.int .i64 r.err]

/-- Six cells of a block, stored one behind the other. -/
def setSix (w : World) (b : Nat) (v0 v1 v2 v3 v4 v5 : Value) : World :=
  (((((w.setCell ⟨b, 0, none⟩ v0).setCell ⟨b, 1, none⟩ v1).setCell ⟨b, 2, none⟩ v2).setCell ⟨b, 3, none⟩ v3).setCell ⟨b, 4, none⟩ v4).setCell ⟨b, 5, none⟩ v5
theorem Fr.setSix {S : List Nat} {a w : World} (h : Fr S a w) {b : Nat} (hb : b ∈ S ∨ a.heap.size ≤ b) (v0 v1 v2 v3 v4 v5 : Value) : Fr S a (setSix w b v0 v1 v2 v3 v4 v5) :=
  (((((h.setCell (by exact hb) _).setCell (by exact hb) _).setCell (by exact hb) _).setCell (by exact hb) _).setCell (by exact hb) _).setCell (by exact hb) _
theorem At.setSix {w : World} {b' b : Nat} {t : TypeId} {l : List Value} (h : At w b' t l) (hb : b' ≠ b) (v0 v1 v2 v3 v4 v5 : Value) : At (setSix w b v0 v1 v2 v3 v4 v5) b' t l :=
  (((((h.far (by exact hb) _).far (by exact hb) _).far (by exact hb) _).far (by exact hb) _).far (by exact hb) _).far (by exact hb) _

theorem At.six {w : World} {b : Nat} {t : TypeId} {v0 v1 v2 v3 v4 v5 : Value} (h : At w b t [v0, v1, v2, v3, v4, v5]) :
    (w.cell? ⟨b, 0, none⟩ = some v0 ∧ w.cell? ⟨b, 1, none⟩ = some v1 ∧ w.cell? ⟨b, 2, none⟩ = some v2 ∧ w.cell? ⟨b, 3, none⟩ = some v3 ∧ w.cell? ⟨b, 4, none⟩ = some v4 ∧ w.cell? ⟨b, 5, none⟩ = some v5) ∧
    (w.frozen? ⟨b, 0, none⟩ = false ∧ w.frozen? ⟨b, 1, none⟩ = false ∧ w.frozen? ⟨b, 2, none⟩ = false ∧ w.frozen? ⟨b, 3, none⟩ = false ∧ w.frozen? ⟨b, 4, none⟩ = false ∧ w.frozen? ⟨b, 5, none⟩ = false) :=
  ⟨⟨h.cell 0, h.cell 1, h.cell 2, h.cell 3, h.cell 4, h.cell 5⟩, h.frozen 0, h.frozen 1, h.frozen 2, h.frozen 3, h.frozen 4, h.frozen 5⟩

set_option maxRecDepth 100000 in
set_option maxHeartbeats 4000000 in
theorem rread_err (br : Nat) (A : Option Addr) (c : Nat) (r : Rd) (kind most : Int) (w : World) (hr : RRAt w br A c r) (he : r.err ≠ 0) :
    Calls Try.prog 44 #[Value.pointer (some ⟨br, 0, none⟩), Value.int .i64 kind, Value.int .i64 most] w fun e w' => e = .returned (.agg #[Value.int .i64 kind, .int .u64 0, Value.int .i64 0, Value.bool false, .string ⟨#[]⟩, Value.int .i64 most]) ∧ Fr [] w w' := by
  obtain ⟨last, ha⟩ := hr
  have hlt := ha.lt
  have c3 : w.cell? ⟨br, 3, none⟩ = some (Value.int .i64 r.err) := by rw [ha.cell]; rfl
  have tb : (r.err != 0) = true := by simpa using he
  clear ha he
  go_enter Try.func44, Try.ntmps44
  go_wp2_with fail
  exact bodyPost_ret (v := .agg #[Value.int .i64 kind, .int .u64 0, Value.int .i64 0, Value.bool false, .string ⟨#[]⟩, Value.int .i64 most]) (by simp [results, Try.results44, go_sem]) rfl ⟨rfl, ((Fr.refl _ _).alloc _).alloc _⟩

set_option maxRecDepth 100000 in
set_option maxHeartbeats 4000000 in
theorem rread_fail (br : Nat) (A : Option Addr) (c : Nat) (r : Rd) (kind most ec u n : Int) (b : Bool) (w : World) (hr : RRAt w br A c r) (he : r.err = 0) (hk : kind ≠ 0) (hec : ec ≠ 0)
    (hread : ∀ W, Fr [] w W → Calls Try.prog 60 #[.slice A r.D.length c, Value.int .i64 (r.off : Int), Value.int .i64 kind, Value.int .i64 most] W fun e w' => e = .returned (.tuple #[.agg #[Value.int .i64 kind, .int .u64 u, Value.int .i64 n, Value.bool b, .string ⟨#[]⟩, Value.int .i64 most], Value.int .i64 (r.off : Int), Value.int .i64 ec]) ∧ Fr [] W w') :
    Calls Try.prog 44 #[Value.pointer (some ⟨br, 0, none⟩), Value.int .i64 kind, Value.int .i64 most] w fun e w' => e = .returned (.agg #[Value.int .i64 kind, .int .u64 0, Value.int .i64 0, Value.bool false, .string ⟨#[]⟩, Value.int .i64 most]) ∧ Fr [br] w w' ∧ RRAt w' br A c (r.fail ec) := by
  obtain ⟨last, ha⟩ := hr
  have hlt := ha.lt
  have hne : br ≠ w.heap.size := by omega
  have c0 : w.cell? ⟨br, 0, none⟩ = some (.slice A r.D.length c) := by rw [ha.cell]; rfl
  have c1 : w.cell? ⟨br, 1, none⟩ = some (Value.int .i64 (r.off : Int)) := by rw [ha.cell]; rfl
  have c3 : w.cell? ⟨br, 3, none⟩ = some (Value.int .i64 r.err) := by rw [ha.cell]; rfl
  have tb : (r.err != 0) = false := by simpa using he
  have tk : (kind == 0) = false := by simpa using hk
  have te : (ec != 0) = true := by simpa using hec
  have H := Lib.hid (And.intro ha hread)
  clear ha he hread hk hec
  go_enter Try.func44, Try.ntmps44
  go_wp2_with fail
  obtain ⟨W, hW⟩ : ∃ W, W = (w.alloc (.cells #[Value.int .i64 0, .int .u64 0, Value.int .i64 0, Value.bool false, .string ⟨#[]⟩, Value.int .i64 0] 76)).alloc (.cells #[Value.int .i64 kind, .int .u64 0, Value.int .i64 0, Value.bool false, .string ⟨#[]⟩, Value.int .i64 most] 76) := ⟨_, rfl⟩
  rw [← hW]
  have HW : Hid (At W w.heap.size 76 [Value.int .i64 0, .int .u64 0, Value.int .i64 0, Value.bool false, .string ⟨#[]⟩, Value.int .i64 0] ∧ At W (w.heap.size + 1) 76 [Value.int .i64 kind, .int .u64 0, Value.int .i64 0, Value.bool false, .string ⟨#[]⟩, Value.int .i64 most] ∧ Fr [] w W ∧ At W br 82 [.slice A r.D.length c, Value.int .i64 (r.off : Int), Value.int .i64 (last : Int), Value.int .i64 r.err]) := by
    rw [hW]
    obtain ⟨h0, h1⟩ := two_new w 76 76 [Value.int .i64 0, .int .u64 0, Value.int .i64 0, Value.bool false, .string ⟨#[]⟩, Value.int .i64 0] [Value.int .i64 kind, .int .u64 0, Value.int .i64 0, Value.bool false, .string ⟨#[]⟩, Value.int .i64 most] (Fr.refl [] _)
    exact ⟨h0, h1, ((Fr.refl _ _).alloc _).alloc _, (H.out.1.alloc _).alloc _⟩
  have hWs : w.heap.size + 2 ≤ W.heap.size := by rw [hW]; simp
  clear hW c0 c1 c3
  have hne2 : br ≠ W.heap.size := by omega
  have hne3 : W.heap.size ≠ br := by omega
  have hne4 : w.heap.size ≠ W.heap.size := by omega
  have hne5 : w.heap.size + 1 ≠ W.heap.size := by omega
  have c0 : W.cell? ⟨br, 0, none⟩ = some (.slice A r.D.length c) := by rw [HW.out.2.2.2.cell]; rfl
  have c1 : W.cell? ⟨br, 1, none⟩ = some (Value.int .i64 (r.off : Int)) := by rw [HW.out.2.2.2.cell]; rfl
  go_region_held3 (fun w' => w'.cell? ⟨br, 0, none⟩ = some (.slice A r.D.length c) ∧ w'.cell? ⟨br, 1, none⟩ = some (Value.int .i64 (r.off : Int))) (go_keep) (first
    | (go_at_call 60; ((with_reducible refine (H.out.2 W.drew HW.out.2.2.1.drew).mono ?_)); rintro e w1 ⟨rfl, hf1⟩; have ha1 := HW.out.2.2.2.drew.fr hf1 (by simp); have e0 : w1.cell? ⟨br, 0, none⟩ = some (.slice A r.D.length c) := (by rw [ha1.cell]; rfl); have e1 : w1.cell? ⟨br, 1, none⟩ = some (Value.int .i64 (r.off : Int)) := (by rw [ha1.cell]; rfl); have hr1 := (HW.out.1).drew.fr hf1 (by simp); have hz1 := (HW.out.2.1).drew.fr hf1 (by simp); obtain ⟨⟨y0, y1, y2, y3, y4, y5⟩, t0, t1, t2, t3, t4, t5⟩ := hr1.six; obtain ⟨⟨s0, s1, s2, s3, s4, s5⟩, _⟩ := hz1.six; have e3 : w1.cell? ⟨br, 3, none⟩ = some (Value.int .i64 r.err) := (by rw [ha1.cell]; rfl); have f3 := ha1.frozen 3; have hw1 : W.heap.size ≤ w1.heap.size := hf1.size; have H1 := Lib.hid (And.intro hf1 (And.intro ha1 (And.intro hr1 hz1))); clear hf1 ha1 hr1 hz1)
    | (go_at_call 60; refine (H.out.2 _ (HW.out.2.2.1.alloc _).drew).mono ?_; rintro e w1 ⟨rfl, hf1⟩; have ha1 := (HW.out.2.2.2.alloc _).drew.fr hf1 (by simp); have e0 : w1.cell? ⟨br, 0, none⟩ = some (.slice A r.D.length c) := (by rw [ha1.cell]; rfl); have e1 : w1.cell? ⟨br, 1, none⟩ = some (Value.int .i64 (r.off : Int)) := (by rw [ha1.cell]; rfl); have hb1 := (At.new W 76 [Value.int .i64 0, .int .u64 0, Value.int .i64 0, Value.bool false, .string ⟨#[]⟩, Value.int .i64 0]).drew.fr hf1 (by simp); obtain ⟨⟨x0, x1, x2, x3, x4, x5⟩, z0, z1, z2, z3, z4, z5⟩ := hb1.six; have hr1 := (HW.out.1.alloc _).drew.fr hf1 (by simp); have hz1 := (HW.out.2.1.alloc _).drew.fr hf1 (by simp); obtain ⟨⟨y0, y1, y2, y3, y4, y5⟩, t0, t1, t2, t3, t4, t5⟩ := hr1.six; obtain ⟨⟨s0, s1, s2, s3, s4, s5⟩, _⟩ := hz1.six; have e3 : w1.cell? ⟨br, 3, none⟩ = some (Value.int .i64 r.err) := (by rw [ha1.cell]; rfl); have f3 := ha1.frozen 3; have hw1 : W.heap.size + 1 ≤ w1.heap.size := (by have := hf1.size; simpa using this); have H1 := Lib.hid (And.intro hf1 (And.intro ha1 (And.intro hr1 (And.intro hz1 hb1)))); clear hf1 ha1 hb1 hr1 hz1))
  · obtain ⟨V, hV⟩ : ∃ V, V = w1.alloc (.cells #[Value.int .i64 kind, .int .u64 u, Value.int .i64 n, Value.bool b, .string ⟨#[]⟩, Value.int .i64 most] 76) := ⟨_, rfl⟩
    rw [← hV]
    have HV : Hid (Fr [] w V ∧ At V br 82 [.slice A r.D.length c, Value.int .i64 (r.off : Int), Value.int .i64 (last : Int), Value.int .i64 r.err] ∧ At V w.heap.size 76 [Value.int .i64 0, .int .u64 0, Value.int .i64 0, Value.bool false, .string ⟨#[]⟩, Value.int .i64 0] ∧ At V (w.heap.size + 1) 76 [Value.int .i64 kind, .int .u64 0, Value.int .i64 0, Value.bool false, .string ⟨#[]⟩, Value.int .i64 most]) := by
      rw [hV]
      exact ⟨((HW.out.2.2.1.drew).trans H1.out.1).alloc _, H1.out.2.1.alloc _, H1.out.2.2.1.alloc _, H1.out.2.2.2.alloc _⟩
    clear hV y0 y1 y2 y3 y4 y5 t0 t1 t2 t3 t4 t5 s0 s1 s2 s3 s4 s5 e0 e1 e3 f3 c0 c1
    obtain ⟨⟨y0, y1, y2, y3, y4, y5⟩, t0, t1, t2, t3, t4, t5⟩ := HV.out.2.2.1.six
    obtain ⟨⟨s0, s1, s2, s3, s4, s5⟩, _⟩ := HV.out.2.2.2.six
    have e3 : V.cell? ⟨br, 3, none⟩ = some (Value.int .i64 r.err) := (by rw [HV.out.2.1.cell]; rfl)
    have f3 := HV.out.2.1.frozen 3
    go_wp2_with fail
    refine bodyPost_ret (v := .agg #[Value.int .i64 kind, .int .u64 0, Value.int .i64 0, Value.bool false, .string ⟨#[]⟩, Value.int .i64 most]) (by simp [results, Try.results44, go_sem, *]) rfl ⟨rfl, ?_, ?_⟩
    · exact ((HV.out.1.mono (S' := [br]) (by simp)).setCell (.inl (by simp)) _).setSix (.inr (Nat.le_refl _)) _ _ _ _ _ _
    · exact ⟨last, (HV.out.2.1.set 3 _).setSix hne _ _ _ _ _ _⟩
  · go_wp2_with fail
    refine bodyPost_ret (v := .agg #[Value.int .i64 kind, .int .u64 0, Value.int .i64 0, Value.bool false, .string ⟨#[]⟩, Value.int .i64 most]) (by simp [results, Try.results44, go_sem, *]) rfl ⟨rfl, ?_, ?_⟩
    · exact ((((((HW.out.2.2.1.alloc _).drew.trans H1.out.1).mono (S' := [br]) (by simp)).setSix (.inr (by omega)) _ _ _ _ _ _).setCell (.inl (by simp)) _).setSix (.inr (Nat.le_refl _)) _ _ _ _ _ _)
    · exact ⟨last, ((H1.out.2.1.setSix hne2 _ _ _ _ _ _).set 3 _).setSix hne _ _ _ _ _ _⟩

set_option maxRecDepth 100000 in
set_option maxHeartbeats 4000000 in
theorem rread_ok (br : Nat) (A : Option Addr) (c : Nat) (r : Rd) (kind most u n : Int) (b : Bool) (sv : ByteArray) (m : Nat) (w : World) (hr : RRAt w br A c r) (he : r.err = 0) (hk : kind ≠ 0)
    (hread : ∀ W, Fr [] w W → Calls Try.prog 60 #[.slice A r.D.length c, Value.int .i64 (r.off : Int), Value.int .i64 kind, Value.int .i64 most] W fun e w' => e = .returned (.tuple #[.agg #[Value.int .i64 kind, .int .u64 u, Value.int .i64 n, Value.bool b, .string sv, Value.int .i64 most], Value.int .i64 (m : Int), Value.int .i64 0]) ∧ Fr [] W w') :
    Calls Try.prog 44 #[Value.pointer (some ⟨br, 0, none⟩), Value.int .i64 kind, Value.int .i64 most] w fun e w' => e = .returned (.agg #[Value.int .i64 kind, .int .u64 u, Value.int .i64 n, Value.bool b, .string sv, Value.int .i64 most]) ∧ Fr [br] w w' ∧ RRAt w' br A c (r.done m) := by
  obtain ⟨last, ha⟩ := hr
  have hlt := ha.lt
  have hne : br ≠ w.heap.size := by omega
  have c0 : w.cell? ⟨br, 0, none⟩ = some (.slice A r.D.length c) := by rw [ha.cell]; rfl
  have c1 : w.cell? ⟨br, 1, none⟩ = some (Value.int .i64 (r.off : Int)) := by rw [ha.cell]; rfl
  have c3 : w.cell? ⟨br, 3, none⟩ = some (Value.int .i64 r.err) := by rw [ha.cell]; rfl
  have tb : (r.err != 0) = false := by simpa using he
  have tk : (kind == 0) = false := by simpa using hk
  have H := Lib.hid (And.intro ha hread)
  clear ha he hread hk
  go_enter Try.func44, Try.ntmps44
  go_wp2_with fail
  obtain ⟨W, hW⟩ : ∃ W, W = (w.alloc (.cells #[Value.int .i64 0, .int .u64 0, Value.int .i64 0, Value.bool false, .string ⟨#[]⟩, Value.int .i64 0] 76)).alloc (.cells #[Value.int .i64 kind, .int .u64 0, Value.int .i64 0, Value.bool false, .string ⟨#[]⟩, Value.int .i64 most] 76) := ⟨_, rfl⟩
  rw [← hW]
  have HW : Hid (At W w.heap.size 76 [Value.int .i64 0, .int .u64 0, Value.int .i64 0, Value.bool false, .string ⟨#[]⟩, Value.int .i64 0] ∧ At W (w.heap.size + 1) 76 [Value.int .i64 kind, .int .u64 0, Value.int .i64 0, Value.bool false, .string ⟨#[]⟩, Value.int .i64 most] ∧ Fr [] w W ∧ At W br 82 [.slice A r.D.length c, Value.int .i64 (r.off : Int), Value.int .i64 (last : Int), Value.int .i64 r.err]) := by
    rw [hW]
    obtain ⟨h0, h1⟩ := two_new w 76 76 [Value.int .i64 0, .int .u64 0, Value.int .i64 0, Value.bool false, .string ⟨#[]⟩, Value.int .i64 0] [Value.int .i64 kind, .int .u64 0, Value.int .i64 0, Value.bool false, .string ⟨#[]⟩, Value.int .i64 most] (Fr.refl [] _)
    exact ⟨h0, h1, ((Fr.refl _ _).alloc _).alloc _, (H.out.1.alloc _).alloc _⟩
  have hWs : w.heap.size + 2 ≤ W.heap.size := by rw [hW]; simp
  clear hW c0 c1 c3
  have hne2 : br ≠ W.heap.size := by omega
  have hne3 : W.heap.size ≠ br := by omega
  have hne4 : w.heap.size ≠ W.heap.size := by omega
  have hne5 : w.heap.size + 1 ≠ W.heap.size := by omega
  have c0 : W.cell? ⟨br, 0, none⟩ = some (.slice A r.D.length c) := by rw [HW.out.2.2.2.cell]; rfl
  have c1 : W.cell? ⟨br, 1, none⟩ = some (Value.int .i64 (r.off : Int)) := by rw [HW.out.2.2.2.cell]; rfl
  go_region_held3 (fun w' => w'.cell? ⟨br, 0, none⟩ = some (.slice A r.D.length c) ∧ w'.cell? ⟨br, 1, none⟩ = some (Value.int .i64 (r.off : Int))) (go_keep) (first
    | (go_at_call 60; ((with_reducible refine (H.out.2 W.drew HW.out.2.2.1.drew).mono ?_)); rintro e w1 ⟨rfl, hf1⟩; have ha1 := HW.out.2.2.2.drew.fr hf1 (by simp); have e0 : w1.cell? ⟨br, 0, none⟩ = some (.slice A r.D.length c) := (by rw [ha1.cell]; rfl); have e1 : w1.cell? ⟨br, 1, none⟩ = some (Value.int .i64 (r.off : Int)) := (by rw [ha1.cell]; rfl); have hr1 := (HW.out.1).drew.fr hf1 (by simp); have hz1 := (HW.out.2.1).drew.fr hf1 (by simp); obtain ⟨⟨y0, y1, y2, y3, y4, y5⟩, t0, t1, t2, t3, t4, t5⟩ := hr1.six; obtain ⟨⟨s0, s1, s2, s3, s4, s5⟩, _⟩ := hz1.six; have e2 : w1.cell? ⟨br, 2, none⟩ = some (Value.int .i64 (last : Int)) := (by rw [ha1.cell]; rfl); have f1 := ha1.frozen 1; have f2 := ha1.frozen 2; have hw1 : W.heap.size ≤ w1.heap.size := hf1.size; have H1 := Lib.hid (And.intro hf1 (And.intro ha1 (And.intro hr1 hz1))); clear hf1 ha1 hr1 hz1)
    | (go_at_call 60; refine (H.out.2 _ (HW.out.2.2.1.alloc _).drew).mono ?_; rintro e w1 ⟨rfl, hf1⟩; have ha1 := (HW.out.2.2.2.alloc _).drew.fr hf1 (by simp); have e0 : w1.cell? ⟨br, 0, none⟩ = some (.slice A r.D.length c) := (by rw [ha1.cell]; rfl); have e1 : w1.cell? ⟨br, 1, none⟩ = some (Value.int .i64 (r.off : Int)) := (by rw [ha1.cell]; rfl); have hb1 := (At.new W 76 [Value.int .i64 0, .int .u64 0, Value.int .i64 0, Value.bool false, .string ⟨#[]⟩, Value.int .i64 0]).drew.fr hf1 (by simp); obtain ⟨⟨x0, x1, x2, x3, x4, x5⟩, z0, z1, z2, z3, z4, z5⟩ := hb1.six; have hr1 := (HW.out.1.alloc _).drew.fr hf1 (by simp); have hz1 := (HW.out.2.1.alloc _).drew.fr hf1 (by simp); obtain ⟨⟨y0, y1, y2, y3, y4, y5⟩, t0, t1, t2, t3, t4, t5⟩ := hr1.six; obtain ⟨⟨s0, s1, s2, s3, s4, s5⟩, _⟩ := hz1.six; have e2 : w1.cell? ⟨br, 2, none⟩ = some (Value.int .i64 (last : Int)) := (by rw [ha1.cell]; rfl); have f1 := ha1.frozen 1; have f2 := ha1.frozen 2; have hw1 : W.heap.size + 1 ≤ w1.heap.size := (by have := hf1.size; simpa using this); have H1 := Lib.hid (And.intro hf1 (And.intro ha1 (And.intro hr1 (And.intro hz1 hb1)))); clear hf1 ha1 hb1 hr1 hz1))
  · obtain ⟨V, hV⟩ : ∃ V, V = w1.alloc (.cells #[Value.int .i64 kind, .int .u64 u, Value.int .i64 n, Value.bool b, .string sv, Value.int .i64 most] 76) := ⟨_, rfl⟩
    rw [← hV]
    have HV : Hid (Fr [] w V ∧ At V br 82 [.slice A r.D.length c, Value.int .i64 (r.off : Int), Value.int .i64 (last : Int), Value.int .i64 r.err] ∧ At V w.heap.size 76 [Value.int .i64 0, .int .u64 0, Value.int .i64 0, Value.bool false, .string ⟨#[]⟩, Value.int .i64 0] ∧ At V w1.heap.size 76 [Value.int .i64 kind, .int .u64 u, Value.int .i64 n, Value.bool b, .string sv, Value.int .i64 most]) := by
      rw [hV]
      exact ⟨((HW.out.2.2.1.drew).trans H1.out.1).alloc _, H1.out.2.1.alloc _, H1.out.2.2.1.alloc _, At.new _ _ _⟩
    clear hV y0 y1 y2 y3 y4 y5 t0 t1 t2 t3 t4 t5 s0 s1 s2 s3 s4 s5 e0 e1 e2 f1 f2 c0 c1
    obtain ⟨⟨y0, y1, y2, y3, y4, y5⟩, t0, t1, t2, t3, t4, t5⟩ := HV.out.2.2.1.six
    obtain ⟨⟨s0, s1, s2, s3, s4, s5⟩, _⟩ := HV.out.2.2.2.six
    have e1 : V.cell? ⟨br, 1, none⟩ = some (Value.int .i64 (r.off : Int)) := (by rw [HV.out.2.1.cell]; rfl)
    have e2 : V.cell? ⟨br, 2, none⟩ = some (Value.int .i64 (last : Int)) := (by rw [HV.out.2.1.cell]; rfl)
    have f1 := HV.out.2.1.frozen 1
    have f2 := HV.out.2.1.frozen 2
    have hn8 : w1.heap.size ≠ br := by omega
    have hn9 : br ≠ w1.heap.size := by omega
    have hn10 : w.heap.size ≠ w1.heap.size := by omega
    have hn11 : w1.heap.size ≠ w.heap.size := by omega
    go_wp2_with fail
    refine bodyPost_ret (v := .agg #[Value.int .i64 kind, .int .u64 u, Value.int .i64 n, Value.bool b, .string sv, Value.int .i64 most]) (by simp [results, Try.results44, go_sem, *]) rfl ⟨rfl, ?_, ?_⟩
    · exact (((HV.out.1.mono (S' := [br]) (by simp)).setCell (.inl (by simp)) _).setCell (.inl (by simp)) _).setSix (.inr (Nat.le_refl _)) _ _ _ _ _ _
    · exact ⟨r.off, by have := ((HV.out.2.1.set 2 (Value.int .i64 (r.off : Int))).set 1 (Value.int .i64 (m : Int))).setSix hne (Value.int .i64 kind) (.int .u64 u) (Value.int .i64 n) (Value.bool b) (.string sv) (Value.int .i64 most); exact this⟩
  · go_wp2_with fail
    refine bodyPost_ret (v := .agg #[Value.int .i64 kind, .int .u64 u, Value.int .i64 n, Value.bool b, .string sv, Value.int .i64 most]) (by simp [results, Try.results44, go_sem, *]) rfl ⟨rfl, ?_, ?_⟩
    · exact (((((((HW.out.2.2.1.alloc _).drew.trans H1.out.1).mono (S' := [br]) (by simp)).setSix (.inr (by omega)) _ _ _ _ _ _).setCell (.inl (by simp)) _).setCell (.inl (by simp)) _).setSix (.inr (Nat.le_refl _)) _ _ _ _ _ _)
    · exact ⟨r.off, (((H1.out.2.1.setSix hne2 _ _ _ _ _ _).set 2 _).set 1 _).setSix hne _ _ _ _ _ _⟩

end Go.Proofs.Ytflabbdnkoejjaa
