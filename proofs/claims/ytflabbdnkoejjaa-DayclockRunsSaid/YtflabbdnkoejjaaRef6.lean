/- Contracts of the reference's reader: ints, bools, counts, End. -/
import Derived.Test.YtflabbdnkoejjaaRef5
import Derived.Test.YtflabbdnkoejjaaRdOk
import Derived.Deep.QuietTactic
import Derived.BigQuiet
namespace Go.Proofs.Ytflabbdnkoejjaa
open Go.RowKit

/-- The reference's reader, with its bytes. -/
structure RR (w : World) (br : Nat) (A : Option Addr) (c : Nat) (r : Rd) : Prop where
  at_ : RRAt w br A c r
  row : RowIn w A (B8 r.D)
  ok : r.Ok

theorem RR.fr {w w' : World} {br : Nat} {A : Option Addr} {c : Nat} {r : Rd} (h : RR w br A c r) (hf : Fr [] w w') : RR w' br A c r := by
  obtain ⟨last, ha⟩ := h.at_
  exact ⟨⟨last, ha.fr hf (by simp)⟩, h.row.fr0 hf, h.ok⟩

theorem RR.step {w w' : World} {br : Nat} {A : Option Addr} {c : Nat} {r r' : Rd} (h : RR w br A c r) (hf : Fr [br] w w') (ha : RRAt w' br A c r') (hD : r'.D = r.D) (hk : r'.Ok) : RR w' br A c r' := by
  refine ⟨ha, ?_, hk⟩
  rw [hD]
  obtain ⟨last, ha0⟩ := h.at_
  intro i u hu
  obtain ⟨b, o, hA, hb, hc⟩ := h.row i u hu
  have hne : b ≠ br := by
    rintro rfl
    rw [ha0.cell] at hc
    have hu' : ∃ x : Int, u = .int .u8 x := by
      unfold B8 at hu
      rw [List.getElem?_map] at hu
      cases hd : r.D[i]? with
      | none => rw [hd] at hu; cases hu
      | some x => rw [hd] at hu; simp at hu; exact ⟨_, hu.symm⟩
    obtain ⟨x, rfl⟩ := hu'
    have hm := List.mem_of_getElem? hc
    simp at hm
  exact ⟨b, o, hA, Nat.lt_of_lt_of_le hb hf.size, by rw [hf.cell (p := ⟨b, o + i, none⟩) hb (by simpa using hne)]; exact hc⟩

theorem RR.lt {w : World} {br : Nat} {A : Option Addr} {c : Nat} {r : Rd} (h : RR w br A c r) : br < w.heap.size := by
  obtain ⟨last, ha⟩ := h.at_
  exact ha.lt

theorem unzig_zero : unzig 0 = 0 := by decide

theorem rrInt (br : Nat) (A : Option Addr) (c : Nat) (r : Rd) (most : Int) (w : World) (h : RR w br A c r) :
    Calls Try.prog 44 #[Value.pointer (some ⟨br, 0, none⟩), Value.int .i64 2, Value.int .i64 most] w fun e w' => e = .returned (.agg #[Value.int .i64 2, .int .u64 0, Value.int .i64 r.int.1, Value.bool false, .string ⟨#[]⟩, Value.int .i64 most]) ∧ Fr [br] w w' ∧ RR w' br A c r.int.2 := by
  by_cases he : r.err = 0
  · cases hd : rdNum r.D r.off with
    | none =>
      have e1 : r.int = (0, r.fail 3) := by unfold Rd.int Rd.uint; rw [if_pos he, hd]; simp [unzig_zero]
      have hD := r.int_D
      have hk := h.ok.int
      rw [e1] at hD hk ⊢
      refine (rread_fail br A c r 2 most 3 0 0 false w h.at_ he (by decide) (by decide) (fun W hf => refread_int_none A c r.D r.off most W (h.row.fr0 hf) h.ok.off h.ok.len hd)).mono ?_
      rintro e w' ⟨rfl, hf, ha⟩
      exact ⟨rfl, hf, h.step hf ha hD hk⟩
    | some p =>
      obtain ⟨n, m⟩ := p
      have e1 : r.int = (unzig n, r.done m) := by unfold Rd.int Rd.uint; rw [if_pos he, hd]
      have hD := r.int_D
      have hk := h.ok.int
      rw [e1] at hD hk ⊢
      refine (rread_ok br A c r 2 most 0 (unzig n) false ⟨#[]⟩ m w h.at_ he (by decide) (fun W hf => refread_int_some A c r.D r.off most W (h.row.fr0 hf) h.ok.off h.ok.len n m hd)).mono ?_
      rintro e w' ⟨rfl, hf, ha⟩
      exact ⟨rfl, hf, h.step hf ha hD hk⟩
  · have e1 : r.int = (0, r) := by unfold Rd.int Rd.uint; rw [if_neg he]; simp [unzig_zero]
    rw [e1]
    refine (rread_err br A c r 2 most w h.at_ he).mono ?_
    rintro e w' ⟨rfl, hf⟩
    exact ⟨rfl, hf.mono (by simp), h.fr hf⟩

theorem rrBool (br : Nat) (A : Option Addr) (c : Nat) (r : Rd) (most : Int) (w : World) (h : RR w br A c r) :
    Calls Try.prog 44 #[Value.pointer (some ⟨br, 0, none⟩), Value.int .i64 3, Value.int .i64 most] w fun e w' => e = .returned (.agg #[Value.int .i64 3, .int .u64 0, Value.int .i64 0, Value.bool r.bool.1, .string ⟨#[]⟩, Value.int .i64 most]) ∧ Fr [br] w w' ∧ RR w' br A c r.bool.2 := by
  by_cases he : r.err = 0
  · have hD := r.bool_D
    have hk := h.ok.bool
    cases hb : r.D[r.off]? with
    | none =>
      have hd : rdBool r.D r.off = none := by unfold rdBool; rw [hb]
      have e1 : r.bool = (false, r.fail 3) := by unfold Rd.bool; rw [if_pos he, hd]
      rw [e1] at hD hk ⊢
      refine (rread_fail br A c r 3 most 3 0 0 false w h.at_ he (by decide) (by decide) (fun W hf => refread_bool_end A c r.D r.off most W (List.getElem?_eq_none_iff.1 hb) h.ok.len)).mono ?_
      rintro e w' ⟨rfl, hf, ha⟩
      exact ⟨rfl, hf, h.step hf ha hD hk⟩
    | some x =>
      by_cases hx : x.toNat ≤ 1
      · have hd : rdBool r.D r.off = some (x.toNat == 1, r.off + 1) := by unfold rdBool; rw [hb]; simp only; rw [if_pos hx]
        have e1 : r.bool = (x.toNat == 1, r.done (r.off + 1)) := by unfold Rd.bool; rw [if_pos he, hd]
        rw [e1] at hD hk ⊢
        refine (rread_ok br A c r 3 most 0 0 (x.toNat == 1) ⟨#[]⟩ (r.off + 1) w h.at_ he (by decide) (fun W hf => refread_bool_some A c r.D r.off most W (h.row.fr0 hf) x hb hx h.ok.len)).mono ?_
        rintro e w' ⟨rfl, hf, ha⟩
        exact ⟨rfl, hf, h.step hf ha hD hk⟩
      · have hd : rdBool r.D r.off = none := by unfold rdBool; rw [hb]; simp only; rw [if_neg hx]
        have e1 : r.bool = (false, r.fail 3) := by unfold Rd.bool; rw [if_pos he, hd]
        rw [e1] at hD hk ⊢
        refine (rread_fail br A c r 3 most 3 0 0 false w h.at_ he (by decide) (by decide) (fun W hf => refread_bool_bad A c r.D r.off most W (h.row.fr0 hf) x hb (by omega) h.ok.len)).mono ?_
        rintro e w' ⟨rfl, hf, ha⟩
        exact ⟨rfl, hf, h.step hf ha hD hk⟩
  · have e1 : r.bool = (false, r) := by unfold Rd.bool; rw [if_neg he]
    rw [e1]
    refine (rread_err br A c r 3 most w h.at_ he).mono ?_
    rintro e w' ⟨rfl, hf⟩
    exact ⟨rfl, hf.mono (by simp), h.fr hf⟩

theorem rrCount (br : Nat) (A : Option Addr) (c : Nat) (r : Rd) (most : Int) (w : World) (h : RR w br A c r) (hm : Fit64 most) :
    Calls Try.prog 44 #[Value.pointer (some ⟨br, 0, none⟩), Value.int .i64 7, Value.int .i64 most] w fun e w' => e = .returned (.agg #[Value.int .i64 7, .int .u64 0, Value.int .i64 ((r.count most).1 : Int), Value.bool false, .string ⟨#[]⟩, Value.int .i64 most]) ∧ Fr [br] w w' ∧ RR w' br A c (r.count most).2 := by
  by_cases he : r.err = 0
  · have hD := r.count_D most
    have hk := h.ok.count most
    cases hd : rdNum r.D r.off with
    | none =>
      have e1 : r.count most = (0, r.fail 3) := by unfold Rd.count; rw [if_pos he, hd]
      rw [e1] at hD hk ⊢
      refine (rread_fail br A c r 7 most 3 0 0 false w h.at_ he (by decide) (by decide) (fun W hf => refread_count_none A c r.D r.off most W (h.row.fr0 hf) h.ok.off h.ok.len hd)).mono ?_
      rintro e w' ⟨rfl, hf, ha⟩
      exact ⟨rfl, hf, h.step hf ha hD hk⟩
    | some p =>
      obtain ⟨n, m⟩ := p
      by_cases hg : max most 0 < (n : Int)
      · have e1 : r.count most = (0, r.fail 2) := by unfold Rd.count; rw [if_pos he, hd]; simp only; rw [if_pos hg]
        rw [e1] at hD hk ⊢
        refine (rread_fail br A c r 7 most 2 0 0 false w h.at_ he (by decide) (by decide) (fun W hf => refread_count_large A c r.D r.off most W (h.row.fr0 hf) h.ok.off h.ok.len n m hd hm hg)).mono ?_
        rintro e w' ⟨rfl, hf, ha⟩
        exact ⟨rfl, hf, h.step hf ha hD hk⟩
      · have e1 : r.count most = (n, r.done m) := by unfold Rd.count; rw [if_pos he, hd]; simp only; rw [if_neg hg]
        rw [e1] at hD hk ⊢
        refine (rread_ok br A c r 7 most 0 (n : Int) false ⟨#[]⟩ m w h.at_ he (by decide) (fun W hf => refread_count_some A c r.D r.off most W (h.row.fr0 hf) h.ok.off h.ok.len n m hd hm hg)).mono ?_
        rintro e w' ⟨rfl, hf, ha⟩
        exact ⟨rfl, hf, h.step hf ha hD hk⟩
  · have e1 : r.count most = (0, r) := by unfold Rd.count; rw [if_neg he]
    rw [e1]
    refine (rread_err br A c r 7 most w h.at_ he).mono ?_
    rintro e w' ⟨rfl, hf⟩
    exact ⟨rfl, hf.mono (by simp), h.fr hf⟩

set_option maxRecDepth 100000 in
theorem rrEnd (br : Nat) (A : Option Addr) (c : Nat) (r : Rd) (w : World) (h : RR w br A c r) :
    Calls Try.prog 45 #[Value.pointer (some ⟨br, 0, none⟩)] w fun e w' => e = .returned (.tuple #[Value.int .i64 (r.off : Int), Value.int .i64 r.end_]) ∧ Fr [] w w' := by
  obtain ⟨last, ha⟩ := h.at_
  have hl := h.ok.off
  have hD := h.ok.len
  have hlI : (r.off : Int) ≤ 4294967296 := by omega
  have c0 : w.cell? ⟨br, 0, none⟩ = some (.slice A r.D.length c) := by rw [ha.cell]; rfl
  have c1 : w.cell? ⟨br, 1, none⟩ = some (Value.int .i64 (r.off : Int)) := by rw [ha.cell]; rfl
  have c3 : w.cell? ⟨br, 3, none⟩ = some (Value.int .i64 r.err) := by rw [ha.cell]; rfl
  clear h ha
  by_cases he : r.err = 0
  · have t0 : (r.err == 0) = true := by simpa using he
    have HE := Lib.hid he
    clear he
    by_cases hlt : r.off < r.D.length
    · have t1 : decide (r.off < r.D.length) = true := by simpa using hlt
      have t2 : decide ((r.off : Int) < (r.D.length : Int)) = true := by simpa using hlt
      have HL := Lib.hid hlt
      clear hlt
      go_enter Try.func45, Try.ntmps45
      go_wp2_with fail
      go_quiet (fail)
      go_wp2_with fail
      go_ret2
      refine ⟨?_, (Fr.refl _ _).drewN _⟩
      have e3 : r.end_ = 3 := by unfold Rd.end_; rw [if_neg (by rw [HE.out]; decide), if_pos HL.out]
      rw [e3]
      rfl
    · have t1 : decide (r.off < r.D.length) = false := by simpa using hlt
      have t2 : decide ((r.off : Int) < (r.D.length : Int)) = false := by simpa using hlt
      have HL := Lib.hid hlt
      clear hlt
      go_enter Try.func45, Try.ntmps45
      go_wp2_with fail
      go_quiet (fail)
      go_wp2_with fail
      go_quiet (fail)
      go_wp2_with fail
      go_ret2
      refine ⟨?_, ((Fr.refl _ _).drewN _).drewN _⟩
      have e3 : r.end_ = r.err := by unfold Rd.end_; rw [if_neg (by rw [HE.out]; decide), if_neg HL.out, HE.out]
      rw [e3]
      rfl
  · have t0 : (r.err == 0) = false := by simpa using he
    have HE := Lib.hid he
    clear he
    go_enter Try.func45, Try.ntmps45
    go_wp2_with fail
    go_quiet (fail)
    go_wp2_with fail
    go_quiet (fail)
    go_wp2_with fail
    go_ret2
    refine ⟨?_, ((Fr.refl _ _).drewN _).drewN _⟩
    have e3 : r.end_ = r.err := by unfold Rd.end_; rw [if_pos HE.out]
    rw [e3]
    rfl

end Go.Proofs.Ytflabbdnkoejjaa
