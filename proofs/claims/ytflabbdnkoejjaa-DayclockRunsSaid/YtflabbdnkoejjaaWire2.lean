/- Contracts of the writer's methods. -/
import Derived.Test.YtflabbdnkoejjaaWire1
namespace Go.Proofs.Ytflabbdnkoejjaa
open Go.RowKit

theorem own_ne {w : World} {base : Nat} {e t : TypeId} {sz n b : Nat} {v : Value} {xs l : List Value} (h : w.ownsRow base e sz v n xs) (ha : At w b t l) (hne : e ≠ t) : v.ownBlock ≠ some b := by
  rcases h.2 with ⟨rfl, _⟩ | ⟨g, cap, cur, rfl, _, hh, _⟩
  · simp [Value.ownBlock]
  · intro he
    have : g = b := by simpa [Value.ownBlock] using he
    subst this
    unfold At at ha
    rw [ha] at hh
    simp only [Option.some.injEq, Obj.cells.injEq] at hh
    exact hne hh.2.1.symm

/-- A writer that has no error and holds the bytes xs. -/
def WriterAt (w : World) (base bw : Nat) (xs : List UInt8) : Prop := ∃ v, At w bw 98 [v, Value.int .i64 0] ∧ w.ownsRow base 5 1 v xs.length (B8 xs)

theorem WriterAt.bel {w w' : World} {base bw : Nat} {xs : List UInt8} (h : WriterAt w base bw xs) (hb : Fr [] w w') : WriterAt w' base bw xs := by
  obtain ⟨v, h1, h2⟩ := h
  exact ⟨v, h1.fr hb (by simp), ownsRow_fr h2 hb (by simp)⟩

theorem WriterAt.fr {w w' : World} {base bw : Nat} {xs : List UInt8} {S : List Nat} (h : WriterAt w base bw xs) (hb : Fr S w w') (hS : ∀ x ∈ S, x < base ∧ x ≠ bw) : WriterAt w' base bw xs := by
  obtain ⟨v, h1, h2⟩ := h
  refine ⟨v, h1.fr hb (fun hm => (hS bw hm).2 rfl), ownsRow_fr h2 hb fun g hg hm => ?_⟩
  have := (h2.lt g hg).1
  have := (hS g hm).1
  omega

theorem newWriter_any (w : World) : Calls Try.prog 36 #[] w fun e w' => e = .returned (Value.pointer (some ⟨w.heap.size, 0, none⟩)) ∧ Fr [] w w' ∧ At w' w.heap.size 98 [.slice none 0 0, Value.int .i64 0] := by
  go_enter Try.func36, Try.ntmps36
  go_wp2
  go_ret
  exact ⟨rfl, (Fr.refl _ _).alloc _, At.new w 98 [.slice none 0 0, Value.int .i64 0]⟩

theorem WriterAt.new {w : World} {base bw : Nat} (h : At w bw 98 [.slice none 0 0, Value.int .i64 0]) : WriterAt w base bw [] := ⟨_, h, World.ownsRow_nil _ _ _ _⟩

/-- What a method of the writer leaves. -/
structure Wrote (base bw : Nat) (xs : List UInt8) (w : World) (e : Ending) (w' : World) : Prop where
  ret : e = .returned (.tuple #[])
  bel : Bel base [bw] w w'
  at_ : WriterAt w' base bw xs

set_option maxRecDepth 100000 in
set_option maxHeartbeats 2000000 in
theorem wUint (base bw n : Nat) (xs : List UInt8) (w : World) (hw : WriterAt w base bw xs) (hb : base ≤ w.heap.size) (hn : U64 n) (hl : xs.length ≤ 4294967000) :
    Calls Try.prog 56 #[Value.pointer (some ⟨bw, 0, none⟩), .int .u64 (n : Int)] w (Wrote base bw (xs ++ num n) w) := by
  obtain ⟨v, ha, ho⟩ := hw
  obtain ⟨A, c, rfl⟩ := ownsRow_form ho
  have h0 : w.cell? ⟨bw, 0, none⟩ = some (.slice A xs.length c) := by rw [ha.cell]; rfl
  have h1 : w.cell? ⟨bw, 1, none⟩ = some (Value.int .i64 0) := by rw [ha.cell]; rfl
  have hne := own_ne ho ha (by decide)
  have H := Lib.hid (And.intro ha (And.intro ho hne))
  have HN := Lib.hid (And.intro hn hl)
  clear ha ho hne hn hl
  go_enter Try.func56, Try.ntmps56
  go_wp2_with fail
  refine (extend_any base n _ xs _ HN.out.1 (by have := HN.out.2; omega) hb H.out.2.1).mono ?_
  rintro e w1 ⟨v1, rfl, hg⟩
  obtain ⟨A1, c1, hv⟩ := ownsRow_form hg.own
  rw [List.length_append] at hv
  subst hv
  have ha1 : At w1 bw 98 [.slice A xs.length c, Value.int .i64 0] := (hg.gr.block bw H.out.1.lt (fun e => H.out.2.2 e.symm)).trans H.out.1
  have c0 : w1.cell? ⟨bw, 0, none⟩ = some (.slice A xs.length c) := by rw [ha1.cell]; rfl
  have z0 : w1.frozen? ⟨bw, 0, none⟩ = false := ha1.frozen 0
  have HF : Hid (Bel base [bw] w (w1.setCell ⟨bw, 0, none⟩ (.slice A1 (xs.length + (num n).length) c1)) ∧ WriterAt (w1.setCell ⟨bw, 0, none⟩ (.slice A1 (xs.length + (num n).length) c1)) base bw (xs ++ num n)) := by
    refine ⟨((Bel.refl base [bw] w).grown hg.gr hb (fun k hk => .inr (H.out.2.1.lt k hk).1)).setCell (.inl (by simp)) _, _, ha1.set 0 _, ?_⟩
    refine ownsRow_fr (S := [bw]) hg.own ((Fr.refl _ _).setCell (.inl (by simp)) _) ?_
    intro g hg' hm
    have : g = bw := by simpa using hm
    subst this
    exact own_ne hg.own ha1 (by decide) hg'
  clear hg ha1
  go_wp2_with fail
  go_end0
  exact ⟨rfl, HF.out.1, HF.out.2⟩

set_option maxRecDepth 100000 in
set_option maxHeartbeats 2000000 in
theorem wInt (base bw : Nat) (n : Int) (xs : List UInt8) (w : World) (hw : WriterAt w base bw xs) (hb : base ≤ w.heap.size) (h0 : -9223372036854775808 ≤ n) (h1 : n ≤ 9223372036854775807) (hl : xs.length ≤ 4294967000) :
    Calls Try.prog 37 #[Value.pointer (some ⟨bw, 0, none⟩), Value.int .i64 n] w (Wrote base bw (xs ++ num (zig n)) w) := by
  have H := Lib.hid (And.intro hw (And.intro hb (And.intro hl (And.intro h0 h1))))
  clear hw hb hl h0 h1
  go_enter Try.func37, Try.ntmps37
  go_wp2_with fail
  refine (zigzag_any n _ H.out.2.2.2.1 H.out.2.2.2.2).mono ?_
  rintro e w' ⟨rfl, rfl⟩
  go_wp2_with fail
  refine (wUint base bw (zig n) xs _ H.out.1 H.out.2.1 (zig_lt n H.out.2.2.2.1 H.out.2.2.2.2) H.out.2.2.1).mono ?_
  rintro e w1 ⟨rfl, h2, h3⟩
  have H1 := Lib.hid (And.intro h2 h3)
  clear h2 h3
  go_wp2_with fail
  go_end0
  exact ⟨rfl, H1.out.1, H1.out.2⟩

def b01 (b : Bool) : Nat := if b then 1 else 0

set_option maxRecDepth 100000 in
set_option maxHeartbeats 2000000 in
theorem wBool (base bw : Nat) (b : Bool) (xs : List UInt8) (w : World) (hw : WriterAt w base bw xs) (hb : base ≤ w.heap.size) (hl : xs.length ≤ 4294967000) :
    Calls Try.prog 38 #[Value.pointer (some ⟨bw, 0, none⟩), Value.bool b] w (Wrote base bw (xs ++ num (b01 b)) w) := by
  have H := Lib.hid (And.intro hw (And.intro hb hl))
  clear hw hb hl
  cases b
  · go_enter Try.func38, Try.ntmps38
    go_wp2_with fail
    refine (wUint base bw 0 xs _ H.out.1 H.out.2.1 (by unfold U64; decide) H.out.2.2).mono ?_
    rintro e w1 ⟨rfl, h2, h3⟩
    have H1 := Lib.hid (And.intro h2 h3)
    clear h2 h3
    go_wp2_with fail
    go_end0
    exact ⟨rfl, H1.out.1, H1.out.2⟩
  · go_enter Try.func38, Try.ntmps38
    go_wp2_with fail
    refine (wUint base bw 1 xs _ H.out.1 H.out.2.1 (by unfold U64; decide) H.out.2.2).mono ?_
    rintro e w1 ⟨rfl, h2, h3⟩
    have H1 := Lib.hid (And.intro h2 h3)
    clear h2 h3
    go_wp2_with fail
    go_end0
    exact ⟨rfl, H1.out.1, H1.out.2⟩

set_option maxRecDepth 100000 in
set_option maxHeartbeats 2000000 in
theorem wCount (base bw n : Nat) (xs : List UInt8) (w : World) (hw : WriterAt w base bw xs) (hb : base ≤ w.heap.size) (hn : n ≤ 4294967296) (hl : xs.length ≤ 4294967000) :
    Calls Try.prog 39 #[Value.pointer (some ⟨bw, 0, none⟩), Value.int .i64 (n : Int)] w (Wrote base bw (xs ++ num n) w) := by
  have h1 : w.cell? ⟨bw, 1, none⟩ = some (Value.int .i64 0) := by obtain ⟨v, ha, _⟩ := hw; rw [ha.cell]; rfl
  have hnI : (n : Int) ≤ 4294967296 := by omega
  have H := Lib.hid (And.intro hw (And.intro hb (And.intro hl hn)))
  clear hw hb hl hn
  go_enter Try.func39, Try.ntmps39
  go_wp2_with fail
  refine (wUint base bw n xs _ H.out.1 H.out.2.1 (by have := H.out.2.2.2; unfold U64; omega) H.out.2.2.1).mono ?_
  rintro e w1 ⟨rfl, h2, h3⟩
  have H1 := Lib.hid (And.intro h2 h3)
  clear h2 h3
  go_wp2_with fail
  go_end0
  exact ⟨rfl, H1.out.1, H1.out.2⟩

end Go.Proofs.Ytflabbdnkoejjaa
