/- Contracts of the writer of layer 1. -/
import Derived.Test.YtlepfnihpdhcaaaGreatDoorProg
import Derived.Test.YtlepfnihpdhcaaaGreatDoorBytes
import Derived.Lib.AppendStr
namespace Go.Proofs.YtlepfnihpdhcaaaGreatDoor
open Go.RowKit



/-- What an append leaves: the new slice, its row, and that only the old row's block, or new ones, have been written. -/
structure Grew (base : Nat) (v : Value) (bs : List UInt8) (w : World) (v' : Value) (w' : World) : Prop where
  own : w'.ownsRow base 5 1 v' bs.length (B8 bs)
  gr : w.grownBy w' v.ownBlock
  blk : v'.ownBlock = v.ownBlock ∨ ∃ g, v'.ownBlock = some g ∧ w.heap.size ≤ g

theorem Grew.step {base : Nat} {v v' v'' : Value} {bs cs : List UInt8} {w w' w'' : World} (h : Grew base v bs w v' w') (k : Grew base v' cs w' v'' w'') : Grew base v cs w v'' w'' := by
  refine ⟨k.own, ⟨k.gr.os.trans h.gr.os, k.gr.tape.trans h.gr.tape, k.gr.output.trans h.gr.output, Nat.le_trans h.gr.size k.gr.size, fun i hi hn => ?_⟩, ?_⟩
  · refine (k.gr.block i (Nat.lt_of_lt_of_le hi h.gr.size) (fun e => ?_)).trans (h.gr.block i hi hn)
    rcases h.blk with hb | ⟨g, hb, hg⟩
    · exact hn (e.trans hb)
    · rw [hb] at e
      injection e with e
      omega
  · rcases k.blk with hb | ⟨g, hb, hg⟩
    · rcases h.blk with hb' | ⟨g, hb', hg⟩
      · exact .inl (hb.trans hb')
      · exact .inr ⟨g, hb.trans hb', hg⟩
    · exact .inr ⟨g, hb, Nat.le_trans h.gr.size hg⟩

theorem Grew.refl {base : Nat} {v : Value} {bs : List UInt8} {w : World} (h : w.ownsRow base 5 1 v bs.length (B8 bs)) : Grew base v bs w v w := ⟨h, World.grownBy.refl w _, .inl rfl⟩

theorem Grew.size {base : Nat} {v v' : Value} {bs : List UInt8} {w w' : World} (h : Grew base v bs w v' w') : w.heap.size ≤ w'.heap.size := h.gr.size

theorem Grew.push {base : Nat} {v v' : Value} {bs : List UInt8} {b : UInt8} {w w' : World} (h : w'.ownsRow base 5 1 v' (bs.length + 1) (B8 bs ++ [.int .u8 (b.toNat : Int)])) (hg : w.grownBy w' v.ownBlock) (hb : v'.ownBlock = v.ownBlock ∨ v'.ownBlock = some (w.heap.size + 1)) : Grew base v (bs ++ [b]) w v' w' := by
  refine ⟨?_, hg, ?_⟩
  · rw [B8_append, List.length_append]; exact h
  · rcases hb with hb | hb
    · exact .inl hb
    · exact .inr ⟨_, hb, by omega⟩

set_option maxRecDepth 100000 in
set_option maxHeartbeats 2000000 in
theorem extend_any (base n : Nat) (v : Value) (bs : List UInt8) (w : World) (hn : U64 n) (hl : bs.length + 10 ≤ 4294967296) (hb : base ≤ w.heap.size) (hown : w.ownsRow base 5 1 v bs.length (B8 bs)) :
    Calls Tryz.prog 79 #[v, .int .u64 (n : Int)] w fun e w' => ∃ v', e = .returned v' ∧ Grew base v (bs ++ num n) w v' w' := by
  have H0 := Lib.hid (Grew.refl hown)
  have hnl := num_length n hn
  have HN := Lib.hid hn
  have HL := Lib.hid hl
  clear hown hn hl
  go_enter Tryz.func79, Tryz.ntmps79
  go_wp2_with fail
  go_loopw [0, 1] (fun b i wr => ∃ (m : Nat) (cs : List UInt8), U64 m ∧ i = .int .u64 (m : Int) ∧ bs ++ num n = cs ++ num m ∧ Grew base v cs w b wr) (fun _ i _ => (intOf i).toNat)
  case atStart => exact ⟨n, bs, HN.out, rfl, rfl, H0.out⟩
  case round =>
    obtain ⟨m, cs, hm, rfl, he, hg⟩ := hrel
    have hsz := hg.size
    have HC : Hid (cs.length + 1 ≤ 137438953472) := by have h1 := congrArg List.length he; have h2 := HL.out; rw [List.length_append, List.length_append] at h1; show _ ≤ _; omega
    have HG := Lib.hid hg
    have HE := Lib.hid he
    have HM := Lib.hid hm
    have hmI : (m : Int) ≤ 18446744073709551615 := by unfold U64 at hm; omega
    clear hg he hm
    obtain ⟨A, c, rfl⟩ := ownsRow_form HG.out.own
    by_cases hlt : m < 128
    · go_wp2_with (at_builtin; refine wpList_push el_u8 rfl (.tmp 15) (.tmp 18) rfl base _ _ _ (.int .u8 (m : Int)) rfl HG.out.own rfl rfl HC.out (by omega) 5 ?_; intro v' w1 hown1 hg1 hb1)
      go_ret
      refine ⟨v', rfl, HG.out.step ?_⟩
      rw [HE.out, num_small m hlt]
      exact Grew.push (by rw [byte_low m (by omega)] at hown1; exact hown1) hg1 hb1
    · have hor := byte_or m
      have hge : (128 : Int) ≤ (m : Int) := by omega
      go_wp2_with (at_builtin; refine wpList_push el_u8 rfl (.tmp 7) (.tmp 11) rfl base _ _ _ (.int .u8 ((UInt8.ofNat (m % 128 + 128)).toNat : Int)) rfl HG.out.own rfl rfl HC.out (by omega) 5 ?_; intro v' w1 hown1 hg1 hb1)
      go_roundw
      case rel =>
        refine ⟨m / 128, cs ++ [UInt8.ofNat (m % 128 + 128)], ?_, by go_num, ?_, HG.out.step (Grew.push hown1 hg1 hb1)⟩
        · have := HM.out; unfold U64 at this ⊢; omega
        · rw [HE.out, num_big m hlt, List.append_assoc]; rfl
      case measure => simp [intOf]; omega

end Go.Proofs.YtlepfnihpdhcaaaGreatDoor
namespace Go.Proofs.YtlepfnihpdhcaaaGreatDoor
open Go.RowKit

theorem own_ne {w : World} {base : Nat} {e t : TypeId} {sz n b : Nat} {v : Value} {xs l : List Value} (h : w.ownsRow base e sz v n xs) (ha : At w b t l) (hne : e ≠ t) : v.ownBlock ≠ some b := by
  rcases h.2 with ⟨rfl, _⟩ | ⟨g, cap, cur, rfl, _, hh, _⟩
  · simp [Value.ownBlock]
  · intro he
    have : g = b := by simpa [Value.ownBlock] using he
    subst this
    unfold At at ha
    rw [ha] at hh
    simp only [Option.some.injEq, Obj.cells.injEq] at hh
    exact hne hh.2.1.symm

/-- A writer that has no error and holds the bytes xs. -/
def WriterAt (w : World) (base bw : Nat) (xs : List UInt8) : Prop := ∃ v, At w bw 138 [v, Value.int .i64 0] ∧ w.ownsRow base 5 1 v xs.length (B8 xs)

theorem WriterAt.bel {w w' : World} {base bw : Nat} {xs : List UInt8} (h : WriterAt w base bw xs) (hb : Fr [] w w') : WriterAt w' base bw xs := by
  obtain ⟨v, h1, h2⟩ := h
  exact ⟨v, h1.fr hb (by simp), ownsRow_fr h2 hb (by simp)⟩

theorem WriterAt.fr {w w' : World} {base bw : Nat} {xs : List UInt8} {S : List Nat} (h : WriterAt w base bw xs) (hb : Fr S w w') (hS : ∀ x ∈ S, x < base ∧ x ≠ bw) : WriterAt w' base bw xs := by
  obtain ⟨v, h1, h2⟩ := h
  refine ⟨v, h1.fr hb (fun hm => (hS bw hm).2 rfl), ownsRow_fr h2 hb fun g hg hm => ?_⟩
  have := (h2.lt g hg).1
  have := (hS g hm).1
  omega

theorem newWriter_any (w : World) : Calls Tryz.prog 53 #[] w fun e w' => e = .returned (Value.pointer (some ⟨w.heap.size, 0, none⟩)) ∧ Fr [] w w' ∧ At w' w.heap.size 138 [.slice none 0 0, Value.int .i64 0] := by
  go_enter Tryz.func53, Tryz.ntmps53
  go_wp2
  go_ret
  exact ⟨rfl, (Fr.refl _ _).alloc _, At.new w 138 [.slice none 0 0, Value.int .i64 0]⟩

theorem WriterAt.new {w : World} {base bw : Nat} (h : At w bw 138 [.slice none 0 0, Value.int .i64 0]) : WriterAt w base bw [] := ⟨_, h, World.ownsRow_nil _ _ _ _⟩

/-- What a method of the writer leaves. -/
structure Wrote (base bw : Nat) (xs : List UInt8) (w : World) (e : Ending) (w' : World) : Prop where
  ret : e = .returned (.tuple #[])
  bel : Bel base [bw] w w'
  at_ : WriterAt w' base bw xs
  other : ∀ k t l, At w k t l → t ≠ 5 → k ≠ bw → At w' k t l

set_option maxRecDepth 100000 in
set_option maxHeartbeats 2000000 in
theorem wUint (base bw n : Nat) (xs : List UInt8) (w : World) (hw : WriterAt w base bw xs) (hb : base ≤ w.heap.size) (hn : U64 n) (hl : xs.length ≤ 4294967000) :
    Calls Tryz.prog 78 #[Value.pointer (some ⟨bw, 0, none⟩), .int .u64 (n : Int)] w (Wrote base bw (xs ++ num n) w) := by
  obtain ⟨v, ha, ho⟩ := hw
  obtain ⟨A, c, rfl⟩ := ownsRow_form ho
  have h0 : w.cell? ⟨bw, 0, none⟩ = some (.slice A xs.length c) := by rw [ha.cell]; rfl
  have h1 : w.cell? ⟨bw, 1, none⟩ = some (Value.int .i64 0) := by rw [ha.cell]; rfl
  have hne := own_ne ho ha (by decide)
  have H := Lib.hid (And.intro ha (And.intro ho hne))
  have HN := Lib.hid (And.intro hn hl)
  clear ha ho hne hn hl
  go_enter Tryz.func78, Tryz.ntmps78
  go_wp2_with fail
  refine (extend_any base n _ xs _ HN.out.1 (by have := HN.out.2; omega) hb H.out.2.1).mono ?_
  rintro e w1 ⟨v1, rfl, hg⟩
  obtain ⟨A1, c1, hv⟩ := ownsRow_form hg.own
  rw [List.length_append] at hv
  subst hv
  have ha1 : At w1 bw 138 [.slice A xs.length c, Value.int .i64 0] := (hg.gr.block bw H.out.1.lt (fun e => H.out.2.2 e.symm)).trans H.out.1
  have c0 : w1.cell? ⟨bw, 0, none⟩ = some (.slice A xs.length c) := by rw [ha1.cell]; rfl
  have z0 : w1.frozen? ⟨bw, 0, none⟩ = false := ha1.frozen 0
  have HOT : Hid (∀ k t l, At w k t l → t ≠ 5 → k ≠ bw → At (w1.setCell ⟨bw, 0, none⟩ (.slice A1 (xs.length + (num n).length) c1)) k t l) := fun k t l hk ht hne =>
    At.far (w := w1) (Eq.trans (hg.gr.block k hk.lt (fun e => own_ne H.out.2.1 hk (fun e2 => ht e2.symm) e.symm)) hk) hne _
  have HF : Hid (Bel base [bw] w (w1.setCell ⟨bw, 0, none⟩ (.slice A1 (xs.length + (num n).length) c1)) ∧ WriterAt (w1.setCell ⟨bw, 0, none⟩ (.slice A1 (xs.length + (num n).length) c1)) base bw (xs ++ num n)) := by
    refine ⟨((Bel.refl base [bw] w).grown hg.gr hb (fun k hk => .inr (H.out.2.1.lt k hk).1)).setCell (.inl (by simp)) _, _, ha1.set 0 _, ?_⟩
    refine ownsRow_fr (S := [bw]) hg.own ((Fr.refl _ _).setCell (.inl (by simp)) _) ?_
    intro g hg' hm
    have : g = bw := by simpa using hm
    subst this
    exact own_ne hg.own ha1 (by decide) hg'
  clear hg ha1
  go_wp2_with fail
  go_end0
  exact ⟨rfl, HF.out.1, HF.out.2, HOT.out⟩

def b01 (b : Bool) : Nat := if b then 1 else 0

set_option maxRecDepth 100000 in
set_option maxHeartbeats 2000000 in
theorem wCount (base bw n : Nat) (xs : List UInt8) (w : World) (hw : WriterAt w base bw xs) (hb : base ≤ w.heap.size) (hn : n ≤ 4294967296) (hl : xs.length ≤ 4294967000) :
    Calls Tryz.prog 54 #[Value.pointer (some ⟨bw, 0, none⟩), Value.int .i64 (n : Int)] w (Wrote base bw (xs ++ num n) w) := by
  have h1 : w.cell? ⟨bw, 1, none⟩ = some (Value.int .i64 0) := by obtain ⟨v, ha, _⟩ := hw; rw [ha.cell]; rfl
  have hnI : (n : Int) ≤ 4294967296 := by omega
  have H := Lib.hid (And.intro hw (And.intro hb (And.intro hl hn)))
  clear hw hb hl hn
  go_enter Tryz.func54, Tryz.ntmps54
  go_wp2_with fail
  refine (wUint base bw n xs _ H.out.1 H.out.2.1 (by have := H.out.2.2.2; unfold U64; omega) H.out.2.2.1).mono ?_
  rintro e w1 ⟨rfl, h2, h3, h4⟩
  have H1 := Lib.hid (And.intro h2 (And.intro h3 h4))
  clear h2 h3 h4
  go_wp2_with fail
  go_end0
  exact ⟨rfl, H1.out.1, H1.out.2.1, H1.out.2.2⟩

end Go.Proofs.YtlepfnihpdhcaaaGreatDoor
namespace Go.Proofs.YtlepfnihpdhcaaaGreatDoor
open Go.RowKit

/-- A call has returned a new slice of bytes. -/
structure NewBytes (bs : List UInt8) (w : World) (v : Value) (w' : World) : Prop where
  own : w'.ownsRow w.heap.size 5 1 v bs.length (B8 bs)
  fr : Fr [] w w'

set_option maxRecDepth 100000 in
set_option maxHeartbeats 2000000 in
theorem wDone (base bw : Nat) (xs : List UInt8) (w : World) (hw : WriterAt w base bw xs) (hl : xs.length ≤ 1048576) :
    Calls Tryz.prog 56 #[Value.pointer (some ⟨bw, 0, none⟩)] w fun e w' => ∃ v, e = .returned (.tuple #[v, Value.int .i64 0]) ∧ NewBytes xs w v w' := by
  obtain ⟨v, ha, ho⟩ := hw
  obtain ⟨A, c, rfl⟩ := ownsRow_form ho
  have h0 : w.cell? ⟨bw, 0, none⟩ = some (.slice A xs.length c) := by rw [ha.cell]; rfl
  have h1 : w.cell? ⟨bw, 1, none⟩ = some (Value.int .i64 0) := by rw [ha.cell]; rfl
  have h2 : ((xs.length : Nat) : Int) ≤ 1048576 := by omega
  have hlt := ha.lt
  have H := Lib.hid ho
  have HL := Lib.hid hl
  clear ha ho hl
  go_enter Tryz.func56, Tryz.ntmps56
  go_wp2_with (at_builtin; refine wpList_app el_u8 rfl (.tmp 19) (.tmp 23) rfl w.heap.size _ 0 [] rfl (by exact World.ownsRow_made _ #[] 0 (Nat.le_refl _) (Nat.zero_le _) rfl) A _ c (B8 xs) rfl (by rw [B8_length]; simp) (by exact CellsAt.of_own (H.out.alloc _)) (B8_one _) (by have := HL.out; omega) (by simp) ?_; intro v2 w2 hown2 hg2 hb2)
  go_ret2
  refine ⟨v2, rfl, ?_, ?_⟩
  · simpa using hown2
  · exact ((Fr.refl [] w).alloc _).grown hg2 (fun g hg => .inr (by have hg' : some w.heap.size = some g := hg; injection hg' with hg'; omega))

end Go.Proofs.YtlepfnihpdhcaaaGreatDoor
namespace Go.Proofs.YtlepfnihpdhcaaaGreatDoor
open Go.RowKit

theorem strOf_len (p : List UInt8) : (strOf p).size = p.length := by simp [strOf, ByteArray.size]
theorem strCells_eq (p : List UInt8) : Lib.strCells (strOf p) = B8 p := by simp [Lib.strCells, strOf, B8]

set_option maxRecDepth 100000 in
set_option maxHeartbeats 2000000 in
theorem wSum (base bw : Nat) (p xs : List UInt8) (w : World) (hw : WriterAt w base bw xs) (hb : base ≤ w.heap.size) (hp : p.length = 32) (hl : xs.length ≤ 4294967000) :
    Calls Tryz.prog 147 #[Value.pointer (some ⟨bw, 0, none⟩), .string (strOf p)] w (Wrote base bw (xs ++ p) w) := by
  obtain ⟨v, ha, ho⟩ := hw
  obtain ⟨A, c, rfl⟩ := ownsRow_form ho
  have h0 : w.cell? ⟨bw, 0, none⟩ = some (.slice A xs.length c) := by rw [ha.cell]; rfl
  have h1 : w.cell? ⟨bw, 1, none⟩ = some (Value.int .i64 0) := by rw [ha.cell]; rfl
  have hne := own_ne ho ha (by decide)
  have H := Lib.hid (And.intro ha (And.intro ho hne))
  obtain ⟨s, HS⟩ : ∃ s, Hid (s = strOf p) := ⟨_, rfl⟩
  have hs : s.size = 32 := by rw [HS.out, strOf_len]; exact hp
  have HSZ : Hid (s.size = p.length) := by show _ = _; rw [HS.out, strOf_len]
  rw [← HS.out]
  have q1 : ((s.size : Int) == 32) = true := by simp; omega
  have q2 : ((s.size : Int) != 32) = false := by simp; omega
  have hsb : s.size ≤ 32 := by omega
  obtain ⟨i0, hi0, hz0, hz1, hz2⟩ := info_parts (show (Tryz.prog.info? 5).map (fun i => (i.zero, i.size, i.bytes)) = some (some (.int .u8 0), 1, 1) by kernel_rfl)
  have HINF := Lib.hid (And.intro hi0 (And.intro hz0 (And.intro hz1 hz2)))
  clear ha ho hne hs hp hi0 hz0 hz1 hz2
  go_enter Tryz.func147, Tryz.ntmps147
  go_wp2_with (at_builtin; refine Lib.wpList_append_own_string _ rfl (.tmp 19) (.tmp 20) 37 9 rfl base 5 i0 Tryz.underlying37 Tryz.underlying9 HINF.out.1 HINF.out.2.1 HINF.out.2.2.1 HINF.out.2.2.2 _ _ (B8 xs) rfl H.out.2.1 s rfl (by unfold maxLen; omega) (by omega) hb ?_; intro v1 w1 hown1 hg1 _; obtain ⟨A1, c1, rfl⟩ := ownsRow_form hown1; have ha1 : At w1 bw 138 [.slice A xs.length c, Value.int .i64 0] := ((hg1.block bw H.out.1.lt (fun e => H.out.2.2 e.symm)).trans H.out.1); have c0 : w1.cell? ⟨bw, 0, none⟩ = some (.slice A xs.length c) := (by rw [ha1.cell]; rfl); have z0 : w1.frozen? ⟨bw, 0, none⟩ = false := ha1.frozen 0; have HQ := Lib.hid (And.intro ha1 (And.intro hown1 hg1)); clear ha1 hown1 hg1)
  have HOT : Hid (∀ k t l, At w k t l → t ≠ 5 → k ≠ bw → At (w1.setCell ⟨bw, 0, none⟩ (.slice A1 (xs.length + s.size) c1)) k t l) := fun k t l hk ht hne =>
    At.far (w := w1) (Eq.trans (HQ.out.2.2.block k hk.lt (fun e => own_ne H.out.2.1 hk (fun e2 => ht e2.symm) e.symm)) hk) hne _
  have HF : Hid (Bel base [bw] w (w1.setCell ⟨bw, 0, none⟩ (.slice A1 (xs.length + s.size) c1)) ∧ WriterAt (w1.setCell ⟨bw, 0, none⟩ (.slice A1 (xs.length + s.size) c1)) base bw (xs ++ p)) := by
    have ha1 := HQ.out.1
    have hown1 := HQ.out.2.1
    rw [HS.out, strCells_eq, ← B8_append] at hown1
    refine ⟨((Bel.refl base [bw] w).grown HQ.out.2.2 hb (fun k hk => .inr (H.out.2.1.lt k hk).1)).setCell (.inl (by simp)) _, _, ha1.set 0 _, ?_⟩
    refine ownsRow_fr (S := [bw]) ?_ ((Fr.refl _ _).setCell (.inl (by simp)) _) ?_
    · rw [List.length_append, ← HSZ.out, HS.out]
      exact hown1
    · intro g hg' hm
      have : g = bw := by simpa using hm
      subst this
      exact own_ne hown1 ha1 (by decide) (by rw [← HS.out]; exact hg')
  go_end0
  exact ⟨rfl, HF.out.1, HF.out.2, HOT.out⟩

end Go.Proofs.YtlepfnihpdhcaaaGreatDoor
