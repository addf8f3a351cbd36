/- Contract of the reference's Decode of layer 25. -/
import Derived.Test.YtflabbdnkoejjaaRefDc4
import Derived.Test.YtflabbdnkoejjaaDcDecPlain
import Derived.Deep.RegionLaw
namespace Go.Proofs.Ytflabbdnkoejjaa
open Go.RowKit

def zClk : List Value := [Value.int .i64 0, Value.int .i64 0, Value.int .i64 0, Value.int .i64 0, Value.int .i64 0, Value.bool false, Value.int .i64 0, .slice none 0 0]

def RSt := Rd × List (Int × Int)
def rstep (s : Rd × List (Int × Int)) : Rd × List (Int × Int) := (s.1.int.2.int.2, s.2 ++ [(s.1.int.1, s.1.int.2.int.1)])
def rsteps (s : Rd × List (Int × Int)) : Nat → Rd × List (Int × Int)
  | 0 => s
  | k + 1 => rstep (rsteps s k)

/-- The reference's clock ahead of the told days. -/
def rhead (r : Rd) : RClk := ⟨r.int.1, (dec5 r 1).1.int.1, (dec5 r 2).1.int.1, (dec5 r 3).1.int.1, (dec5 r 4).1.int.1, (dec5 r 5).1.bool.1, if (dec5 r 5).1.bool.1 then (dec5 r 5).1.bool.2.int.1 else 0, []⟩
def rdec (D : List UInt8) : Rd × List (Int × Int) := rsteps (((decHead ⟨D, 0, 0, 0⟩).1.count 12).2, []) ((decHead ⟨D, 0, 0, 0⟩).1.count 12).1
def rclk (D : List UInt8) : RClk := { rhead ⟨D, 0, 0, 0⟩ with told := (rdec D).2 }

def RDecRes (D : List UInt8) (w : World) (e : Ending) (w' : World) : Prop :=
  Fr [] w w' ∧ ((rdec D).1.end_ ≠ 0 → e = .returned (.tuple #[.agg zClk.toArray, Value.int .i64 (rdec D).1.end_])) ∧
    ((rdec D).1.end_ = 0 → ¬ (rclk D).Valid → e = .returned (.tuple #[.agg zClk.toArray, Value.int .i64 3])) ∧
    ((rdec D).1.end_ = 0 → (rclk D).Valid → ∃ A cp, e = .returned (.tuple #[.agg ((rclk D).cells A cp).toArray, Value.int .i64 0]) ∧ RowIn w' A (tcells (rclk D).told))

structure RD0 (w wr : World) (A : Option Addr) (c : Nat) (r : Rd) : Prop where
  fr : Fr [] w wr
  res : At wr w.heap.size 28 zClk
  rd : RR wr (w.heap.size + 1) A c r

theorem RR.drew {w : World} {br : Nat} {A : Option Addr} {c : Nat} {r : Rd} (h : RR w br A c r) : RR w.drew br A c r := ⟨h.at_, h.row, h.ok⟩
theorem fr_undrew {S : List Nat} {w w' : World} (h : Fr S w.drew w') : Fr S w w' := ⟨h.os, h.tape, h.output, h.size, h.block⟩

theorem RD0.read {w wr w' : World} {A : Option Addr} {c : Nat} {r r' : Rd} (h : RD0 w wr A c r) (hf : Fr [w.heap.size + 1] wr w') (hr : RR w' (w.heap.size + 1) A c r') : RD0 w w' A c r' :=
  ⟨h.fr.trans' hf (by intro x hx; simp at hx; exact .inr (by omega)), h.res.fr hf (by simp), hr⟩

structure RD1 (w wr : World) (A : Option Addr) (c : Nat) (r : Rd) (bc : Nat) (k : RClk) (A' : Option Addr) (cp' : Nat) : Prop where
  fr : Fr [] w wr
  res : At wr w.heap.size 28 zClk
  rd : RR wr (w.heap.size + 1) A c r
  hbc : w.heap.size + 1 < bc
  row0 : RowIn w A (B8 r.D)
  clk : At wr bc 28 (k.cells A' cp')
  own : wr.ownsRow w.heap.size 63 2 (.slice A' k.told.length cp') k.told.length (tcells k.told)

theorem RD1.read {w wr w' : World} {A : Option Addr} {c : Nat} {r r' : Rd} {bc : Nat} {k : RClk} {A' : Option Addr} {cp' : Nat} (h : RD1 w wr A c r bc k A' cp') (hf : Fr [w.heap.size + 1] wr w') (hr : RR w' (w.heap.size + 1) A c r') (hD : r'.D = r.D) : RD1 w w' A c r' bc k A' cp' := by
  refine ⟨h.fr.trans' hf (by intro x hx; simp at hx; exact .inr (by omega)), h.res.fr hf (by simp), hr, h.hbc, by rw [hD]; exact h.row0, h.clk.fr hf (by have := h.hbc; simp; omega), ownsRow_fr h.own hf ?_⟩
  intro g hg hm
  obtain ⟨last, ha⟩ := h.rd.at_
  have : g = w.heap.size + 1 := by simpa using hm
  subst this
  exact own_ne h.own ha (by decide) hg

theorem RD1.set {w wr : World} {A : Option Addr} {c : Nat} {r : Rd} {bc : Nat} {k k' : RClk} {A' : Option Addr} {cp' : Nat} (h : RD1 w wr A c r bc k A' cp') (i : Nat) (v : Value) (hc : (k.cells A' cp').set i v = k'.cells A' cp') (ht : k'.told = k.told) : RD1 w (wr.setCell ⟨bc, i, none⟩ v) A c r bc k' A' cp' := by
  have hb := h.hbc
  have hf : Fr [bc] wr (wr.setCell ⟨bc, i, none⟩ v) := (Fr.refl _ _).setCell (.inl (by simp)) _
  obtain ⟨last, ha⟩ := h.rd.at_
  refine ⟨h.fr.trans' hf (by intro x hx; simp at hx; exact .inr (by omega)), h.res.fr hf (by simp; omega), ⟨⟨last, ha.fr hf (by simp; omega)⟩, ?_, h.rd.ok⟩, h.hbc, h.row0, ?_, ?_⟩
  · intro j u hu
    obtain ⟨b, o, hA, hb', hc'⟩ := h.rd.row j u hu
    have hne : b ≠ bc := by
      rintro rfl
      rw [h.clk.cell] at hc'
      have hu' : ∃ x : Int, u = .int .u8 x := by
        unfold B8 at hu
        rw [List.getElem?_map] at hu
        cases hd : r.D[j]? with
        | none => rw [hd] at hu; cases hu
        | some x => rw [hd] at hu; simp at hu; exact ⟨_, hu.symm⟩
      obtain ⟨x, rfl⟩ := hu'
      have hm := List.mem_of_getElem? hc'
      simp [RClk.cells] at hm
    exact ⟨b, o, hA, Nat.lt_of_lt_of_le hb' hf.size, by rw [hf.cell (p := ⟨b, o + j, none⟩) hb' (by simpa using hne)]; exact hc'⟩
  · have := h.clk.set i v
    rwa [hc] at this
  · rw [ht]
    exact ownsRow_fr h.own hf (fun g hg hm => by
      have : g = bc := by simpa using hm
      subst this
      exact own_ne h.own h.clk (by decide) hg)

theorem RD1.keep {w wr w' : World} {A : Option Addr} {c : Nat} {r : Rd} {bc : Nat} {k : RClk} {A' : Option Addr} {cp' : Nat} (h : RD1 w wr A c r bc k A' cp') (hf : Fr [] wr w') : RD1 w w' A c r bc k A' cp' :=
  ⟨h.fr.trans hf, h.res.fr hf (by simp), h.rd.fr hf, h.hbc, h.row0, h.clk.fr hf (by simp), ownsRow_fr h.own hf (by simp)⟩

theorem rsteps_len (s : Rd × List (Int × Int)) (h : s.2 = []) : ∀ k, (rsteps s k).2.length = k
  | 0 => by show s.2.length = 0; rw [h]; rfl
  | k + 1 => by
    show ((rsteps s k).2 ++ _).length = _
    rw [List.length_append, rsteps_len s h k]
    rfl

theorem RD1.push {w wr w2 : World} {A : Option Addr} {c : Nat} {r : Rd} {bc : Nat} {k : RClk} {A' A2 : Option Addr} {cp' c2 : Nat} {x y : Int} (h : RD1 w wr A c r bc k A' cp')
    (hown : w2.ownsRow w.heap.size 63 2 (.slice A2 (k.told.length + 1) c2) (k.told.length + 1) (tcells k.told ++ [Value.int .i64 x, Value.int .i64 y])) (hg : wr.grownBy w2 (Value.slice A' k.told.length cp').ownBlock) :
    RD1 w (w2.setCell ⟨bc, 7, none⟩ (.slice A2 (k.told.length + 1) c2)) A c r bc { k with told := k.told ++ [(x, y)] } A2 c2 := by
  have hb := h.hbc
  have h1 : Fr [] w w2 := fr_push h.fr h.own hg
  have e : (k.told ++ [(x, y)]).length = k.told.length + 1 := by simp
  have hf : Fr [bc] w2 (w2.setCell ⟨bc, 7, none⟩ (.slice A2 (k.told.length + 1) c2)) := (Fr.refl _ _).setCell (.inl (by simp)) _
  have hres := h.res.grown hg (fun he => own_ne h.own h.res (by decide) he)
  have hclk := h.clk.grown hg (fun he => own_ne h.own h.clk (by decide) he)
  obtain ⟨last, ha⟩ := h.rd.at_
  have ha2 := ha.grown hg (fun he => own_ne h.own ha (by decide) he)
  refine ⟨h1.trans' hf (by intro x hx; simp at hx; exact .inr (by omega)), hres.fr hf (by simp; omega), ⟨⟨last, ha2.fr hf (by simp; omega)⟩, ?_, h.rd.ok⟩, h.hbc, h.row0, ?_, ?_⟩
  · intro j u hu
    obtain ⟨b, o, hA, hb', hc'⟩ := h.rd.row j u hu
    have hu' : ∃ x : Int, u = .int .u8 x := by
      unfold B8 at hu
      rw [List.getElem?_map] at hu
      cases hd : r.D[j]? with
      | none => rw [hd] at hu; cases hu
      | some x => rw [hd] at hu; simp at hu; exact ⟨_, hu.symm⟩
    obtain ⟨z, rfl⟩ := hu'
    have hne : b ≠ bc := by
      rintro rfl
      rw [h.clk.cell] at hc'
      have hm := List.mem_of_getElem? hc'
      simp [RClk.cells] at hm
    have hng : (Value.slice A' k.told.length cp').ownBlock ≠ some b := by
      intro he
      have h1 := (h.own.lt b he).1
      obtain ⟨b0, o0, hA0, hb0, _⟩ := h.row0 j _ hu
      rw [hA] at hA0
      injection hA0 with hA0
      injection hA0 with e1 e2
      omega
    have hc2 : w2.cell? ⟨b, o + j, none⟩ = some (.int .u8 z) := by rw [World.cell?_of_block (w := wr) (hg.block b hb' (fun he => hng he.symm))]; exact hc'
    exact ⟨b, o, hA, Nat.lt_of_lt_of_le hb' (Nat.le_trans hg.size hf.size), by rw [hf.cell (p := ⟨b, o + j, none⟩) (Nat.lt_of_lt_of_le hb' hg.size) (by simpa using hne)]; exact hc2⟩
  · have := hclk.set 7 (.slice A2 (k.told.length + 1) c2)
    simp only [RClk.cells, e] at this ⊢
    exact this
  · simp only [e]
    rw [tcells_append]
    exact ownsRow_fr hown hf (fun g hg' hm => by
      have : g = bc := by simpa using hm
      subst this
      exact own_ne hown hclk (by decide) hg')

theorem dec5_D (r : Rd) : ∀ k, (dec5 r k).1.D = r.D
  | 0 => rfl
  | k + 1 => ((dec5 r k).1.int_D).trans (dec5_D r k)
theorem decHead_D (r : Rd) : (decHead r).1.D = r.D := by
  unfold decHead
  simp only
  split
  · rw [Rd.int_D, Rd.bool_D, dec5_D]
  · rw [Rd.bool_D, dec5_D]

set_option maxRecDepth 100000 in
set_option maxHeartbeats 8000000 in
theorem refDecode_any (A : Option Addr) (cp : Nat) (D : List UInt8) (w : World) (hD : D.length ≤ 4294967296) (hrow : RowIn w A (B8 D)) :
    Calls Try.prog 25 #[.slice A D.length cp] w (RDecRes D w) := by
  have H := Lib.hid (And.intro hD hrow)
  clear hD hrow
  go_enter Try.func25, Try.ntmps25
  go_wp2_with fail
  obtain ⟨W, hW⟩ : ∃ W, W = (w.alloc (.cells #[Value.int .i64 0, Value.int .i64 0, Value.int .i64 0, Value.int .i64 0, Value.int .i64 0, Value.bool false, Value.int .i64 0, .slice none 0 0] 28)).alloc (.cells #[.slice A D.length cp, Value.int .i64 0, Value.int .i64 0, Value.int .i64 0] 82) := ⟨_, rfl⟩
  rw [← hW]
  obtain ⟨r0, hr0⟩ : ∃ r0 : Rd, r0 = ⟨D, 0, 0, 0⟩ := ⟨_, rfl⟩
  have HC0 : Hid (RD0 w W A cp (dec5 r0 0).1) := by
    rw [hW]
    obtain ⟨h0, h1⟩ := two_new w 28 82 zClk [.slice A D.length cp, Value.int .i64 0, Value.int .i64 0, Value.int .i64 0] (Fr.refl [] _)
    show RD0 _ _ _ _ r0
    rw [hr0]
    exact ⟨((Fr.refl _ _).alloc _).alloc _, h0, ⟨⟨0, h1⟩, H.out.2.fr0 (((Fr.refl _ _).alloc _).alloc _), ⟨Nat.zero_le _, H.out.1⟩⟩⟩
  have HR0 := Lib.hid hr0
  clear hW hr0
  refine (refNext_any (w.heap.size + 1) A cp (dec5 r0 0).1 _ HC0.out.rd).mono ?_
  rintro e w1 ⟨rfl, hf1, hr1⟩
  have HC1 : Hid (RD0 w w1 A cp (dec5 r0 1).1) := HC0.out.read hf1 hr1
  clear hf1 hr1 HC0
  go_wp2_with fail
  refine (refNext_any (w.heap.size + 1) A cp (dec5 r0 1).1 _ HC1.out.rd).mono ?_
  rintro e w2 ⟨rfl, hf2, hr2⟩
  have HC2 : Hid (RD0 w w2 A cp (dec5 r0 2).1) := HC1.out.read hf2 hr2
  clear hf2 hr2 HC1
  go_wp2_with fail
  refine (refNext_any (w.heap.size + 1) A cp (dec5 r0 2).1 _ HC2.out.rd).mono ?_
  rintro e w3 ⟨rfl, hf3, hr3⟩
  have HC3 : Hid (RD0 w w3 A cp (dec5 r0 3).1) := HC2.out.read hf3 hr3
  clear hf3 hr3 HC2
  go_wp2_with fail
  refine (refNext_any (w.heap.size + 1) A cp (dec5 r0 3).1 _ HC3.out.rd).mono ?_
  rintro e w4 ⟨rfl, hf4, hr4⟩
  have HC4 : Hid (RD0 w w4 A cp (dec5 r0 4).1) := HC3.out.read hf4 hr4
  clear hf4 hr4 HC3
  go_wp2_with fail
  refine (refNext_any (w.heap.size + 1) A cp (dec5 r0 4).1 _ HC4.out.rd).mono ?_
  rintro e w5 ⟨rfl, hf5, hr5⟩
  have HC5 : Hid (RD0 w w5 A cp (dec5 r0 5).1) := HC4.out.read hf5 hr5
  clear hf5 hr5 HC4
  go_wp2_with fail
  obtain ⟨V, hV⟩ : ∃ V, V = w5.alloc (.cells #[Value.int .i64 (dec5 r0 0).1.int.1, Value.int .i64 (dec5 r0 1).1.int.1, Value.int .i64 (dec5 r0 2).1.int.1, Value.int .i64 (dec5 r0 3).1.int.1, Value.int .i64 (dec5 r0 4).1.int.1, Value.bool false, Value.int .i64 0, .slice none 0 0] 28) := ⟨_, rfl⟩
  rw [← hV]
  obtain ⟨k0, HK0⟩ : ∃ k0 : RClk, Hid (k0 = ⟨(dec5 r0 0).1.int.1, (dec5 r0 1).1.int.1, (dec5 r0 2).1.int.1, (dec5 r0 3).1.int.1, (dec5 r0 4).1.int.1, false, 0, []⟩) := ⟨_, rfl⟩
  obtain ⟨bc, hbc⟩ : ∃ bc, bc = w5.heap.size := ⟨_, rfl⟩
  rw [← hbc]
  have HD0 : Hid (RD1 w V A cp (dec5 r0 5).1 bc k0 none 0) := by
    obtain ⟨last, ha⟩ := HC5.out.rd.at_
    have hlt := ha.lt
    rw [hV, HK0.out, hbc]
    exact ⟨HC5.out.fr.alloc _, HC5.out.res.alloc _, HC5.out.rd.fr ((Fr.refl _ _).alloc _), by omega, by rw [dec5_D, HR0.out]; exact H.out.2, At.new _ _ _, World.ownsRow_nil _ _ _ _⟩
  have hbw : w.heap.size + 1 < bc := HD0.out.hbc
  clear hV hbc HC5
  refine (rrBool (w.heap.size + 1) A cp (dec5 r0 5).1 0 _ HD0.out.rd).mono ?_
  rintro e w6 ⟨rfl, hf6, hr6⟩
  have HD1 : Hid (RD1 w w6 A cp (dec5 r0 5).1.bool.2 bc k0 none 0) := HD0.out.read hf6 hr6 (Rd.bool_D _)
  have c5 : w6.cell? ⟨bc, 5, none⟩ = some (Value.bool k0.has) := by rw [HD1.out.clk.cell]; rfl
  have z5 := HD1.out.clk.frozen 5
  have HD2 : Hid (RD1 w (w6.setCell ⟨bc, 5, none⟩ (Value.bool (dec5 r0 5).1.bool.1)) A cp (dec5 r0 5).1.bool.2 bc { k0 with has := (dec5 r0 5).1.bool.1 } none 0) := HD1.out.set 5 _ rfl rfl
  have HDH : Hid ((decHead r0).1 = if (dec5 r0 5).1.bool.1 then (dec5 r0 5).1.bool.2.int.2 else (dec5 r0 5).1.bool.2) := by
    show (decHead r0).1 = _
    unfold decHead
    simp only
    split <;> rfl
  have HRH : Hid (rhead r0 = ⟨(dec5 r0 0).1.int.1, (dec5 r0 1).1.int.1, (dec5 r0 2).1.int.1, (dec5 r0 3).1.int.1, (dec5 r0 4).1.int.1, (dec5 r0 5).1.bool.1, if (dec5 r0 5).1.bool.1 then (dec5 r0 5).1.bool.2.int.1 else 0, []⟩) := rfl
  clear hf6 hr6 HD0 HD1
  have hfl := run_field_agg (P := Try.prog) 76 _ 3 _ [Value.int .i64 3, .int .u64 0, Value.int .i64 0, Value.bool (dec5 r0 5).1.bool.1, .string ⟨#[]⟩, Value.int .i64 0] (Value.bool (dec5 r0 5).1.bool.1) Try.underlying76 rfl (by kernel_rfl) (fun _ => by kernel_rfl) rfl
  generalize (dec5 r0 5).1.bool.1 = bb at HD2 HDH HRH hfl ⊢
  cases bb
  · go_wp2_with fail
    clear hfl c5 z5
    have HD3 : Hid (RD1 w (w6.setCell ⟨bc, 5, none⟩ (Value.bool false)) A cp (decHead r0).1 bc (rhead r0) none 0) := by
      rw [HDH.out, HRH.out]
      have := HD2.out
      rw [HK0.out] at this
      exact this
    clear HD2
    have hcl := (decHead r0).1.count_le 12 (by decide)
    refine (rrCount (w.heap.size + 1) A cp (decHead r0).1 12 _ HD3.out.rd (by unfold Fit64; decide)).mono ?_
    rintro e w8 ⟨rfl, hf8, hr8⟩
    have HD4 : Hid (RD1 w w8 A cp ((decHead r0).1.count 12).2 bc (rhead r0) none 0) := HD3.out.read hf8 hr8 (Rd.count_D _ _)
    have hfc := run_field_agg (P := Try.prog) 76 _ 2 _ [Value.int .i64 7, .int .u64 0, Value.int .i64 (((decHead r0).1.count 12).1 : Int), Value.bool false, .string ⟨#[]⟩, Value.int .i64 12] (Value.int .i64 (((decHead r0).1.count 12).1 : Int)) Try.underlying76 rfl (by kernel_rfl) (fun _ => by kernel_rfl) rfl
    clear hf8 hr8 HD3
    obtain ⟨s0, HS0⟩ : ∃ s0 : Rd × List (Int × Int), Hid (s0 = (((decHead r0).1.count 12).2, [])) := ⟨_, rfl⟩
    have HRD : Hid (rdec D = rsteps s0 ((decHead r0).1.count 12).1) := by rw [HS0.out, HR0.out]; rfl
    have HRT : Hid ((rhead r0).told = []) := rfl
    have HD5 : Hid (RD1 w w8 A cp s0.1 bc { rhead r0 with told := s0.2 } none 0) := by rw [HS0.out]; exact HD4.out
    clear HD4
    generalize ((decHead r0).1.count 12).1 = n at HRD hcl hfc ⊢
    go_wp2_with fail
    clear hfc
    go_loopw [6] (fun i wr => ∃ (j : Nat) (A' : Option Addr) (c' : Nat), j ≤ n ∧ i = .int .i64 ((n : Int) - (j : Int)) ∧ Hid (RD1 w wr A cp (rsteps s0 j).1 bc { rhead r0 with told := (rsteps s0 j).2 } A' c')) (fun i _ => (intOf i).toNat)
    case atStart => exact ⟨0, none, 0, Nat.zero_le _, by simp, HD5⟩
    case round =>
      obtain ⟨j, A', c', hj, rfl, HD⟩ := hrel
      have htl : (rsteps s0 j).2.length ≤ j := by
        rw [rsteps_len s0 (by rw [HS0.out]) j]
        exact Nat.le_refl _
      by_cases hlt : j < n
      · have q1 : decide ((0 : Int) < (n : Int) - (j : Int)) = true := by simp; omega
        have HST : Hid (rsteps s0 (j + 1) = rstep (rsteps s0 j)) := rfl
        obtain ⟨rj, tj, HJ⟩ : ∃ rj tj, Hid (rsteps s0 j = (rj, tj)) := ⟨_, _, rfl⟩
        rw [HJ.out] at HST HD htl
        simp only at HD htl
        have a7 : wr.cell? ⟨bc, 7, none⟩ = some (.slice A' tj.length c') := by rw [HD.out.clk.cell]; rfl
        have z7 := HD.out.clk.frozen 7
        have hsr := HD.out.fr.size
        have hbl := HD.out.clk.lt
        go_wp2_with fail
        clear z7
        go_region_law (first
          | (refine step_app el_told rfl (.tmp 40) (.tmp 46) rfl w.heap.size (.slice A' tj.length c') tj.length (tcells tj) (by simp [Act.eval]) (by exact HD.out.own.alloc _) (some ⟨w1.heap.size, 0, none⟩) 1 1 [Value.int .i64 rj.int.1, Value.int .i64 rj.int.2.int.1] (by simp [Act.eval]) rfl (by exact CellsAt.new _ _ _) (by simp [Value.oneCell']) (by omega) (by simp; omega) ?_; intro v2 w2 hown2 hg2 hb2; obtain ⟨A2, c2, rfl⟩ := ownsRow_form hown2; have hk2 := (HD.out.keep ((Fr.refl _ _).alloc _)).clk.grown hg2 (fun he => own_ne HD.out.own HD.out.clk (by decide) he); have z7 := hk2.frozen 7; have b7 : w2.cell? ⟨bc, 7, none⟩ = some (.slice A' tj.length c') := (by rw [hk2.cell]; rfl); have HP := Lib.hid ((HD.out.keep ((Fr.refl _ _).alloc _)).push hown2 hg2); clear hown2 hg2 hb2 hk2)
          | (go_simp; go_at_call 43; refine (refNext_any _ _ _ _ _ (by first | exact HD.out.rd | exact HD.out.rd.drew)).mono ?_; rintro e w1 ⟨rfl, hf1, hr1⟩; replace HD := Lib.hid (HD.out.read (by first | exact hf1 | exact fr_undrew hf1) hr1 (Rd.int_D _)); clear a7; have a7 : w1.cell? ⟨bc, 7, none⟩ = some (.slice A' tj.length c') := (by rw [HD.out.clk.cell]; rfl); replace hsr : w.heap.size ≤ w1.heap.size := HD.out.fr.size; replace hbl : bc < w1.heap.size := HD.out.clk.lt; clear hf1 hr1))
        all_goals
          go_wp2_with fail
          go_roundw
          case rel => exact ⟨j + 1, A2, c2, by omega, by go_num, by rw [HST.out]; exact HP⟩
          case measure => simp [intOf]; omega
      · obtain rfl : j = n := by omega
        have q1 : decide ((0 : Int) < (j : Int) - (j : Int)) = false := by simp
        rw [← HRD.out] at HD htl
        have HCL : Hid ({ rhead r0 with told := (rdec D).2 } = rclk D) := by rw [HR0.out]; exact rfl
        rw [HCL.out] at HD
        have hfit : Fit64 (rclk D).day ∧ Fit64 (rclk D).own := ⟨Rd.int_fit _, Rd.int_fit _⟩
        have HFI := Lib.hid hfit
        have htl2 : (rclk D).told.length ≤ 1000 := by show (rdec D).2.length ≤ 1000; omega
        clear hfit
        obtain ⟨rr, HRR⟩ : ∃ rr, Hid (rr = (rdec D).1) := ⟨_, rfl⟩
        rw [← HRR.out] at HD
        obtain ⟨kk, HKK⟩ : ∃ kk, Hid (kk = rclk D) := ⟨_, rfl⟩
        rw [← HKK.out] at HD HFI htl2
        go_wp2_with fail
        refine (rrEnd (w.heap.size + 1) A cp rr _ HD.out.rd).mono ?_
        rintro e w9 ⟨rfl, hf9⟩
        have HDE := Lib.hid (HD.out.keep hf9)
        clear hf9 HD
        obtain ⟨⟨d0, d1, d2, d3, d4, d5, d6, d7⟩, y0, y1, y2, y3, y4, y5, y6, y7⟩ := eight HDE.out.res
        have HRes : Hid (∀ e w', Fr [] w w' → (rr.end_ ≠ 0 → e = .returned (.tuple #[.agg zClk.toArray, Value.int .i64 rr.end_])) → (rr.end_ = 0 → ¬ kk.Valid → e = .returned (.tuple #[.agg zClk.toArray, Value.int .i64 3])) → (rr.end_ = 0 → kk.Valid → ∃ A cp, e = .returned (.tuple #[.agg (kk.cells A cp).toArray, Value.int .i64 0]) ∧ RowIn w' A (tcells kk.told)) → RDecRes D w e w') := by
          intro e w' a1 a2 a3 a4
          rw [HRR.out] at a2 a3 a4
          rw [HKK.out] at a3 a4
          exact ⟨a1, a2, a3, a4⟩
        by_cases he : rr.end_ = 0
        · have q2 : (rr.end_ != 0) = false := by simpa using he
          have HE := Lib.hid he
          clear he
          have hcl9 := HDE.out.clk
          obtain ⟨first, day, leap, quorum, own, has, ref, told⟩ := kk
          obtain ⟨⟨c0, c1, c2, c3, c4, c5, c6, c7⟩, _⟩ := eight hcl9
          clear hcl9
          go_wp2_with fail
          refine (refValid_any ⟨first, day, leap, quorum, own, has, ref, told⟩ A' c' _ (RowIn.of_owned HDE.out.own) htl2 HFI.out.1 HFI.out.2).mono ?_
          rintro e wA ⟨hv1, hv2, hfA⟩
          have HDA := Lib.hid (HDE.out.keep hfA)
          clear d0 d1 d2 d3 d4 d5 d6 d7 y0 y1 y2 y3 y4 y5 y6 y7 c0 c1 c2 c3 c4 c5 c6 c7 hfA
          obtain ⟨⟨d0, d1, d2, d3, d4, d5, d6, d7⟩, y0, y1, y2, y3, y4, y5, y6, y7⟩ := eight HDA.out.res
          obtain ⟨⟨c0, c1, c2, c3, c4, c5, c6, c7⟩, _⟩ := eight HDA.out.clk
          by_cases hval : RClk.Valid ⟨first, day, leap, quorum, own, has, ref, told⟩
          · have hve := hv1 hval
            have HVA := Lib.hid hval
            clear hv1 hv2 hval
            subst hve
            go_wp2_with fail
            refine bodyPost_ret (v := .tuple #[.agg #[Value.int .i64 first, Value.int .i64 day, Value.int .i64 leap, Value.int .i64 quorum, Value.int .i64 own, Value.bool has, Value.int .i64 ref, .slice A' told.length c'], Value.int .i64 0]) (by simp [results, Try.results25, go_sem, *]) rfl ?_
            have hfz : Fr [w.heap.size] wA (setL wA w.heap.size 0 [Value.int .i64 first, Value.int .i64 day, Value.int .i64 leap, Value.int .i64 quorum, Value.int .i64 own, Value.bool has, Value.int .i64 ref, .slice A' told.length c']) := Fr.setL (.inl (by simp)) _ 0 _ (Fr.refl _ _)
            refine HRes.out _ _ (HDA.out.fr.trans' hfz (by simp)) (fun h => absurd HE.out h) (fun _ h => absurd HVA.out h) (fun _ _ => ⟨A', c', rfl, ?_⟩)
            refine (RowIn.of_owned HDA.out.own).fr hfz ?_
            intro b o hA hm
            have hbb : b = w.heap.size := by simpa using hm
            subst hbb
            refine own_ne HDA.out.own HDA.out.res (by decide) ?_
            rcases HDA.out.own.2 with ⟨hv, _⟩ | ⟨g, cap, cur, hv, _⟩
            · simp only [Value.slice.injEq] at hv
              rw [hA] at hv
              cases hv.1
            · simp only [Value.slice.injEq] at hv
              rw [hA] at hv
              obtain ⟨hv, _⟩ := hv
              injection hv with hv
              injection hv with hv
              subst hv
              simp only [hA]
              rfl
          · have hve := hv2 hval
            have HVA := Lib.hid hval
            clear hv1 hv2 hval
            subst hve
            go_wp2_with fail
            refine bodyPost_ret (v := .tuple #[.agg #[Value.int .i64 0, Value.int .i64 0, Value.int .i64 0, Value.int .i64 0, Value.int .i64 0, Value.bool false, Value.int .i64 0, .slice none 0 0], Value.int .i64 3]) (by simp [results, Try.results25, go_sem, *]) rfl ?_
            have hfz : Fr [w.heap.size] wA (setL wA w.heap.size 0 zClk) := Fr.setL (.inl (by simp)) _ 0 _ (Fr.refl _ _)
            exact HRes.out _ _ (HDA.out.fr.trans' hfz (by simp)) (fun h => absurd HE.out h) (fun _ _ => rfl) (fun _ h => absurd h HVA.out)
        · have q2 : (rr.end_ != 0) = true := by simpa using he
          have HE := Lib.hid he
          clear he
          go_wp2_with fail
          refine bodyPost_ret (v := .tuple #[.agg #[Value.int .i64 0, Value.int .i64 0, Value.int .i64 0, Value.int .i64 0, Value.int .i64 0, Value.bool false, Value.int .i64 0, .slice none 0 0], Value.int .i64 rr.end_]) (by simp [results, Try.results25, go_sem, *]) rfl ?_
          have hfz : Fr [w.heap.size] w9 (setL w9 w.heap.size 0 zClk) := Fr.setL (.inl (by simp)) _ 0 _ (Fr.refl _ _)
          exact HRes.out _ _ (HDE.out.fr.trans' hfz (by simp)) (fun _ => rfl) (fun h _ => absurd h HE.out) (fun h _ => absurd h HE.out)
  · go_wp2_with fail
    clear hfl c5 z5
    refine (refNext_any (w.heap.size + 1) A cp (dec5 r0 5).1.bool.2 _ HD2.out.rd).mono ?_
    rintro e w7 ⟨rfl, hf7, hr7⟩
    have HD2b : Hid (RD1 w w7 A cp (dec5 r0 5).1.bool.2.int.2 bc { k0 with has := true } none 0) := HD2.out.read hf7 hr7 (Rd.int_D _)
    have c6 : w7.cell? ⟨bc, 6, none⟩ = some (Value.int .i64 k0.ref) := by rw [HD2b.out.clk.cell]; rfl
    have z6 := HD2b.out.clk.frozen 6
    have HD3 : Hid (RD1 w (w7.setCell ⟨bc, 6, none⟩ (Value.int .i64 (dec5 r0 5).1.bool.2.int.1)) A cp (decHead r0).1 bc (rhead r0) none 0) := by
      rw [HDH.out, HRH.out]
      have := HD2b.out.set 6 (Value.int .i64 (dec5 r0 5).1.bool.2.int.1) (k' := { k0 with has := true, ref := (dec5 r0 5).1.bool.2.int.1 }) rfl rfl
      rw [HK0.out] at this
      exact this
    clear hf7 hr7 HD2 HD2b
    go_wp2_with fail
    clear c6 z6
    have hcl := (decHead r0).1.count_le 12 (by decide)
    refine (rrCount (w.heap.size + 1) A cp (decHead r0).1 12 _ HD3.out.rd (by unfold Fit64; decide)).mono ?_
    rintro e w8 ⟨rfl, hf8, hr8⟩
    have HD4 : Hid (RD1 w w8 A cp ((decHead r0).1.count 12).2 bc (rhead r0) none 0) := HD3.out.read hf8 hr8 (Rd.count_D _ _)
    have hfc := run_field_agg (P := Try.prog) 76 _ 2 _ [Value.int .i64 7, .int .u64 0, Value.int .i64 (((decHead r0).1.count 12).1 : Int), Value.bool false, .string ⟨#[]⟩, Value.int .i64 12] (Value.int .i64 (((decHead r0).1.count 12).1 : Int)) Try.underlying76 rfl (by kernel_rfl) (fun _ => by kernel_rfl) rfl
    clear hf8 hr8 HD3
    obtain ⟨s0, HS0⟩ : ∃ s0 : Rd × List (Int × Int), Hid (s0 = (((decHead r0).1.count 12).2, [])) := ⟨_, rfl⟩
    have HRD : Hid (rdec D = rsteps s0 ((decHead r0).1.count 12).1) := by rw [HS0.out, HR0.out]; rfl
    have HRT : Hid ((rhead r0).told = []) := rfl
    have HD5 : Hid (RD1 w w8 A cp s0.1 bc { rhead r0 with told := s0.2 } none 0) := by rw [HS0.out]; exact HD4.out
    clear HD4
    generalize ((decHead r0).1.count 12).1 = n at HRD hcl hfc ⊢
    go_wp2_with fail
    clear hfc
    go_loopw [6] (fun i wr => ∃ (j : Nat) (A' : Option Addr) (c' : Nat), j ≤ n ∧ i = .int .i64 ((n : Int) - (j : Int)) ∧ Hid (RD1 w wr A cp (rsteps s0 j).1 bc { rhead r0 with told := (rsteps s0 j).2 } A' c')) (fun i _ => (intOf i).toNat)
    case atStart => exact ⟨0, none, 0, Nat.zero_le _, by simp, HD5⟩
    case round =>
      obtain ⟨j, A', c', hj, rfl, HD⟩ := hrel
      have htl : (rsteps s0 j).2.length ≤ j := by
        rw [rsteps_len s0 (by rw [HS0.out]) j]
        exact Nat.le_refl _
      by_cases hlt : j < n
      · have q1 : decide ((0 : Int) < (n : Int) - (j : Int)) = true := by simp; omega
        have HST : Hid (rsteps s0 (j + 1) = rstep (rsteps s0 j)) := rfl
        obtain ⟨rj, tj, HJ⟩ : ∃ rj tj, Hid (rsteps s0 j = (rj, tj)) := ⟨_, _, rfl⟩
        rw [HJ.out] at HST HD htl
        simp only at HD htl
        have a7 : wr.cell? ⟨bc, 7, none⟩ = some (.slice A' tj.length c') := by rw [HD.out.clk.cell]; rfl
        have z7 := HD.out.clk.frozen 7
        have hsr := HD.out.fr.size
        have hbl := HD.out.clk.lt
        go_wp2_with fail
        clear z7
        go_region_law (first
          | (refine step_app el_told rfl (.tmp 40) (.tmp 46) rfl w.heap.size (.slice A' tj.length c') tj.length (tcells tj) (by simp [Act.eval]) (by exact HD.out.own.alloc _) (some ⟨w1.heap.size, 0, none⟩) 1 1 [Value.int .i64 rj.int.1, Value.int .i64 rj.int.2.int.1] (by simp [Act.eval]) rfl (by exact CellsAt.new _ _ _) (by simp [Value.oneCell']) (by omega) (by simp; omega) ?_; intro v2 w2 hown2 hg2 hb2; obtain ⟨A2, c2, rfl⟩ := ownsRow_form hown2; have hk2 := (HD.out.keep ((Fr.refl _ _).alloc _)).clk.grown hg2 (fun he => own_ne HD.out.own HD.out.clk (by decide) he); have z7 := hk2.frozen 7; have b7 : w2.cell? ⟨bc, 7, none⟩ = some (.slice A' tj.length c') := (by rw [hk2.cell]; rfl); have HP := Lib.hid ((HD.out.keep ((Fr.refl _ _).alloc _)).push hown2 hg2); clear hown2 hg2 hb2 hk2)
          | (go_simp; go_at_call 43; refine (refNext_any _ _ _ _ _ (by first | exact HD.out.rd | exact HD.out.rd.drew)).mono ?_; rintro e w1 ⟨rfl, hf1, hr1⟩; replace HD := Lib.hid (HD.out.read (by first | exact hf1 | exact fr_undrew hf1) hr1 (Rd.int_D _)); clear a7; have a7 : w1.cell? ⟨bc, 7, none⟩ = some (.slice A' tj.length c') := (by rw [HD.out.clk.cell]; rfl); replace hsr : w.heap.size ≤ w1.heap.size := HD.out.fr.size; replace hbl : bc < w1.heap.size := HD.out.clk.lt; clear hf1 hr1))
        all_goals
          go_wp2_with fail
          go_roundw
          case rel => exact ⟨j + 1, A2, c2, by omega, by go_num, by rw [HST.out]; exact HP⟩
          case measure => simp [intOf]; omega
      · obtain rfl : j = n := by omega
        have q1 : decide ((0 : Int) < (j : Int) - (j : Int)) = false := by simp
        rw [← HRD.out] at HD htl
        have HCL : Hid ({ rhead r0 with told := (rdec D).2 } = rclk D) := by rw [HR0.out]; exact rfl
        rw [HCL.out] at HD
        have hfit : Fit64 (rclk D).day ∧ Fit64 (rclk D).own := ⟨Rd.int_fit _, Rd.int_fit _⟩
        have HFI := Lib.hid hfit
        have htl2 : (rclk D).told.length ≤ 1000 := by show (rdec D).2.length ≤ 1000; omega
        clear hfit
        obtain ⟨rr, HRR⟩ : ∃ rr, Hid (rr = (rdec D).1) := ⟨_, rfl⟩
        rw [← HRR.out] at HD
        obtain ⟨kk, HKK⟩ : ∃ kk, Hid (kk = rclk D) := ⟨_, rfl⟩
        rw [← HKK.out] at HD HFI htl2
        go_wp2_with fail
        refine (rrEnd (w.heap.size + 1) A cp rr _ HD.out.rd).mono ?_
        rintro e w9 ⟨rfl, hf9⟩
        have HDE := Lib.hid (HD.out.keep hf9)
        clear hf9 HD
        obtain ⟨⟨d0, d1, d2, d3, d4, d5, d6, d7⟩, y0, y1, y2, y3, y4, y5, y6, y7⟩ := eight HDE.out.res
        have HRes : Hid (∀ e w', Fr [] w w' → (rr.end_ ≠ 0 → e = .returned (.tuple #[.agg zClk.toArray, Value.int .i64 rr.end_])) → (rr.end_ = 0 → ¬ kk.Valid → e = .returned (.tuple #[.agg zClk.toArray, Value.int .i64 3])) → (rr.end_ = 0 → kk.Valid → ∃ A cp, e = .returned (.tuple #[.agg (kk.cells A cp).toArray, Value.int .i64 0]) ∧ RowIn w' A (tcells kk.told)) → RDecRes D w e w') := by
          intro e w' a1 a2 a3 a4
          rw [HRR.out] at a2 a3 a4
          rw [HKK.out] at a3 a4
          exact ⟨a1, a2, a3, a4⟩
        by_cases he : rr.end_ = 0
        · have q2 : (rr.end_ != 0) = false := by simpa using he
          have HE := Lib.hid he
          clear he
          have hcl9 := HDE.out.clk
          obtain ⟨first, day, leap, quorum, own, has, ref, told⟩ := kk
          obtain ⟨⟨c0, c1, c2, c3, c4, c5, c6, c7⟩, _⟩ := eight hcl9
          clear hcl9
          go_wp2_with fail
          refine (refValid_any ⟨first, day, leap, quorum, own, has, ref, told⟩ A' c' _ (RowIn.of_owned HDE.out.own) htl2 HFI.out.1 HFI.out.2).mono ?_
          rintro e wA ⟨hv1, hv2, hfA⟩
          have HDA := Lib.hid (HDE.out.keep hfA)
          clear d0 d1 d2 d3 d4 d5 d6 d7 y0 y1 y2 y3 y4 y5 y6 y7 c0 c1 c2 c3 c4 c5 c6 c7 hfA
          obtain ⟨⟨d0, d1, d2, d3, d4, d5, d6, d7⟩, y0, y1, y2, y3, y4, y5, y6, y7⟩ := eight HDA.out.res
          obtain ⟨⟨c0, c1, c2, c3, c4, c5, c6, c7⟩, _⟩ := eight HDA.out.clk
          by_cases hval : RClk.Valid ⟨first, day, leap, quorum, own, has, ref, told⟩
          · have hve := hv1 hval
            have HVA := Lib.hid hval
            clear hv1 hv2 hval
            subst hve
            go_wp2_with fail
            refine bodyPost_ret (v := .tuple #[.agg #[Value.int .i64 first, Value.int .i64 day, Value.int .i64 leap, Value.int .i64 quorum, Value.int .i64 own, Value.bool has, Value.int .i64 ref, .slice A' told.length c'], Value.int .i64 0]) (by simp [results, Try.results25, go_sem, *]) rfl ?_
            have hfz : Fr [w.heap.size] wA (setL wA w.heap.size 0 [Value.int .i64 first, Value.int .i64 day, Value.int .i64 leap, Value.int .i64 quorum, Value.int .i64 own, Value.bool has, Value.int .i64 ref, .slice A' told.length c']) := Fr.setL (.inl (by simp)) _ 0 _ (Fr.refl _ _)
            refine HRes.out _ _ (HDA.out.fr.trans' hfz (by simp)) (fun h => absurd HE.out h) (fun _ h => absurd HVA.out h) (fun _ _ => ⟨A', c', rfl, ?_⟩)
            refine (RowIn.of_owned HDA.out.own).fr hfz ?_
            intro b o hA hm
            have hbb : b = w.heap.size := by simpa using hm
            subst hbb
            refine own_ne HDA.out.own HDA.out.res (by decide) ?_
            rcases HDA.out.own.2 with ⟨hv, _⟩ | ⟨g, cap, cur, hv, _⟩
            · simp only [Value.slice.injEq] at hv
              rw [hA] at hv
              cases hv.1
            · simp only [Value.slice.injEq] at hv
              rw [hA] at hv
              obtain ⟨hv, _⟩ := hv
              injection hv with hv
              injection hv with hv
              subst hv
              simp only [hA]
              rfl
          · have hve := hv2 hval
            have HVA := Lib.hid hval
            clear hv1 hv2 hval
            subst hve
            go_wp2_with fail
            refine bodyPost_ret (v := .tuple #[.agg #[Value.int .i64 0, Value.int .i64 0, Value.int .i64 0, Value.int .i64 0, Value.int .i64 0, Value.bool false, Value.int .i64 0, .slice none 0 0], Value.int .i64 3]) (by simp [results, Try.results25, go_sem, *]) rfl ?_
            have hfz : Fr [w.heap.size] wA (setL wA w.heap.size 0 zClk) := Fr.setL (.inl (by simp)) _ 0 _ (Fr.refl _ _)
            exact HRes.out _ _ (HDA.out.fr.trans' hfz (by simp)) (fun h => absurd HE.out h) (fun _ _ => rfl) (fun _ h => absurd h HVA.out)
        · have q2 : (rr.end_ != 0) = true := by simpa using he
          have HE := Lib.hid he
          clear he
          go_wp2_with fail
          refine bodyPost_ret (v := .tuple #[.agg #[Value.int .i64 0, Value.int .i64 0, Value.int .i64 0, Value.int .i64 0, Value.int .i64 0, Value.bool false, Value.int .i64 0, .slice none 0 0], Value.int .i64 rr.end_]) (by simp [results, Try.results25, go_sem, *]) rfl ?_
          have hfz : Fr [w.heap.size] w9 (setL w9 w.heap.size 0 zClk) := Fr.setL (.inl (by simp)) _ 0 _ (Fr.refl _ _)
          exact HRes.out _ _ (HDE.out.fr.trans' hfz (by simp)) (fun _ => rfl) (fun h _ => absurd h HE.out) (fun h _ => absurd h HE.out)

end Go.Proofs.Ytflabbdnkoejjaa
