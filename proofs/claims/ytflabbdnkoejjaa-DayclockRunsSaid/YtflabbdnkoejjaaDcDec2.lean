/- Contract of the clock's Decode: the walk. -/
import Derived.Test.YtflabbdnkoejjaaDcDec
namespace Go.Proofs.Ytflabbdnkoejjaa
open Go.RowKit

/-- In the midst of Decode. -/
structure DecW (w : World) (br bc : Nat) (wr : World) (r : Rd) (c : Clk) : Prop where
  fr : Fr [] w wr
  rd : RdAt wr br r
  clk : At wr bc 57 c.cells
  br : w.heap.size ≤ br
  bc : w.heap.size ≤ bc

theorem DecW.ne {w wr : World} {br bc : Nat} {r : Rd} {c : Clk} (h : DecW w br bc wr r c) : bc ≠ br := h.rd.ne h.clk (by decide)

theorem DecW.read {w wr w' : World} {br bc : Nat} {r r' : Rd} {c : Clk} (h : DecW w br bc wr r c) (hf : Fr [br] wr w') (hr : RdAt w' br r') : DecW w br bc w' r' c :=
  ⟨h.fr.trans' hf (by intro x hx; simp at hx; subst hx; exact .inr h.br), hr, h.clk.fr hf (by simpa using h.ne), h.br, h.bc⟩

theorem DecW.keep {w wr w' : World} {br bc : Nat} {r : Rd} {c : Clk} (h : DecW w br bc wr r c) (hf : Fr [] wr w') : DecW w br bc w' r c :=
  ⟨h.fr.trans hf, ReaderAt.fr h.rd hf, h.clk.fr hf (by simp), h.br, h.bc⟩

theorem DecW.set {w wr : World} {br bc : Nat} {r : Rd} {c c' : Clk} (h : DecW w br bc wr r c) (k : Nat) (v : Value) (hc : c.cells.set k v = c'.cells) : DecW w br bc (wr.setCell ⟨bc, k, none⟩ v) r c' := by
  have hf : Fr [bc] wr (wr.setCell ⟨bc, k, none⟩ v) := (Fr.refl _ _).setCell (.inl (by simp)) _
  refine ⟨h.fr.trans' hf (by intro x hx; simp at hx; subst hx; exact .inr h.bc), ?_, ?_, h.br, h.bc⟩
  · obtain ⟨A, c0, h1, h2⟩ := h.rd
    refine ⟨A, c0, h1.fr hf (by simpa using h.ne.symm), ownsRow_fr h2 hf ?_⟩
    intro g hg hm
    have : g = bc := by simpa using hm
    subst this
    exact own_ne h2 h.clk (by decide) hg
  · have := h.clk.set k v
    rwa [hc] at this

/-- The pointers to the five ints. -/
def fivePtrs (bc : Nat) : List Value := [.pointer (some ⟨bc, 0, none⟩), .pointer (some ⟨bc, 1, none⟩), .pointer (some ⟨bc, 2, none⟩), .pointer (some ⟨bc, 3, none⟩), .pointer (some ⟨bc, 4, none⟩)]
theorem fivePtrs_get (bc k : Nat) (hk : k < 5) : (fivePtrs bc)[k]? = some (.pointer (some ⟨bc, k, none⟩)) := by
  match k, hk with
  | 0, _ => rfl
  | 1, _ => rfl
  | 2, _ => rfl
  | 3, _ => rfl
  | 4, _ => rfl

def DecRes (D : List UInt8) (w : World) (e : Ending) (w' : World) : Prop :=
  Fr [] w w' ∧ if decErr D = 0 then ∃ bc, w.heap.size ≤ bc ∧ e = .returned (.tuple #[Value.pointer (some ⟨bc, 0, none⟩), Value.int .i64 0]) ∧ At w' bc 57 (decAll D).c.cells else e = .returned (.tuple #[.pointer none, Value.int .i64 (decErr D)])

set_option maxRecDepth 100000 in
set_option maxHeartbeats 4000000 in
theorem decode_any (A : Option Addr) (cp : Nat) (D : List UInt8) (w : World) (hD : D.length ≤ 4294967296) (hrow : RowIn w A (B8 D)) :
    Calls Try.prog 21 #[.slice A D.length cp] w (DecRes D w) := by
  have H := Lib.hid (And.intro hD hrow)
  clear hD hrow
  go_enter Try.func21, Try.ntmps21
  go_wp2_with fail
  refine (newReader_any A cp D _ H.out.1 H.out.2).mono ?_
  rintro e w1 ⟨br, rfl, hbr, hf1, hr1⟩
  have hz1 := hf1.size
  have hbl : br < w1.heap.size := by obtain ⟨A, c, ha, _⟩ := hr1; exact ha.lt
  have H1 := Lib.hid (And.intro hf1 hr1)
  clear hf1 hr1
  go_wp2_with fail
  go_region
  go_wp2_with fail
  have HS : Hid (∃ W, W = ((w1.alloc (.cells Clk.zero.cells.toArray 57)).alloc (.cells (fivePtrs w1.heap.size).toArray 66)).drew ∧ DecW w br w1.heap.size W ⟨D, 0, 0, 0⟩ Clk.zero ∧ At W (w1.heap.size + 1) 66 (fivePtrs w1.heap.size) ∧ Fr [] w W) := by
    have hf2 : Fr [] w1 (((w1.alloc (.cells Clk.zero.cells.toArray 57)).alloc (.cells (fivePtrs w1.heap.size).toArray 66)).drew) := (((Fr.refl _ _).alloc _).alloc _).drew
    refine ⟨_, rfl, ⟨H1.out.1.trans hf2, ReaderAt.fr H1.out.2 hf2, ((At.new w1 57 Clk.zero.cells).alloc _).drew, hbr, hz1⟩, ?_, H1.out.1.trans hf2⟩
    have := (At.new (w1.alloc (.cells Clk.zero.cells.toArray 57)) 66 (fivePtrs w1.heap.size)).drew
    simpa using this
  change Code.wp _ _ _ _ (((w1.alloc (.cells Clk.zero.cells.toArray 57)).alloc (.cells (fivePtrs w1.heap.size).toArray 66)).drew)
  obtain ⟨W, hW, hs⟩ := HS.out
  rw [← hW]
  have HS0 := Lib.hid hs
  clear hW hs HS H1
  have hk0 : (⟨D, 0, 0, 0⟩ : Rd).Ok := ⟨Nat.zero_le _, H.out.1⟩
  have HK := Lib.hid hk0
  clear hk0
  obtain ⟨r0, hr0⟩ : ∃ r0 : Rd, r0 = ⟨D, 0, 0, 0⟩ := ⟨_, rfl⟩
  rw [← hr0] at HS0 HK
  have HR0 := Lib.hid hr0
  clear hr0
  obtain ⟨bc, hbc⟩ : ∃ bc, bc = w1.heap.size := ⟨_, rfl⟩
  rw [← hbc] at HS0 ⊢
  have hbrc : br < bc := by omega
  have hbcw : w.heap.size ≤ bc := by omega
  clear hbc hbl hz1
  go_loopw [35] (fun i wr => ∃ k : Nat, k ≤ 5 ∧ i = .int .i64 k ∧ DecW w br bc wr (dec5 r0 k).1 (dec5 r0 k).2 ∧ At wr (bc + 1) 66 (fivePtrs bc)) (fun i _ => 5 - (intOf i).toNat)
  case atStart => exact ⟨0, by omega, rfl, HS0.out.1, HS0.out.2.1⟩
  case round =>
    obtain ⟨k, hk, rfl, hst, hpt⟩ := hrel
    have HT := Lib.hid (And.intro hst hpt)
    clear hst hpt HS0
    by_cases hk5 : k < 5
    · have hp : wr.cell? ⟨bc + 1, k, none⟩ = some (.pointer (some ⟨bc, k, none⟩)) := by rw [HT.out.2.cell, fivePtrs_get bc k hk5]
      go_wp2_with fail
      refine (rInt br _ _ HT.out.1.rd (dec5_ok HK.out k).1).mono ?_
      rintro e w2 ⟨rfl, hf2, hr2⟩
      have hd2 := HT.out.1.read hf2 hr2
      obtain ⟨x0, hx0⟩ := Clk.cell_five (dec5 r0 k).2 k hk5
      have c0 : w2.cell? ⟨bc, k, none⟩ = some (Value.int .i64 x0) := by rw [hd2.clk.cell, hx0]
      have z0 := hd2.clk.frozen k
      have hset := hd2.set k (Value.int .i64 (dec5 r0 k).1.int.1) (Clk.cells_setF _ k hk5 _)
      have hpt2 : At (w2.setCell ⟨bc, k, none⟩ (Value.int .i64 (dec5 r0 k).1.int.1)) (bc + 1) 66 (fivePtrs bc) := (HT.out.2.fr hf2 (by simp; omega)).far (by simp) _
      have H2 := Lib.hid (And.intro hset hpt2)
      clear hf2 hr2 hd2 hx0 hset hpt2
      go_wp2_with fail
      go_roundw
      case rel => exact ⟨k + 1, by omega, by go_num, H2.out⟩
      case measure => simp [intOf]; omega
    · obtain rfl : k = 5 := by omega
      clear hk hk5
      have HT5 := Lib.hid HT.out.1
      clear HT
      go_wp2_with fail
      refine (rBool br _ _ HT5.out.rd (dec5_ok HK.out 5).1).mono ?_
      rintro e w2 ⟨rfl, hf2, hr2⟩
      have hd2 := HT5.out.read hf2 hr2
      have c6 : w2.cell? ⟨bc, 6, none⟩ = some (Value.bool (dec5 r0 5).2.read) := by rw [hd2.clk.cell]; rfl
      have z6 := hd2.clk.frozen 6
      have hset := hd2.set 6 (Value.bool (dec5 r0 5).1.bool.1) (Clk.set6 _ _)
      have HB2 := Lib.hid hset
      have hkb := Lib.hid (dec5_ok HK.out 5).1.bool
      clear hf2 hr2 hd2 hset
      have HDH : Hid (decHead r0 = if (dec5 r0 5).1.bool.1 then ((dec5 r0 5).1.bool.2.int.2, { (dec5 r0 5).2 with read := true, ref := (dec5 r0 5).1.bool.2.int.1 }) else ((dec5 r0 5).1.bool.2, { (dec5 r0 5).2 with read := false })) := rfl
      generalize (dec5 r0 5).1.bool.1 = bb at HB2 HDH ⊢
      cases bb
      · go_wp2_with fail
        have H3 : Hid (DecW w br bc (w2.setCell ⟨bc, 6, none⟩ (Value.bool false)) (decHead r0).1 (decHead r0).2) := by rw [HDH.out]; exact HB2.out
        clear HB2 HDH HT5 c6 z6
        have hho := decHead_ok HK.out
        have HHO := Lib.hid hho
        clear hho
        have hcl := (decHead r0).1.count_le 12 (by decide)
        have hcl0 : (0 : Int) ≤ (((decHead r0).1.count 12).1 : Int) := by omega
        refine (rCount br _ 12 _ H3.out.rd HHO.out.1 (by unfold Fit64; decide)).mono ?_
        rintro e w4 ⟨rfl, hf4, hr4⟩
        have H4 := Lib.hid (H3.out.read hf4 hr4)
        clear hf4 hr4 H3
        obtain ⟨s0, hs0⟩ : ∃ s0 : DSt, s0 = { r := ((decHead r0).1.count 12).2, c := (decHead r0).2, valid := true, last := -1 } := ⟨_, rfl⟩
        have HS0' : Hid (decAll D = s0.steps ((decHead r0).1.count 12).1) := by rw [hs0, HR0.out]; rfl
        have HOK : Hid s0.Ok := by rw [hs0]; exact ⟨HHO.out.1.count 12, HHO.out.2, ⟨by show (-1 : Int) ≤ -1; decide, by show (-1 : Int) < 12; decide⟩⟩
        have HI4 : Hid (DecW w br bc w4 s0.r s0.c ∧ s0.valid = true ∧ s0.last = -1 ∧ (∀ x ∈ s0.c.told, 0 ≤ x ∧ x ≤ 999999) ∧ Fit64 s0.c.day ∧ Fit64 s0.c.own) := by
          rw [hs0]
          exact ⟨H4.out, rfl, rfl, decHead_told HK.out, decHead_fit r0⟩
        clear hs0 H4
        generalize ((decHead r0).1.count 12).1 = N at hcl hcl0 HS0' ⊢
        go_wp2_with fail
        go_loopw [8, 9, 60] (fun va la i wr => ∃ k : Nat, k ≤ N ∧ i = .int .i64 k ∧ va = .bool (s0.steps k).valid ∧ la = .int .i64 (s0.steps k).last ∧ DecW w br bc wr (s0.steps k).r (s0.steps k).c) (fun _ _ i _ => N - (intOf i).toNat)
        case atStart => exact ⟨0, by omega, rfl, by rw [show s0.steps 0 = s0 from rfl, HI4.out.2.1], by rw [show s0.steps 0 = s0 from rfl, HI4.out.2.2.1], HI4.out.1⟩
        case round =>
          obtain ⟨k, hk, rfl, rfl, rfl, hst⟩ := hrel
          have HT := Lib.hid hst
          have hok := HOK.out.steps k
          have HOk := Lib.hid hok
          have hla := hok.last.1
          have hlb := hok.last.2
          clear hst hok
          by_cases hkN : k < N
          · have hnext : s0.steps (k + 1) = (s0.steps k).step := rfl
            have HNX := Lib.hid hnext
            clear hnext
            generalize hsk : s0.steps k = s at HT HOk hla hlb HNX
            clear hsk
            go_wp2_with fail
            refine (rInt br _ _ HT.out.rd HOk.out.r).mono ?_
            rintro e w5 ⟨rfl, hf5, hr5⟩
            have H5 := Lib.hid (HT.out.read hf5 hr5)
            clear hf5 hr5
            go_wp2_with fail
            refine (rInt br _ _ H5.out.rd HOk.out.r.int).mono ?_
            rintro e w6 ⟨rfl, hf6, hr6⟩
            have H6 := Lib.hid (H5.out.read hf6 hr6)
            clear hf6 hr6 H5
            have HST := Lib.hid (show s.step = s.step from rfl)
            have HSD : Hid (s.step = if inDev s.r.int.1 = true ∧ inDay s.r.int.2.int.1 = true ∧ s.last < s.r.int.1 then { r := s.r.int.2.int.2, c := s.c.tell s.r.int.1.toNat s.r.int.2.int.1, valid := s.valid, last := s.r.int.1 } else { s with r := s.r.int.2.int.2, valid := false }) := rfl
            generalize s.r.int.2.int.2 = r2 at H6 HSD ⊢
            generalize s.r.int.2.int.1 = y at H6 HSD ⊢
            generalize s.r.int.1 = x at H6 HSD ⊢
            cases hv : inDev x
            · have HV := Lib.hid hv
              clear hv
              go_wp2_with fail
              refine (validDevice_any _ _).mono ?_
              rintro e w' ⟨rfl, rfl⟩
              rw [HV.out]
              go_wp2_with fail
              go_roundw
              case rel => exact ⟨k + 1, by omega, by go_num, by rw [HNX.out, HSD.out, if_neg (by rw [HV.out]; simp)], by rw [HNX.out, HSD.out, if_neg (by rw [HV.out]; simp)], by rw [HNX.out, HSD.out, if_neg (by rw [HV.out]; simp)]; exact H6.out⟩
              case measure => simp [intOf]; omega
            · have hx : 0 ≤ x ∧ x < 12 := by simpa [inDev] using hv
              obtain ⟨hx0, hx1⟩ := hx
              have HV := Lib.hid hv
              clear hv
              cases hd : inDay y
              · have HDy := Lib.hid hd
                clear hd
                go_wp2_with fail
                refine (validDevice_any _ _).mono ?_
                rintro e w' ⟨rfl, rfl⟩
                rw [HV.out]
                go_wp2_with fail
                refine (validDay_any _ _).mono ?_
                rintro e w' ⟨rfl, rfl⟩
                rw [HDy.out]
                go_wp2_with fail
                go_roundw
                case rel => exact ⟨k + 1, by omega, by go_num, by rw [HNX.out, HSD.out, if_neg (by rw [HDy.out]; simp)], by rw [HNX.out, HSD.out, if_neg (by rw [HDy.out]; simp)], by rw [HNX.out, HSD.out, if_neg (by rw [HDy.out]; simp)]; exact H6.out⟩
                case measure => simp [intOf]; omega
              · have HDy := Lib.hid hd
                clear hd
                by_cases hl : x ≤ s.last
                · have hlb' : decide (x ≤ s.last) = true := by simpa using hl
                  have HL := Lib.hid hl
                  clear hl
                  go_wp2_with fail
                  refine (validDevice_any _ _).mono ?_
                  rintro e w' ⟨rfl, rfl⟩
                  rw [HV.out]
                  go_wp2_with fail
                  refine (validDay_any _ _).mono ?_
                  rintro e w' ⟨rfl, rfl⟩
                  rw [HDy.out]
                  go_wp2_with fail
                  go_roundw
                  case rel => exact ⟨k + 1, by omega, by go_num, by rw [HNX.out, HSD.out, if_neg (by have := HL.out; omega)], by rw [HNX.out, HSD.out, if_neg (by have := HL.out; omega)], by rw [HNX.out, HSD.out, if_neg (by have := HL.out; omega)]; exact H6.out⟩
                  case measure => simp [intOf]; omega
                · have hlb' : decide (x ≤ s.last) = false := by simpa using hl
                  have HL := Lib.hid hl
                  clear hl
                  obtain ⟨xn, rfl⟩ := Int.eq_ofNat_of_zero_le hx0
                  have hxn : xn < 12 := by omega
                  obtain ⟨a, ha, ha'⟩ := s.c.cell_told HOk.out.c xn hxn
                  obtain ⟨b, hb, hb'⟩ := s.c.cell_heard HOk.out.c xn hxn
                  have q1 : w6.cell? ⟨bc, 19 + xn, none⟩ = some (Value.bool b) := by rw [H6.out.clk.cell, hb']
                  have q2 : w6.cell? ⟨bc, 7 + xn, none⟩ = some (Value.int .i64 a) := by rw [H6.out.clk.cell, ha']
                  have qz := fun i => H6.out.clk.frozen i
                  have HSET : Hid (DecW w br bc ((w6.setCell ⟨bc, 19 + xn, none⟩ (Value.bool true)).setCell ⟨bc, 7 + xn, none⟩ (Value.int .i64 y)) r2 (s.c.tell xn y)) := by
                    have e1 : s.c.cells.set (19 + xn) (Value.bool true) = ({ s.c with heard := s.c.heard.set xn true } : Clk).cells := Clk.cells_heard s.c HOk.out.c xn
                    refine (H6.out.set (19 + xn) (Value.bool true) e1).set (7 + xn) (Value.int .i64 y) ?_
                    rw [← e1]
                    exact Clk.cells_tell s.c HOk.out.c xn hxn y
                  clear ha ha' hb hb'
                  go_wp2_with fail
                  refine (validDevice_any _ _).mono ?_
                  rintro e w' ⟨rfl, rfl⟩
                  rw [HV.out]
                  go_wp2_with fail
                  refine (validDay_any _ _).mono ?_
                  rintro e w' ⟨rfl, rfl⟩
                  rw [HDy.out]
                  go_wp2_with fail
                  go_roundw
                  case rel => exact ⟨k + 1, by omega, by go_num, by rw [HNX.out, HSD.out, if_pos ⟨HV.out, HDy.out, by have := HL.out; omega⟩], by rw [HNX.out, HSD.out, if_pos ⟨HV.out, HDy.out, by have := HL.out; omega⟩], by rw [HNX.out, HSD.out, if_pos ⟨HV.out, HDy.out, by have := HL.out; omega⟩]; exact HSET.out⟩
                  case measure => simp [intOf]; omega
          · obtain rfl : k = N := by omega
            have htold : Hid ((∀ x ∈ (s0.steps k).c.told, 0 ≤ x ∧ x ≤ 999999) ∧ Fit64 (s0.steps k).c.day ∧ Fit64 (s0.steps k).c.own) := DSt.told_steps s0 HI4.out.2.2.2 k
            rw [← HS0'.out] at HT HOk htold ⊢
            clear HS0' HI4 HOK hla hlb
            have HDE : Hid (decErr D = if (decAll D).r.end_ ≠ 0 then (decAll D).r.end_ else if ((decAll D).valid && (decAll D).c.valid) = true then 0 else 3) := rfl
            generalize hal : decAll D = s at HT HOk htold HDE ⊢
            have HAL := Lib.hid hal
            clear hal
            go_wp2_with fail
            refine (rEnd br _ _ HT.out.rd HOk.out.r).mono ?_
            rintro e w5 ⟨rfl, hf5⟩
            have H5 := Lib.hid (HT.out.keep hf5)
            clear hf5
            by_cases he : s.r.end_ = 0
            · have heb : (s.r.end_ != 0) = false := by simpa using he
              have HE := Lib.hid he
              clear he
              cases hva : s.valid
              · have HVA := Lib.hid hva
                clear hva
                go_wp2_with fail
                go_ret2
                have hz : decErr D = 3 := by rw [HDE.out, if_neg (by rw [HE.out]; simp), HVA.out]; rfl
                refine ⟨H5.out.fr, ?_⟩
                rw [hz]
                rfl
              · have HVA := Lib.hid hva
                clear hva
                go_wp2_with fail
                refine (valid_any bc s.c _ H5.out.clk HOk.out.c htold.out.2.1 htold.out.2.2 htold.out.1).mono ?_
                rintro e w6 ⟨rfl, hf6⟩
                have H6 := Lib.hid (H5.out.keep hf6)
                clear hf6
                cases hcv : s.c.valid
                · have HCV := Lib.hid hcv
                  clear hcv
                  go_wp2_with fail
                  go_ret2
                  have hz : decErr D = 3 := by rw [HDE.out, if_neg (by rw [HE.out]; simp), HVA.out, HCV.out]; rfl
                  refine ⟨H6.out.fr, ?_⟩
                  rw [hz]
                  rfl
                · have HCV := Lib.hid hcv
                  clear hcv
                  go_wp2_with fail
                  go_ret2
                  have hz : decErr D = 0 := by rw [HDE.out, if_neg (by rw [HE.out]; simp), HVA.out, HCV.out]; rfl
                  refine ⟨H6.out.fr, ?_⟩
                  rw [if_pos hz]
                  exact ⟨bc, hbcw, rfl, by rw [HAL.out]; exact H6.out.clk⟩
            · have heb : (s.r.end_ != 0) = true := by simpa using he
              have HE := Lib.hid he
              clear he
              go_wp2_with fail
              go_ret2
              have hz : decErr D = s.r.end_ := by rw [HDE.out, if_pos HE.out]
              refine ⟨H5.out.fr, ?_⟩
              rw [hz, if_neg HE.out]
              rfl
      · go_wp2_with fail
        refine (rInt br _ _ HB2.out.rd hkb.out).mono ?_
        rintro e w3 ⟨rfl, hf3, hr3⟩
        have hd3 := HB2.out.read hf3 hr3
        have c5 : w3.cell? ⟨bc, 5, none⟩ = some (Value.int .i64 (dec5 r0 5).2.ref) := by rw [hd3.clk.cell]; rfl
        have z5 := hd3.clk.frozen 5
        have H3 : Hid (DecW w br bc (w3.setCell ⟨bc, 5, none⟩ (Value.int .i64 (dec5 r0 5).1.bool.2.int.1)) (decHead r0).1 (decHead r0).2) := by
          rw [HDH.out]
          exact hd3.set 5 _ (Clk.set5 _ _)
        clear HB2 HDH HT5 hf3 hr3 hd3 c6 z6
        go_wp2_with fail
        clear c5 z5
        have hho := decHead_ok HK.out
        have HHO := Lib.hid hho
        clear hho
        have hcl := (decHead r0).1.count_le 12 (by decide)
        have hcl0 : (0 : Int) ≤ (((decHead r0).1.count 12).1 : Int) := by omega
        refine (rCount br _ 12 _ H3.out.rd HHO.out.1 (by unfold Fit64; decide)).mono ?_
        rintro e w4 ⟨rfl, hf4, hr4⟩
        have H4 := Lib.hid (H3.out.read hf4 hr4)
        clear hf4 hr4 H3
        obtain ⟨s0, hs0⟩ : ∃ s0 : DSt, s0 = { r := ((decHead r0).1.count 12).2, c := (decHead r0).2, valid := true, last := -1 } := ⟨_, rfl⟩
        have HS0' : Hid (decAll D = s0.steps ((decHead r0).1.count 12).1) := by rw [hs0, HR0.out]; rfl
        have HOK : Hid s0.Ok := by rw [hs0]; exact ⟨HHO.out.1.count 12, HHO.out.2, ⟨by show (-1 : Int) ≤ -1; decide, by show (-1 : Int) < 12; decide⟩⟩
        have HI4 : Hid (DecW w br bc w4 s0.r s0.c ∧ s0.valid = true ∧ s0.last = -1 ∧ (∀ x ∈ s0.c.told, 0 ≤ x ∧ x ≤ 999999) ∧ Fit64 s0.c.day ∧ Fit64 s0.c.own) := by
          rw [hs0]
          exact ⟨H4.out, rfl, rfl, decHead_told HK.out, decHead_fit r0⟩
        clear hs0 H4
        generalize ((decHead r0).1.count 12).1 = N at hcl hcl0 HS0' ⊢
        go_wp2_with fail
        go_loopw [8, 9, 60] (fun va la i wr => ∃ k : Nat, k ≤ N ∧ i = .int .i64 k ∧ va = .bool (s0.steps k).valid ∧ la = .int .i64 (s0.steps k).last ∧ DecW w br bc wr (s0.steps k).r (s0.steps k).c) (fun _ _ i _ => N - (intOf i).toNat)
        case atStart => exact ⟨0, by omega, rfl, by rw [show s0.steps 0 = s0 from rfl, HI4.out.2.1], by rw [show s0.steps 0 = s0 from rfl, HI4.out.2.2.1], HI4.out.1⟩
        case round =>
          obtain ⟨k, hk, rfl, rfl, rfl, hst⟩ := hrel
          have HT := Lib.hid hst
          have hok := HOK.out.steps k
          have HOk := Lib.hid hok
          have hla := hok.last.1
          have hlb := hok.last.2
          clear hst hok
          by_cases hkN : k < N
          · have hnext : s0.steps (k + 1) = (s0.steps k).step := rfl
            have HNX := Lib.hid hnext
            clear hnext
            generalize hsk : s0.steps k = s at HT HOk hla hlb HNX
            clear hsk
            go_wp2_with fail
            refine (rInt br _ _ HT.out.rd HOk.out.r).mono ?_
            rintro e w5 ⟨rfl, hf5, hr5⟩
            have H5 := Lib.hid (HT.out.read hf5 hr5)
            clear hf5 hr5
            go_wp2_with fail
            refine (rInt br _ _ H5.out.rd HOk.out.r.int).mono ?_
            rintro e w6 ⟨rfl, hf6, hr6⟩
            have H6 := Lib.hid (H5.out.read hf6 hr6)
            clear hf6 hr6 H5
            have HST := Lib.hid (show s.step = s.step from rfl)
            have HSD : Hid (s.step = if inDev s.r.int.1 = true ∧ inDay s.r.int.2.int.1 = true ∧ s.last < s.r.int.1 then { r := s.r.int.2.int.2, c := s.c.tell s.r.int.1.toNat s.r.int.2.int.1, valid := s.valid, last := s.r.int.1 } else { s with r := s.r.int.2.int.2, valid := false }) := rfl
            generalize s.r.int.2.int.2 = r2 at H6 HSD ⊢
            generalize s.r.int.2.int.1 = y at H6 HSD ⊢
            generalize s.r.int.1 = x at H6 HSD ⊢
            cases hv : inDev x
            · have HV := Lib.hid hv
              clear hv
              go_wp2_with fail
              refine (validDevice_any _ _).mono ?_
              rintro e w' ⟨rfl, rfl⟩
              rw [HV.out]
              go_wp2_with fail
              go_roundw
              case rel => exact ⟨k + 1, by omega, by go_num, by rw [HNX.out, HSD.out, if_neg (by rw [HV.out]; simp)], by rw [HNX.out, HSD.out, if_neg (by rw [HV.out]; simp)], by rw [HNX.out, HSD.out, if_neg (by rw [HV.out]; simp)]; exact H6.out⟩
              case measure => simp [intOf]; omega
            · have hx : 0 ≤ x ∧ x < 12 := by simpa [inDev] using hv
              obtain ⟨hx0, hx1⟩ := hx
              have HV := Lib.hid hv
              clear hv
              cases hd : inDay y
              · have HDy := Lib.hid hd
                clear hd
                go_wp2_with fail
                refine (validDevice_any _ _).mono ?_
                rintro e w' ⟨rfl, rfl⟩
                rw [HV.out]
                go_wp2_with fail
                refine (validDay_any _ _).mono ?_
                rintro e w' ⟨rfl, rfl⟩
                rw [HDy.out]
                go_wp2_with fail
                go_roundw
                case rel => exact ⟨k + 1, by omega, by go_num, by rw [HNX.out, HSD.out, if_neg (by rw [HDy.out]; simp)], by rw [HNX.out, HSD.out, if_neg (by rw [HDy.out]; simp)], by rw [HNX.out, HSD.out, if_neg (by rw [HDy.out]; simp)]; exact H6.out⟩
                case measure => simp [intOf]; omega
              · have HDy := Lib.hid hd
                clear hd
                by_cases hl : x ≤ s.last
                · have hlb' : decide (x ≤ s.last) = true := by simpa using hl
                  have HL := Lib.hid hl
                  clear hl
                  go_wp2_with fail
                  refine (validDevice_any _ _).mono ?_
                  rintro e w' ⟨rfl, rfl⟩
                  rw [HV.out]
                  go_wp2_with fail
                  refine (validDay_any _ _).mono ?_
                  rintro e w' ⟨rfl, rfl⟩
                  rw [HDy.out]
                  go_wp2_with fail
                  go_roundw
                  case rel => exact ⟨k + 1, by omega, by go_num, by rw [HNX.out, HSD.out, if_neg (by have := HL.out; omega)], by rw [HNX.out, HSD.out, if_neg (by have := HL.out; omega)], by rw [HNX.out, HSD.out, if_neg (by have := HL.out; omega)]; exact H6.out⟩
                  case measure => simp [intOf]; omega
                · have hlb' : decide (x ≤ s.last) = false := by simpa using hl
                  have HL := Lib.hid hl
                  clear hl
                  obtain ⟨xn, rfl⟩ := Int.eq_ofNat_of_zero_le hx0
                  have hxn : xn < 12 := by omega
                  obtain ⟨a, ha, ha'⟩ := s.c.cell_told HOk.out.c xn hxn
                  obtain ⟨b, hb, hb'⟩ := s.c.cell_heard HOk.out.c xn hxn
                  have q1 : w6.cell? ⟨bc, 19 + xn, none⟩ = some (Value.bool b) := by rw [H6.out.clk.cell, hb']
                  have q2 : w6.cell? ⟨bc, 7 + xn, none⟩ = some (Value.int .i64 a) := by rw [H6.out.clk.cell, ha']
                  have qz := fun i => H6.out.clk.frozen i
                  have HSET : Hid (DecW w br bc ((w6.setCell ⟨bc, 19 + xn, none⟩ (Value.bool true)).setCell ⟨bc, 7 + xn, none⟩ (Value.int .i64 y)) r2 (s.c.tell xn y)) := by
                    have e1 : s.c.cells.set (19 + xn) (Value.bool true) = ({ s.c with heard := s.c.heard.set xn true } : Clk).cells := Clk.cells_heard s.c HOk.out.c xn
                    refine (H6.out.set (19 + xn) (Value.bool true) e1).set (7 + xn) (Value.int .i64 y) ?_
                    rw [← e1]
                    exact Clk.cells_tell s.c HOk.out.c xn hxn y
                  clear ha ha' hb hb'
                  go_wp2_with fail
                  refine (validDevice_any _ _).mono ?_
                  rintro e w' ⟨rfl, rfl⟩
                  rw [HV.out]
                  go_wp2_with fail
                  refine (validDay_any _ _).mono ?_
                  rintro e w' ⟨rfl, rfl⟩
                  rw [HDy.out]
                  go_wp2_with fail
                  go_roundw
                  case rel => exact ⟨k + 1, by omega, by go_num, by rw [HNX.out, HSD.out, if_pos ⟨HV.out, HDy.out, by have := HL.out; omega⟩], by rw [HNX.out, HSD.out, if_pos ⟨HV.out, HDy.out, by have := HL.out; omega⟩], by rw [HNX.out, HSD.out, if_pos ⟨HV.out, HDy.out, by have := HL.out; omega⟩]; exact HSET.out⟩
                  case measure => simp [intOf]; omega
          · obtain rfl : k = N := by omega
            have htold : Hid ((∀ x ∈ (s0.steps k).c.told, 0 ≤ x ∧ x ≤ 999999) ∧ Fit64 (s0.steps k).c.day ∧ Fit64 (s0.steps k).c.own) := DSt.told_steps s0 HI4.out.2.2.2 k
            rw [← HS0'.out] at HT HOk htold ⊢
            clear HS0' HI4 HOK hla hlb
            have HDE : Hid (decErr D = if (decAll D).r.end_ ≠ 0 then (decAll D).r.end_ else if ((decAll D).valid && (decAll D).c.valid) = true then 0 else 3) := rfl
            generalize hal : decAll D = s at HT HOk htold HDE ⊢
            have HAL := Lib.hid hal
            clear hal
            go_wp2_with fail
            refine (rEnd br _ _ HT.out.rd HOk.out.r).mono ?_
            rintro e w5 ⟨rfl, hf5⟩
            have H5 := Lib.hid (HT.out.keep hf5)
            clear hf5
            by_cases he : s.r.end_ = 0
            · have heb : (s.r.end_ != 0) = false := by simpa using he
              have HE := Lib.hid he
              clear he
              cases hva : s.valid
              · have HVA := Lib.hid hva
                clear hva
                go_wp2_with fail
                go_ret2
                have hz : decErr D = 3 := by rw [HDE.out, if_neg (by rw [HE.out]; simp), HVA.out]; rfl
                refine ⟨H5.out.fr, ?_⟩
                rw [hz]
                rfl
              · have HVA := Lib.hid hva
                clear hva
                go_wp2_with fail
                refine (valid_any bc s.c _ H5.out.clk HOk.out.c htold.out.2.1 htold.out.2.2 htold.out.1).mono ?_
                rintro e w6 ⟨rfl, hf6⟩
                have H6 := Lib.hid (H5.out.keep hf6)
                clear hf6
                cases hcv : s.c.valid
                · have HCV := Lib.hid hcv
                  clear hcv
                  go_wp2_with fail
                  go_ret2
                  have hz : decErr D = 3 := by rw [HDE.out, if_neg (by rw [HE.out]; simp), HVA.out, HCV.out]; rfl
                  refine ⟨H6.out.fr, ?_⟩
                  rw [hz]
                  rfl
                · have HCV := Lib.hid hcv
                  clear hcv
                  go_wp2_with fail
                  go_ret2
                  have hz : decErr D = 0 := by rw [HDE.out, if_neg (by rw [HE.out]; simp), HVA.out, HCV.out]; rfl
                  refine ⟨H6.out.fr, ?_⟩
                  rw [if_pos hz]
                  exact ⟨bc, hbcw, rfl, by rw [HAL.out]; exact H6.out.clk⟩
            · have heb : (s.r.end_ != 0) = true := by simpa using he
              have HE := Lib.hid he
              clear he
              go_wp2_with fail
              go_ret2
              have hz : decErr D = s.r.end_ := by rw [HDE.out, if_pos HE.out]
              refine ⟨H5.out.fr, ?_⟩
              rw [hz, if_neg HE.out]
              rfl

end Go.Proofs.Ytflabbdnkoejjaa
