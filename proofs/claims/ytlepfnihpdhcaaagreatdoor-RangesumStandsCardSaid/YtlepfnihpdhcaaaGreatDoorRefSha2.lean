/- Contract of the reference's Block (layer 3). -/
import Derived.Test.YtlepfnihpdhcaaaGreatDoorRefSha1
import Derived.Outline
import Derived.StillTailTactics
namespace Go.Proofs.YtlepfnihpdhcaaaGreatDoor
open Go.RowKit

/-- The memory of Block: the words, the result, the constants, the schedule. -/
structure RB (w wr : World) (bh br bk bw : Nat) (H : List Nat) (blk : List UInt8) (t : Nat) : Prop where
  fr : Fr [] w wr
  h : At wr bh 133 (U4 H)
  r : ∃ l, l.length = 8 ∧ At wr br 133 l
  k : At wr bk 158 (U4 shaK)
  sched : At wr bw 158 (wrow blk t)
  lo : w.heap.size ≤ bh
  o1 : bh < br
  o2 : br < bk
  o3 : bk < bw

theorem RB.drewN {w wr : World} {bh br bk bw : Nat} {H : List Nat} {blk : List UInt8} {t : Nat} (h : RB w wr bh br bk bw H blk t) (n : Nat) : RB w (wr.drewN n) bh br bk bw H blk t :=
  ⟨h.fr.drewN n, h.h, h.r, h.k, h.sched, h.lo, h.o1, h.o2, h.o3⟩
theorem RB.drew {w wr : World} {bh br bk bw : Nat} {H : List Nat} {blk : List UInt8} {t : Nat} (h : RB w wr bh br bk bw H blk t) : RB w wr.drew bh br bk bw H blk t :=
  ⟨h.fr.drew, h.h, h.r, h.k, h.sched, h.lo, h.o1, h.o2, h.o3⟩
theorem RB.fr' {w wr w1 : World} {bh br bk bw : Nat} {H : List Nat} {blk : List UInt8} {t : Nat} {S : List Nat} (h : RB w wr bh br bk bw H blk t) (hf : Fr S wr w1) (hs : ∀ x ∈ S, bw < x) : RB w w1 bh br bk bw H blk t := by
  have h0 := h.lo
  have h1 := h.o1
  have h2 := h.o2
  have h3 := h.o3
  have hn : ∀ x, x ≤ bw → x ∉ S := fun x hx hm => by have := hs x hm; omega
  obtain ⟨l, hl, hr⟩ := h.r
  exact ⟨h.fr.trans' hf (fun x hx => .inr (by have := hs x hx; omega)), h.h.fr hf (hn _ (by omega)), ⟨l, hl, hr.fr hf (hn _ (by omega))⟩, h.k.fr hf (hn _ (by omega)), h.sched.fr hf (hn _ (by omega)), h0, h1, h2, h3⟩
theorem RB.setW {w wr : World} {bh br bk bw : Nat} {H : List Nat} {blk : List UInt8} {t : Nat} (h : RB w wr bh br bk bw H blk t) (ht : t < 64) (x : Nat) (hx : x = if t < 16 then word blk t else nextW (schedTo blk t) t) :
    RB w (wr.setCell ⟨bw, t, none⟩ (.int .u32 (x : Int))) bh br bk bw H blk (t + 1) := by
  have h0 := h.lo
  have h1 := h.o1
  have h2 := h.o2
  have h3 := h.o3
  obtain ⟨l, hl, hr⟩ := h.r
  refine ⟨h.fr.setCell (.inr (show w.heap.size ≤ bw by omega)) _, h.h.far (show bh ≠ bw by omega) _, ⟨l, hl, hr.far (show br ≠ bw by omega) _⟩, h.k.far (show bk ≠ bw by omega) _, ?_, h0, h1, h2, h3⟩
  rw [← wrow_set blk t ht x hx]
  exact h.sched.set t _

theorem wrow_zero (blk : List UInt8) (t : Nat) (h : t < 64) : (wrow blk t)[t]? = some (.int .u32 0) := by
  unfold wrow
  rw [List.getElem?_append_right (by rw [U4_len, sched_len]; exact Nat.le_refl _), U4_len, sched_len, Nat.sub_self, List.getElem?_replicate, if_pos (by omega)]

theorem U4_one (l : List Nat) : ∀ v ∈ U4 l, v.oneCell' = true := by
  intro v hv
  obtain ⟨x, _, rfl⟩ := List.mem_map.1 hv
  rfl

theorem zip_comm (A B : List Nat) : List.zipWith add32 A B = List.zipWith add32 B A := by
  rw [List.zipWith_comm]
  congr 1
  funext x y
  unfold add32
  rw [Nat.add_comm]

set_option maxRecDepth 100000 in
set_option maxHeartbeats 4000000 in
theorem refBlock_any (g o cap : Nat) (H : List Nat) (blk : List UInt8) (w : World) (hH : H.length = 8) (hW : ∀ x ∈ H, W32 x) (hbl : blk.length = 64) (hrow : RowIn w (some ⟨g, o, none⟩) (B8 blk)) :
    Calls Tryz.prog 77 #[.agg (U4 H).toArray, .slice (some ⟨g, o, none⟩) 64 cap] w fun e w' => e = .returned (.agg (U4 (compress H blk)).toArray) ∧ Fr [] w w' := by
  have HH := Lib.hid (And.intro hH hW)
  have HR := Lib.hid (And.intro hbl hrow)
  clear hH hW hbl hrow
  obtain ⟨UH, HUH⟩ : ∃ UH, Hid (UH = U4 H) := ⟨_, rfl⟩
  rw [← HUH.out]
  obtain ⟨UK, HUK⟩ : ∃ UK, Hid (UK = U4 shaK) := ⟨_, rfl⟩
  obtain ⟨UZ, HUZ⟩ : ∃ UZ : List Value, Hid (UZ = List.replicate 64 (.int .u32 0)) := ⟨_, rfl⟩
  go_enter Tryz.func77, Tryz.ntmps77
  go_wp2_with fail
  refine (refK_any _).mono ?_
  rintro e w1 ⟨rfl, hf1⟩
  rw [← HUK.out]
  go_wp2_with (first
    | (refine wpList_build_to rfl 158 _ rfl UZ.toArray (by rw [HUZ.out]; kernel_rfl) ?_)
    | (refine wpList_store_new rfl 158 (.tmp 5) (.tmp 22) rfl rfl 158 _ UK rfl (by rw [HUK.out]; rfl) (by rw [HUK.out]; kernel_rfl) (by rw [HUK.out]; exact U4_one _) ?_; intro w2 hf2 ha2)
    | (refine wpList_store_new rfl 158 (.tmp 6) (.tmp 23) rfl rfl 158 _ UZ rfl (by rw [HUZ.out]; rfl) (by rw [HUZ.out]; kernel_rfl) (by rw [HUZ.out]; decide) ?_; intro w3 hf3 ha3))
  obtain ⟨bh, hbh⟩ : ∃ bh, bh = w.heap.size := ⟨_, rfl⟩
  obtain ⟨br, hbr⟩ : ∃ br, br = w.heap.size + 1 := ⟨_, rfl⟩
  obtain ⟨bk, hbk⟩ : ∃ bk, bk = w1.heap.size := ⟨_, rfl⟩
  obtain ⟨bw, hbw⟩ : ∃ bw, bw = w2.heap.size := ⟨_, rfl⟩
  have HB0 : Hid (RB w w3 bh br bk bw H blk 0) := by
    have hs1 := hf1.size
    simp at hs1
    have hlk : bk < w2.heap.size := by rw [hbk]; exact ha2.lt
    have f0 : Fr [] w w1 := (((Fr.refl [] w).alloc _).alloc _).trans hf1
    refine ⟨(f0.trans hf2).trans hf3, ?_, ⟨List.replicate 8 (.int .u32 0), rfl, ?_⟩, ?_, ?_, by omega, by omega, by omega, by omega⟩
    · have a1 : At (w.alloc (.cells UH.toArray 133)) bh 133 UH := by rw [hbh]; exact At.new _ _ _
      rw [← HUH.out]
      exact (((a1.alloc _).fr hf1 (by simp)).fr hf2 (by simp)).fr hf3 (by simp)
    · have a1 : At ((w.alloc (.cells UH.toArray 133)).alloc (.cells (List.replicate 8 (.int .u32 0)).toArray 133)) br 133 (List.replicate 8 (.int .u32 0)) := by
        have := At.new (w.alloc (.cells UH.toArray 133)) 133 (List.replicate 8 (.int .u32 0))
        rw [show br = (w.alloc (.cells UH.toArray 133)).heap.size by rw [hbr]; simp]
        exact this
      exact ((a1.fr hf1 (by simp)).fr hf2 (by simp)).fr hf3 (by simp)
    · rw [← HUK.out, hbk]
      exact ha2.fr hf3 (by simp)
    · rw [hbw]
      have e : wrow blk 0 = UZ := by rw [HUZ.out]; rfl
      rw [e]
      exact ha3
  rw [← hbr, ← hbh, ← hbk, ← hbw]
  clear hf1 hf2 hf3 ha2 ha3 hbh hbr hbk hbw
  go_loopw [7] (fun i wx => ∃ t : Nat, t ≤ 16 ∧ i = .int .i64 t ∧ Hid (RB w wx bh br bk bw H blk t)) (fun i _ => 16 - (intOf i).toNat)
  case atStart => exact ⟨0, by omega, rfl, HB0⟩
  case round =>
    obtain ⟨t, ht, rfl, HL⟩ := hrel
    by_cases h16 : t < 16
    · obtain ⟨⟨v0, e0, c0, k0⟩, ⟨v1, e1, c1, k1⟩, ⟨v2, e2, c2, k2⟩, ⟨v3, e3, c3, k3⟩⟩ : (∃ v : UInt8, blk.getD (4 * t) 0 = v ∧ wr.cell? ⟨g, o + 4 * t, none⟩ = some (.int .u8 (v.toNat : Int)) ∧ g < w.heap.size) ∧ (∃ v : UInt8, blk.getD (4 * t + 1) 0 = v ∧ wr.cell? ⟨g, o + (4 * t + 1), none⟩ = some (.int .u8 (v.toNat : Int)) ∧ g < w.heap.size) ∧ (∃ v : UInt8, blk.getD (4 * t + 2) 0 = v ∧ wr.cell? ⟨g, o + (4 * t + 2), none⟩ = some (.int .u8 (v.toNat : Int)) ∧ g < w.heap.size) ∧ (∃ v : UInt8, blk.getD (4 * t + 3) 0 = v ∧ wr.cell? ⟨g, o + (4 * t + 3), none⟩ = some (.int .u8 (v.toNat : Int)) ∧ g < w.heap.size) := by
        have key : ∀ i, i < 64 → ∃ v : UInt8, blk.getD i 0 = v ∧ wr.cell? ⟨g, o + i, none⟩ = some (.int .u8 (v.toNat : Int)) ∧ g < w.heap.size := by
          intro i hi
          have hg := List.getElem?_eq_getElem (l := blk) (i := i) (by rw [HR.out.1]; exact hi)
          obtain ⟨g', o', hA, hg', hc⟩ := HR.out.2 i _ (B8_get blk i _ hg)
          injection hA with hA
          injection hA with a1 a2
          subst a1 a2
          refine ⟨_, by rw [List.getD_eq_getElem?_getD, hg, Option.getD_some], ?_, hg'⟩
          rw [HL.out.fr.cell (p := ⟨g, o + i, none⟩) hg' (by simp)]
          exact hc
        exact ⟨key (4 * t) (by omega), key (4 * t + 1) (by omega), key (4 * t + 2) (by omega), key (4 * t + 3) (by omega)⟩
      have q0 := HL.out.lo
      have q1 := HL.out.o1
      have q2 := HL.out.o2
      have q3 := HL.out.o3
      have n0 : g ≠ bw := by omega
      have n1 : bw ≠ g := by omega
      have wc : wr.cell? ⟨bw, t, none⟩ = some (.int .u32 0) := by rw [HL.out.sched.cell]; exact wrow_zero blk t (by omega)
      have wf := HL.out.sched.frozen t
      obtain ⟨x, HX⟩ : ∃ x, Hid (x = word blk t) := ⟨_, rfl⟩
      have xw : bits BinOp.or IntKind.u32 (bits BinOp.or IntKind.u32 (bits BinOp.or IntKind.u32 (IntKind.u32.wrap (IntKind.u32.wrap (v0.toNat : Int) * 16777216)) (IntKind.u32.wrap (IntKind.u32.wrap (v1.toNat : Int) * 65536))) (IntKind.u32.wrap (IntKind.u32.wrap (v2.toNat : Int) * 256))) (IntKind.u32.wrap (v3.toNat : Int)) = (x : Int) := by
        rw [word_walk, HX.out]
        unfold word
        rw [e0, e1, e2, e3]
      have m0 : IntKind.i64.wrap (4 * (t : Int)) = 4 * (t : Int) := IntWalk.i64_in _ (by omega)
      have m1 : IntKind.i64.wrap (4 * (t : Int) + 1) = 4 * (t : Int) + 1 := IntWalk.i64_in _ (by omega)
      have m2 : IntKind.i64.wrap (4 * (t : Int) + 2) = 4 * (t : Int) + 2 := IntWalk.i64_in _ (by omega)
      have m3 : IntKind.i64.wrap (4 * (t : Int) + 3) = 4 * (t : Int) + 3 := IntWalk.i64_in _ (by omega)
      have z0 : (0 : Int) ≤ 4 * (t : Int) := by omega
      have z1 : (0 : Int) ≤ 4 * (t : Int) + 1 := by omega
      have z2 : (0 : Int) ≤ 4 * (t : Int) + 2 := by omega
      have z3 : (0 : Int) ≤ 4 * (t : Int) + 3 := by omega
      have y0 : 4 * (t : Int) < 64 := by omega
      have y1 : 4 * (t : Int) + 1 < 64 := by omega
      have y2 : 4 * (t : Int) + 2 < 64 := by omega
      have y3 : 4 * (t : Int) + 3 < 64 := by omega
      have tn0 : (4 * (t : Int)).toNat = 4 * t := by omega
      have tn1 : (4 * (t : Int) + 1).toNat = 4 * t + 1 := by omega
      have tn2 : (4 * (t : Int) + 2).toNat = 4 * t + 2 := by omega
      have tn3 : (4 * (t : Int) + 3).toNat = 4 * t + 3 := by omega
      have tI : (t : Int) < 64 := by omega
      have HN : Hid (RB w (wr.setCell ⟨bw, t, none⟩ (.int .u32 (x : Int))).drew bh br bk bw H blk (t + 1)) := (HL.out.setW (by omega) x (by rw [if_pos h16]; exact HX.out)).drew
      clear e0 e1 e2 e3 k0 k1 k2 k3
      go_wp2_with fail
      go_region_held3 (fun w' => w'.cell? ⟨g, o + 4 * t, none⟩ = some (.int .u8 (v0.toNat : Int)) ∧ w'.cell? ⟨g, o + (4 * t + 1), none⟩ = some (.int .u8 (v1.toNat : Int)) ∧ w'.cell? ⟨g, o + (4 * t + 2), none⟩ = some (.int .u8 (v2.toNat : Int)) ∧ w'.cell? ⟨g, o + (4 * t + 3), none⟩ = some (.int .u8 (v3.toNat : Int))) (go_keep) (first | fail)
      generalize (wr.setCell ⟨bw, t, none⟩ (.int .u32 (x : Int))).drew = W1 at HN ⊢
      rename_i hHeld
      clear hHeld xw m0 m1 m2 m3 tn0 tn1 tn2 tn3 c0 c1 c2 c3 wc wf HL
      go_wp2_with fail
      go_roundw
      case rel =>
        first
          | exact ⟨t + 1, by omega, by go_num, HN⟩
          | ((repeat apply Exists.intro); exact ⟨⟨t + 1, by omega, by go_num, HN⟩, rfl⟩)
      case measure => simp [intOf] <;> omega
    · obtain rfl : t = 16 := by omega
      go_wp2_with fail
      obtain ⟨wa, HWA⟩ : ∃ wa, Hid (wa = wr) := ⟨_, rfl⟩
      rw [← HWA.out] at HL ⊢
      clear HWA
      go_loopw [8] (fun i wx => ∃ t : Nat, 16 ≤ t ∧ t ≤ 64 ∧ i = .int .i64 t ∧ Hid (RB w wx bh br bk bw H blk t)) (fun i _ => 64 - (intOf i).toNat)
      case atStart => exact ⟨16, by omega, by omega, rfl, HL⟩
      case round =>
        obtain ⟨t, ht16, ht, rfl, HL⟩ := hrel
        by_cases hlt : t < 64
        · obtain ⟨x2, f2, w2, d2⟩ := wrow_get blk t (t - 2) (by omega)
          obtain ⟨x7, f7, w7, d7⟩ := wrow_get blk t (t - 7) (by omega)
          obtain ⟨x15, f15, w15, d15⟩ := wrow_get blk t (t - 15) (by omega)
          obtain ⟨x16, f16, w16, d16⟩ := wrow_get blk t (t - 16) (by omega)
          have HCC : Hid (∀ W, RB w W bh br bk bw H blk t → W.cell? ⟨bw, t - 2, none⟩ = some (.int .u32 (x2 : Int)) ∧ W.cell? ⟨bw, t - 7, none⟩ = some (.int .u32 (x7 : Int)) ∧ W.cell? ⟨bw, t - 15, none⟩ = some (.int .u32 (x15 : Int)) ∧ W.cell? ⟨bw, t - 16, none⟩ = some (.int .u32 (x16 : Int)) ∧ W.cell? ⟨bw, t, none⟩ = some (.int .u32 0) ∧ W.frozen? ⟨bw, t, none⟩ = false) := fun W hW =>
            ⟨by rw [hW.sched.cell]; exact d2, by rw [hW.sched.cell]; exact d7, by rw [hW.sched.cell]; exact d15, by rw [hW.sched.cell]; exact d16, by rw [hW.sched.cell]; exact wrow_zero blk t hlt, hW.sched.frozen t⟩
          have HE := Lib.hid (And.intro f2 (And.intro f7 (And.intro f15 f16)))
          have HW := Lib.hid (And.intro w2 (And.intro w7 (And.intro w15 w16)))
          obtain ⟨s1, q1, HQ1⟩ : ∃ s1 : Nat, bits BinOp.xor IntKind.u32 (bits BinOp.xor IntKind.u32 (rotr 17 x2 : Int) (rotr 19 x2 : Int)) ((x2 : Int) / 1024) = (s1 : Int) ∧ Hid (s1 = sig1 x2) := ⟨_, sig1_walk x2 w2, rfl⟩
          obtain ⟨s0, q0, HQ0⟩ : ∃ s0 : Nat, bits BinOp.xor IntKind.u32 (bits BinOp.xor IntKind.u32 (rotr 7 x15 : Int) (rotr 18 x15 : Int)) ((x15 : Int) / 8) = (s0 : Int) ∧ Hid (s0 = sig0 x15) := ⟨_, sig0_walk x15 w15, rfl⟩
          obtain ⟨y1, p1, HP1⟩ : ∃ y : Nat, IntKind.u32.wrap ((s1 : Int) + (x7 : Int)) = (y : Int) ∧ Hid (y = add32 s1 x7) := ⟨_, u32_add _ _, rfl⟩
          obtain ⟨y2, p2, HP2⟩ : ∃ y : Nat, IntKind.u32.wrap ((y1 : Int) + (s0 : Int)) = (y : Int) ∧ Hid (y = add32 y1 s0) := ⟨_, u32_add _ _, rfl⟩
          obtain ⟨y3, p3, HP3⟩ : ∃ y : Nat, IntKind.u32.wrap ((y2 : Int) + (x16 : Int)) = (y : Int) ∧ Hid (y = add32 y2 x16) := ⟨_, u32_add _ _, rfl⟩
          have HX : Hid (y3 = if t < 16 then word blk t else nextW (schedTo blk t) t) := by
            show y3 = _
            rw [if_neg (by omega), HP3.out, HP2.out, HP1.out, HQ1.out, HQ0.out]
            unfold nextW
            rw [HE.out.1, HE.out.2.1, HE.out.2.2.1, HE.out.2.2.2]
          clear f2 f7 f15 f16 w2 w7 w15 w16 d2 d7 d15 d16
          obtain ⟨c2, c7, c15, c16, wc, wf⟩ := HCC.out wr HL.out
          have s2 : (0 : Int) ≤ (t : Int) - 2 := by omega
          have s15 : (0 : Int) ≤ (t : Int) - 15 := by omega
          have s7 : (0 : Int) ≤ (t : Int) - 7 := by omega
          have s16 : (0 : Int) ≤ (t : Int) - 16 := by omega
          have s2l : (t : Int) - 2 < 64 := by omega
          have s15l : (t : Int) - 15 < 64 := by omega
          have s7l : (t : Int) - 7 < 64 := by omega
          have s16l : (t : Int) - 16 < 64 := by omega
          have g2 : (2 : Int) ≤ (t : Int) := by omega
          have g2n : 2 ≤ t := by omega
          have g15 : (15 : Int) ≤ (t : Int) := by omega
          have g15n : 15 ≤ t := by omega
          have g7 : (7 : Int) ≤ (t : Int) := by omega
          have g7n : 7 ≤ t := by omega
          have g16 : (16 : Int) ≤ (t : Int) := by omega
          have o7 : t - 7 ≠ t := by omega
          have o7' : t ≠ t - 7 := by omega
          have o16 : t - 16 ≠ t := by omega
          have o16' : t ≠ t - 16 := by omega
          have tI : (t : Int) < 64 := by omega
          have s2n : ((t : Int) - 2).toNat = t - 2 := by omega
          have s7n : ((t : Int) - 7).toNat = t - 7 := by omega
          have s15n : ((t : Int) - 15).toNat = t - 15 := by omega
          have s16n : ((t : Int) - 16).toNat = t - 16 := by omega
          have s2w : IntKind.i64.wrap ((t : Int) - 2) = (t : Int) - 2 := IntWalk.i64_in _ (by omega)
          have s7w : IntKind.i64.wrap ((t : Int) - 7) = (t : Int) - 7 := IntWalk.i64_in _ (by omega)
          have s15w : IntKind.i64.wrap ((t : Int) - 15) = (t : Int) - 15 := IntWalk.i64_in _ (by omega)
          have s16w : IntKind.i64.wrap ((t : Int) - 16) = (t : Int) - 16 := IntWalk.i64_in _ (by omega)
          go_wp2_with fail
          go_quiet ((first
            | (go_at_call 99; exact Calls.quiet_of (refRotr_any x15 7 _ _ rfl HW.out.2.2.1 (by decide) (by decide)))
            | (go_at_call 99; exact Calls.quiet_of (refRotr_any x15 18 _ _ rfl HW.out.2.2.1 (by decide) (by decide)))))
          obtain ⟨W1, HW1⟩ : ∃ W1, Hid (W1 = wr.drewN nq) := ⟨_, rfl⟩
          rw [← HW1.out]
          have HL1 : Hid (RB w W1 bh br bk bw H blk t) := by show RB w W1 bh br bk bw H blk t; rw [HW1.out]; exact HL.out.drewN _
          clear c2 c7 c15 c16 wc wf HL HW1
          obtain ⟨c2, c7, c15, c16, wc, wf⟩ := HCC.out W1 HL1.out
          go_wp2_with fail
          go_quiet ((first
            | (go_at_call 99; exact Calls.quiet_of (refRotr_any x2 17 _ _ rfl HW.out.1 (by decide) (by decide)))
            | (go_at_call 99; exact Calls.quiet_of (refRotr_any x2 19 _ _ rfl HW.out.1 (by decide) (by decide)))))
          obtain ⟨W2, HW2⟩ : ∃ W2, Hid (W2 = W1.drewN nq) := ⟨_, rfl⟩
          rw [← HW2.out]
          have HL2 : Hid (RB w W2 bh br bk bw H blk t) := by show RB w W2 bh br bk bw H blk t; rw [HW2.out]; exact HL1.out.drewN _
          clear c2 c7 c15 c16 wc wf HL1 HW2
          obtain ⟨c2, c7, c15, c16, wc, wf⟩ := HCC.out W2 HL2.out
          have HN : Hid (RB w (W2.setCell ⟨bw, t, none⟩ (.int .u32 (y3 : Int))).drew bh br bk bw H blk (t + 1)) := (HL2.out.setW hlt y3 HX.out).drew
          go_wp2_with fail
          go_still_tail 15, (by kernel_rfl)
          change wpList _ _ _ _ _ W2.drew
          go_wp2_with fail
          generalize (W2.setCell ⟨bw, t, none⟩ (.int .u32 (y3 : Int))).drew = W3 at HN ⊢
          clear q1 q0 p1 p2 p3 s2n s7n s15n s16n s2w s7w s15w s16w c2 c7 c15 c16 wc wf HL2
          (try go_wp2_with fail)
          go_roundw
          case rel =>
            first
              | exact ⟨t + 1, by omega, by omega, by go_num, HN⟩
              | ((repeat apply Exists.intro); exact ⟨⟨t + 1, by omega, by omega, by go_num, HN⟩, rfl⟩)
          case measure => simp [intOf] <;> omega
        · obtain rfl : t = 64 := by omega
          have HC8 : Hid (UH.length = 8 ∧ ∀ v ∈ UH, v.oneCell' = true) := by
            show _ ∧ _
            rw [HUH.out, U4_len]
            exact ⟨HH.out.1, U4_one _⟩
          have hhw := HL.out.h.lt
          have hww := HL.out.sched.lt
          go_wp2_with (first
            | (refine wpList_load_at rfl 133 (.tmp 2) rfl bh 0 rfl UH _ (fun j v hj => (by rw [Nat.zero_add, HL.out.h.cell, ← HUH.out]; exact hj)) Tryz.underlying133 rfl (by rw [HC8.out.1]; kernel_rfl) ?_)
            | (refine wpList_store_new rfl 133 (.tmp 11) (.tmp 116) rfl rfl 133 _ UH rfl (by rw [HC8.out.1]; rfl) (by rw [HC8.out.1]; kernel_rfl) HC8.out.2 ?_; intro w4 hf4 ha4))
          obtain ⟨bv, hbv⟩ : ∃ bv, bv = wr.heap.size := ⟨_, rfl⟩
          rw [← hbv] at ha4 ⊢
          have hbb : bw < bv := by omega
          have HV : Hid (RB w w4 bh br bk bw H blk 64 ∧ At w4 bv 133 (U4 H)) := ⟨HL.out.fr' hf4 (by simp), by rw [← HUH.out]; exact ha4⟩
          clear hf4 ha4 hbv HL hhw hww
          obtain ⟨s0, HS0⟩ : ∃ s0 : S8, Hid (s0 = S8.of H ∧ s0.Ok ∧ s0.list = H) := by
            refine ⟨_, rfl, S8.ok_of HH.out.2, ?_⟩
            have hl := HH.out.1
            match H, hl with
            | [h0, h1, h2, h3, h4, h5, h6, h7], _ => rfl
          obtain ⟨WS, HWS⟩ : ∃ WS, Hid (WS = schedTo blk 64) := ⟨_, rfl⟩
          go_loopw [12] (fun i wx => ∃ (t : Nat) (s : S8), t ≤ 64 ∧ i = .int .i64 t ∧ Hid (s = rounds WS s0 t ∧ s.Ok ∧ RB w wx bh br bk bw H blk 64 ∧ At wx bv 133 (U4 s.list))) (fun i _ => 64 - (intOf i).toNat)
          case atStart => exact ⟨0, s0, by omega, rfl, rfl, HS0.out.2.1, HV.out.1, by rw [HS0.out.2.2]; exact HV.out.2⟩
          case round =>
            obtain ⟨t, s, ht, rfl, HT⟩ := hrel
            obtain ⟨a, b', c, d, e, f, g', h⟩ := s
            by_cases hlt : t < 64
            · obtain ⟨kt, hkt⟩ : ∃ kt, shaK[t]? = some kt := ⟨_, List.getElem?_eq_getElem (show t < shaK.length from hlt)⟩
              obtain ⟨wt, fw, ww, dw⟩ := wrow_get blk 64 t hlt
              obtain ⟨s1, ef, ne, ng, ch, x1, x2, x3, t1, z0, ab, ac, bc, mx, mj, t2, na, nd, q1, q2, q3, q4, q5, q6, q7, q8, q9, q10, q11, q12, q13, q14, q15, q16, q17, q18, HQ⟩ := rnd_walk a b' c d e f g' h kt wt HT.out.2.1
              have HO : Hid (W32 e ∧ W32 a) := ⟨HT.out.2.1.e, HT.out.2.1.a⟩
              have HK : Hid (rounds WS s0 (t + 1) = ⟨na, a, b', c, nd, e, f, g'⟩ ∧ S8.Ok ⟨na, a, b', c, nd, e, f, g'⟩) := by
                refine ⟨?_, by rw [← HQ.out]; exact HT.out.2.1.rnd _ _⟩
                rw [← HQ.out]
                show (rounds WS s0 t).rnd (shaK.getD t 0) (WS.getD t 0) = _
                rw [← HT.out.1, List.getD_eq_getElem?_getD, hkt, HWS.out, fw]
                rfl
              have HCC : Hid (∀ W, RB w W bh br bk bw H blk 64 → At W bv 133 (U4 [a, b', c, d, e, f, g', h]) → W.cell? ⟨bk, t, none⟩ = some (.int .u32 (kt : Int)) ∧ W.cell? ⟨bw, t, none⟩ = some (.int .u32 (wt : Int)) ∧ W.cell? ⟨bv, 0, none⟩ = some (.int .u32 (a : Int)) ∧ W.cell? ⟨bv, 1, none⟩ = some (.int .u32 (b' : Int)) ∧ W.cell? ⟨bv, 2, none⟩ = some (.int .u32 (c : Int)) ∧ W.cell? ⟨bv, 3, none⟩ = some (.int .u32 (d : Int)) ∧ W.cell? ⟨bv, 4, none⟩ = some (.int .u32 (e : Int)) ∧ W.cell? ⟨bv, 5, none⟩ = some (.int .u32 (f : Int)) ∧ W.cell? ⟨bv, 6, none⟩ = some (.int .u32 (g' : Int)) ∧ W.cell? ⟨bv, 7, none⟩ = some (.int .u32 (h : Int))) := fun W hW hA =>
                ⟨by rw [hW.k.cell]; exact U4_get _ _ _ hkt, by rw [hW.sched.cell]; exact dw, by rw [hA.cell]; rfl, by rw [hA.cell]; rfl, by rw [hA.cell]; rfl, by rw [hA.cell]; rfl, by rw [hA.cell]; rfl, by rw [hA.cell]; rfl, by rw [hA.cell]; rfl, by rw [hA.cell]; rfl⟩
              clear hkt fw ww dw
              have htI : (t : Int) < 64 := by omega
              obtain ⟨ck, cw, j0, j1, j2, j3, j4, j5, j6, j7⟩ := HCC.out wr HT.out.2.2.1 HT.out.2.2.2
              go_wp2_with fail
              go_quiet (fail)
              obtain ⟨W1, HW1⟩ : ∃ W1, Hid (W1 = wr.drewN nq) := ⟨_, rfl⟩
              rw [← HW1.out]
              have HL1 : Hid (RB w W1 bh br bk bw H blk 64 ∧ At W1 bv 133 (U4 [a, b', c, d, e, f, g', h])) := by show _ ∧ _; rw [HW1.out]; exact ⟨HT.out.2.2.1.drewN _, HT.out.2.2.2⟩
              clear ck cw j0 j1 j2 j3 j4 j5 j6 j7 HW1
              obtain ⟨ck, cw, j0, j1, j2, j3, j4, j5, j6, j7⟩ := HCC.out W1 HL1.out.1 HL1.out.2
              go_wp2_with fail
              go_quiet ((first
                | (go_at_call 99; exact Calls.quiet_of (refRotr_any e 6 _ _ rfl HO.out.1 (by decide) (by decide)))
                | (go_at_call 99; exact Calls.quiet_of (refRotr_any e 11 _ _ rfl HO.out.1 (by decide) (by decide)))
                | (go_at_call 99; exact Calls.quiet_of (refRotr_any e 25 _ _ rfl HO.out.1 (by decide) (by decide)))))
              obtain ⟨W2, HW2⟩ : ∃ W2, Hid (W2 = W1.drewN nq) := ⟨_, rfl⟩
              rw [← HW2.out]
              have HL2 : Hid (RB w W2 bh br bk bw H blk 64 ∧ At W2 bv 133 (U4 [a, b', c, d, e, f, g', h])) := by show _ ∧ _; rw [HW2.out]; exact ⟨HL1.out.1.drewN _, HL1.out.2⟩
              clear ck cw j0 j1 j2 j3 j4 j5 j6 j7 HW2 HL1
              go_wp2_with fail
              refine (refRotr_any a 2 _ _ rfl HO.out.2 (by decide) (by decide)).mono ?_
              rintro e1 w5 ⟨rfl, m5, rfl⟩
              go_wp2_with fail
              refine (refRotr_any a 13 _ _ rfl HO.out.2 (by decide) (by decide)).mono ?_
              rintro e1 w6 ⟨rfl, m6, rfl⟩
              go_wp2_with fail
              refine (refRotr_any a 22 _ _ rfl HO.out.2 (by decide) (by decide)).mono ?_
              rintro e1 w7 ⟨rfl, m7, rfl⟩
              obtain ⟨W3, HW3⟩ : ∃ W3, Hid (W3 = (W2.drewN (m5 + m6)).drewN m7) := ⟨_, rfl⟩
              have HL3 : Hid (RB w W3 bh br bk bw H blk 64 ∧ At W3 bv 133 (U4 [a, b', c, d, e, f, g', h])) := by show _ ∧ _; rw [HW3.out]; exact ⟨(HL2.out.1.drewN _).drewN _, HL2.out.2⟩
              rw [← HW3.out]
              clear HW3 HL2
              obtain ⟨ck, cw, j0, j1, j2, j3, j4, j5, j6, j7⟩ := HCC.out W3 HL3.out.1 HL3.out.2
              obtain ⟨L0, HL0⟩ : ∃ L0, Hid (L0 = U4 [a, b', c, d, e, f, g', h]) := ⟨_, rfl⟩
              obtain ⟨L2, HLL2⟩ : ∃ L2, Hid (L2 = U4 [na, a, b', c, nd, e, f, g']) := ⟨_, rfl⟩
              go_wp2_with (refine wpList_store_at rfl 133 (.tmp 11) (.tmp 194) rfl bv 0 rfl 133 L0 [.int .u32 (na : Int), .int .u32 (a : Int), .int .u32 (b' : Int), .int .u32 (c : Int), .int .u32 (nd : Int), .int .u32 (e : Int), .int .u32 (f : Int), .int .u32 (g' : Int)] rfl (by rw [HL0.out]; exact HL3.out.2) (by rw [HL0.out]; exact Nat.le_refl _) (by kernel_rfl) (U4_one [na, a, b', c, nd, e, f, g']) L2 (by rw [HL0.out, HLL2.out]; rfl) ?_; intro w8 hf8 ha8)
              have HN : Hid (RB w w8 bh br bk bw H blk 64 ∧ At w8 bv 133 (U4 [na, a, b', c, nd, e, f, g'])) := ⟨HL3.out.1.fr' hf8 (by simp; omega), by rw [← HLL2.out]; exact ha8⟩
              clear q1 q2 q3 q4 q5 q6 q7 q8 q9 q10 q11 q12 q13 q14 q15 q16 q17 q18 hf8 ha8 ck cw j0 j1 j2 j3 j4 j5 j6 j7 HL3 HCC
              go_wp2_with fail
              go_roundw
              case rel =>
                first
                  | exact ⟨t + 1, ⟨na, a, b', c, nd, e, f, g'⟩, by omega, by go_num, HK.out.1.symm, HK.out.2, HN.out.1, HN.out.2⟩
                  | ((repeat apply Exists.intro); exact ⟨⟨t + 1, ⟨na, a, b', c, nd, e, f, g'⟩, by omega, by go_num, HK.out.1.symm, HK.out.2, HN.out.1, HN.out.2⟩, rfl⟩)
              case measure => simp [intOf] <;> omega
            · obtain rfl : t = 64 := by omega
              obtain ⟨V, HVV⟩ : ∃ V, Hid (V = [a, b', c, d, e, f, g', h]) := ⟨_, rfl⟩
              have HF : Hid (compress H blk = List.zipWith add32 V H) := by
                show compress H blk = _
                unfold compress
                rw [← HWS.out, ← HS0.out.1, ← HT.out.1, HVV.out, zip_comm]
                rfl
              have HV8 : Hid (V.length = 8) := by show V.length = 8; rw [HVV.out]; rfl
              have HZ : Hid (RB w wr bh br bk bw H blk 64 ∧ At wr bv 133 (U4 V)) := ⟨HT.out.2.2.1, by rw [HVV.out]; exact HT.out.2.2.2⟩
              obtain ⟨wb, HWB⟩ : ∃ wb, Hid (wb = wr) := ⟨_, rfl⟩
              rw [← HWB.out] at HZ ⊢
              clear HT HWB HVV
              go_wp2_with fail
              go_loopw [21] (fun i wx => ∃ k : Nat, k ≤ 8 ∧ i = .int .i64 k ∧ Hid (RB w wx bh br bk bw H blk 64 ∧ At wx bv 133 (U4 ((List.zipWith add32 V H).take k ++ V.drop k) ++ []))) (fun i _ => 8 - (intOf i).toNat)
              case atStart => exact ⟨0, by omega, rfl, by rw [List.take_zero, List.nil_append, List.drop_zero, List.append_nil]; exact HZ⟩
              case round =>
                obtain ⟨k, hk, rfl, HY⟩ := hrel
                by_cases hlt4 : k < 8
                · obtain ⟨x, hx⟩ : ∃ x, H[k]? = some x := ⟨_, List.getElem?_eq_getElem (by rw [HH.out.1]; exact hlt4)⟩
                  obtain ⟨y, hy⟩ : ∃ y, V[k]? = some y := ⟨_, List.getElem?_eq_getElem (by rw [HV8.out]; exact hlt4)⟩
                  have HS := Lib.hid (words_set V H [] k y x hy hx)
                  have cy : wr.cell? ⟨bh, k, none⟩ = some (.int .u32 (x : Int)) := by rw [HY.out.1.h.cell]; exact U4_get _ _ _ hx
                  have cb : wr.cell? ⟨bv, k, none⟩ = some (.int .u32 (y : Int)) := by rw [HY.out.2.cell]; exact words_get V H [] k y x hy hx
                  have fb := HY.out.2.frozen k
                  obtain ⟨sm, em, HSM⟩ : ∃ sm : Nat, IntKind.u32.wrap ((y : Int) + (x : Int)) = (sm : Int) ∧ Hid (sm = add32 y x) := ⟨_, u32_add y x, rfl⟩
                  have hkI : (k : Int) < 8 := by omega
                  have b0 := HY.out.1.o1
                  have b1 := HY.out.1.o2
                  have b2 := HY.out.1.o3
                  have hne : bh ≠ bv := by omega
                  have hne' : bv ≠ bh := by omega
                  have HN : Hid (RB w (wr.setCell ⟨bv, k, none⟩ (.int .u32 (sm : Int))).drew bh br bk bw H blk 64 ∧ At (wr.setCell ⟨bv, k, none⟩ (.int .u32 (sm : Int))).drew bv 133 (U4 ((List.zipWith add32 V H).take (k + 1) ++ V.drop (k + 1)) ++ [])) := by
                    refine ⟨HY.out.1.fr' (S := [bv]) (((Fr.refl _ _).setCell (by simp) _).drew) (by simp; omega), ?_⟩
                    rw [HSM.out, ← HS.out]
                    exact (HY.out.2.set k _).drew
                  clear hx hy
                  go_wp2_with fail
                  go_region
                  generalize (wr.setCell ⟨bv, k, none⟩ (.int .u32 (sm : Int))).drew = W5 at HN ⊢
                  clear em cy cb fb HY HS
                  go_wp2_with fail
                  go_roundw
                  case rel =>
                    first
                      | exact ⟨k + 1, by omega, by go_num, HN⟩
                      | ((repeat apply Exists.intro); exact ⟨⟨k + 1, by omega, by go_num, HN⟩, rfl⟩)
                  case measure => simp [intOf] <;> omega
                · obtain rfl : k = 8 := by omega
                  obtain ⟨l, hl8, har⟩ := HY.out.1.r
                  obtain ⟨LF, HLF⟩ : ∃ LF, Hid (LF = U4 (compress H blk)) := ⟨_, rfl⟩
                  have HLX : Hid (LF.length = 8 ∧ (∀ v ∈ LF, v.oneCell' = true) ∧ At wr bv 133 LF) := by
                    show _ ∧ _ ∧ _
                    rw [HLF.out, U4_len]
                    refine ⟨compress_len H blk HH.out.1, U4_one _, ?_⟩
                    have h8 := HY.out.2
                    rw [List.append_nil, List.take_of_length_le (by simp [HH.out.1, HV8.out]), List.drop_of_length_le (by rw [HV8.out]; exact Nat.le_refl _), List.append_nil] at h8
                    rw [HF.out]
                    exact h8
                  have HAR := Lib.hid (And.intro hl8 har)
                  have b0 := HY.out.1.o1
                  have b00 := HY.out.1.lo
                  clear hl8 har
                  go_wp2_with (first
                    | (refine wpList_load_at rfl 133 (.tmp 11) rfl bv 0 rfl LF _ (fun j v hj => (by rw [Nat.zero_add, HLX.out.2.2.cell]; exact hj)) Tryz.underlying133 rfl (by rw [HLX.out.1]; kernel_rfl) ?_)
                    | (refine wpList_store_at rfl 133 (.tmp 4) (.tmp 207) rfl br 0 rfl 133 l LF rfl HAR.out.2 (by rw [HAR.out.1, HLX.out.1]; exact Nat.le_refl _) (by rw [HLX.out.1]; kernel_rfl) HLX.out.2.1 LF (by rw [HLX.out.1, List.drop_of_length_le (by rw [HAR.out.1]; exact Nat.le_refl _)]; simp) ?_; intro w9 hf9 ha9))
                  refine bodyPost_ret (results_at (t := 133) rfl _ _ br LF _ rfl ha9 Tryz.underlying133 rfl (by rw [HLX.out.1]; kernel_rfl)) rfl ⟨by rw [HLF.out], ?_⟩
                  exact HY.out.1.fr.trans' hf9 (by simp; omega)

end Go.Proofs.YtlepfnihpdhcaaaGreatDoor
