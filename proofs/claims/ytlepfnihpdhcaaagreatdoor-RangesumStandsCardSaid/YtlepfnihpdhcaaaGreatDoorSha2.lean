/- Contract of sha256's (*State).process: the words behind one block. -/
import Derived.Test.YtlepfnihpdhcaaaGreatDoorSha1
import Derived.Outline
namespace Go.Proofs.YtlepfnihpdhcaaaGreatDoor
open Go.RowKit

set_option maxRecDepth 100000 in
set_option maxHeartbeats 4000000 in
theorem process_any (b g o cap : Nat) (H : List Nat) (rest : List Value) (blk : List UInt8) (w : World) (hv : Vars w) (hat : At w b 157 (U4 H ++ rest)) (hH : H.length = 8) (hW : ∀ x ∈ H, W32 x)
    (hbl : blk.length = 64) (hcap : 64 ≤ cap) (hrow : RowIn w (some ⟨g, o, none⟩) (B8 blk)) :
    Calls Tryz.prog 97 #[Value.pointer (some ⟨b, 0, none⟩), .slice (some ⟨g, o, none⟩) 64 cap] w fun e w' => e = .returned (.tuple #[]) ∧ Fr [b] w w' ∧ At w' b 157 (U4 (compress H blk) ++ rest) := by
  have HV := Lib.hid hv
  have HA := Lib.hid (And.intro hat (And.intro hH hW))
  have HR := Lib.hid (And.intro hbl hrow)
  clear hv hat hH hW hbl hrow
  go_enter Tryz.func97, Tryz.ntmps97
  go_wp2_with fail
  change Code.wp _ _ _ _ (w.alloc (.cells (wrow blk 0).toArray 158))
  have HW0 : Hid (Fr [] w (w.alloc (.cells (wrow blk 0).toArray 158)) ∧ At (w.alloc (.cells (wrow blk 0).toArray 158)) w.heap.size 158 (wrow blk 0)) := ⟨(Fr.refl _ _).alloc _, At.new _ _ _⟩
  generalize w.alloc (.cells (wrow blk 0).toArray 158) = W0 at HW0 ⊢
  go_loopw [27] (fun i wr => ∃ t : Nat, t ≤ 64 ∧ i = .int .i64 t ∧ Hid (Fr [] w wr ∧ At wr w.heap.size 158 (wrow blk t))) (fun i _ => 64 - (intOf i).toNat)
  case atStart => exact ⟨0, by omega, rfl, HW0⟩
  case round =>
    obtain ⟨t, ht, rfl, HL⟩ := hrel
    by_cases hlt : t < 64
    · by_cases h16 : t < 16
      · have hn : cap ≠ 4 * t := by omega
        have hnI : ¬ ((cap : Int) = 4 * (t : Int)) := by omega
        obtain ⟨⟨v0, e0, c0, k0⟩, ⟨v1, e1, c1, k1⟩, ⟨v2, e2, c2, k2⟩, ⟨v3, e3, c3, k3⟩⟩ : (∃ v : UInt8, blk.getD (4 * t) 0 = v ∧ wr.cell? ⟨g, o + 4 * t, none⟩ = some (.int .u8 (v.toNat : Int)) ∧ g < w.heap.size) ∧ (∃ v : UInt8, blk.getD (4 * t + 1) 0 = v ∧ wr.cell? ⟨g, o + 4 * t + 1, none⟩ = some (.int .u8 (v.toNat : Int)) ∧ g < w.heap.size) ∧ (∃ v : UInt8, blk.getD (4 * t + 2) 0 = v ∧ wr.cell? ⟨g, o + 4 * t + 2, none⟩ = some (.int .u8 (v.toNat : Int)) ∧ g < w.heap.size) ∧ (∃ v : UInt8, blk.getD (4 * t + 3) 0 = v ∧ wr.cell? ⟨g, o + 4 * t + 3, none⟩ = some (.int .u8 (v.toNat : Int)) ∧ g < w.heap.size) := by
          have key : ∀ i, i < 64 → ∃ v : UInt8, blk.getD i 0 = v ∧ wr.cell? ⟨g, o + i, none⟩ = some (.int .u8 (v.toNat : Int)) ∧ g < w.heap.size := by
            intro i hi
            have hg := List.getElem?_eq_getElem (l := blk) (i := i) (by rw [HR.out.1]; exact hi)
            obtain ⟨g', o', hA, hg', hc⟩ := HR.out.2 i _ (B8_get blk i _ hg)
            injection hA with hA
            injection hA with a1 a2
            subst a1 a2
            refine ⟨_, by rw [List.getD_eq_getElem?_getD, hg, Option.getD_some], ?_, hg'⟩
            rw [HL.out.1.cell (p := ⟨g, o + i, none⟩) hg' (by simp)]
            exact hc
          exact ⟨key (4 * t) (by omega), key (4 * t + 1) (by omega), key (4 * t + 2) (by omega), key (4 * t + 3) (by omega)⟩
        have n0 : g ≠ w.heap.size := by omega
        have n1 : w.heap.size ≠ g := by omega
        have wc : wr.cell? ⟨w.heap.size, t, none⟩ = some (.int .u32 0) := by
          rw [HL.out.2.cell]
          unfold wrow
          rw [List.getElem?_append_right (by rw [U4_len, sched_len]; exact Nat.le_refl _), U4_len, sched_len, Nat.sub_self, List.getElem?_replicate, if_pos (by omega)]
        have wf := HL.out.2.frozen t
        have HE := Lib.hid (And.intro e0 (And.intro e1 (And.intro e2 e3)))
        have b0 := UInt8.toNat_lt v0
        have b1 := UInt8.toNat_lt v1
        have b2 := UInt8.toNat_lt v2
        have b3 := UInt8.toNat_lt v3
        clear e0 e1 e2 e3 k0 k1 k2 k3
        go_wp2_with fail
        rw [show 4 * t + 4 - 4 * t = 4 by omega]
        go_region_held3 (fun w' => w'.cell? ⟨g, o + 4 * t, none⟩ = some (.int .u8 (v0.toNat : Int)) ∧ w'.cell? ⟨g, o + 4 * t + 1, none⟩ = some (.int .u8 (v1.toNat : Int)) ∧ w'.cell? ⟨g, o + 4 * t + 2, none⟩ = some (.int .u8 (v2.toNat : Int)) ∧ w'.cell? ⟨g, o + 4 * t + 3, none⟩ = some (.int .u8 (v3.toNat : Int))) (go_keep) (first | fail)
        have HN : Hid (Fr [] w (wr.setCell ⟨w.heap.size, t, none⟩ (.int .u32 (bits BinOp.or IntKind.u32 (bits BinOp.or IntKind.u32 (bits BinOp.or IntKind.u32 (IntKind.u32.wrap (IntKind.u32.wrap (v0.toNat : Int) * 16777216)) (IntKind.u32.wrap (IntKind.u32.wrap (v1.toNat : Int) * 65536))) (IntKind.u32.wrap (IntKind.u32.wrap (v2.toNat : Int) * 256))) (IntKind.u32.wrap (v3.toNat : Int))))).drew ∧ At (wr.setCell ⟨w.heap.size, t, none⟩ (.int .u32 (bits BinOp.or IntKind.u32 (bits BinOp.or IntKind.u32 (bits BinOp.or IntKind.u32 (IntKind.u32.wrap (IntKind.u32.wrap (v0.toNat : Int) * 16777216)) (IntKind.u32.wrap (IntKind.u32.wrap (v1.toNat : Int) * 65536))) (IntKind.u32.wrap (IntKind.u32.wrap (v2.toNat : Int) * 256))) (IntKind.u32.wrap (v3.toNat : Int))))).drew w.heap.size 158 (wrow blk (t + 1))) := by
          refine ⟨(HL.out.1.setCell (.inr (Nat.le_refl _)) _).drew, ?_⟩
          have := (HL.out.2.set t (.int .u32 (bits BinOp.or IntKind.u32 (bits BinOp.or IntKind.u32 (bits BinOp.or IntKind.u32 (IntKind.u32.wrap (IntKind.u32.wrap (v0.toNat : Int) * 16777216)) (IntKind.u32.wrap (IntKind.u32.wrap (v1.toNat : Int) * 65536))) (IntKind.u32.wrap (IntKind.u32.wrap (v2.toNat : Int) * 256))) (IntKind.u32.wrap (v3.toNat : Int))))).drew
          rw [word_walk] at this ⊢
          rw [wrow_set blk t hlt _ (by rw [if_pos h16]; unfold word; rw [HE.out.1, HE.out.2.1, HE.out.2.2.1, HE.out.2.2.2])] at this
          exact this
        rename_i hHeld
        clear hHeld
        generalize (wr.setCell ⟨w.heap.size, t, none⟩ (.int .u32 (bits BinOp.or IntKind.u32 (bits BinOp.or IntKind.u32 (bits BinOp.or IntKind.u32 (IntKind.u32.wrap (IntKind.u32.wrap (v0.toNat : Int) * 16777216)) (IntKind.u32.wrap (IntKind.u32.wrap (v1.toNat : Int) * 65536))) (IntKind.u32.wrap (IntKind.u32.wrap (v2.toNat : Int) * 256))) (IntKind.u32.wrap (v3.toNat : Int))))).drew = W1 at HN ⊢
        go_wp2_with fail
        go_roundw
        case rel => exact ⟨t + 1, by omega, by go_num, HN⟩
        case measure => simp [intOf]; omega
      · obtain ⟨x2, f2, w2, c2⟩ := wrow_get blk t (t - 2) (by omega)
        obtain ⟨x7, f7, w7, c7⟩ := wrow_get blk t (t - 7) (by omega)
        obtain ⟨x15, f15, w15, c15⟩ := wrow_get blk t (t - 15) (by omega)
        obtain ⟨x16, f16, w16, c16⟩ := wrow_get blk t (t - 16) (by omega)
        rw [← HL.out.2.cell] at c2 c7 c15 c16
        have wc : wr.cell? ⟨w.heap.size, t, none⟩ = some (.int .u32 0) := by
          rw [HL.out.2.cell]
          unfold wrow
          rw [List.getElem?_append_right (by rw [U4_len, sched_len]; exact Nat.le_refl _), U4_len, sched_len, Nat.sub_self, List.getElem?_replicate, if_pos (by omega)]
        have wf := HL.out.2.frozen t
        have HE := Lib.hid (And.intro f2 (And.intro f7 (And.intro f15 f16)))
        have HW := Lib.hid (And.intro w2 (And.intro w7 (And.intro w15 w16)))
        have s2 : (0 : Int) ≤ (t : Int) - 2 := by omega
        have s2n : ((t : Int) - 2).toNat = t - 2 := by omega
        have s2w : IntKind.i64.wrap ((t : Int) - 2) = (t : Int) - 2 := IntWalk.i64_in _ (by omega)
        have s15 : (0 : Int) ≤ (t : Int) - 15 := by omega
        have s15n : ((t : Int) - 15).toNat = t - 15 := by omega
        have s15w : IntKind.i64.wrap ((t : Int) - 15) = (t : Int) - 15 := IntWalk.i64_in _ (by omega)
        have s2l : (t : Int) - 2 < 64 := by omega
        have s15l : (t : Int) - 15 < 64 := by omega
        have r1 := sig1_walk x2 w2
        have r0 := sig0_walk x15 w15
        have a1 := u32_add (sig1 x2) x7
        have a2 := u32_add (add32 (sig1 x2) x7) (sig0 x15)
        have a3 := u32_add (add32 (add32 (sig1 x2) x7) (sig0 x15)) x16
        have s7 : (0 : Int) ≤ (t : Int) - 7 := by omega
        have s7n : ((t : Int) - 7).toNat = t - 7 := by omega
        have s7w : IntKind.i64.wrap ((t : Int) - 7) = (t : Int) - 7 := IntWalk.i64_in _ (by omega)
        have s16 : (0 : Int) ≤ (t : Int) - 16 := by omega
        have s16n : ((t : Int) - 16).toNat = t - 16 := by omega
        have s16w : IntKind.i64.wrap ((t : Int) - 16) = (t : Int) - 16 := IntWalk.i64_in _ (by omega)
        have s7l : (t : Int) - 7 < 64 := by omega
        have s16l : (t : Int) - 16 < 64 := by omega
        have g7 : (7 : Int) ≤ (t : Int) := by omega
        have g7n : 7 ≤ t := by omega
        have g16 : (16 : Int) ≤ (t : Int) := by omega
        have g16n : 16 ≤ t := by omega
        have o7 : t - 7 ≠ t := by omega
        have o7' : t ≠ t - 7 := by omega
        have o16 : t - 16 ≠ t := by omega
        have o16' : t ≠ t - 16 := by omega
        clear f2 f7 f15 f16 w2 w7 w15 w16
        go_wp2_with fail
        go_quiet (fail)
        go_wp2_with fail
        refine (rotl_k x2 17 _ _ rfl HW.out.1 (by omega) (by omega)).mono ?_
        rintro e w' ⟨rfl, rfl⟩
        go_wp2_with fail
        refine (rotl_k x2 19 _ _ rfl HW.out.1 (by omega) (by omega)).mono ?_
        rintro e w' ⟨rfl, rfl⟩
        go_wp2_with fail
        refine (rotl_k x15 7 _ _ rfl HW.out.2.2.1 (by omega) (by omega)).mono ?_
        rintro e w' ⟨rfl, rfl⟩
        go_wp2_with fail
        refine (rotl_k x15 18 _ _ rfl HW.out.2.2.1 (by omega) (by omega)).mono ?_
        rintro e w' ⟨rfl, rfl⟩
        go_wp2_with fail
        go_region_held3 (fun w' => w'.cell? ⟨w.heap.size, t - 7, none⟩ = some (.int .u32 (x7 : Int)) ∧ w'.cell? ⟨w.heap.size, t - 16, none⟩ = some (.int .u32 (x16 : Int))) (first | go_keep | (go_split_ands; refine ⟨?_, ?_⟩ <;> (rw [World.cell?_setCell_other _ _ _ _ (by intro e; injection e; omega)]; assumption))) (first | fail)
        have HN : Hid (Fr [] w ((wr.drewN (nq + 1)).setCell ⟨w.heap.size, t, none⟩ (.int .u32 ((add32 (add32 (add32 (sig1 x2) x7) (sig0 x15)) x16 : Nat) : Int))) ∧ At ((wr.drewN (nq + 1)).setCell ⟨w.heap.size, t, none⟩ (.int .u32 ((add32 (add32 (add32 (sig1 x2) x7) (sig0 x15)) x16 : Nat) : Int))) w.heap.size 158 (wrow blk (t + 1))) := by
          refine ⟨(HL.out.1.drewN _).setCell (.inr (Nat.le_refl _)) _, ?_⟩
          have := (HL.out.2.drewN (nq + 1)).set t (.int .u32 ((add32 (add32 (add32 (sig1 x2) x7) (sig0 x15)) x16 : Nat) : Int))
          rw [wrow_set blk t hlt _ (by rw [if_neg (by omega)]; unfold nextW; rw [HE.out.1, HE.out.2.1, HE.out.2.2.1, HE.out.2.2.2])] at this
          exact this
        rename_i hHeld
        clear hHeld
        generalize (wr.drewN (nq + 1)).setCell ⟨w.heap.size, t, none⟩ (.int .u32 ((add32 (add32 (add32 (sig1 x2) x7) (sig0 x15)) x16 : Nat) : Int)) = W1 at HN ⊢
        clear r1 r0 a1 a2 a3 s2 s2n s2w s15 s15n s15w s7 s7n s7w s16 s16n s16w c2 c7 c15 c16 wc wf
        go_wp2_with fail
        go_roundw
        case rel => exact ⟨t + 1, by omega, by go_num, HN⟩
        case measure => simp [intOf]; omega
    · obtain rfl : t = 64 := by omega
      obtain ⟨h0, h1, h2, h3, h4, h5, h6, h7, HH⟩ : ∃ h0 h1 h2 h3 h4 h5 h6 h7 : Nat, Hid (H = [h0, h1, h2, h3, h4, h5, h6, h7]) := by
        have hl := HA.out.2.1
        match H, hl with
        | [h0, h1, h2, h3, h4, h5, h6, h7], _ => exact ⟨h0, h1, h2, h3, h4, h5, h6, h7, rfl⟩
      have hab := HA.out.1.fr HL.out.1 (by simp)
      have d0 : wr.cell? ⟨b, 0, none⟩ = some (.int .u32 (h0 : Int)) := by rw [hab.cell, HH.out]; rfl
      have d1 : wr.cell? ⟨b, 1, none⟩ = some (.int .u32 (h1 : Int)) := by rw [hab.cell, HH.out]; rfl
      have d2 : wr.cell? ⟨b, 2, none⟩ = some (.int .u32 (h2 : Int)) := by rw [hab.cell, HH.out]; rfl
      have d3 : wr.cell? ⟨b, 3, none⟩ = some (.int .u32 (h3 : Int)) := by rw [hab.cell, HH.out]; rfl
      have d4 : wr.cell? ⟨b, 4, none⟩ = some (.int .u32 (h4 : Int)) := by rw [hab.cell, HH.out]; rfl
      have d5 : wr.cell? ⟨b, 5, none⟩ = some (.int .u32 (h5 : Int)) := by rw [hab.cell, HH.out]; rfl
      have d6 : wr.cell? ⟨b, 6, none⟩ = some (.int .u32 (h6 : Int)) := by rw [hab.cell, HH.out]; rfl
      have d7 : wr.cell? ⟨b, 7, none⟩ = some (.int .u32 (h7 : Int)) := by rw [hab.cell, HH.out]; rfl
      clear hab
      go_wp2_with fail
      go_quiet (fail)
      go_wp2_with fail
      have HVV : Hid (Fr [] w ((wr.alloc (.cells #[.int .u32 (h0 : Int), .int .u32 (h1 : Int), .int .u32 (h2 : Int), .int .u32 (h3 : Int), .int .u32 (h4 : Int), .int .u32 (h5 : Int), .int .u32 (h6 : Int), .int .u32 (h7 : Int)] 133)).drewN nq) ∧ At ((wr.alloc (.cells #[.int .u32 (h0 : Int), .int .u32 (h1 : Int), .int .u32 (h2 : Int), .int .u32 (h3 : Int), .int .u32 (h4 : Int), .int .u32 (h5 : Int), .int .u32 (h6 : Int), .int .u32 (h7 : Int)] 133)).drewN nq) w.heap.size 158 (wrow blk 64) ∧ At ((wr.alloc (.cells #[.int .u32 (h0 : Int), .int .u32 (h1 : Int), .int .u32 (h2 : Int), .int .u32 (h3 : Int), .int .u32 (h4 : Int), .int .u32 (h5 : Int), .int .u32 (h6 : Int), .int .u32 (h7 : Int)] 133)).drewN nq) wr.heap.size 133 [.int .u32 (h0 : Int), .int .u32 (h1 : Int), .int .u32 (h2 : Int), .int .u32 (h3 : Int), .int .u32 (h4 : Int), .int .u32 (h5 : Int), .int .u32 (h6 : Int), .int .u32 (h7 : Int)]) := ⟨(HL.out.1.alloc _).drewN _, (HL.out.2.alloc _).drewN _, (At.new _ _ _).drewN _⟩
      generalize (wr.alloc (.cells #[.int .u32 (h0 : Int), .int .u32 (h1 : Int), .int .u32 (h2 : Int), .int .u32 (h3 : Int), .int .u32 (h4 : Int), .int .u32 (h5 : Int), .int .u32 (h6 : Int), .int .u32 (h7 : Int)] 133)).drewN nq = V at HVV ⊢
      obtain ⟨bv, hbv⟩ : ∃ bv, bv = wr.heap.size := ⟨_, rfl⟩
      rw [← hbv] at HVV ⊢
      have hws := HL.out.1.size
      have hbvw : w.heap.size < bv := by rw [hbv]; exact HL.out.2.lt
      clear d0 d1 d2 d3 d4 d5 d6 d7 hbv HL hws
      obtain ⟨s0, HS0⟩ : ∃ s0 : S8, Hid (s0 = S8.of H ∧ s0.Ok) := ⟨_, rfl, S8.ok_of HA.out.2.2⟩
      obtain ⟨WS, HWS⟩ : ∃ WS, Hid (WS = schedTo blk 64) := ⟨_, rfl⟩
      go_loopw [12, 13, 14, 15, 16, 17, 18, 19, 123] (fun za zb zc zd ze zf zg zh i wx => ∃ (t : Nat) (s : S8), t ≤ 64 ∧ i = .int .i64 t ∧ za = .int .u32 (s.a : Int) ∧ zb = .int .u32 (s.b : Int) ∧ zc = .int .u32 (s.c : Int) ∧ zd = .int .u32 (s.d : Int) ∧ ze = .int .u32 (s.e : Int) ∧ zf = .int .u32 (s.f : Int) ∧ zg = .int .u32 (s.g : Int) ∧ zh = .int .u32 (s.h : Int) ∧ Hid (s = rounds WS s0 t ∧ s.Ok ∧ Fr [] V wx)) (fun _ _ _ _ _ _ _ _ i _ => 64 - (intOf i).toNat)
      case atStart => exact ⟨0, s0, by omega, rfl, by rw [HS0.out.1, HH.out]; rfl, by rw [HS0.out.1, HH.out]; rfl, by rw [HS0.out.1, HH.out]; rfl, by rw [HS0.out.1, HH.out]; rfl, by rw [HS0.out.1, HH.out]; rfl, by rw [HS0.out.1, HH.out]; rfl, by rw [HS0.out.1, HH.out]; rfl, by rw [HS0.out.1, HH.out]; rfl, rfl, HS0.out.2, Fr.refl _ _⟩
      case round =>
        obtain ⟨t, s, ht, rfl, rfl, rfl, rfl, rfl, rfl, rfl, rfl, rfl, HT⟩ := hrel
        obtain ⟨a, b', c, d, e, f, g', h⟩ := s
        by_cases hlt : t < 64
        · obtain ⟨kt, hkt⟩ : ∃ kt, shaK[t]? = some kt := ⟨_, List.getElem?_eq_getElem (show t < shaK.length from hlt)⟩
          obtain ⟨wt, fw, ww, cw⟩ := wrow_get blk 64 t hlt
          have hv := (HV.out.fr (HVV.out.1.trans HT.out.2.2) (by simp) (by simp)).cons t kt hkt
          rw [← (HVV.out.2.1.fr HT.out.2.2 (by simp)).cell] at cw
          obtain ⟨s1, ef, ne, ng, ch, x1, x2, x3, t1, z0, ab, ac, bc, mx, mj, t2, na, nd, q1, q2, q3, q4, q5, q6, q7, q8, q9, q10, q11, q12, q13, q14, q15, q16, q17, q18, HQ⟩ := rnd_walk a b' c d e f g' h kt wt HT.out.2.1
          have HO : Hid (W32 e ∧ W32 a) := ⟨HT.out.2.1.e, HT.out.2.1.a⟩
          have HK := Lib.hid (And.intro hkt (And.intro fw ww))
          clear hkt fw ww
          have htI : (t : Int) < 64 := by omega
          go_wp2_with fail
          refine (rotl_k e 6 _ _ rfl HO.out.1 (by omega) (by omega)).mono ?_
          rintro e1 w' ⟨rfl, rfl⟩
          go_wp2_with fail
          refine (rotl_k e 11 _ _ rfl HO.out.1 (by omega) (by omega)).mono ?_
          rintro e1 w' ⟨rfl, rfl⟩
          go_wp2_with fail
          refine (rotl_k e 25 _ _ rfl HO.out.1 (by omega) (by omega)).mono ?_
          rintro e1 w' ⟨rfl, rfl⟩
          go_wp2_with fail
          refine (rotl_k a 2 _ _ rfl HO.out.2 (by omega) (by omega)).mono ?_
          rintro e1 w' ⟨rfl, rfl⟩
          go_wp2_with fail
          refine (rotl_k a 13 _ _ rfl HO.out.2 (by omega) (by omega)).mono ?_
          rintro e1 w' ⟨rfl, rfl⟩
          go_wp2_with fail
          refine (rotl_k a 22 _ _ rfl HO.out.2 (by omega) (by omega)).mono ?_
          rintro e1 w' ⟨rfl, rfl⟩
          go_wp2_with fail
          go_quiet (fail)
          go_wp2_with fail
          clear q1 q2 q3 q4 q5 q6 q7 q8 q9 q10 q11 q12 q13 q14 q15 q16 q17 q18
          go_roundw
          case rel =>
            (repeat apply Exists.intro)
            refine ⟨?_, rfl⟩
            refine ⟨t + 1, ⟨na, a, b', c, nd, e, f, g'⟩, by omega, by go_num, rfl, rfl, rfl, rfl, rfl, rfl, rfl, rfl, ?_⟩
            refine ⟨?_, ?_, HT.out.2.2.drewN _⟩
            · rw [← HQ.out, HT.out.1]
              show _ = (rounds WS s0 t).rnd (shaK.getD t 0) (WS.getD t 0)
              rw [List.getD_eq_getElem?_getD, HK.out.1, HWS.out, HK.out.2.1]
              rfl
            · rw [← HQ.out]
              exact HT.out.2.1.rnd _ _
          case measure => simp [intOf]; omega
        · obtain rfl : t = 64 := by omega
          have HF : Hid (compress H blk = List.zipWith add32 H [a, b', c, d, e, f, g', h]) := by
            show compress H blk = _
            unfold compress
            rw [← HWS.out, ← HS0.out.1, ← HT.out.1]
            rfl
          have hbw : b < w.heap.size := HA.out.1.lt
          have hbb : b ≠ bv := by omega
          have HZ : Hid (Fr [b] w wr ∧ At wr b 157 (U4 H ++ rest) ∧ At wr bv 133 (U4 H)) := by
            have h3 : At wr bv 133 _ := HVV.out.2.2.fr HT.out.2.2 (by simp)
            refine ⟨(HVV.out.1.trans HT.out.2.2).mono (by simp), (HA.out.1.fr HVV.out.1 (by simp)).fr HT.out.2.2 (by simp), ?_⟩
            rw [HH.out]
            exact h3
          obtain ⟨ww, HWW⟩ : ∃ ww, Hid (ww = wr) := ⟨_, rfl⟩
          rw [← HWW.out] at HZ ⊢
          clear HWW HT HVV HS0 HWS
          go_wp2_with fail
          go_loopw [197] (fun i wy => ∃ k : Nat, k ≤ 8 ∧ i = .int .i64 k ∧ Hid (Fr [b] w wy ∧ At wy b 157 (U4 ((List.zipWith add32 H [a, b', c, d, e, f, g', h]).take k ++ H.drop k) ++ rest) ∧ At wy bv 133 (U4 H))) (fun i _ => 8 - (intOf i).toNat)
          case atStart => exact ⟨0, by omega, rfl, by rw [List.take_zero, List.nil_append, List.drop_zero]; exact HZ⟩
          case round =>
            obtain ⟨k, hk, rfl, HY⟩ := hrel
            by_cases hlt : k < 8
            · obtain ⟨y, hy⟩ : ∃ y, H[k]? = some y := ⟨_, List.getElem?_eq_getElem (by rw [HA.out.2.1]; exact hlt)⟩
              obtain ⟨x, hx⟩ : ∃ x, [a, b', c, d, e, f, g', h][k]? = some x := ⟨_, List.getElem?_eq_getElem (show k < 8 from hlt)⟩
              have hix : ∀ w : World, (Instr.index 133 (.agg #[.int .u32 (a : Int), .int .u32 (b' : Int), .int .u32 (c : Int), .int .u32 (d : Int), .int .u32 (e : Int), .int .u32 (f : Int), .int .u32 (g' : Int), .int .u32 (h : Int)]) (.int .i64 (k : Int))).run Tryz.prog w = .ok (.int .u32 (x : Int)) w := run_index_agg (P := Tryz.prog) 133 132 8 (U4 [a, b', c, d, e, f, g', h]) (.int .u32 (x : Int)) .i64 k Tryz.underlying133 (by kernel_rfl) (fun _ => by kernel_rfl) hlt (U4_get _ _ _ hx)
              have hs := words_set H [a, b', c, d, e, f, g', h] rest k y x hy hx
              have cy : wr.cell? ⟨bv, k, none⟩ = some (.int .u32 (y : Int)) := by rw [HY.out.2.2.cell]; exact U4_get _ _ _ hy
              have cb : wr.cell? ⟨b, k, none⟩ = some (.int .u32 (y : Int)) := by rw [HY.out.2.1.cell]; exact words_get H [a, b', c, d, e, f, g', h] rest k y x hy hx
              have fb := HY.out.2.1.frozen k
              have HS := Lib.hid hs
              have sm := u32_add y x
              have hkI : (k : Int) < 8 := by omega
              clear hy hx hs
              go_wp2_with fail
              go_region_held3 (fun w' => w'.cell? ⟨bv, k, none⟩ = some (.int .u32 (y : Int))) (go_keep) (first | fail)
              have HN : Hid (Fr [b] w (wr.setCell ⟨b, k, none⟩ (.int .u32 ((add32 y x : Nat) : Int))).drew ∧ At (wr.setCell ⟨b, k, none⟩ (.int .u32 ((add32 y x : Nat) : Int))).drew b 157 (U4 ((List.zipWith add32 H [a, b', c, d, e, f, g', h]).take (k + 1) ++ H.drop (k + 1)) ++ rest) ∧ At (wr.setCell ⟨b, k, none⟩ (.int .u32 ((add32 y x : Nat) : Int))).drew bv 133 (U4 H)) := by
                refine ⟨(HY.out.1.setCell (by simp) _).drew, ?_, (HY.out.2.2.far (by show bv ≠ b; omega) _).drew⟩
                rw [← HS.out]
                exact (HY.out.2.1.set k _).drew
              go_wp2_with fail
              go_roundw
              case rel =>
                (repeat apply Exists.intro)
                exact ⟨⟨k + 1, by omega, by go_num, HN⟩, rfl⟩
              case measure => simp [intOf]; omega
            · obtain rfl : k = 8 := by omega
              go_wp2_with fail
              go_end0
              refine ⟨rfl, HY.out.1, ?_⟩
              rw [HF.out]
              have h8 := HY.out.2.1
              rw [List.take_of_length_le (by simp [HA.out.2.1]), List.drop_of_length_le (by rw [HA.out.2.1]; exact Nat.le_refl _), List.append_nil] at h8
              exact h8

end Go.Proofs.YtlepfnihpdhcaaaGreatDoor
