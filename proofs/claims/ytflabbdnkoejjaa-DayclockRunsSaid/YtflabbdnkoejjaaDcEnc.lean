/- Contract of the clock's Encode. -/
import Derived.Test.YtflabbdnkoejjaaDcEncPlain
import Derived.Test.YtflabbdnkoejjaaWire3
namespace Go.Proofs.Ytflabbdnkoejjaa
open Go.RowKit

/-- In the midst of Encode: the clock, and the writer with its bytes so far. -/
structure EncSt (N b bw : Nat) (c : Clk) (W wr : World) (xs : List UInt8) : Prop where
  bel : Bel N [bw] W wr
  wr_ : WriterAt wr N bw xs
  clk : At wr b 57 c.cells
  sz : N ≤ wr.heap.size

theorem EncSt.wrote {N b bw : Nat} {c : Clk} {W wr w' : World} {xs ys : List UInt8} {e : Ending} (h : EncSt N b bw c W wr xs) (hb : b < N) (hne : b ≠ bw) (k : Wrote N bw ys wr e w') : EncSt N b bw c W w' ys :=
  ⟨h.bel.trans k.bel, k.at_, h.clk.bel k.bel hb (by simpa using hne), Nat.le_trans h.sz k.bel.size⟩

set_option maxRecDepth 100000 in
set_option maxHeartbeats 4000000 in
theorem encode_any (b : Nat) (c : Clk) (w : World) (hc : At w b 57 c.cells) (hf : c.Fits) :
    Calls Try.prog 22 #[Value.pointer (some ⟨b, 0, none⟩)] w fun e w' => ∃ v, e = .returned v ∧ NewBytes c.enc w v w' := by
  have hlt := hc.lt
  have HC := Lib.hid hc
  have HF := Lib.hid hf
  clear hc hf
  go_enter Try.func22, Try.ntmps22
  go_wp2_with fail
  refine (newWriter_any _).mono ?_
  rintro e w1 ⟨rfl, hf1, ha1⟩
  have hz1 := hf1.size
  have hat1 := HC.out.fr hf1 (by simp)
  have c0 : w1.cell? ⟨b, 0, none⟩ = some (Value.int .i64 c.first) := by rw [hat1.cell]; rfl
  have c1 : w1.cell? ⟨b, 1, none⟩ = some (Value.int .i64 c.day) := by rw [hat1.cell]; rfl
  have c2 : w1.cell? ⟨b, 2, none⟩ = some (Value.int .i64 c.leap) := by rw [hat1.cell]; rfl
  have c3 : w1.cell? ⟨b, 3, none⟩ = some (Value.int .i64 c.quorum) := by rw [hat1.cell]; rfl
  have c4 : w1.cell? ⟨b, 4, none⟩ = some (Value.int .i64 c.own) := by rw [hat1.cell]; rfl
  have H1 := Lib.hid (And.intro hf1 ha1)
  clear hf1 ha1 hat1
  go_wp2_with fail
  go_region
  clear c0 c1 c2 c3 c4
  go_wp2_with fail
  have hbw : w.heap.size < w1.heap.size := H1.out.2.lt
  have H2 : Hid (Fr [] w ((w1.alloc (.cells (c.five.map (Value.int .i64)).toArray 3)).drew) ∧ At ((w1.alloc (.cells (c.five.map (Value.int .i64)).toArray 3)).drew) w1.heap.size 3 (c.five.map (Value.int .i64)) ∧ EncSt (w1.heap.size + 1) b w.heap.size c ((w1.alloc (.cells (c.five.map (Value.int .i64)).toArray 3)).drew) ((w1.alloc (.cells (c.five.map (Value.int .i64)).toArray 3)).drew) [] ∧ ((w1.alloc (.cells (c.five.map (Value.int .i64)).toArray 3)).drew).heap.size = w1.heap.size + 1) := by
    refine ⟨(H1.out.1.alloc _).drew, (At.new w1 3 _).drew, ⟨Bel.refl _ _ _, WriterAt.new (H1.out.2.alloc _).drew, ((HC.out.fr H1.out.1 (by simp)).alloc _).drew, by simp⟩, by simp⟩
  generalize hW : (w1.alloc (.cells (c.five.map (Value.int .i64)).toArray 3)).drew = W at H2
  have hW' : (w1.alloc (Obj.cells #[Value.int IntKind.i64 c.first, Value.int IntKind.i64 c.day, Value.int IntKind.i64 c.leap, Value.int IntKind.i64 c.quorum, Value.int IntKind.i64 c.own] 3)).drew = W := hW
  rw [hW']
  clear hW hW' H1
  have HL : Hid (∀ k, (ints8 (c.five.take k)).length ≤ 50) := by
    intro k
    have h1 := ints8_len (c.five.take k) (fun x hx => HF.out.five x (List.mem_of_mem_take hx))
    have h2 : (c.five.take k).length ≤ 5 := by rw [List.length_take]; exact Nat.min_le_right _ _
    omega
  go_loopw [36] (fun i wr => ∃ k : Nat, k ≤ 5 ∧ i = .int .i64 k ∧ EncSt (w1.heap.size + 1) b w.heap.size c W wr (ints8 (c.five.take k))) (fun i _ => 5 - (intOf i).toNat)
  case atStart => exact ⟨0, by omega, rfl, H2.out.2.2.1⟩
  case round =>
    obtain ⟨k, hk, rfl, hst⟩ := hrel
    have HS := Lib.hid hst
    clear hst
    by_cases hk5 : k < 5
    · have hx : ∃ x, c.five[k]? = some x := ⟨_, List.getElem?_eq_getElem (by simpa [Clk.five] using hk5)⟩
      obtain ⟨x, hx⟩ := hx
      have hfx := HF.out.five x (List.mem_of_getElem? hx)
      have hcx : wr.cell? ⟨w1.heap.size, k, none⟩ = some (Value.int .i64 x) := by
        rw [(H2.out.2.1.bel HS.out.bel (by omega) (by simp; omega)).cell]
        simp [hx]
      have HX := Lib.hid (And.intro (ints8_snoc c.five k x hx) hfx)
      clear hx hfx
      go_wp2_with fail
      refine (wInt _ _ x _ _ HS.out.wr_ HS.out.sz HX.out.2.1 HX.out.2.2 (by have := HL.out k; omega)).mono ?_
      intro e w2 hwr
      have HS2 := Lib.hid (HS.out.wrote (by omega) (by omega) hwr)
      obtain ⟨rfl, _, _⟩ := hwr
      go_wp2_with fail
      go_roundw
      case rel => exact ⟨k + 1, by omega, by go_num, by rw [HX.out.1]; exact HS2.out⟩
      case measure => simp [intOf]; omega
    · obtain rfl : k = 5 := by omega
      have hb6 : wr.cell? ⟨b, 6, none⟩ = some (Value.bool c.read) := by rw [HS.out.clk.cell]; rfl
      go_wp2_with fail
      refine (wBool _ _ c.read _ _ HS.out.wr_ HS.out.sz (by have := HL.out 5; omega)).mono ?_
      intro e w2 hwr
      have HS2 := Lib.hid (HS.out.wrote (by omega) (by omega) hwr)
      obtain ⟨rfl, _, _⟩ := hwr
      clear hb6
      have hb6 : w2.cell? ⟨b, 6, none⟩ = some (Value.bool c.read) := by rw [HS2.out.clk.cell]; rfl
      have hb5 : w2.cell? ⟨b, 5, none⟩ = some (Value.int .i64 c.ref) := by rw [HS2.out.clk.cell]; rfl
      cases hr : c.read
      · rw [hr] at hb6
        rw [hr] at HS2
        have hcut : Hid (EncSt (w1.heap.size + 1) b w.heap.size c W w2 (ints8 (c.five.take 5) ++ num (b01 false))) := HS2.out
        clear HS2
        have HP : Hid (ints8 c.five ++ num (b01 c.read) ++ (if c.read then num (zig c.ref) else []) = ints8 (c.five.take 5) ++ num (b01 false)) := by show _ = _; rw [hr, List.take_of_length_le (by simp [Clk.five])]; simp
        have HPL : Hid ((ints8 (c.five.take 5) ++ num (b01 false)).length ≤ 100) := by
          show _ ≤ 100
          have h1 := HL.out 5
          have h2 := num_length (b01 false) (by decide)
          have h3 := zig_len c.ref HF.out.ref
          simp only [List.length_append]
          omega
        generalize (ints8 (c.five.take 5) ++ num (b01 false)) = pre at hcut HP HPL
        have HLA : Hid (∀ (W : World), At W b 57 c.cells → ∀ j v, (c.heard.map Value.bool)[j]? = some v → W.cell? ⟨b, 19 + j, none⟩ = some v) := by
          intro W hW j v hv
          have hj : j < 12 := by have := (List.getElem?_eq_some_iff.1 hv).1; simpa [HF.out.ok.heard] using this
          obtain ⟨y, hy, hy'⟩ := c.cell_heard HF.out.ok j hj
          rw [hW.cell, hy']
          simpa [hy] using hv
        have HLB : Hid (∀ (W : World), At W b 57 c.cells → ∀ j v, (c.told.map (Value.int .i64))[j]? = some v → W.cell? ⟨b, 7 + j, none⟩ = some v) := by
          intro W hW j v hv
          have hj : j < 12 := by have := (List.getElem?_eq_some_iff.1 hv).1; simpa [HF.out.ok.told] using this
          obtain ⟨y, hy, hy'⟩ := c.cell_told HF.out.ok j hj
          rw [hW.cell, hy']
          simpa [hy] using hv
        go_wp2_with (first | (refine wpList_load_at rfl 55 (.tmp 62) rfl b 19 rfl (c.heard.map Value.bool) _ (HLA.out _ hcut.out.clk) Try.underlying55 rfl (by rw [List.length_map, HF.out.ok.heard]; kernel_rfl) ?_))
        go_loop [6, 64] (fun n i => ∃ k : Nat, k ≤ 12 ∧ i = .int .i64 k ∧ n = .int .i64 ((c.pairs k).length : Int)) (fun _ i => 12 - (intOf i).toNat)
        case atStart => exact ⟨0, by omega, rfl, rfl⟩
        case round =>
          obtain ⟨k, hk, rfl, rfl⟩ := hrel
          have hpl := c.pairs_le k
          by_cases hk12 : k < 12
          · obtain ⟨x, hx, _⟩ := c.cell_told HF.out.ok k hk12
            obtain ⟨y, hy, _⟩ := c.cell_heard HF.out.ok k hk12
            have hix := run_index_agg (P := Try.prog) 55 4 12 (c.heard.map Value.bool) (Value.bool y) .i64 k Try.underlying55 (by kernel_rfl) (fun _ => by kernel_rfl) hk12 (by simp [hy])
            have HX := Lib.hid (c.pairs_succ k x y hx hy)
            clear hx hy
            cases y
            · go_wp2_with fail
              go_round
              case rel => exact ⟨k + 1, by omega, by go_num, by rw [HX.out]; simp⟩
              case measure => simp [intOf]; omega
            · go_wp2_with fail
              go_round
              case rel => exact ⟨k + 1, by omega, by go_num, by rw [HX.out]; simp⟩
              case measure => simp [intOf]; omega
          · obtain rfl : k = 12 := by omega
            go_wp2_with fail
            refine (wCount _ _ (c.pairs 12).length _ _ hcut.out.wr_ hcut.out.sz (by omega) (by have := HPL.out; omega)).mono ?_
            intro e w5 hwr
            have HS5 := Lib.hid (hcut.out.wrote (by omega) (by omega) hwr)
            obtain ⟨rfl, _, _⟩ := hwr
            go_wp2_with (first | (refine wpList_load_at rfl 54 (.tmp 76) rfl b 7 rfl (c.told.map (Value.int .i64)) _ (HLB.out _ HS5.out.clk) Try.underlying54 rfl (by rw [List.length_map, HF.out.ok.told]; kernel_rfl) ?_))
            have HCL : Hid (∀ k, k ≤ 12 → (pre ++ num (c.pairs 12).length ++ pairs8 (c.pairs k)).length ≤ 400) := by
              intro k hk
              have h1 := HPL.out
              have h2 := num_length (c.pairs 12).length (by omega)
              have h3 := pairs8_len (c.pairs k) (fun p hp => ⟨by have := (HF.out.pair k p hp).1; omega, (HF.out.pair k p hp).2⟩)
              have h4 := c.pairs_le k
              simp only [List.length_append]
              omega
            go_loopw [78] (fun i wr => ∃ k : Nat, k ≤ 12 ∧ i = .int .i64 k ∧ EncSt (w1.heap.size + 1) b w.heap.size c W wr (pre ++ num (c.pairs 12).length ++ pairs8 (c.pairs k))) (fun i _ => 12 - (intOf i).toNat)
            case atStart => exact ⟨0, by omega, rfl, by simpa [Clk.pairs, pairs8] using HS5.out⟩
            case round =>
              obtain ⟨k, hk, rfl, hst⟩ := hrel
              have HT := Lib.hid hst
              clear hst
              by_cases hk12 : k < 12
              · obtain ⟨x, hx, hx'⟩ := c.cell_told HF.out.ok k hk12
                obtain ⟨y, hy, hy'⟩ := c.cell_heard HF.out.ok k hk12
                have hfx := HF.out.told x (List.mem_of_getElem? hx)
                have hcy : wr.cell? ⟨b, 19 + k, none⟩ = some (Value.bool y) := by rw [HT.out.clk.cell, hy']
                have hix := run_index_agg (P := Try.prog) 54 3 12 (c.told.map (Value.int .i64)) (Value.int .i64 x) .i64 k Try.underlying54 (by kernel_rfl) (fun _ => by kernel_rfl) hk12 (by simp [hx])
                have HX := Lib.hid (And.intro (c.pairs_succ k x y hx hy) hfx)
                clear hx hy hx' hy' hfx
                cases y
                · go_wp2_with fail
                  go_roundw
                  case rel => exact ⟨k + 1, by omega, by go_num, by rw [HX.out.1]; simpa using HT.out⟩
                  case measure => simp [intOf]; omega
                · go_wp2_with fail
                  refine (wInt _ _ (k : Int) _ _ HT.out.wr_ HT.out.sz (by omega) (by omega) (by have := HCL.out k hk; omega)).mono ?_
                  intro e w6 hwr
                  have HS6 := Lib.hid (HT.out.wrote (by omega) (by omega) hwr)
                  obtain ⟨rfl, _, _⟩ := hwr
                  go_wp2_with fail
                  refine (wInt _ _ x _ _ HS6.out.wr_ HS6.out.sz HX.out.2.1 HX.out.2.2 (by have h1 := HCL.out k hk; have h2 := zig_len (k : Int) (by unfold Fit64; omega); rw [List.length_append]; omega)).mono ?_
                  intro e w7 hwr
                  have HS7 := Lib.hid (HS6.out.wrote (by omega) (by omega) hwr)
                  obtain ⟨rfl, _, _⟩ := hwr
                  go_wp2_with fail
                  go_roundw
                  case rel => exact ⟨k + 1, by omega, by go_num, by rw [HX.out.1, pairs8_append]; simpa [pairs8] using HS7.out⟩
                  case measure => simp [intOf]; omega
              · obtain rfl : k = 12 := by omega
                go_wp2_with fail
                refine (wDone _ _ _ _ HT.out.wr_ (by have := HCL.out 12 (by omega); omega)).mono ?_
                rintro e w8 ⟨v, rfl, hnb⟩
                have HV : Hid (NewBytes c.enc w v w8) := by
                  have e1 : c.enc = pre ++ num (c.pairs 12).length ++ pairs8 (c.pairs 12) := by unfold Clk.enc; rw [← HP.out]
                  have hf : Fr [] w wr := H2.out.1.thenBel HT.out.bel (by omega) (by simp)
                  rw [e1]
                  exact ⟨ownsRow_base hnb.own hf.size, hf.trans hnb.fr⟩
                clear hnb
                go_wp2_with fail
                go_ret
                exact ⟨v, rfl, HV.out⟩
      · rw [hr] at hb6
        rw [hr] at HS2
        go_wp2_with fail
        refine (wInt _ _ c.ref _ _ HS2.out.wr_ HS2.out.sz HF.out.ref.1 HF.out.ref.2 (by have h1 := HL.out 5; have h2 := num_length (b01 true) (by decide); rw [List.length_append]; omega)).mono ?_
        intro e w3 hwr
        have hcut := Lib.hid (HS2.out.wrote (by omega) (by omega) hwr)
        obtain ⟨rfl, _, _⟩ := hwr
        have HP : Hid (ints8 c.five ++ num (b01 c.read) ++ (if c.read then num (zig c.ref) else []) = ints8 (c.five.take 5) ++ num (b01 true) ++ num (zig c.ref)) := by show _ = _; rw [hr, List.take_of_length_le (by simp [Clk.five])]; simp
        have HPL : Hid ((ints8 (c.five.take 5) ++ num (b01 true) ++ num (zig c.ref)).length ≤ 100) := by
          show _ ≤ 100
          have h1 := HL.out 5
          have h2 := num_length (b01 true) (by decide)
          have h3 := zig_len c.ref HF.out.ref
          simp only [List.length_append]
          omega
        generalize (ints8 (c.five.take 5) ++ num (b01 true) ++ num (zig c.ref)) = pre at hcut HP HPL
        have HLA : Hid (∀ (W : World), At W b 57 c.cells → ∀ j v, (c.heard.map Value.bool)[j]? = some v → W.cell? ⟨b, 19 + j, none⟩ = some v) := by
          intro W hW j v hv
          have hj : j < 12 := by have := (List.getElem?_eq_some_iff.1 hv).1; simpa [HF.out.ok.heard] using this
          obtain ⟨y, hy, hy'⟩ := c.cell_heard HF.out.ok j hj
          rw [hW.cell, hy']
          simpa [hy] using hv
        have HLB : Hid (∀ (W : World), At W b 57 c.cells → ∀ j v, (c.told.map (Value.int .i64))[j]? = some v → W.cell? ⟨b, 7 + j, none⟩ = some v) := by
          intro W hW j v hv
          have hj : j < 12 := by have := (List.getElem?_eq_some_iff.1 hv).1; simpa [HF.out.ok.told] using this
          obtain ⟨y, hy, hy'⟩ := c.cell_told HF.out.ok j hj
          rw [hW.cell, hy']
          simpa [hy] using hv
        clear hb5 hb6
        go_wp2_with (first | (refine wpList_load_at rfl 55 (.tmp 62) rfl b 19 rfl (c.heard.map Value.bool) _ (HLA.out _ hcut.out.clk) Try.underlying55 rfl (by rw [List.length_map, HF.out.ok.heard]; kernel_rfl) ?_))
        go_loop [6, 64] (fun n i => ∃ k : Nat, k ≤ 12 ∧ i = .int .i64 k ∧ n = .int .i64 ((c.pairs k).length : Int)) (fun _ i => 12 - (intOf i).toNat)
        case atStart => exact ⟨0, by omega, rfl, rfl⟩
        case round =>
          obtain ⟨k, hk, rfl, rfl⟩ := hrel
          have hpl := c.pairs_le k
          by_cases hk12 : k < 12
          · obtain ⟨x, hx, _⟩ := c.cell_told HF.out.ok k hk12
            obtain ⟨y, hy, _⟩ := c.cell_heard HF.out.ok k hk12
            have hix := run_index_agg (P := Try.prog) 55 4 12 (c.heard.map Value.bool) (Value.bool y) .i64 k Try.underlying55 (by kernel_rfl) (fun _ => by kernel_rfl) hk12 (by simp [hy])
            have HX := Lib.hid (c.pairs_succ k x y hx hy)
            clear hx hy
            cases y
            · go_wp2_with fail
              go_round
              case rel => exact ⟨k + 1, by omega, by go_num, by rw [HX.out]; simp⟩
              case measure => simp [intOf]; omega
            · go_wp2_with fail
              go_round
              case rel => exact ⟨k + 1, by omega, by go_num, by rw [HX.out]; simp⟩
              case measure => simp [intOf]; omega
          · obtain rfl : k = 12 := by omega
            go_wp2_with fail
            refine (wCount _ _ (c.pairs 12).length _ _ hcut.out.wr_ hcut.out.sz (by omega) (by have := HPL.out; omega)).mono ?_
            intro e w5 hwr
            have HS5 := Lib.hid (hcut.out.wrote (by omega) (by omega) hwr)
            obtain ⟨rfl, _, _⟩ := hwr
            go_wp2_with (first | (refine wpList_load_at rfl 54 (.tmp 76) rfl b 7 rfl (c.told.map (Value.int .i64)) _ (HLB.out _ HS5.out.clk) Try.underlying54 rfl (by rw [List.length_map, HF.out.ok.told]; kernel_rfl) ?_))
            have HCL : Hid (∀ k, k ≤ 12 → (pre ++ num (c.pairs 12).length ++ pairs8 (c.pairs k)).length ≤ 400) := by
              intro k hk
              have h1 := HPL.out
              have h2 := num_length (c.pairs 12).length (by omega)
              have h3 := pairs8_len (c.pairs k) (fun p hp => ⟨by have := (HF.out.pair k p hp).1; omega, (HF.out.pair k p hp).2⟩)
              have h4 := c.pairs_le k
              simp only [List.length_append]
              omega
            go_loopw [78] (fun i wr => ∃ k : Nat, k ≤ 12 ∧ i = .int .i64 k ∧ EncSt (w1.heap.size + 1) b w.heap.size c W wr (pre ++ num (c.pairs 12).length ++ pairs8 (c.pairs k))) (fun i _ => 12 - (intOf i).toNat)
            case atStart => exact ⟨0, by omega, rfl, by simpa [Clk.pairs, pairs8] using HS5.out⟩
            case round =>
              obtain ⟨k, hk, rfl, hst⟩ := hrel
              have HT := Lib.hid hst
              clear hst
              by_cases hk12 : k < 12
              · obtain ⟨x, hx, hx'⟩ := c.cell_told HF.out.ok k hk12
                obtain ⟨y, hy, hy'⟩ := c.cell_heard HF.out.ok k hk12
                have hfx := HF.out.told x (List.mem_of_getElem? hx)
                have hcy : wr.cell? ⟨b, 19 + k, none⟩ = some (Value.bool y) := by rw [HT.out.clk.cell, hy']
                have hix := run_index_agg (P := Try.prog) 54 3 12 (c.told.map (Value.int .i64)) (Value.int .i64 x) .i64 k Try.underlying54 (by kernel_rfl) (fun _ => by kernel_rfl) hk12 (by simp [hx])
                have HX := Lib.hid (And.intro (c.pairs_succ k x y hx hy) hfx)
                clear hx hy hx' hy' hfx
                cases y
                · go_wp2_with fail
                  go_roundw
                  case rel => exact ⟨k + 1, by omega, by go_num, by rw [HX.out.1]; simpa using HT.out⟩
                  case measure => simp [intOf]; omega
                · go_wp2_with fail
                  refine (wInt _ _ (k : Int) _ _ HT.out.wr_ HT.out.sz (by omega) (by omega) (by have := HCL.out k hk; omega)).mono ?_
                  intro e w6 hwr
                  have HS6 := Lib.hid (HT.out.wrote (by omega) (by omega) hwr)
                  obtain ⟨rfl, _, _⟩ := hwr
                  go_wp2_with fail
                  refine (wInt _ _ x _ _ HS6.out.wr_ HS6.out.sz HX.out.2.1 HX.out.2.2 (by have h1 := HCL.out k hk; have h2 := zig_len (k : Int) (by unfold Fit64; omega); rw [List.length_append]; omega)).mono ?_
                  intro e w7 hwr
                  have HS7 := Lib.hid (HS6.out.wrote (by omega) (by omega) hwr)
                  obtain ⟨rfl, _, _⟩ := hwr
                  go_wp2_with fail
                  go_roundw
                  case rel => exact ⟨k + 1, by omega, by go_num, by rw [HX.out.1, pairs8_append]; simpa [pairs8] using HS7.out⟩
                  case measure => simp [intOf]; omega
              · obtain rfl : k = 12 := by omega
                go_wp2_with fail
                refine (wDone _ _ _ _ HT.out.wr_ (by have := HCL.out 12 (by omega); omega)).mono ?_
                rintro e w8 ⟨v, rfl, hnb⟩
                have HV : Hid (NewBytes c.enc w v w8) := by
                  have e1 : c.enc = pre ++ num (c.pairs 12).length ++ pairs8 (c.pairs 12) := by unfold Clk.enc; rw [← HP.out]
                  have hf : Fr [] w wr := H2.out.1.thenBel HT.out.bel (by omega) (by simp)
                  rw [e1]
                  exact ⟨ownsRow_base hnb.own hf.size, hf.trans hnb.fr⟩
                clear hnb
                go_wp2_with fail
                go_ret
                exact ⟨v, rfl, HV.out⟩

end Go.Proofs.Ytflabbdnkoejjaa
