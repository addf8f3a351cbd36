/- Contracts of sha256's New and (*State).Write: a sum in progress is its bytes. -/
import Derived.Test.YtlepfnihpdhcaaaGreatDoorSha2
import Derived.Test.YtlepfnihpdhcaaaGreatDoorBytes
import Derived.Outline
namespace Go.Proofs.YtlepfnihpdhcaaaGreatDoor
open Go.RowKit

/-- Block b is a sum in progress of the bytes xs. -/
def ShaAt (w : World) (b : Nat) (xs : List UInt8) : Prop :=
  ∃ buf : List UInt8, buf.length = 64 ∧ buf.take (xs.length % 64) = shaRem xs ∧ At w b 157 (U4 (shaWords xs) ++ (B8 buf ++ [Value.int .i64 (xs.length : Int)]))

theorem ShaAt.fr {w w' : World} {b : Nat} {xs : List UInt8} {S : List Nat} (h : ShaAt w b xs) (hf : Fr S w w') (hb : b ∉ S) : ShaAt w' b xs := by
  obtain ⟨buf, h1, h2, h3⟩ := h
  exact ⟨buf, h1, h2, h3.fr hf hb⟩
theorem ShaAt.lt {w : World} {b : Nat} {xs : List UInt8} (h : ShaAt w b xs) : b < w.heap.size := by
  obtain ⟨buf, h1, h2, h3⟩ := h
  exact h3.lt

set_option maxRecDepth 100000 in
theorem shaNew_any (w : World) (hv : Vars w) : Calls Tryz.prog 73 #[] w fun e w' => e = .returned (Value.pointer (some ⟨w.heap.size, 0, none⟩)) ∧ Fr [] w w' ∧ ShaAt w' w.heap.size [] := by
  have i0 : w.cell? ⟨0, 0, none⟩ = some (.int .u32 1779033703) := hv.init 0 _ rfl
  have i1 : w.cell? ⟨0, 1, none⟩ = some (.int .u32 3144134277) := hv.init 1 _ rfl
  have i2 : w.cell? ⟨0, 2, none⟩ = some (.int .u32 1013904242) := hv.init 2 _ rfl
  have i3 : w.cell? ⟨0, 3, none⟩ = some (.int .u32 2773480762) := hv.init 3 _ rfl
  have i4 : w.cell? ⟨0, 4, none⟩ = some (.int .u32 1359893119) := hv.init 4 _ rfl
  have i5 : w.cell? ⟨0, 5, none⟩ = some (.int .u32 2600822924) := hv.init 5 _ rfl
  have i6 : w.cell? ⟨0, 6, none⟩ = some (.int .u32 528734635) := hv.init 6 _ rfl
  have i7 : w.cell? ⟨0, 7, none⟩ = some (.int .u32 1541459225) := hv.init 7 _ rfl
  clear hv
  go_enter Tryz.func73, Tryz.ntmps73
  go_wp2_with fail
  go_ret
  exact ⟨rfl, (Fr.refl _ _).alloc _, List.replicate 64 0, rfl, rfl, At.new w 157 (U4 (shaWords []) ++ (B8 (List.replicate 64 0) ++ [Value.int .i64 0]))⟩

section
variable {H : List Nat} {buf : List UInt8} {v : Value}
theorem st_len (hH : H.length = 8) (hb : buf.length = 64) : (U4 H ++ (B8 buf ++ [v])).length = 73 := by simp [U4_len, B8_length, hH, hb]
theorem st_get72 (hH : H.length = 8) (hb : buf.length = 64) : (U4 H ++ (B8 buf ++ [v]))[72]? = some v := by
  rw [List.getElem?_append_right (by rw [U4_len, hH]; decide), List.getElem?_append_right (by rw [U4_len, hH, B8_length, hb]; decide), U4_len, hH, B8_length, hb]
  rfl
theorem st_set72 (hH : H.length = 8) (hb : buf.length = 64) (v' : Value) : (U4 H ++ (B8 buf ++ [v])).set 72 v' = U4 H ++ (B8 buf ++ [v']) := by
  rw [List.set_append_right _ _ (by rw [U4_len, hH]; decide), List.set_append_right _ _ (by rw [U4_len, hH, B8_length, hb]; decide), U4_len, hH, B8_length, hb]
  rfl
theorem st_buf (hH : H.length = 8) (i : Nat) (u : Value) (h : (B8 buf)[i]? = some u) : (U4 H ++ (B8 buf ++ [v]))[8 + i]? = some u := by
  have hi : i < (B8 buf).length := (List.getElem?_eq_some_iff.1 h).1
  rw [List.getElem?_append_right (by rw [U4_len, hH]; omega), U4_len, hH, show 8 + i - 8 = i by omega, List.getElem?_append_left hi, h]
theorem st_copy (hH : H.length = 8) (hb : buf.length = 64) (u : Nat) (cs : List UInt8) (hu : u + cs.length ≤ 64) :
    (U4 H ++ (B8 buf ++ [v])).take (8 + u) ++ B8 cs ++ (U4 H ++ (B8 buf ++ [v])).drop (8 + u + (B8 cs).length) = U4 H ++ (B8 (buf.take u ++ cs ++ buf.drop (u + cs.length)) ++ [v]) := by
  have h8 : (U4 H).length = 8 := by rw [U4_len, hH]
  have hb8 : (B8 buf).length = 64 := by rw [B8_length, hb]
  rw [List.take_append, List.drop_append, B8_length, h8, show 8 + u - 8 = u by omega, show 8 + u + cs.length - 8 = u + cs.length by omega, List.take_of_length_le (by omega), List.drop_of_length_le (by omega), List.nil_append,
    List.take_append_of_le_length (by omega), List.drop_append_of_le_length (by omega), B8_append, B8_append]
  simp [B8, List.map_take, List.map_drop]
end

theorem sl_buf (b u : Nat) (hu : u < 64) (w : World) : (Instr.sliceAt 155 (.pointer (some ⟨b, 8, none⟩)) (some (.int .i64 (u : Int))) none none).run Tryz.prog w = .ok (.slice (some ⟨b, 8 + u, none⟩) (64 - u) (64 - u)) w := by
  have hl : Tryz.prog.arrayLen 155 = 64 := by kernel_rfl
  have hz : (sizeOf (Tryz.prog.elem 155)).run Tryz.prog w = .ok 1 w := by kernel_rfl
  have hne : ¬ (64 = u) := by omega
  rw [run_sliceAt_array_l w 155 ⟨b, 8, none⟩ (by kernel_rfl) .i64 (u : Int) (by omega) (by rw [hl]; omega), hz, hl]
  simp [slicedAt, hne, add_none]
theorem sl_buf_all (b : Nat) (w : World) : (Instr.sliceAt 155 (.pointer (some ⟨b, 8, none⟩)) none none none).run Tryz.prog w = .ok (.slice (some ⟨b, 8, none⟩) 64 64) w := by
  have hl : Tryz.prog.arrayLen 155 = 64 := by kernel_rfl
  have hz : (sizeOf (Tryz.prog.elem 155)).run Tryz.prog w = .ok 1 w := by kernel_rfl
  rw [run_sliceAt_array_all w 155 ⟨b, 8, none⟩ (by kernel_rfl), hz, hl]
  simp [slicedAt, add_none]

/-- x[k:] of a slice of bytes. -/
theorem sl_from (g o m cap k : Nat) (hk : k ≤ m) (hm : m ≤ cap) : ∃ o', (k < m → o' = o + k) ∧ ∀ w : World, (Instr.slice 37 (.slice (some ⟨g, o, none⟩) m cap) (some (.int .i64 (k : Int))) none none).run Tryz.prog w = .ok (.slice (some ⟨g, o', none⟩) (m - k) (cap - k)) w := by
  have hz : ∀ w, (sizeOf (Tryz.prog.elem 37)).run Tryz.prog w = .ok 1 w := fun w => by kernel_rfl
  by_cases hc : cap = k
  · refine ⟨o, fun h => by omega, fun w => ?_⟩
    rw [run_slice_l w 37 (some ⟨g, o, none⟩) m cap (by kernel_rfl) .i64 (k : Int) (by omega) (by omega), hz]
    simp [sliced, hc]
  · refine ⟨o + k, fun _ => rfl, fun w => ?_⟩
    rw [run_slice_l w 37 (some ⟨g, o, none⟩) m cap (by kernel_rfl) .i64 (k : Int) (by omega) (by omega), hz]
    simp [sliced, hc, add_none]

theorem RowIn.dropB {w : World} {g o o' k : Nat} {zs : List UInt8} (h : RowIn w (some ⟨g, o, none⟩) (B8 zs)) (ho : k < zs.length → o' = o + k) : RowIn w (some ⟨g, o', none⟩) (B8 (zs.drop k)) := by
  intro i u hu
  have hi := (List.getElem?_eq_some_iff.1 hu).1
  rw [B8_length, List.length_drop] at hi
  have e : (B8 (zs.drop k))[i]? = (B8 zs)[k + i]? := by simp [B8, List.getElem?_drop]
  rw [e] at hu
  obtain ⟨b, o1, hA, hb, hc⟩ := h (k + i) u hu
  injection hA with hA
  injection hA with h1 h2
  subst h1 h2
  refine ⟨g, o', rfl, hb, ?_⟩
  rw [ho (by omega), Nat.add_assoc]
  exact hc
theorem RowIn.takeB {w : World} {A : Option Addr} {k : Nat} {zs : List UInt8} (h : RowIn w A (B8 zs)) : RowIn w A (B8 (zs.take k)) := by
  intro i u hu
  refine h i u ?_
  have hi := (List.getElem?_eq_some_iff.1 hu).1
  rw [B8_length, List.length_take] at hi
  rw [← hu]
  simp only [B8, List.map_take]
  rw [List.getElem?_take_of_lt (by omega)]
theorem RowIn.some {w : World} {A : Option Addr} {zs : List UInt8} (h : RowIn w A (B8 zs)) (hz : 0 < zs.length) : ∃ g o, A = some ⟨g, o, none⟩ ∧ g < w.heap.size := by
  obtain ⟨b, o, hA, hb, _⟩ := h 0 _ (B8_get zs 0 _ (List.getElem?_eq_getElem hz))
  exact ⟨b, o, hA, hb⟩

/-- What the loop of Write keeps. -/
structure WrS (w wr : World) (b : Nat) (all pre zs : List UInt8) (A : Option Addr) (cap : Nat) : Prop where
  fr : Fr [b] w wr
  eq : pre ++ zs = all
  mod : pre.length % 64 = 0
  cap : zs.length ≤ cap
  row : RowIn wr A (B8 zs)
  far : ∀ g o, A = some ⟨g, o, none⟩ → g ≠ b
  st : ∃ buf : List UInt8, buf.length = 64 ∧ At wr b 157 (U4 (shaWords pre) ++ (B8 buf ++ [Value.int .i64 (all.length : Int)]))

theorem shaRem_nil (pre : List UInt8) (h : pre.length % 64 = 0) : shaRem pre = [] := List.eq_nil_of_length_eq_zero (by rw [shaRem_len, h])

theorem WrS.step {w wr w1 : World} {b g o o' cap : Nat} {all pre zs buf : List UInt8} (h : WrS w wr b all pre zs (some ⟨g, o, none⟩) cap) (h64 : 64 ≤ zs.length) (hf : Fr [b] wr w1) (ho : 64 < zs.length → o' = o + 64)
    (hb : buf.length = 64) (hat : At w1 b 157 (U4 (compress (shaWords pre) (zs.take 64)) ++ (B8 buf ++ [Value.int .i64 (all.length : Int)]))) : WrS w w1 b all (pre ++ zs.take 64) (zs.drop 64) (some ⟨g, o', none⟩) (cap - 64) := by
  have hl : (zs.take 64).length = 64 := by rw [List.length_take]; omega
  have hfar := h.far g o rfl
  refine ⟨h.fr.trans hf, by rw [List.append_assoc, List.take_append_drop]; exact h.eq, by have := h.mod; rw [List.length_append, hl]; omega, by have := h.cap; rw [List.length_drop]; omega, ?_, fun g' o1 e => ?_, buf, hb, ?_⟩
  · refine (RowIn.dropB (h.row.fr hf fun g' o1 e => ?_) ho)
    injection e with e
    injection e with e1 e2
    subst e1
    simpa using hfar
  · injection e with e
    injection e with e1 e2
    subst e1
    exact hfar
  · have hm := h.mod
    rw [(shaWords_fill pre (zs.take 64) (by omega)).1, shaRem_nil pre h.mod, List.nil_append]
    exact hat

theorem ShaAt.done {w : World} {b : Nat} {all pre zs buf : List UInt8} (he : pre ++ zs = all) (hm : pre.length % 64 = 0) (hz : zs.length < 64) (hb : buf.length = 64) (hat : At w b 157 (U4 (shaWords pre) ++ (B8 (zs ++ buf.drop zs.length) ++ [Value.int .i64 (all.length : Int)]))) : ShaAt w b all := by
  subst he
  have h := shaWords_small pre zs (by omega)
  refine ⟨zs ++ buf.drop zs.length, by rw [List.length_append, List.length_drop]; omega, ?_, by rw [h.1]; exact hat⟩
  rw [h.2, shaRem_nil pre hm, List.nil_append, List.length_append, show (pre.length + zs.length) % 64 = zs.length by omega, List.take_left]

theorem ShaAt.small {w : World} {b : Nat} {xs ys buf : List UInt8} (hz : xs.length % 64 + ys.length < 64) (hb : buf.length = 64) (hr : buf.take (xs.length % 64) = shaRem xs)
    (hat : At w b 157 (U4 (shaWords xs) ++ (B8 (buf.take (xs.length % 64) ++ ys ++ buf.drop (xs.length % 64 + ys.length)) ++ [Value.int .i64 ((xs ++ ys).length : Int)]))) : ShaAt w b (xs ++ ys) := by
  have h := shaWords_small xs ys hz
  have hl : (buf.take (xs.length % 64)).length = xs.length % 64 := by rw [List.length_take]; omega
  refine ⟨_, ?_, ?_, by rw [h.1]; exact hat⟩
  · simp only [List.length_append, hl, List.length_drop]
    omega
  · rw [h.2, ← hr, List.length_append, show (xs.length + ys.length) % 64 = xs.length % 64 + ys.length by omega, List.take_append_of_le_length (by rw [List.length_append, hl]; omega), List.take_of_length_le (by rw [List.length_append, hl]; omega)]

theorem results_none {fn : Func} (h : fn.results = #[]) (tmps : Array Value) (P : Program) (w : World) : (results fn tmps).run P w = .ok (.tuple #[]) w := by simp [results, h]

set_option maxRecDepth 100000 in
set_option maxHeartbeats 1000000 in
theorem shaWrite_any (b : Nat) (xs ys : List UInt8) (A : Option Addr) (cap : Nat) (w : World) (hv : Vars w) (h2 : 2 ≤ b) (hs : ShaAt w b xs) (hrow : RowIn w A (B8 ys)) (hcap : ys.length ≤ cap) (hfar : ∀ g o, A = some ⟨g, o, none⟩ → g ≠ b) (hlen : xs.length + ys.length ≤ 1099511627776) :
    Calls Tryz.prog 74 #[Value.pointer (some ⟨b, 0, none⟩), .slice A ys.length cap] w fun e w' => e = .returned (.tuple #[]) ∧ Fr [b] w w' ∧ ShaAt w' b (xs ++ ys) := by
  obtain ⟨buf, hb1, hb2, hat⟩ := hs
  have hw8 := (shaWords_ok xs).1
  have c72 : w.cell? ⟨b, 72, none⟩ = some (Value.int .i64 (xs.length : Int)) := by rw [hat.cell]; exact st_get72 hw8 hb1
  have f72 := hat.frozen 72
  obtain ⟨u, hu⟩ : ∃ u, u = xs.length % 64 := ⟨_, rfl⟩
  have hu64 : u < 64 := by omega
  have eu : (xs.length : Int) % 64 = (u : Int) := by omega
  obtain ⟨n, hn⟩ : ∃ n, n = xs.length := ⟨_, rfl⟩
  obtain ⟨m, hm⟩ : ∃ m, m = ys.length := ⟨_, rfl⟩
  obtain ⟨W1, HWE⟩ : ∃ W1, Hid (W1 = w.setCell ⟨b, 72, none⟩ (Value.int .i64 ((n : Int) + (m : Int)))) := ⟨_, rfl⟩
  have e2 : ((n : Int) + (m : Int)) = ((xs ++ ys).length : Int) := by rw [List.length_append, hn, hm]; omega
  have HA : Hid (Vars w ∧ buf.length = 64 ∧ buf.take u = shaRem xs ∧ At W1 b 157 (U4 (shaWords xs) ++ (B8 buf ++ [Value.int .i64 ((xs ++ ys).length : Int)])) ∧ RowIn W1 A (B8 ys) ∧ (∀ g o, A = some ⟨g, o, none⟩ → g ≠ b) ∧ Fr [b] w W1 ∧ ys.length ≤ cap) := by
    have hf : Fr [b] w W1 := by rw [HWE.out]; exact (Fr.refl _ _).setCell (by simp) _
    refine ⟨hv, hb1, by rw [hu]; exact hb2, ?_, hrow.fr hf (fun g o e => by have := hfar g o e; simpa using this), hfar, hf, hcap⟩
    rw [HWE.out, ← e2]
    have := hat.set 72 (Value.int .i64 ((n : Int) + (m : Int)))
    rw [st_set72 hw8 hb1] at this
    exact this
  have HN : Hid (n = xs.length ∧ m = ys.length ∧ u = xs.length % 64) := ⟨hn, hm, hu⟩
  rw [← hn] at c72 eu hlen
  rw [← hm] at hlen hcap ⊢
  clear hv hb1 hb2 hw8 hat hrow hfar hn hm hu e2
  by_cases h0 : u = 0
  · have hposI : ¬ (0 : Int) < (u : Int) := by omega
    have h00 : ¬ 0 < u := by omega
    have HL0 : ∃ (pre zs : List UInt8) (A' : Option Addr) (cap' r : Nat), Value.slice A m cap = .slice A' r cap' ∧ Hid (r = zs.length ∧ WrS w W1 b (xs ++ ys) pre zs A' cap') :=
      ⟨xs, ys, A, cap, m, rfl, HN.out.2.1, HA.out.2.2.2.2.2.2.1, rfl, by rw [← HN.out.2.2]; exact h0, HA.out.2.2.2.2.2.2.2, HA.out.2.2.2.2.1, HA.out.2.2.2.2.2.1, buf, HA.out.2.1, HA.out.2.2.2.1⟩
    clear h0
    go_enter Tryz.func74, Tryz.ntmps74
    go_wp2_with fail
    rw [← HWE.out]
    · clear c72 f72 eu
      go_loopw [1] (fun x wx => ∃ (pre zs : List UInt8) (A' : Option Addr) (cap' r : Nat), x = .slice A' r cap' ∧ Hid (r = zs.length ∧ WrS w wx b (xs ++ ys) pre zs A' cap')) (fun x _ => match x with | .slice _ k _ => k | _ => 0)
      case atStart => exact HL0
      case round =>
        obtain ⟨pre, zs, A', cap', r, rfl, HR⟩ := hrel
        obtain ⟨buf', hb', hat'⟩ := HR.out.2.st
        have HB' := Lib.hid (And.intro hb' hat')
        clear hb' hat'
        have hrc : r ≤ cap' := by rw [HR.out.1]; exact HR.out.2.cap
        by_cases h64 : 64 ≤ r
        · obtain ⟨g', o', rfl, hg'⟩ := HR.out.2.row.some (by rw [← HR.out.1]; omega)
          obtain ⟨o2, ho2, hsl⟩ := sl_from g' o' r cap' 64 h64 hrc
          have hslI : ∀ w : World, (Instr.slice 37 (.slice (some ⟨g', o', none⟩) r cap') (some (.int .i64 64)) none none).run Tryz.prog w = .ok (.slice (some ⟨g', o2, none⟩) (r - 64) (cap' - 64)) w := hsl
          have HO2 := Lib.hid ho2
          clear hsl ho2
          have h64I : (64 : Int) ≤ (r : Int) := by omega
          have h64c : (64 : Int) ≤ (cap' : Int) := by omega
          have HP := Lib.hid (process_any b g' o' cap' (shaWords pre) (B8 buf' ++ [Value.int .i64 ((xs ++ ys).length : Int)]) (zs.take 64) wr (HA.out.1.fr HR.out.2.fr (by simp; omega) (by simp; omega)) HB'.out.2 (shaWords_ok pre).1 (shaWords_ok pre).2 (by rw [List.length_take, ← HR.out.1]; omega) (by omega) HR.out.2.row.takeB)
          go_wp2_with fail
          refine HP.out.mono ?_
          rintro e w1 ⟨rfl, hf1, ha1⟩
          have HN : Hid (r - 64 = (zs.drop 64).length ∧ WrS w w1 b (xs ++ ys) (pre ++ zs.take 64) (zs.drop 64) (some ⟨g', o2, none⟩) (cap' - 64)) := ⟨by rw [List.length_drop, ← HR.out.1], HR.out.2.step (by rw [← HR.out.1]; exact h64) hf1 (by rw [← HR.out.1]; exact HO2.out) HB'.out.1 ha1⟩
          clear hf1 ha1 HP HO2 HR HB'
          go_wp2_with fail
          go_roundw
          case rel =>
            first
              | exact ⟨pre ++ zs.take 64, zs.drop 64, _, _, _, rfl, HN⟩
              | ((repeat apply Exists.intro); exact ⟨⟨pre ++ zs.take 64, zs.drop 64, _, _, _, rfl, HN⟩, rfl⟩)
          case measure => show r - 64 < r; omega
        · have hslA := sl_buf_all b
          have h64I : (r : Int) < 64 := by omega
          have h64n : r < 64 := by omega
          obtain ⟨L, HL⟩ : ∃ L, Hid (L = U4 (shaWords pre) ++ (B8 buf' ++ [Value.int .i64 ((xs ++ ys).length : Int)])) := ⟨_, rfl⟩
          obtain ⟨L2, HL2⟩ : ∃ L2, Hid (L2 = U4 (shaWords pre) ++ (B8 (zs ++ buf'.drop zs.length) ++ [Value.int .i64 ((xs ++ ys).length : Int)])) := ⟨_, rfl⟩
          obtain ⟨CS, HCS⟩ : ∃ CS, Hid (CS = B8 zs) := ⟨_, rfl⟩
          go_wp2_with (refine wpList_copy_at (P := Tryz.prog) (dT := 37) (sT := 37) (elem := 5) Tryz.underlying37 (by kernel_rfl) rfl _ _ rfl b 8 64 64 A' r cap' 157 L CS rfl rfl ?hat2 ?hn2 ?hsrc2 ?hfit2 ?h12 r ?hnn2 L2 ?hl2 ?_)
          case hat2 => rw [HL.out]; exact HB'.out.2
          case hl2 =>
            have h3 := st_copy (H := shaWords pre) (buf := buf') (v := Value.int .i64 ((xs ++ ys).length : Int)) (shaWords_ok pre).1 HB'.out.1 0 zs (by rw [← HR.out.1]; omega)
            rw [List.take_zero, List.nil_append, Nat.zero_add, Nat.add_zero, ← HL.out, ← HL2.out, ← HCS.out] at h3
            rw [← h3, List.append_assoc]
          case hn2 => rw [HCS.out, B8_length, ← HR.out.1]; exact (Nat.min_eq_left (by omega)).symm
          case hsrc2 => rw [HCS.out]; exact CellsAt.of_row HR.out.2.row
          case hfit2 => rw [HCS.out, HL.out, st_len (shaWords_ok pre).1 HB'.out.1, B8_length, ← HR.out.1]; omega
          case h12 => rw [HCS.out]; exact B8_one _
          case hnn2 => rw [HCS.out, B8_length, ← HR.out.1]
          intro w2 hf2 ha2
          have HE : Hid (Fr [b] w w2 ∧ ShaAt w2 b (xs ++ ys)) := by
            refine ⟨HR.out.2.fr.trans hf2, ?_⟩
            rw [HL2.out] at ha2
            exact ShaAt.done HR.out.2.eq HR.out.2.mod (by rw [← HR.out.1]; exact h64n) HB'.out.1 ha2
          clear hf2 ha2
          go_wp2_with fail
          go_end0
          exact ⟨rfl, HE.out.1, HE.out.2⟩
  · have hpos : 0 < u := by omega
    have hposI : (0 : Int) < (u : Int) := by omega
    by_cases hs : u + m < 64
    · have hsI : (u : Int) + (m : Int) < 64 := by omega
      have hsl := sl_buf b u hu64
      have hsx : ∃ A2 c2, ∀ w : World, (Instr.slice 37 (.slice A m cap) (some (.int .i64 (m : Int))) none none).run Tryz.prog w = .ok (.slice A2 0 c2) w := by
        by_cases hm0 : m = 0
        · subst hm0
          refine ⟨if cap = 0 then A else A.map (·.add (0 * 1)), cap, fun w => ?_⟩
          rw [run_slice_l w 37 A 0 cap (by kernel_rfl) .i64 ((0 : Nat) : Int) (by omega) (by omega), show (sizeOf (Tryz.prog.elem 37)).run Tryz.prog w = .ok 1 w by kernel_rfl]
          rfl
        · obtain ⟨g, o, hA, _⟩ := HA.out.2.2.2.2.1.some (by rw [← HN.out.2.1]; omega)
          obtain ⟨o', _, h⟩ := sl_from g o m cap m (Nat.le_refl _) hcap
          refine ⟨some ⟨g, o', none⟩, cap - m, fun w => ?_⟩
          rw [hA, h w, Nat.sub_self]
      obtain ⟨A2, c2, hsx⟩ := hsx
      obtain ⟨L, HL⟩ : ∃ L, Hid (L = U4 (shaWords xs) ++ (B8 buf ++ [Value.int .i64 ((xs ++ ys).length : Int)])) := ⟨_, rfl⟩
      obtain ⟨L2, HL2⟩ : ∃ L2, Hid (L2 = U4 (shaWords xs) ++ (B8 (buf.take u ++ ys ++ buf.drop (u + (ys).length)) ++ [Value.int .i64 ((xs ++ ys).length : Int)])) := ⟨_, rfl⟩
      obtain ⟨CS, HCS⟩ : ∃ CS, Hid (CS = B8 (ys)) := ⟨_, rfl⟩
      go_enter Tryz.func74, Tryz.ntmps74
      go_wp2_with (rw [← HWE.out]; refine wpList_copy_at (P := Tryz.prog) (dT := 37) (sT := 37) (elem := 5) Tryz.underlying37 (by kernel_rfl) rfl _ _ rfl b (8 + u) (64 - u) (64 - u) A m cap 157 L CS rfl rfl ?hat ?hn ?hsrc ?hfit ?h1 m ?hnn L2 ?hl2 ?_)
      case hat => rw [HL.out]; exact HA.out.2.2.2.1
      case hl2 =>
        have h3 := st_copy (H := shaWords xs) (buf := buf) (v := Value.int .i64 ((xs ++ ys).length : Int)) (shaWords_ok xs).1 HA.out.2.1 u ys (by rw [← HN.out.2.1]; omega)
        rw [← HL.out, ← HL2.out, ← HCS.out] at h3
        rw [← h3, List.append_assoc]
      case hn => rw [HCS.out, B8_length, ← HN.out.2.1]; exact (Nat.min_eq_left (by omega)).symm
      case hsrc => rw [HCS.out]; exact CellsAt.of_row HA.out.2.2.2.2.1
      case hfit => rw [HCS.out, HL.out, st_len (shaWords_ok xs).1 HA.out.2.1, B8_length, ← HN.out.2.1]; omega
      case h1 => rw [HCS.out]; exact B8_one _
      case hnn => rw [HCS.out, B8_length, ← HN.out.2.1]
      intro w2 hf2 ha2
      have HE : Hid (Fr [b] w w2 ∧ ShaAt w2 b (xs ++ ys)) := by
        refine ⟨HA.out.2.2.2.2.2.2.1.trans hf2, ?_⟩
        rw [HL2.out, HN.out.2.2] at ha2
        exact ShaAt.small (by rw [← HN.out.2.2, ← HN.out.2.1]; exact hs) HA.out.2.1 (by rw [← HN.out.2.2]; exact HA.out.2.2.1) ha2
      clear hf2 ha2
      go_wp2_with fail
      refine bodyPost_ret (results_none rfl _ _ _) rfl ?_
      exact ⟨rfl, HE.out.1, HE.out.2⟩
    · obtain ⟨k, hk⟩ : ∃ k, k + u = 64 := ⟨64 - u, by omega⟩
      have hkl : (ys.take k).length = k := by rw [List.length_take, ← HN.out.2.1]; omega
      have HK : Hid ((ys.take k).length = k) := hkl
      clear hkl
      have hkm : k ≤ m := by omega
      have hsl := sl_buf b u hu64
      have hslA := sl_buf_all b
      obtain ⟨g, o, rfl, hg⟩ := HA.out.2.2.2.2.1.some (by rw [← HN.out.2.1]; omega)
      obtain ⟨o', ho', hsx⟩ := sl_from g o m cap k hkm hcap
      have HO := Lib.hid ho'
      clear ho'
      have hge : ¬ (u : Int) + (k : Int) < 64 := by omega
      obtain ⟨L, HL⟩ : ∃ L, Hid (L = U4 (shaWords xs) ++ (B8 buf ++ [Value.int .i64 ((xs ++ ys).length : Int)])) := ⟨_, rfl⟩
      obtain ⟨L2, HL2⟩ : ∃ L2, Hid (L2 = U4 (shaWords xs) ++ (B8 (buf.take u ++ ys.take k ++ buf.drop (u + (ys.take k).length)) ++ [Value.int .i64 ((xs ++ ys).length : Int)])) := ⟨_, rfl⟩
      obtain ⟨CS, HCS⟩ : ∃ CS, Hid (CS = B8 (ys.take k)) := ⟨_, rfl⟩
      go_enter Tryz.func74, Tryz.ntmps74
      go_wp2_with (rw [← HWE.out]; refine wpList_copy_at (P := Tryz.prog) (dT := 37) (sT := 37) (elem := 5) Tryz.underlying37 (by kernel_rfl) rfl _ _ rfl b (8 + u) (64 - u) (64 - u) (some ⟨g, o, none⟩) m cap 157 L CS rfl rfl ?hat ?hn ?hsrc ?hfit ?h1 k ?hnn L2 ?hl2 ?_)
      case hat => rw [HL.out]; exact HA.out.2.2.2.1
      case hl2 =>
        have h3 := st_copy (H := shaWords xs) (buf := buf) (v := Value.int .i64 ((xs ++ ys).length : Int)) (shaWords_ok xs).1 HA.out.2.1 u (ys.take k) (by rw [HK.out]; omega)
        rw [← HL.out, ← HL2.out, ← HCS.out] at h3
        rw [← h3, List.append_assoc]
      case hn => rw [HCS.out, B8_length, HK.out]; exact ((Nat.min_eq_right (by omega)).trans (by omega)).symm
      case hsrc => rw [HCS.out]; exact CellsAt.of_row HA.out.2.2.2.2.1.takeB
      case hfit => rw [HCS.out, HL.out, st_len (shaWords_ok xs).1 HA.out.2.1, B8_length, HK.out]; omega
      case h1 => rw [HCS.out]; exact B8_one _
      case hnn => rw [HCS.out, B8_length, HK.out]
      intro w2 hf2 ha2
      have HE : Hid (Fr [b] W1 w2 ∧ (buf.take u ++ ys.take k).length = 64 ∧ At w2 b 157 (U4 (shaWords xs) ++ (B8 (buf.take u ++ ys.take k) ++ [Value.int .i64 ((xs ++ ys).length : Int)]))) := by
        refine ⟨hf2, by rw [List.length_append, List.length_take, HA.out.2.1, HK.out]; omega, ?_⟩
        rw [HL2.out, List.drop_of_length_le (by rw [HA.out.2.1, HK.out]; omega), List.append_nil] at ha2
        exact ha2
      clear hf2 ha2
      have HP := Lib.hid (process_any b b 8 64 (shaWords xs) (B8 (buf.take u ++ ys.take k) ++ [Value.int .i64 ((xs ++ ys).length : Int)]) (buf.take u ++ ys.take k) w2 (HA.out.1.fr (HA.out.2.2.2.2.2.2.1.trans HE.out.1) (by simp; omega) (by simp; omega)) HE.out.2.2 (shaWords_ok xs).1 (shaWords_ok xs).2 HE.out.2.1 (by omega)
        (fun i v hv => ⟨b, 8, rfl, HE.out.2.2.lt, by rw [HE.out.2.2.cell]; exact st_buf (shaWords_ok xs).1 i v hv⟩))
      go_wp2_with fail
      refine HP.out.mono ?_
      rintro e w3 ⟨rfl, hf3, ha3⟩
      have HL0 : ∃ (pre zs : List UInt8) (A' : Option Addr) (cap' r : Nat), Value.slice (some ⟨g, o', none⟩) (m - k) (cap - k) = .slice A' r cap' ∧ Hid (r = zs.length ∧ WrS w w3 b (xs ++ ys) pre zs A' cap') := by
        have hgb := HA.out.2.2.2.2.2.1 g o rfl
        refine ⟨xs ++ ys.take k, ys.drop k, _, _, _, rfl, by rw [List.length_drop, ← HN.out.2.1], (HA.out.2.2.2.2.2.2.1.trans HE.out.1).trans hf3, by rw [List.append_assoc, List.take_append_drop], by rw [List.length_append, HK.out]; have := HN.out.2.2; omega, by rw [List.length_drop]; have := HA.out.2.2.2.2.2.2.2; omega, ?_, fun g' o1 e => ?_, _, HE.out.2.1, ?_⟩
        · refine RowIn.dropB (HA.out.2.2.2.2.1.fr (HE.out.1.trans hf3) fun g' o1 e => ?_) (by rw [← HN.out.2.1]; exact HO.out)
          injection e with e
          injection e with e1 e2
          subst e1
          simpa using hgb
        · injection e with e
          injection e with e1 e2
          subst e1
          exact hgb
        · rw [(shaWords_fill xs (ys.take k) (by rw [HK.out, ← HN.out.2.2]; omega)).1, ← HA.out.2.2.1]
          exact ha3
      clear hf3 ha3 HP HE hsl hslA hsx
      go_wp2_with fail
      go_loopw [1] (fun x wx => ∃ (pre zs : List UInt8) (A' : Option Addr) (cap' r : Nat), x = .slice A' r cap' ∧ Hid (r = zs.length ∧ WrS w wx b (xs ++ ys) pre zs A' cap')) (fun x _ => match x with | .slice _ k _ => k | _ => 0)
      case atStart => exact HL0
      case round =>
        obtain ⟨pre, zs, A', cap', r, rfl, HR⟩ := hrel
        obtain ⟨buf', hb', hat'⟩ := HR.out.2.st
        have HB' := Lib.hid (And.intro hb' hat')
        clear hb' hat'
        have hrc : r ≤ cap' := by rw [HR.out.1]; exact HR.out.2.cap
        by_cases h64 : 64 ≤ r
        · obtain ⟨g', o', rfl, hg'⟩ := HR.out.2.row.some (by rw [← HR.out.1]; omega)
          obtain ⟨o2, ho2, hsl⟩ := sl_from g' o' r cap' 64 h64 hrc
          have hslI : ∀ w : World, (Instr.slice 37 (.slice (some ⟨g', o', none⟩) r cap') (some (.int .i64 64)) none none).run Tryz.prog w = .ok (.slice (some ⟨g', o2, none⟩) (r - 64) (cap' - 64)) w := hsl
          have HO2 := Lib.hid ho2
          clear hsl ho2
          have h64I : (64 : Int) ≤ (r : Int) := by omega
          have h64c : (64 : Int) ≤ (cap' : Int) := by omega
          have HP := Lib.hid (process_any b g' o' cap' (shaWords pre) (B8 buf' ++ [Value.int .i64 ((xs ++ ys).length : Int)]) (zs.take 64) wr (HA.out.1.fr HR.out.2.fr (by simp; omega) (by simp; omega)) HB'.out.2 (shaWords_ok pre).1 (shaWords_ok pre).2 (by rw [List.length_take, ← HR.out.1]; omega) (by omega) HR.out.2.row.takeB)
          go_wp2_with fail
          refine HP.out.mono ?_
          rintro e w1 ⟨rfl, hf1, ha1⟩
          have HN : Hid (r - 64 = (zs.drop 64).length ∧ WrS w w1 b (xs ++ ys) (pre ++ zs.take 64) (zs.drop 64) (some ⟨g', o2, none⟩) (cap' - 64)) := ⟨by rw [List.length_drop, ← HR.out.1], HR.out.2.step (by rw [← HR.out.1]; exact h64) hf1 (by rw [← HR.out.1]; exact HO2.out) HB'.out.1 ha1⟩
          clear hf1 ha1 HP HO2 HR HB'
          go_wp2_with fail
          go_roundw
          case rel =>
            first
              | exact ⟨pre ++ zs.take 64, zs.drop 64, _, _, _, rfl, HN⟩
              | ((repeat apply Exists.intro); exact ⟨⟨pre ++ zs.take 64, zs.drop 64, _, _, _, rfl, HN⟩, rfl⟩)
          case measure => show r - 64 < r; omega
        · have hslA := sl_buf_all b
          have h64I : (r : Int) < 64 := by omega
          have h64n : r < 64 := by omega
          obtain ⟨L, HL⟩ : ∃ L, Hid (L = U4 (shaWords pre) ++ (B8 buf' ++ [Value.int .i64 ((xs ++ ys).length : Int)])) := ⟨_, rfl⟩
          obtain ⟨L2, HL2⟩ : ∃ L2, Hid (L2 = U4 (shaWords pre) ++ (B8 (zs ++ buf'.drop zs.length) ++ [Value.int .i64 ((xs ++ ys).length : Int)])) := ⟨_, rfl⟩
          obtain ⟨CS, HCS⟩ : ∃ CS, Hid (CS = B8 zs) := ⟨_, rfl⟩
          go_wp2_with (refine wpList_copy_at (P := Tryz.prog) (dT := 37) (sT := 37) (elem := 5) Tryz.underlying37 (by kernel_rfl) rfl _ _ rfl b 8 64 64 A' r cap' 157 L CS rfl rfl ?hat2 ?hn2 ?hsrc2 ?hfit2 ?h12 r ?hnn2 L2 ?hl2 ?_)
          case hat2 => rw [HL.out]; exact HB'.out.2
          case hl2 =>
            have h3 := st_copy (H := shaWords pre) (buf := buf') (v := Value.int .i64 ((xs ++ ys).length : Int)) (shaWords_ok pre).1 HB'.out.1 0 zs (by rw [← HR.out.1]; omega)
            rw [List.take_zero, List.nil_append, Nat.zero_add, Nat.add_zero, ← HL.out, ← HL2.out, ← HCS.out] at h3
            rw [← h3, List.append_assoc]
          case hn2 => rw [HCS.out, B8_length, ← HR.out.1]; exact (Nat.min_eq_left (by omega)).symm
          case hsrc2 => rw [HCS.out]; exact CellsAt.of_row HR.out.2.row
          case hfit2 => rw [HCS.out, HL.out, st_len (shaWords_ok pre).1 HB'.out.1, B8_length, ← HR.out.1]; omega
          case h12 => rw [HCS.out]; exact B8_one _
          case hnn2 => rw [HCS.out, B8_length, ← HR.out.1]
          intro w2 hf2 ha2
          have HE : Hid (Fr [b] w w2 ∧ ShaAt w2 b (xs ++ ys)) := by
            refine ⟨HR.out.2.fr.trans hf2, ?_⟩
            rw [HL2.out] at ha2
            exact ShaAt.done HR.out.2.eq HR.out.2.mod (by rw [← HR.out.1]; exact h64n) HB'.out.1 ha2
          clear hf2 ha2
          go_wp2_with fail
          go_end0
          exact ⟨rfl, HE.out.1, HE.out.2⟩

end Go.Proofs.YtlepfnihpdhcaaaGreatDoor
