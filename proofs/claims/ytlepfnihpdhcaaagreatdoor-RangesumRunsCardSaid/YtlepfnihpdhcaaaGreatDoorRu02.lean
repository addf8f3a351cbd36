/- Part 2 of a proof about rangesum: what its row uses. -/
import Derived.Test.YtlepfnihpdhcaaaGreatDoorRu01
set_option maxRecDepth 100000
set_option maxHeartbeats 1000000
namespace Go.Proofs.YtlepfnihpdhcaaaGreatDoor
open Go.RowKit
def ShaAt (w : World) (b : Nat) (xs : List UInt8) : Prop :=
 ∃ buf : List UInt8, buf.length = 64 ∧ buf.take (xs.length % 64) = shaRem xs ∧ At w b 157 (U4 (shaWords xs) ++ (B8 buf ++ [Value.int .i64 (xs.length : Int)]))
theorem ShaAt.fr {w w' : World} {b : Nat} {xs : List UInt8} {S : List Nat} (h : ShaAt w b xs) (hf : Fr S w w') (hb : b ∉ S) : ShaAt w' b xs := by
 obtain ⟨buf, h1, h2, h3⟩ := h
 exact ⟨buf, h1, h2, h3.fr hf hb⟩
theorem ShaAt.lt {w : World} {b : Nat} {xs : List UInt8} (h : ShaAt w b xs) : b < w.heap.size := by
 obtain ⟨buf, h1, h2, h3⟩ := h
 exact h3.lt
theorem shaNew_any (w : World) (hv : Vars w) : Calls Tryz.prog 73 #[] w fun e w' => e = .returned (Value.pointer (some ⟨w.heap.size, 0, none⟩)) ∧ Fr [] w w' ∧ ShaAt w' w.heap.size [] := by
 have i0 : w.cell? ⟨0, 0, none⟩ = some (.int .u32 1779033703) := hv.init 0 _ rfl
 have i1 : w.cell? ⟨0, 1, none⟩ = some (.int .u32 3144134277) := hv.init 1 _ rfl
 have i2 : w.cell? ⟨0, 2, none⟩ = some (.int .u32 1013904242) := hv.init 2 _ rfl
 have i3 : w.cell? ⟨0, 3, none⟩ = some (.int .u32 2773480762) := hv.init 3 _ rfl
 have i4 : w.cell? ⟨0, 4, none⟩ = some (.int .u32 1359893119) := hv.init 4 _ rfl
 have i5 : w.cell? ⟨0, 5, none⟩ = some (.int .u32 2600822924) := hv.init 5 _ rfl
 have i6 : w.cell? ⟨0, 6, none⟩ = some (.int .u32 528734635) := hv.init 6 _ rfl
 have i7 : w.cell? ⟨0, 7, none⟩ = some (.int .u32 1541459225) := hv.init 7 _ rfl
 clear hv
 go_enter Tryz.func73, Tryz.ntmps73
 go_wp2_with fail
 go_ret
 exact ⟨rfl, (Fr.refl _ _).alloc _, List.replicate 64 0, rfl, rfl, At.new w 157 (U4 (shaWords []) ++ (B8 (List.replicate 64 0) ++ [Value.int .i64 0]))⟩
section
variable {H : List Nat} {buf : List UInt8} {v : Value}
theorem st_len (hH : H.length = 8) (hb : buf.length = 64) : (U4 H ++ (B8 buf ++ [v])).length = 73 := by simp [U4_len, B8_length, hH, hb]
theorem st_get72 (hH : H.length = 8) (hb : buf.length = 64) : (U4 H ++ (B8 buf ++ [v]))[72]? = some v := by
 rw [List.getElem?_append_right (by rw [U4_len, hH]; decide), List.getElem?_append_right (by rw [U4_len, hH, B8_length, hb]; decide), U4_len, hH, B8_length, hb]
 rfl
theorem st_set72 (hH : H.length = 8) (hb : buf.length = 64) (v' : Value) : (U4 H ++ (B8 buf ++ [v])).set 72 v' = U4 H ++ (B8 buf ++ [v']) := by
 rw [List.set_append_right _ _ (by rw [U4_len, hH]; decide), List.set_append_right _ _ (by rw [U4_len, hH, B8_length, hb]; decide), U4_len, hH, B8_length, hb]
 rfl
theorem st_buf (hH : H.length = 8) (i : Nat) (u : Value) (h : (B8 buf)[i]? = some u) : (U4 H ++ (B8 buf ++ [v]))[8 + i]? = some u := by
 have hi : i < (B8 buf).length := (List.getElem?_eq_some_iff.1 h).1
 rw [List.getElem?_append_right (by rw [U4_len, hH]; omega), U4_len, hH, show 8 + i - 8 = i by omega, List.getElem?_append_left hi, h]
theorem st_copy (hH : H.length = 8) (hb : buf.length = 64) (u : Nat) (cs : List UInt8) (hu : u + cs.length ≤ 64) :
  (U4 H ++ (B8 buf ++ [v])).take (8 + u) ++ B8 cs ++ (U4 H ++ (B8 buf ++ [v])).drop (8 + u + (B8 cs).length) = U4 H ++ (B8 (buf.take u ++ cs ++ buf.drop (u + cs.length)) ++ [v]) := by
 have h8 : (U4 H).length = 8 := by rw [U4_len, hH]
 have hb8 : (B8 buf).length = 64 := by rw [B8_length, hb]
 rw [List.take_append, List.drop_append, B8_length, h8, show 8 + u - 8 = u by omega, show 8 + u + cs.length - 8 = u + cs.length by omega, List.take_of_length_le (by omega), List.drop_of_length_le (by omega), List.nil_append,
  List.take_append_of_le_length (by omega), List.drop_append_of_le_length (by omega), B8_append, B8_append]
 simp [B8, List.map_take, List.map_drop]
end
theorem sl_buf (b u : Nat) (hu : u < 64) (w : World) : (Instr.sliceAt 155 (.pointer (some ⟨b, 8, none⟩)) (some (.int .i64 (u : Int))) none none).run Tryz.prog w = .ok (.slice (some ⟨b, 8 + u, none⟩) (64 - u) (64 - u)) w := by
 have hl : Tryz.prog.arrayLen 155 = 64 := by kernel_rfl
 have hz : (sizeOf (Tryz.prog.elem 155)).run Tryz.prog w = .ok 1 w := by kernel_rfl
 have hne : ¬ (64 = u) := by omega
 rw [run_sliceAt_array_l w 155 ⟨b, 8, none⟩ (by kernel_rfl) .i64 (u : Int) (by omega) (by rw [hl]; omega), hz, hl]
 simp [slicedAt, hne, add_none]
theorem sl_buf_all (b : Nat) (w : World) : (Instr.sliceAt 155 (.pointer (some ⟨b, 8, none⟩)) none none none).run Tryz.prog w = .ok (.slice (some ⟨b, 8, none⟩) 64 64) w := by
 have hl : Tryz.prog.arrayLen 155 = 64 := by kernel_rfl
 have hz : (sizeOf (Tryz.prog.elem 155)).run Tryz.prog w = .ok 1 w := by kernel_rfl
 rw [run_sliceAt_array_all w 155 ⟨b, 8, none⟩ (by kernel_rfl), hz, hl]
 simp [slicedAt, add_none]
theorem sl_from (g o m cap k : Nat) (hk : k ≤ m) (hm : m ≤ cap) : ∃ o', (k < m → o' = o + k) ∧ ∀ w : World, (Instr.slice 37 (.slice (some ⟨g, o, none⟩) m cap) (some (.int .i64 (k : Int))) none none).run Tryz.prog w = .ok (.slice (some ⟨g, o', none⟩) (m - k) (cap - k)) w := by
 have hz : ∀ w, (sizeOf (Tryz.prog.elem 37)).run Tryz.prog w = .ok 1 w := fun w => by kernel_rfl
 by_cases hc : cap = k
 ·refine ⟨o, fun h => by omega, fun w => ?_⟩
  rw [run_slice_l w 37 (some ⟨g, o, none⟩) m cap (by kernel_rfl) .i64 (k : Int) (by omega) (by omega), hz]
  simp [sliced, hc]
 ·refine ⟨o + k, fun _ => rfl, fun w => ?_⟩
  rw [run_slice_l w 37 (some ⟨g, o, none⟩) m cap (by kernel_rfl) .i64 (k : Int) (by omega) (by omega), hz]
  simp [sliced, hc, add_none]
theorem RowIn.dropB {w : World} {g o o' k : Nat} {zs : List UInt8} (h : RowIn w (some ⟨g, o, none⟩) (B8 zs)) (ho : k < zs.length → o' = o + k) : RowIn w (some ⟨g, o', none⟩) (B8 (zs.drop k)) := by
 intro i u hu
 have hi := (List.getElem?_eq_some_iff.1 hu).1
 rw [B8_length, List.length_drop] at hi
 have e : (B8 (zs.drop k))[i]? = (B8 zs)[k + i]? := by simp [B8, List.getElem?_drop]
 rw [e] at hu
 obtain ⟨b, o1, hA, hb, hc⟩ := h (k + i) u hu
 injection hA with hA
 injection hA with h1 h2
 subst h1 h2
 refine ⟨g, o', rfl, hb, ?_⟩
 rw [ho (by omega), Nat.add_assoc]
 exact hc
theorem RowIn.takeB {w : World} {A : Option Addr} {k : Nat} {zs : List UInt8} (h : RowIn w A (B8 zs)) : RowIn w A (B8 (zs.take k)) := by
 intro i u hu
 refine h i u ?_
 have hi := (List.getElem?_eq_some_iff.1 hu).1
 rw [B8_length, List.length_take] at hi
 rw [← hu]
 simp only [B8, List.map_take]
 rw [List.getElem?_take_of_lt (by omega)]
theorem RowIn.some {w : World} {A : Option Addr} {zs : List UInt8} (h : RowIn w A (B8 zs)) (hz : 0 < zs.length) : ∃ g o, A = some ⟨g, o, none⟩ ∧ g < w.heap.size := by
 obtain ⟨b, o, hA, hb, _⟩ := h 0 _ (B8_get zs 0 _ (List.getElem?_eq_getElem hz))
 exact ⟨b, o, hA, hb⟩
structure WrS (w wr : World) (b : Nat) (all pre zs : List UInt8) (A : Option Addr) (cap : Nat) : Prop where
 fr : Fr [b] w wr
 eq : pre ++ zs = all
 mod : pre.length % 64 = 0
 cap : zs.length ≤ cap
 row : RowIn wr A (B8 zs)
 far : ∀ g o, A = some ⟨g, o, none⟩ → g ≠ b
 st : ∃ buf : List UInt8, buf.length = 64 ∧ At wr b 157 (U4 (shaWords pre) ++ (B8 buf ++ [Value.int .i64 (all.length : Int)]))
theorem shaRem_nil (pre : List UInt8) (h : pre.length % 64 = 0) : shaRem pre = [] := List.eq_nil_of_length_eq_zero (by rw [shaRem_len, h])
theorem WrS.step {w wr w1 : World} {b g o o' cap : Nat} {all pre zs buf : List UInt8} (h : WrS w wr b all pre zs (some ⟨g, o, none⟩) cap) (h64 : 64 ≤ zs.length) (hf : Fr [b] wr w1) (ho : 64 < zs.length → o' = o + 64)
  (hb : buf.length = 64) (hat : At w1 b 157 (U4 (compress (shaWords pre) (zs.take 64)) ++ (B8 buf ++ [Value.int .i64 (all.length : Int)]))) : WrS w w1 b all (pre ++ zs.take 64) (zs.drop 64) (some ⟨g, o', none⟩) (cap - 64) := by
 have hl : (zs.take 64).length = 64 := by rw [List.length_take]; omega
 have hfar := h.far g o rfl
 refine ⟨h.fr.trans hf, by rw [List.append_assoc, List.take_append_drop]; exact h.eq, by have := h.mod; rw [List.length_append, hl]; omega, by have := h.cap; rw [List.length_drop]; omega, ?_, fun g' o1 e => ?_, buf, hb, ?_⟩
 ·refine (RowIn.dropB (h.row.fr hf fun g' o1 e => ?_) ho)
  injection e with e
  injection e with e1 e2
  subst e1
  simpa using hfar
 ·injection e with e
  injection e with e1 e2
  subst e1
  exact hfar
 ·have hm := h.mod
  rw [(shaWords_fill pre (zs.take 64) (by omega)).1, shaRem_nil pre h.mod, List.nil_append]
  exact hat
theorem ShaAt.done {w : World} {b : Nat} {all pre zs buf : List UInt8} (he : pre ++ zs = all) (hm : pre.length % 64 = 0) (hz : zs.length < 64) (hb : buf.length = 64) (hat : At w b 157 (U4 (shaWords pre) ++ (B8 (zs ++ buf.drop zs.length) ++ [Value.int .i64 (all.length : Int)]))) : ShaAt w b all := by
 subst he
 have h := shaWords_small pre zs (by omega)
 refine ⟨zs ++ buf.drop zs.length, by rw [List.length_append, List.length_drop]; omega, ?_, by rw [h.1]; exact hat⟩
 rw [h.2, shaRem_nil pre hm, List.nil_append, List.length_append, show (pre.length + zs.length) % 64 = zs.length by omega, List.take_left]
theorem ShaAt.small {w : World} {b : Nat} {xs ys buf : List UInt8} (hz : xs.length % 64 + ys.length < 64) (hb : buf.length = 64) (hr : buf.take (xs.length % 64) = shaRem xs)
  (hat : At w b 157 (U4 (shaWords xs) ++ (B8 (buf.take (xs.length % 64) ++ ys ++ buf.drop (xs.length % 64 + ys.length)) ++ [Value.int .i64 ((xs ++ ys).length : Int)]))) : ShaAt w b (xs ++ ys) := by
 have h := shaWords_small xs ys hz
 have hl : (buf.take (xs.length % 64)).length = xs.length % 64 := by rw [List.length_take]; omega
 refine ⟨_, ?_, ?_, by rw [h.1]; exact hat⟩
 ·simp only [List.length_append, hl, List.length_drop]
  omega
 ·rw [h.2, ← hr, List.length_append, show (xs.length + ys.length) % 64 = xs.length % 64 + ys.length by omega, List.take_append_of_le_length (by rw [List.length_append, hl]; omega), List.take_of_length_le (by rw [List.length_append, hl]; omega)]
theorem results_none {fn : Func} (h : fn.results = #[]) (tmps : Array Value) (P : Program) (w : World) : (results fn tmps).run P w = .ok (.tuple #[]) w := by simp [results, h]
theorem shaWrite_any (b : Nat) (xs ys : List UInt8) (A : Option Addr) (cap : Nat) (w : World) (hv : Vars w) (h2 : 2 ≤ b) (hs : ShaAt w b xs) (hrow : RowIn w A (B8 ys)) (hcap : ys.length ≤ cap) (hfar : ∀ g o, A = some ⟨g, o, none⟩ → g ≠ b) (hlen : xs.length + ys.length ≤ 1099511627776) :
  Calls Tryz.prog 74 #[Value.pointer (some ⟨b, 0, none⟩), .slice A ys.length cap] w fun e w' => e = .returned (.tuple #[]) ∧ Fr [b] w w' ∧ ShaAt w' b (xs ++ ys) := by
 obtain ⟨buf, hb1, hb2, hat⟩ := hs
 have hw8 := (shaWords_ok xs).1
 have c72 : w.cell? ⟨b, 72, none⟩ = some (Value.int .i64 (xs.length : Int)) := by rw [hat.cell]; exact st_get72 hw8 hb1
 have f72 := hat.frozen 72
 obtain ⟨u, hu⟩ : ∃ u, u = xs.length % 64 := ⟨_, rfl⟩
 have hu64 : u < 64 := by omega
 have eu : (xs.length : Int) % 64 = (u : Int) := by omega
 obtain ⟨n, hn⟩ : ∃ n, n = xs.length := ⟨_, rfl⟩
 obtain ⟨m, hm⟩ : ∃ m, m = ys.length := ⟨_, rfl⟩
 obtain ⟨W1, HWE⟩ : ∃ W1, Hid (W1 = w.setCell ⟨b, 72, none⟩ (Value.int .i64 ((n : Int) + (m : Int)))) := ⟨_, rfl⟩
 have e2 : ((n : Int) + (m : Int)) = ((xs ++ ys).length : Int) := by rw [List.length_append, hn, hm]; omega
 have HA : Hid (Vars w ∧ buf.length = 64 ∧ buf.take u = shaRem xs ∧ At W1 b 157 (U4 (shaWords xs) ++ (B8 buf ++ [Value.int .i64 ((xs ++ ys).length : Int)])) ∧ RowIn W1 A (B8 ys) ∧ (∀ g o, A = some ⟨g, o, none⟩ → g ≠ b) ∧ Fr [b] w W1 ∧ ys.length ≤ cap) := by
  have hf : Fr [b] w W1 := by rw [HWE.out]; exact (Fr.refl _ _).setCell (by simp) _
  refine ⟨hv, hb1, by rw [hu]; exact hb2, ?_, hrow.fr hf (fun g o e => by have := hfar g o e; simpa using this), hfar, hf, hcap⟩
  rw [HWE.out, ← e2]
  have := hat.set 72 (Value.int .i64 ((n : Int) + (m : Int)))
  rw [st_set72 hw8 hb1] at this
  exact this
 have HN : Hid (n = xs.length ∧ m = ys.length ∧ u = xs.length % 64) := ⟨hn, hm, hu⟩
 rw [← hn] at c72 eu hlen
 rw [← hm] at hlen hcap ⊢
 clear hv hb1 hb2 hw8 hat hrow hfar hn hm hu e2
 by_cases h0 : u = 0
 ·have hposI : ¬ (0 : Int) < (u : Int) := by omega
  have h00 : ¬ 0 < u := by omega
  have HL0 : ∃ (pre zs : List UInt8) (A' : Option Addr) (cap' r : Nat), Value.slice A m cap = .slice A' r cap' ∧ Hid (r = zs.length ∧ WrS w W1 b (xs ++ ys) pre zs A' cap') :=
   ⟨xs, ys, A, cap, m, rfl, HN.out.2.1, HA.out.2.2.2.2.2.2.1, rfl, by rw [← HN.out.2.2]; exact h0, HA.out.2.2.2.2.2.2.2, HA.out.2.2.2.2.1, HA.out.2.2.2.2.2.1, buf, HA.out.2.1, HA.out.2.2.2.1⟩
  clear h0
  go_enter Tryz.func74, Tryz.ntmps74
  go_wp2_with fail
  rw [← HWE.out]
  ·clear c72 f72 eu
   go_loopw [1] (fun x wx => ∃ (pre zs : List UInt8) (A' : Option Addr) (cap' r : Nat), x = .slice A' r cap' ∧ Hid (r = zs.length ∧ WrS w wx b (xs ++ ys) pre zs A' cap')) (fun x _ => match x with | .slice _ k _ => k | _ => 0)
   case atStart => exact HL0
   case round =>
    obtain ⟨pre, zs, A', cap', r, rfl, HR⟩ := hrel
    obtain ⟨buf', hb', hat'⟩ := HR.out.2.st
    have HB' := Lib.hid (And.intro hb' hat')
    clear hb' hat'
    have hrc : r ≤ cap' := by rw [HR.out.1]; exact HR.out.2.cap
    by_cases h64 : 64 ≤ r
    ·obtain ⟨g', o', rfl, hg'⟩ := HR.out.2.row.some (by rw [← HR.out.1]; omega)
     obtain ⟨o2, ho2, hsl⟩ := sl_from g' o' r cap' 64 h64 hrc
     have hslI : ∀ w : World, (Instr.slice 37 (.slice (some ⟨g', o', none⟩) r cap') (some (.int .i64 64)) none none).run Tryz.prog w = .ok (.slice (some ⟨g', o2, none⟩) (r - 64) (cap' - 64)) w := hsl
     have HO2 := Lib.hid ho2
     clear hsl ho2
     have h64I : (64 : Int) ≤ (r : Int) := by omega
     have h64c : (64 : Int) ≤ (cap' : Int) := by omega
     have HP := Lib.hid (process_any b g' o' cap' (shaWords pre) (B8 buf' ++ [Value.int .i64 ((xs ++ ys).length : Int)]) (zs.take 64) wr (HA.out.1.fr HR.out.2.fr (by simp; omega) (by simp; omega)) HB'.out.2 (shaWords_ok pre).1 (shaWords_ok pre).2 (by rw [List.length_take, ← HR.out.1]; omega) (by omega) HR.out.2.row.takeB)
     go_wp2_with fail
     refine HP.out.mono ?_
     rintro e w1 ⟨rfl, hf1, ha1⟩
     have HN : Hid (r - 64 = (zs.drop 64).length ∧ WrS w w1 b (xs ++ ys) (pre ++ zs.take 64) (zs.drop 64) (some ⟨g', o2, none⟩) (cap' - 64)) := ⟨by rw [List.length_drop, ← HR.out.1], HR.out.2.step (by rw [← HR.out.1]; exact h64) hf1 (by rw [← HR.out.1]; exact HO2.out) HB'.out.1 ha1⟩
     clear hf1 ha1 HP HO2 HR HB'
     go_wp2_with fail
     go_roundw
     case rel =>
      first
       | exact ⟨pre ++ zs.take 64, zs.drop 64, _, _, _, rfl, HN⟩
       | ((repeat apply Exists.intro); exact ⟨⟨pre ++ zs.take 64, zs.drop 64, _, _, _, rfl, HN⟩, rfl⟩)
     case measure => show r - 64 < r; omega
    ·have hslA := sl_buf_all b
     have h64I : (r : Int) < 64 := by omega
     have h64n : r < 64 := by omega
     obtain ⟨L, HL⟩ : ∃ L, Hid (L = U4 (shaWords pre) ++ (B8 buf' ++ [Value.int .i64 ((xs ++ ys).length : Int)])) := ⟨_, rfl⟩
     obtain ⟨L2, HL2⟩ : ∃ L2, Hid (L2 = U4 (shaWords pre) ++ (B8 (zs ++ buf'.drop zs.length) ++ [Value.int .i64 ((xs ++ ys).length : Int)])) := ⟨_, rfl⟩
     obtain ⟨CS, HCS⟩ : ∃ CS, Hid (CS = B8 zs) := ⟨_, rfl⟩
     go_wp2_with (refine wpList_copy_at (P := Tryz.prog) (dT := 37) (sT := 37) (elem := 5) Tryz.underlying37 (by kernel_rfl) rfl _ _ rfl b 8 64 64 A' r cap' 157 L CS rfl rfl ?hat2 ?hn2 ?hsrc2 ?hfit2 ?h12 r ?hnn2 L2 ?hl2 ?_)
     case hat2 => rw [HL.out]; exact HB'.out.2
     case hl2 =>
      have h3 := st_copy (H := shaWords pre) (buf := buf') (v := Value.int .i64 ((xs ++ ys).length : Int)) (shaWords_ok pre).1 HB'.out.1 0 zs (by rw [← HR.out.1]; omega)
      rw [List.take_zero, List.nil_append, Nat.zero_add, Nat.add_zero, ← HL.out, ← HL2.out, ← HCS.out] at h3
      rw [← h3, List.append_assoc]
     case hn2 => rw [HCS.out, B8_length, ← HR.out.1]; exact (Nat.min_eq_left (by omega)).symm
     case hsrc2 => rw [HCS.out]; exact CellsAt.of_row HR.out.2.row
     case hfit2 => rw [HCS.out, HL.out, st_len (shaWords_ok pre).1 HB'.out.1, B8_length, ← HR.out.1]; omega
     case h12 => rw [HCS.out]; exact B8_one _
     case hnn2 => rw [HCS.out, B8_length, ← HR.out.1]
     intro w2 hf2 ha2
     have HE : Hid (Fr [b] w w2 ∧ ShaAt w2 b (xs ++ ys)) := by
      refine ⟨HR.out.2.fr.trans hf2, ?_⟩
      rw [HL2.out] at ha2
      exact ShaAt.done HR.out.2.eq HR.out.2.mod (by rw [← HR.out.1]; exact h64n) HB'.out.1 ha2
     clear hf2 ha2
     go_wp2_with fail
     go_end0
     exact ⟨rfl, HE.out.1, HE.out.2⟩
 ·have hpos : 0 < u := by omega
  have hposI : (0 : Int) < (u : Int) := by omega
  by_cases hs : u + m < 64
  ·have hsI : (u : Int) + (m : Int) < 64 := by omega
   have hsl := sl_buf b u hu64
   have hsx : ∃ A2 c2, ∀ w : World, (Instr.slice 37 (.slice A m cap) (some (.int .i64 (m : Int))) none none).run Tryz.prog w = .ok (.slice A2 0 c2) w := by
    by_cases hm0 : m = 0
    ·subst hm0
     refine ⟨if cap = 0 then A else A.map (·.add (0 * 1)), cap, fun w => ?_⟩
     rw [run_slice_l w 37 A 0 cap (by kernel_rfl) .i64 ((0 : Nat) : Int) (by omega) (by omega), show (sizeOf (Tryz.prog.elem 37)).run Tryz.prog w = .ok 1 w by kernel_rfl]
     rfl
    ·obtain ⟨g, o, hA, _⟩ := HA.out.2.2.2.2.1.some (by rw [← HN.out.2.1]; omega)
     obtain ⟨o', _, h⟩ := sl_from g o m cap m (Nat.le_refl _) hcap
     refine ⟨some ⟨g, o', none⟩, cap - m, fun w => ?_⟩
     rw [hA, h w, Nat.sub_self]
   obtain ⟨A2, c2, hsx⟩ := hsx
   obtain ⟨L, HL⟩ : ∃ L, Hid (L = U4 (shaWords xs) ++ (B8 buf ++ [Value.int .i64 ((xs ++ ys).length : Int)])) := ⟨_, rfl⟩
   obtain ⟨L2, HL2⟩ : ∃ L2, Hid (L2 = U4 (shaWords xs) ++ (B8 (buf.take u ++ ys ++ buf.drop (u + (ys).length)) ++ [Value.int .i64 ((xs ++ ys).length : Int)])) := ⟨_, rfl⟩
   obtain ⟨CS, HCS⟩ : ∃ CS, Hid (CS = B8 (ys)) := ⟨_, rfl⟩
   go_enter Tryz.func74, Tryz.ntmps74
   go_wp2_with (rw [← HWE.out]; refine wpList_copy_at (P := Tryz.prog) (dT := 37) (sT := 37) (elem := 5) Tryz.underlying37 (by kernel_rfl) rfl _ _ rfl b (8 + u) (64 - u) (64 - u) A m cap 157 L CS rfl rfl ?hat ?hn ?hsrc ?hfit ?h1 m ?hnn L2 ?hl2 ?_)
   case hat => rw [HL.out]; exact HA.out.2.2.2.1
   case hl2 =>
    have h3 := st_copy (H := shaWords xs) (buf := buf) (v := Value.int .i64 ((xs ++ ys).length : Int)) (shaWords_ok xs).1 HA.out.2.1 u ys (by rw [← HN.out.2.1]; omega)
    rw [← HL.out, ← HL2.out, ← HCS.out] at h3
    rw [← h3, List.append_assoc]
   case hn => rw [HCS.out, B8_length, ← HN.out.2.1]; exact (Nat.min_eq_left (by omega)).symm
   case hsrc => rw [HCS.out]; exact CellsAt.of_row HA.out.2.2.2.2.1
   case hfit => rw [HCS.out, HL.out, st_len (shaWords_ok xs).1 HA.out.2.1, B8_length, ← HN.out.2.1]; omega
   case h1 => rw [HCS.out]; exact B8_one _
   case hnn => rw [HCS.out, B8_length, ← HN.out.2.1]
   intro w2 hf2 ha2
   have HE : Hid (Fr [b] w w2 ∧ ShaAt w2 b (xs ++ ys)) := by
    refine ⟨HA.out.2.2.2.2.2.2.1.trans hf2, ?_⟩
    rw [HL2.out, HN.out.2.2] at ha2
    exact ShaAt.small (by rw [← HN.out.2.2, ← HN.out.2.1]; exact hs) HA.out.2.1 (by rw [← HN.out.2.2]; exact HA.out.2.2.1) ha2
   clear hf2 ha2
   go_wp2_with fail
   refine bodyPost_ret (results_none rfl _ _ _) rfl ?_
   exact ⟨rfl, HE.out.1, HE.out.2⟩
  ·obtain ⟨k, hk⟩ : ∃ k, k + u = 64 := ⟨64 - u, by omega⟩
   have hkl : (ys.take k).length = k := by rw [List.length_take, ← HN.out.2.1]; omega
   have HK : Hid ((ys.take k).length = k) := hkl
   clear hkl
   have hkm : k ≤ m := by omega
   have hsl := sl_buf b u hu64
   have hslA := sl_buf_all b
   obtain ⟨g, o, rfl, hg⟩ := HA.out.2.2.2.2.1.some (by rw [← HN.out.2.1]; omega)
   obtain ⟨o', ho', hsx⟩ := sl_from g o m cap k hkm hcap
   have HO := Lib.hid ho'
   clear ho'
   have hge : ¬ (u : Int) + (k : Int) < 64 := by omega
   obtain ⟨L, HL⟩ : ∃ L, Hid (L = U4 (shaWords xs) ++ (B8 buf ++ [Value.int .i64 ((xs ++ ys).length : Int)])) := ⟨_, rfl⟩
   obtain ⟨L2, HL2⟩ : ∃ L2, Hid (L2 = U4 (shaWords xs) ++ (B8 (buf.take u ++ ys.take k ++ buf.drop (u + (ys.take k).length)) ++ [Value.int .i64 ((xs ++ ys).length : Int)])) := ⟨_, rfl⟩
   obtain ⟨CS, HCS⟩ : ∃ CS, Hid (CS = B8 (ys.take k)) := ⟨_, rfl⟩
   go_enter Tryz.func74, Tryz.ntmps74
   go_wp2_with (rw [← HWE.out]; refine wpList_copy_at (P := Tryz.prog) (dT := 37) (sT := 37) (elem := 5) Tryz.underlying37 (by kernel_rfl) rfl _ _ rfl b (8 + u) (64 - u) (64 - u) (some ⟨g, o, none⟩) m cap 157 L CS rfl rfl ?hat ?hn ?hsrc ?hfit ?h1 k ?hnn L2 ?hl2 ?_)
   case hat => rw [HL.out]; exact HA.out.2.2.2.1
   case hl2 =>
    have h3 := st_copy (H := shaWords xs) (buf := buf) (v := Value.int .i64 ((xs ++ ys).length : Int)) (shaWords_ok xs).1 HA.out.2.1 u (ys.take k) (by rw [HK.out]; omega)
    rw [← HL.out, ← HL2.out, ← HCS.out] at h3
    rw [← h3, List.append_assoc]
   case hn => rw [HCS.out, B8_length, HK.out]; exact ((Nat.min_eq_right (by omega)).trans (by omega)).symm
   case hsrc => rw [HCS.out]; exact CellsAt.of_row HA.out.2.2.2.2.1.takeB
   case hfit => rw [HCS.out, HL.out, st_len (shaWords_ok xs).1 HA.out.2.1, B8_length, HK.out]; omega
   case h1 => rw [HCS.out]; exact B8_one _
   case hnn => rw [HCS.out, B8_length, HK.out]
   intro w2 hf2 ha2
   have HE : Hid (Fr [b] W1 w2 ∧ (buf.take u ++ ys.take k).length = 64 ∧ At w2 b 157 (U4 (shaWords xs) ++ (B8 (buf.take u ++ ys.take k) ++ [Value.int .i64 ((xs ++ ys).length : Int)]))) := by
    refine ⟨hf2, by rw [List.length_append, List.length_take, HA.out.2.1, HK.out]; omega, ?_⟩
    rw [HL2.out, List.drop_of_length_le (by rw [HA.out.2.1, HK.out]; omega), List.append_nil] at ha2
    exact ha2
   clear hf2 ha2
   have HP := Lib.hid (process_any b b 8 64 (shaWords xs) (B8 (buf.take u ++ ys.take k) ++ [Value.int .i64 ((xs ++ ys).length : Int)]) (buf.take u ++ ys.take k) w2 (HA.out.1.fr (HA.out.2.2.2.2.2.2.1.trans HE.out.1) (by simp; omega) (by simp; omega)) HE.out.2.2 (shaWords_ok xs).1 (shaWords_ok xs).2 HE.out.2.1 (by omega)
    (fun i v hv => ⟨b, 8, rfl, HE.out.2.2.lt, by rw [HE.out.2.2.cell]; exact st_buf (shaWords_ok xs).1 i v hv⟩))
   go_wp2_with fail
   refine HP.out.mono ?_
   rintro e w3 ⟨rfl, hf3, ha3⟩
   have HL0 : ∃ (pre zs : List UInt8) (A' : Option Addr) (cap' r : Nat), Value.slice (some ⟨g, o', none⟩) (m - k) (cap - k) = .slice A' r cap' ∧ Hid (r = zs.length ∧ WrS w w3 b (xs ++ ys) pre zs A' cap') := by
    have hgb := HA.out.2.2.2.2.2.1 g o rfl
    refine ⟨xs ++ ys.take k, ys.drop k, _, _, _, rfl, by rw [List.length_drop, ← HN.out.2.1], (HA.out.2.2.2.2.2.2.1.trans HE.out.1).trans hf3, by rw [List.append_assoc, List.take_append_drop], by rw [List.length_append, HK.out]; have := HN.out.2.2; omega, by rw [List.length_drop]; have := HA.out.2.2.2.2.2.2.2; omega, ?_, fun g' o1 e => ?_, _, HE.out.2.1, ?_⟩
    ·refine RowIn.dropB (HA.out.2.2.2.2.1.fr (HE.out.1.trans hf3) fun g' o1 e => ?_) (by rw [← HN.out.2.1]; exact HO.out)
     injection e with e
     injection e with e1 e2
     subst e1
     simpa using hgb
    ·injection e with e
     injection e with e1 e2
     subst e1
     exact hgb
    ·rw [(shaWords_fill xs (ys.take k) (by rw [HK.out, ← HN.out.2.2]; omega)).1, ← HA.out.2.2.1]
     exact ha3
   clear hf3 ha3 HP HE hsl hslA hsx
   go_wp2_with fail
   go_loopw [1] (fun x wx => ∃ (pre zs : List UInt8) (A' : Option Addr) (cap' r : Nat), x = .slice A' r cap' ∧ Hid (r = zs.length ∧ WrS w wx b (xs ++ ys) pre zs A' cap')) (fun x _ => match x with | .slice _ k _ => k | _ => 0)
   case atStart => exact HL0
   case round =>
    obtain ⟨pre, zs, A', cap', r, rfl, HR⟩ := hrel
    obtain ⟨buf', hb', hat'⟩ := HR.out.2.st
    have HB' := Lib.hid (And.intro hb' hat')
    clear hb' hat'
    have hrc : r ≤ cap' := by rw [HR.out.1]; exact HR.out.2.cap
    by_cases h64 : 64 ≤ r
    ·obtain ⟨g', o', rfl, hg'⟩ := HR.out.2.row.some (by rw [← HR.out.1]; omega)
     obtain ⟨o2, ho2, hsl⟩ := sl_from g' o' r cap' 64 h64 hrc
     have hslI : ∀ w : World, (Instr.slice 37 (.slice (some ⟨g', o', none⟩) r cap') (some (.int .i64 64)) none none).run Tryz.prog w = .ok (.slice (some ⟨g', o2, none⟩) (r - 64) (cap' - 64)) w := hsl
     have HO2 := Lib.hid ho2
     clear hsl ho2
     have h64I : (64 : Int) ≤ (r : Int) := by omega
     have h64c : (64 : Int) ≤ (cap' : Int) := by omega
     have HP := Lib.hid (process_any b g' o' cap' (shaWords pre) (B8 buf' ++ [Value.int .i64 ((xs ++ ys).length : Int)]) (zs.take 64) wr (HA.out.1.fr HR.out.2.fr (by simp; omega) (by simp; omega)) HB'.out.2 (shaWords_ok pre).1 (shaWords_ok pre).2 (by rw [List.length_take, ← HR.out.1]; omega) (by omega) HR.out.2.row.takeB)
     go_wp2_with fail
     refine HP.out.mono ?_
     rintro e w1 ⟨rfl, hf1, ha1⟩
     have HN : Hid (r - 64 = (zs.drop 64).length ∧ WrS w w1 b (xs ++ ys) (pre ++ zs.take 64) (zs.drop 64) (some ⟨g', o2, none⟩) (cap' - 64)) := ⟨by rw [List.length_drop, ← HR.out.1], HR.out.2.step (by rw [← HR.out.1]; exact h64) hf1 (by rw [← HR.out.1]; exact HO2.out) HB'.out.1 ha1⟩
     clear hf1 ha1 HP HO2 HR HB'
     go_wp2_with fail
     go_roundw
     case rel =>
      first
       | exact ⟨pre ++ zs.take 64, zs.drop 64, _, _, _, rfl, HN⟩
       | ((repeat apply Exists.intro); exact ⟨⟨pre ++ zs.take 64, zs.drop 64, _, _, _, rfl, HN⟩, rfl⟩)
     case measure => show r - 64 < r; omega
    ·have hslA := sl_buf_all b
     have h64I : (r : Int) < 64 := by omega
     have h64n : r < 64 := by omega
     obtain ⟨L, HL⟩ : ∃ L, Hid (L = U4 (shaWords pre) ++ (B8 buf' ++ [Value.int .i64 ((xs ++ ys).length : Int)])) := ⟨_, rfl⟩
     obtain ⟨L2, HL2⟩ : ∃ L2, Hid (L2 = U4 (shaWords pre) ++ (B8 (zs ++ buf'.drop zs.length) ++ [Value.int .i64 ((xs ++ ys).length : Int)])) := ⟨_, rfl⟩
     obtain ⟨CS, HCS⟩ : ∃ CS, Hid (CS = B8 zs) := ⟨_, rfl⟩
     go_wp2_with (refine wpList_copy_at (P := Tryz.prog) (dT := 37) (sT := 37) (elem := 5) Tryz.underlying37 (by kernel_rfl) rfl _ _ rfl b 8 64 64 A' r cap' 157 L CS rfl rfl ?hat2 ?hn2 ?hsrc2 ?hfit2 ?h12 r ?hnn2 L2 ?hl2 ?_)
     case hat2 => rw [HL.out]; exact HB'.out.2
     case hl2 =>
      have h3 := st_copy (H := shaWords pre) (buf := buf') (v := Value.int .i64 ((xs ++ ys).length : Int)) (shaWords_ok pre).1 HB'.out.1 0 zs (by rw [← HR.out.1]; omega)
      rw [List.take_zero, List.nil_append, Nat.zero_add, Nat.add_zero, ← HL.out, ← HL2.out, ← HCS.out] at h3
      rw [← h3, List.append_assoc]
     case hn2 => rw [HCS.out, B8_length, ← HR.out.1]; exact (Nat.min_eq_left (by omega)).symm
     case hsrc2 => rw [HCS.out]; exact CellsAt.of_row HR.out.2.row
     case hfit2 => rw [HCS.out, HL.out, st_len (shaWords_ok pre).1 HB'.out.1, B8_length, ← HR.out.1]; omega
     case h12 => rw [HCS.out]; exact B8_one _
     case hnn2 => rw [HCS.out, B8_length, ← HR.out.1]
     intro w2 hf2 ha2
     have HE : Hid (Fr [b] w w2 ∧ ShaAt w2 b (xs ++ ys)) := by
      refine ⟨HR.out.2.fr.trans hf2, ?_⟩
      rw [HL2.out] at ha2
      exact ShaAt.done HR.out.2.eq HR.out.2.mod (by rw [← HR.out.1]; exact h64n) HB'.out.1 ha2
     clear hf2 ha2
     go_wp2_with fail
     go_end0
     exact ⟨rfl, HE.out.1, HE.out.2⟩
end Go.Proofs.YtlepfnihpdhcaaaGreatDoor
namespace Go.Proofs.YtlepfnihpdhcaaaGreatDoor
open Go.RowKit
theorem byteAt_wrap (m k : Nat) : IntKind.u8.wrap ((m : Int) / 2 ^ (8 * k)) = ((byteAt m k).toNat : Int) := by
 have e : (m : Int) / 2 ^ (8 * k) = ((m / 2 ^ (8 * k) : Nat) : Int) := cast_shr m (8 * k)
 rw [e, IntKind.wrap_u8]
 unfold byteAt
 generalize m / 2 ^ (8 * k) = q
 have : (UInt8.ofNat (q % 256)).toNat = q % 256 := by simp
 rw [this]
 omega
theorem shaSum_any (b : Nat) (xs : List UInt8) (w : World) (hv : Vars w) (hs : ShaAt w b xs) (hlen : xs.length ≤ 549755813888) :
  Calls Tryz.prog 75 #[Value.pointer (some ⟨b, 0, none⟩)] w fun e w' => e = .returned (.string (strOf (sha xs))) ∧ Fr [] w w' := by
 obtain ⟨buf, hb1, hb2, hat⟩ := hs
 have hw8 := (shaWords_ok xs).1
 obtain ⟨n, hn⟩ : ∃ n, n = xs.length := ⟨_, rfl⟩
 rw [← hn] at hlen hat
 obtain ⟨L, HL⟩ : ∃ L, Hid (L = U4 (shaWords xs) ++ (B8 buf ++ [Value.int .i64 (n : Int)])) := ⟨_, rfl⟩
 have HLL : Hid (L.length = 73) := by show L.length = 73; rw [HL.out]; exact st_len hw8 hb1
 have HL1 : Hid (∀ v ∈ L, v.oneCell' = true) := by
  show ∀ v ∈ L, v.oneCell' = true
  rw [HL.out]
  intro v hv
  simp only [List.mem_append, U4, B8, List.mem_map, List.mem_singleton] at hv
  rcases hv with ⟨_, _, rfl⟩ | ⟨_, _, rfl⟩ | rfl <;> rfl
 have HA : Hid (Vars w ∧ buf.length = 64 ∧ buf.take (n % 64) = shaRem xs ∧ At w b 157 L ∧ n = xs.length) := ⟨hv, hb1, by rw [hn]; exact hb2, by rw [HL.out]; exact hat, hn⟩
 have c72 : w.cell? ⟨b, 72, none⟩ = some (Value.int .i64 (n : Int)) := by rw [hat.cell]; exact st_get72 hw8 hb1
 have hbw := hat.lt
 clear hv hb1 hb2 hat hw8 hn
 go_enter Tryz.func75, Tryz.ntmps75
 go_wp2_with (first
  | (refine wpList_load_at rfl 157 (.tmp 11) rfl b 0 rfl L _ ?hc Tryz.underlying157 rfl ?hi ?_)
  | (refine wpList_store_new rfl 157 (.tmp 3) (.tmp 12) rfl rfl 157 _ L rfl ?hz ?hi2 ?h1 ?_))
 case hc => exact fun j v hj => by rw [Nat.zero_add, HA.out.2.2.2.1.cell]; exact hj
 case hi => rw [HLL.out]; kernel_rfl
 case hz => rw [HLL.out]; rfl
 case hi2 => rw [HLL.out]; kernel_rfl
 case h1 => exact HL1.out
 intro w1 hf1 ha1
 obtain ⟨bp, hbp⟩ : ∃ bp, bp = w.heap.size := ⟨_, rfl⟩
 rw [← hbp] at ha1 ⊢
 have HP : Hid (Fr [] w w1 ∧ At w1 bp 157 L ∧ bp = w.heap.size) := ⟨hf1, ha1, hbp⟩
 have c72' : w1.cell? ⟨b, 72, none⟩ = some (Value.int .i64 (n : Int)) := by rw [hf1.cell (p := ⟨b, 72, none⟩) hbw (by simp)]; exact c72
 have hbp1 : bp < w1.heap.size := ha1.lt
 clear hf1 ha1 hbp c72
 obtain ⟨z, hz⟩ : ∃ z, z = (119 - n % 64) % 64 := ⟨_, rfl⟩
 have hz64 : z < 64 := by omega
 have hzz : (n + 1 + z) % 64 = 56 := by omega
 have hzu : ∀ j, j < z → (n + 1 + j) % 64 ≠ 56 := by omega
 have HZ := Lib.hid (And.intro hz (And.intro hzz hzu))
 clear hz hzz hzu
 go_wp2_with fail
 go_loopw [4] (fun v wx => ∃ (j : Nat) (A' : Option Addr) (c' : Nat) (cs : List UInt8), j ≤ z ∧ v = .slice A' cs.length c' ∧ cs.length ≤ j + 1 ∧ j + 1 ≤ cs.length ∧ Hid (cs = 128 :: List.replicate j 0) ∧ Hid (BR w1 wx v cs)) (fun v _ => match v with | .slice _ k _ => 65 - k | _ => 0)
 case atStart => exact ⟨0, _, _, [128], by omega, rfl, by simp, by simp, rfl, BR.lit w1 [128] (by simp [maxLen])⟩
 case round =>
  obtain ⟨j, A', c', cs, hj, rfl, hcl, hcl', HC, HB⟩ := hrel
  have hsz := HB.out.size
  have c72r : wr.cell? ⟨b, 72, none⟩ = some (Value.int .i64 (n : Int)) := by rw [HB.out.fr.cell (p := ⟨b, 72, none⟩) (Nat.lt_of_lt_of_le hbw HP.out.1.size) (by simp)]; exact c72'
  obtain ⟨r, hr⟩ : ∃ r, r = (n + cs.length) % 64 := ⟨_, rfl⟩
  have er : ((n : Int) + (cs.length : Int)) % 64 = (r : Int) := by omega
  by_cases hlt : j < z
  ·have hr56 : r ≠ 56 := by have := HZ.out.2.2 j hlt; rw [hr]; intro e; apply this; omega
   have hrb : ((r : Int) != 56) = true := by simp; omega
   clear hr hr56
   go_wp2_with (at_builtin; refine wpList_push el_u8 rfl (.tmp 23) (.tmp 24) rfl w1.heap.size _ _ (B8 cs) (.int .u8 0) rfl HB.out.own rfl rfl (by omega) (by omega) 5 ?_; intro v2 w2 hown2 hg2 hb2; obtain ⟨A3, c3, cs3, HC3, hc3, rfl, HB3⟩ := BR.push (xs := [0]) HB.out hown2 hg2; clear hown2 hg2 hb2)
   have h3 : cs3.length = cs.length + 1 := by rw [HC3.out]; simp
   have HC4 : Hid (cs3 = 128 :: List.replicate (j + 1) 0) := by
    show cs3 = _
    rw [HC3.out, HC.out, List.replicate_succ', List.cons_append]
   go_roundw
   case rel => exact ⟨j + 1, A3, c3, cs3, by omega, rfl, by omega, by omega, HC4, HB3⟩
   case measure => show 65 - cs3.length < 65 - cs.length; omega
  ·obtain rfl : j = z := by omega
   have hr56 : r = 56 := by have := HZ.out.2.1; rw [hr]; rw [← this]; congr 1; omega
   have hrb : ((r : Int) != 56) = false := by rw [hr56]; rfl
   clear hr hr56
   obtain ⟨m8, hm8⟩ : ∃ m8, m8 = n * 8 := ⟨_, rfl⟩
   have em8 : IntKind.u64.wrap ((n : Int) * 8) = (m8 : Int) := by rw [IntKind.wrap_u64, hm8]; omega
   have en : IntKind.u64.wrap (n : Int) = (n : Int) := by rw [IntKind.wrap_u64]; omega
   have HM8 := Lib.hid hm8
   have hm8b : m8 ≤ 4398046511104 := by omega
   clear hm8
   go_wp2_with fail
   clear em8 en er hrb
   go_loopw [4, 6] (fun v s wx => ∃ (i : Nat) (t : Int) (A' : Option Addr) (c' : Nat) (ds : List UInt8), i ≤ 8 ∧ s = Value.int .i64 t ∧ t + 8 * (i : Int) ≤ 56 ∧ 56 ≤ t + 8 * (i : Int) ∧ v = .slice A' ds.length c' ∧ ds.length ≤ 65 + i ∧ Hid (ds = cs ++ (List.range i).map fun q => byteAt m8 (7 - q)) ∧ Hid (BR w1 wx v ds)) (fun _ s _ => (intOf s + 8).toNat)
   case atStart => exact ⟨0, 56, _, _, cs, by omega, rfl, by omega, by omega, rfl, by omega, by simp [Hid], HB⟩
   case round =>
    obtain ⟨i, t, A1, c1, ds, hi, rfl, ht1, ht2, rfl, hdl, HD, HB1⟩ := hrel
    have hsz1 := HB1.out.size
    by_cases hlt2 : i < 8
    ·obtain ⟨sh, rfl⟩ : ∃ sh : Nat, t = (sh : Int) := ⟨t.toNat, by omega⟩
     obtain ⟨y, HY⟩ : ∃ y : UInt8, Hid (y = byteAt m8 (7 - i)) := ⟨_, rfl⟩
     have hsh : sh ≤ 56 := by omega
     have hy : IntKind.u8.wrap ((m8 : Int) / 2 ^ sh) = (y.toNat : Int) := by
      rw [HY.out, show sh = 8 * (7 - i) by omega]
      exact byteAt_wrap m8 (7 - i)
     go_wp2_with (at_builtin; refine wpList_push el_u8 rfl (.tmp 36) (.tmp 41) rfl w1.heap.size _ _ (B8 ds) (.int .u8 (y.toNat : Int)) rfl HB1.out.own rfl rfl (by omega) (by omega) 5 ?_; intro v2 w2 hown2 hg2 hb2; obtain ⟨A3, c3, cs3, HC3, hc3, rfl, HB3⟩ := BR.push (xs := [y]) HB1.out hown2 hg2; clear hown2 hg2 hb2)
     have h3 : cs3.length = ds.length + 1 := by rw [HC3.out]; simp
     have HC4 : Hid (cs3 = cs ++ (List.range (i + 1)).map fun q => byteAt m8 (7 - q)) := by
      show cs3 = _
      rw [HC3.out, HD.out, List.range_succ, List.map_append, List.append_assoc, HY.out]
      rfl
     go_roundw
     case rel => exact ⟨i + 1, (sh : Int) - 8, A3, c3, cs3, by omega, rfl, by omega, by omega, rfl, by omega, HC4, HB3⟩
     case measure => simp [intOf]; omega
    ·obtain rfl : i = 8 := by omega
     obtain rfl : t = -8 := by omega
     have HPAD : Hid (ds = shaPad xs.length) := by
      show ds = _
      rw [HD.out, HC.out, HM8.out, HZ.out.1, HA.out.2.2.2.2]
      rfl
     have hbp2 : 2 ≤ bp := by rw [HP.out.2.2]; exact HA.out.1.lt
     have HW := Lib.hid (shaWrite_any bp xs ds A1 c1 wr (HA.out.1.fr (HP.out.1.trans HB1.out.fr) (by simp) (by simp)) hbp2 ⟨buf, HA.out.2.1, by rw [← HA.out.2.2.2.2]; exact HA.out.2.2.1, by rw [← HA.out.2.2.2.2, ← HL.out]; exact HP.out.2.1.fr HB1.out.fr (by simp)⟩ HB1.out.row HB1.out.cap (fun g o e => by have := HB1.out.far g o e; omega) (by rw [← HA.out.2.2.2.2]; omega))
     clear c72r
     go_wp2_with fail
     refine HW.out.mono ?_
     rintro e w3 ⟨rfl, hf3, hs3⟩
     have HF3 : Hid (Fr [] w w3) := ((HP.out.1.trans HB1.out.fr).mono (by simp)).trans' hf3 (by have := HP.out.2.2; simp; omega)
     obtain ⟨H, HHH⟩ : ∃ H, Hid (H = shaWords (xs ++ ds)) := ⟨_, rfl⟩
     obtain ⟨buf3, hb3, _, hat3⟩ := hs3
     rw [← HHH.out] at hat3
     have HH8 : Hid (H.length = 8) := by show H.length = 8; rw [HHH.out]; exact (shaWords_ok _).1
     obtain ⟨UH, HUH⟩ : ∃ UH, Hid (UH = U4 H) := ⟨_, rfl⟩
     have HUL : Hid (UH.length = 8) := by show UH.length = 8; rw [HUH.out, U4_len]; exact HH8.out
     have HC3 : Hid (bp < w3.heap.size ∧ ∀ j v, UH[j]? = some v → w3.cell? ⟨bp, j, none⟩ = some v) := by
      refine ⟨hat3.lt, fun j v hj => ?_⟩
      rw [hat3.cell, List.getElem?_append_left (by rw [← HUH.out]; exact (List.getElem?_eq_some_iff.1 hj).1), ← HUH.out]
      exact hj
     clear hf3 hat3 hb3 HW
     have hbw3 := HC3.out.1
     have hmk : ∀ w : World, (Instr.makeSlice 37 (.int .i64 0) (.int .i64 32)).run Tryz.prog w = .ok (.slice (some ⟨w.heap.size, 0, none⟩) 0 32) (w.alloc (.cells (List.replicate 32 (.int .u8 0)).toArray 5)) := fun w => by kernel_rfl
     go_wp2_with (refine wpList_load_at rfl 133 (.tmp 46) rfl bp 0 rfl UH _ ?hc5 Tryz.underlying133 rfl ?hi5 ?_)
     case hc5 => exact fun j v hj => by rw [Nat.zero_add]; exact (((Fr.refl [] w3).alloc _).cell (p := ⟨bp, j, none⟩) hbw3 (by simp)).trans (HC3.out.2 j v hj)
     case hi5 => rw [HUL.out]; kernel_rfl
     go_wp2_with fail
     clear hmk
     go_loopw [7, 48] (fun v s wx => ∃ (i : Nat) (A' : Option Addr) (c' : Nat) (es : List UInt8), i ≤ 8 ∧ s = .int .i64 i ∧ v = .slice A' es.length c' ∧ es.length ≤ 4 * i ∧ Hid (es = digest (H.take i)) ∧ Hid (BR w3 wx v es)) (fun _ s _ => 8 - (intOf s).toNat)
     case atStart => exact ⟨0, _, _, [], by omega, rfl, rfl, by simp, rfl, (Fr.refl _ _).alloc _, World.ownsRow_made w3 _ 32 (Nat.le_refl _) (by unfold maxLen; omega) rfl⟩
     case round =>
      obtain ⟨i, A4, c4, es, hi, rfl, rfl, hel, HE, HB4⟩ := hrel
      have hsz4 := HB4.out.size
      by_cases hlt3 : i < 8
      ·obtain ⟨x, hx⟩ : ∃ x, H[i]? = some x := ⟨_, List.getElem?_eq_getElem (by rw [HH8.out]; exact hlt3)⟩
       have hix : ∀ w : World, (Instr.index 133 (.agg UH.toArray) (.int .i64 (i : Int))).run Tryz.prog w = .ok (.int .u32 (x : Int)) w := run_index_agg (P := Tryz.prog) 133 132 8 UH (.int .u32 (x : Int)) .i64 i Tryz.underlying133 (by kernel_rfl) (fun _ => by kernel_rfl) hlt3 (by rw [HUH.out]; exact U4_get _ _ _ hx)
       obtain ⟨y3, HY3⟩ : ∃ y : UInt8, Hid (y = byteAt x 3) := ⟨_, rfl⟩
       obtain ⟨y2, HY2⟩ : ∃ y : UInt8, Hid (y = byteAt x 2) := ⟨_, rfl⟩
       obtain ⟨y1, HY1⟩ : ∃ y : UInt8, Hid (y = byteAt x 1) := ⟨_, rfl⟩
       obtain ⟨y0, HY0⟩ : ∃ y : UInt8, Hid (y = byteAt x 0) := ⟨_, rfl⟩
       have k3 : IntKind.u8.wrap ((x : Int) / 16777216) = (y3.toNat : Int) := by rw [HY3.out]; exact byteAt_wrap x 3
       have k2 : IntKind.u8.wrap ((x : Int) / 65536) = (y2.toNat : Int) := by rw [HY2.out]; exact byteAt_wrap x 2
       have k1 : IntKind.u8.wrap ((x : Int) / 256) = (y1.toNat : Int) := by rw [HY1.out]; exact byteAt_wrap x 1
       have k0 : IntKind.u8.wrap (x : Int) = (y0.toNat : Int) := by rw [HY0.out]; have := byteAt_wrap x 0; simpa using this
       have HX : Hid (digest (H.take (i + 1)) = digest (H.take i) ++ [y3, y2, y1, y0]) := by
        obtain ⟨h1, e1⟩ := List.getElem?_eq_some_iff.1 hx
        show digest _ = _
        rw [List.take_succ_eq_append_getElem h1, e1, digest, List.flatMap_append, HY3.out, HY2.out, HY1.out, HY0.out]
        simp [digest]
       have hiI : (i : Int) < 8 := by omega
       have HXX : Hid (W32 x) := by
        show W32 x
        refine (shaWords_ok (xs ++ ds)).2 x ?_
        rw [← HHH.out]
        exact List.mem_of_getElem? hx
       clear hx
       go_wp2_with (at_builtin; refine wpList_app el_u8 rfl (.tmp 51) (.tmp 63) rfl w3.heap.size _ _ (B8 es) rfl (HB4.out.own.alloc _) (some ⟨wr.heap.size, 0, none⟩) 4 4 (B8 [y3, y2, y1, y0]) rfl rfl (CellsAt.new _ _ (B8 [y3, y2, y1, y0])) (B8_one _) (by omega) (by simp; omega) ?_; intro v2 w2 hown2 hg2 hb2; obtain ⟨A3, c3, cs3, HC3, hc3, rfl, HB3⟩ := BR.push (xs := [y3, y2, y1, y0]) (HB4.out.alloc _) hown2 hg2; clear hown2 hg2 hb2)
       have h3 : cs3.length = es.length + 4 := by rw [HC3.out]; simp
       go_roundw
       case rel => exact ⟨i + 1, A3, c3, cs3, by omega, by go_num, rfl, by omega, by show cs3 = _; rw [HC3.out, HX.out, HE.out], HB3⟩
       case measure => simp [intOf]; omega
      ·obtain rfl : i = 8 := by omega
       have hst := run_str (P := Tryz.prog) (src := 37) (dst := 9) Tryz.underlying37 Tryz.underlying5 Tryz.underlying9 wr A4 c4 es HB4.out.row
       go_wp2_with fail
       go_ret
       refine ⟨?_, HF3.out.trans HB4.out.fr⟩
       rw [HE.out, List.take_of_length_le (by rw [HH8.out]; exact Nat.le_refl _), HHH.out, HPAD.out]
       rfl
end Go.Proofs.YtlepfnihpdhcaaaGreatDoor
namespace Go.Proofs.YtlepfnihpdhcaaaGreatDoor
open Go.RowKit
def S8v (p : List UInt8) : Value := .string (strOf p)
theorem run_bytes (w : World) (p : List UInt8) : ∃ cap W, (convert 9 37 (.string (strOf p))).run Tryz.prog w = .ok (.slice (some ⟨w.heap.size, 0, none⟩) p.length cap) W ∧ p.length ≤ cap ∧ Fr [] w W ∧ RowIn W (some ⟨w.heap.size, 0, none⟩) (B8 p) := by
 have h := run_bytes_of_string (P := Tryz.prog) w 9 37 5 (strOf p) Tryz.underlying9 Tryz.underlying37 Tryz.underlying5
 have hs : (strOf p).size = p.length := by simp [strOf, ByteArray.size]
 rw [hs] at h
 refine ⟨_, _, h, grownCap_ge _ _ _ _, ((Fr.refl [] w).drew.alloc _), fun i u hu => ⟨_, _, rfl, ?_, ?_⟩⟩
 ·show w.heap.size < (w.heap.push _).size
  simp
 ·have hi := (List.getElem?_eq_some_iff.1 hu).1
  rw [B8_length] at hi
  have e : (w.drew.alloc (.cells (bytesRow (strOf p) (grownCap w p.length 0 5)) 5 ((bytesRow (strOf p) (grownCap w p.length 0 5)).size, (bytesRow (strOf p) (grownCap w p.length 0 5)).size + 1))).heap[w.heap.size]? = some (.cells (bytesRow (strOf p) (grownCap w p.length 0 5)) 5 ((bytesRow (strOf p) (grownCap w p.length 0 5)).size, (bytesRow (strOf p) (grownCap w p.length 0 5)).size + 1)) := heap_alloc_new w.drew _
  have e2 : (bytesRow (strOf p) (grownCap w p.length 0 5))[i]? = some u := by
   unfold bytesRow strOf
   rw [Array.getElem?_append_left (by simpa using hi)]
   simpa [B8] using hu
  unfold World.cell?
  rw [e]
  simp [e2]
theorem shaJoin_any (A : Option Addr) (c : Nat) (ps : List (List UInt8)) (w : World) (hv : Vars w) (hrow : RowIn w A (ps.map S8v)) (hl : ps.flatten.length ≤ 549755813888) (hn : ps.length ≤ 1000) :
  Calls Tryz.prog 51 #[.slice A ps.length c] w fun e w' => e = .returned (.string (strOf (sha ps.flatten))) ∧ Fr [] w w' := by
 have H := Lib.hid (And.intro hv (And.intro hrow hl))
 clear hv hrow hl
 obtain ⟨m, HM⟩ : ∃ m, Hid (m = ps.length) := ⟨_, rfl⟩
 rw [← HM.out] at hn ⊢
 go_enter Tryz.func51, Tryz.ntmps51
 go_wp2_with fail
 refine (shaNew_any w H.out.1).mono ?_
 rintro e w1 ⟨rfl, hf1, hs1⟩
 obtain ⟨bs, hbs⟩ : ∃ bs, bs = w.heap.size := ⟨_, rfl⟩
 rw [← hbs] at hs1 ⊢
 have hb2 : 2 ≤ bs := by rw [hbs]; exact H.out.1.lt
 have HB := Lib.hid hbs
 have H1 := Lib.hid (And.intro hf1 hs1)
 clear hf1 hs1 hbs
 go_wp2_with fail
 go_loopw [9] (fun i wx => ∃ k : Nat, k ≤ m ∧ i = .int .i64 k ∧ Hid (Fr [] w wx ∧ ShaAt wx bs (ps.take k).flatten)) (fun i _ => m - (intOf i).toNat)
 case atStart => exact ⟨0, by omega, rfl, H1⟩
 case round =>
  obtain ⟨k, hk, rfl, HR⟩ := hrel
  by_cases hlt : k < m
  ·obtain ⟨p, hp⟩ : ∃ p, ps[k]? = some p := ⟨_, List.getElem?_eq_getElem (by rw [← HM.out]; exact hlt)⟩
   obtain ⟨g, o, rfl, hg, hc⟩ := H.out.2.1 k (S8v p) (by rw [List.getElem?_map, hp]; rfl)
   have hc' : wr.cell? ⟨g, o + k, none⟩ = some (.string (strOf p)) := by rw [HR.out.1.cell (p := ⟨g, o + k, none⟩) hg (by simp)]; exact hc
   have HT : Hid ((ps.take (k + 1)).flatten = (ps.take k).flatten ++ p ∧ ((ps.take k).flatten ++ p).length ≤ 549755813888) := by
    obtain ⟨h1, e1⟩ := List.getElem?_eq_some_iff.1 hp
    have e : (ps.take (k + 1)).flatten = (ps.take k).flatten ++ p := by rw [List.take_succ_eq_append_getElem h1, e1, List.flatten_append]; simp
    refine ⟨e, ?_⟩
    rw [← e]
    refine Nat.le_trans ?_ H.out.2.2
    have : ps.flatten = (ps.take (k + 1)).flatten ++ (ps.drop (k + 1)).flatten := by rw [← List.flatten_append, List.take_append_drop]
    rw [this, List.length_append]
    omega
   obtain ⟨cap, W, hcv, hcap, hfW, hrW⟩ := run_bytes wr p
   have HW : Hid (p.length ≤ cap ∧ Fr [] wr W ∧ RowIn W (some ⟨wr.heap.size, 0, none⟩) (B8 p)) := ⟨hcap, hfW, hrW⟩
   clear hcap hfW hrW hp hc
   have HWR := Lib.hid (shaWrite_any bs (ps.take k).flatten p (some ⟨wr.heap.size, 0, none⟩) cap W (H.out.1.fr (HR.out.1.trans HW.out.2.1) (by simp) (by simp)) hb2 (HR.out.2.fr HW.out.2.1 (by simp)) HW.out.2.2 HW.out.1 (fun g o e => by
    injection e with e
    injection e with e1 e2
    have := HR.out.2.lt
    omega) (by have := HT.out.2; rw [List.length_append] at this; omega))
   have hkI : (k : Int) < (m : Int) := by omega
   go_wp2_with fail
   refine HWR.out.mono ?_
   rintro e w3 ⟨rfl, hf3, hs3⟩
   have HN : Hid (Fr [] w w3 ∧ ShaAt w3 bs (ps.take (k + 1)).flatten) := ⟨((HR.out.1.trans HW.out.2.1).mono (by simp)).trans' hf3 (by have := HB.out; simp; omega), by rw [HT.out.1]; exact hs3⟩
   clear hf3 hs3 HWR HW hcv hc'
   go_wp2_with fail
   go_roundw
   case rel => exact ⟨k + 1, by omega, by go_num, HN⟩
   case measure => simp [intOf]; omega
  ·obtain rfl : k = m := by omega
   have HS := Lib.hid (shaSum_any bs (ps.take k).flatten wr (H.out.1.fr HR.out.1 (by simp) (by simp)) HR.out.2 (by rw [HM.out, List.take_length]; exact H.out.2.2))
   go_wp2_with fail
   refine HS.out.mono ?_
   rintro e w3 ⟨rfl, hf3⟩
   go_wp2_with fail
   go_ret
   refine ⟨?_, HR.out.1.trans hf3⟩
   rw [HM.out, List.take_length]
   rfl
end Go.Proofs.YtlepfnihpdhcaaaGreatDoor
namespace Go.Proofs.YtlepfnihpdhcaaaGreatDoor
open Go.RowKit
theorem results_at {P : Program} {fn : Func} {p : Tmp} {ty t : TypeId} (h : fn.results = #[.cell p ty]) (tmps : Array Value) (w : World) (g : Nat) (cs : List Value) (d : TypeDesc) (hp : tmps.getD p undef = .pointer (some ⟨g, 0, none⟩)) (hat : At w g t cs)
  (hu : P.underlying ty = some d) (hd : (match d with | .struct _ | .array _ _ => true | _ => false) = true) (hi : (P.info? ty).map (·.size) = some cs.length) : (results fn tmps).run P w = .ok (.agg cs.toArray) w := by
 have hl := run_loadVar_at (P := P) w g 0 ty cs d (fun j v hv => by rw [Nat.zero_add, hat.cell]; exact hv) hu hd hi
 have hp' : tmps[p]?.getD undef = .pointer (some ⟨g, 0, none⟩) := by simpa using hp
 simp [results, h, hp', asAddr, hl]
theorem wpList_build_to {P : Program} {ops : Array Oper} {rest : List Oper} {o : Oper} {a : Act} {w : World} {Q : Exit → Act → World → Prop} (hg : o.guard = none) (t : TypeId) (parts : Array (Nat × Operand)) (ho : o.op = .build t parts) (v : Array Value)
  (hv : P.built t (parts.map fun (i, x) => (i, a.eval x)).toList = some v) (h : wpList P ops Q rest (a.put o.dst (.agg v)) w) : wpList P ops Q (o :: rest) a w :=
 wpList_build hg t parts ho (by rw [hv]; rfl) (by rw [hv]; exact h)
def kvals : List Value := [.int .u32 1116352408, .int .u32 1899447441, .int .u32 3049323471, .int .u32 3921009573, .int .u32 961987163, .int .u32 1508970993, .int .u32 2453635748, .int .u32 2870763221, .int .u32 3624381080, .int .u32 310598401, .int .u32 607225278, .int .u32 1426881987, .int .u32 1925078388, .int .u32 2162078206, .int .u32 2614888103, .int .u32 3248222580, .int .u32 3835390401, .int .u32 4022224774, .int .u32 264347078, .int .u32 604807628, .int .u32 770255983, .int .u32 1249150122, .int .u32 1555081692, .int .u32 1996064986, .int .u32 2554220882, .int .u32 2821834349, .int .u32 2952996808, .int .u32 3210313671, .int .u32 3336571891, .int .u32 3584528711, .int .u32 113926993, .int .u32 338241895, .int .u32 666307205, .int .u32 773529912, .int .u32 1294757372, .int .u32 1396182291, .int .u32 1695183700, .int .u32 1986661051, .int .u32 2177026350, .int .u32 2456956037, .int .u32 2730485921, .int .u32 2820302411, .int .u32 3259730800, .int .u32 3345764771, .int .u32 3516065817, .int .u32 3600352804, .int .u32 4094571909, .int .u32 275423344, .int .u32 430227734, .int .u32 506948616, .int .u32 659060556, .int .u32 883997877, .int .u32 958139571, .int .u32 1322822218, .int .u32 1537002063, .int .u32 1747873779, .int .u32 1955562222, .int .u32 2024104815, .int .u32 2227730452, .int .u32 2361852424, .int .u32 2428436474, .int .u32 2756734187, .int .u32 3204031479, .int .u32 3329325298]
theorem kvals_eq : kvals = U4 shaK := by kernel_rfl
theorem kvals_one : ∀ v ∈ kvals, v.oneCell' = true := by
 intro v hv
 rw [kvals_eq] at hv
 obtain ⟨x, _, rfl⟩ := List.mem_map.1 hv
 rfl
theorem refK_any (w : World) : Calls Tryz.prog 98 #[] w fun e w' => e = .returned (.agg (U4 shaK).toArray) ∧ Fr [] w w' := by
 go_enter Tryz.func98, Tryz.ntmps98
 rw [← kvals_eq]
 go_wp2_with (first
  | (refine wpList_build_to rfl 158 _ rfl kvals.toArray ?hv ?_)
  | (refine wpList_store_new rfl 158 (.tmp 0) (.tmp 1) rfl rfl 158 _ kvals rfl rfl ?h1 kvals_one ?_))
 case hv => kernel_rfl
 case h1 => kernel_rfl
 intro w1 hf1 ha1
 go_wp2_with fail
 exact bodyPost_ret (results_at (t := 158) rfl _ _ w.heap.size kvals _ rfl ha1 Tryz.underlying158 rfl (by kernel_rfl)) rfl ⟨rfl, hf1⟩
theorem refRotr_any (x n : Nat) (k : Int) (w : World) (hk : k = (n : Int)) (hx : W32 x) (h1 : 1 ≤ n) (h2 : n ≤ 31) :
  Calls Tryz.prog 99 #[.int .u32 (x : Int), Value.int .i64 k] w fun e w' => e = .returned (.int .u32 (rotr n x : Int)) ∧ ∃ m, w' = w.drewN m := by
 subst hk
 have HX := Lib.hid hx
 clear hx
 have hs : IntKind.i64.wrap (32 - (n : Int)) = 32 - (n : Int) := IntWalk.i64_in _ (by omega)
 have hn0 : (0 : Int) ≤ 32 - (n : Int) := by omega
 have hnn : (32 - (n : Int)).toNat = 32 - n := by omega
 go_enter Tryz.func99, Tryz.ntmps99
 go_wp2_with fail
 go_quiet (fail)
 go_wp2_with fail
 go_ret
 refine ⟨ret_int ?_, _, rfl⟩
 rw [cast_shl, cast_shr, u32_or_nat _ _ (HX.out.div _) (Nat.mod_lt _ (by decide))]
 rfl
theorem refPad_any (A : Option Addr) (cp : Nat) (xs : List UInt8) (w : World) (hrow : RowIn w A (B8 xs)) (hlen : xs.length ≤ 68719476736) :
  Calls Tryz.prog 76 #[.slice A xs.length cp] w (NewRow (xs ++ shaPad xs.length) w) := by
 obtain ⟨n, hn⟩ : ∃ n, n = xs.length := ⟨_, rfl⟩
 rw [← hn] at hlen ⊢
 have H := Lib.hid (And.intro hrow hn)
 obtain ⟨z, hz⟩ : ∃ z, z = (119 - n % 64) % 64 := ⟨_, rfl⟩
 have hz64 : z < 64 := by omega
 have hzz : (n + 1 + z) % 64 = 56 := by omega
 have hzu : ∀ j, j < z → (n + 1 + j) % 64 ≠ 56 := by omega
 have HZ := Lib.hid (And.intro hz (And.intro hzz hzu))
 clear hz hzz hzu hrow hn
 go_enter Tryz.func76, Tryz.ntmps76
 go_wp2_with (first
  | (at_builtin; refine wpList_app el_u8 rfl (.tmp 6) (.tmp 7) rfl w.heap.size _ _ (B8 []) rfl (World.ownsRow_made _ #[] 0 (Nat.le_refl _) (Nat.zero_le _) rfl) A n cp (B8 xs) rfl (by rw [B8_length, ← H.out.2, Nat.mul_one]) (CellsAt.of_row (H.out.1.fr0 ((Fr.refl _ _).alloc _))) (B8_one _) (by omega) (by simp) ?_; intro v1 w1 hown1 hg1 hb1; rw [H.out.2] at hown1; obtain ⟨A1, c1, cs1, HC1, hc1, rfl, HB1⟩ := BR.push (cs := []) (xs := xs) ⟨(Fr.refl [] w).alloc _, World.ownsRow_made _ #[] 0 (Nat.le_refl _) (Nat.zero_le _) rfl⟩ hown1 hg1; have hsz1 := HB1.out.size; have hl1 : cs1.length ≤ n := (by rw [HC1.out, List.nil_append, ← H.out.2]; exact Nat.le_refl _); clear hown1 hg1 hb1)
  | (at_builtin; refine wpList_push el_u8 rfl (.tmp 8) (.tmp 9) rfl w.heap.size _ _ (B8 cs1) (.int .u8 128) rfl HB1.out.own rfl rfl (by omega) (by omega) 5 ?_; intro v2 w2 hown2 hg2 hb2; obtain ⟨A2, c2, cs2, HC2, hc2, rfl, HB2⟩ := BR.push (xs := [128]) HB1.out hown2 hg2; clear hown2 hg2 hb2))
 have HC2' : Hid (cs2 = xs ++ 128 :: List.replicate 0 0) := by show cs2 = _; rw [HC2.out, HC1.out]; rfl
 have hcl2 : cs2.length ≤ n + 0 + 1 ∧ n + 0 + 1 ≤ cs2.length := by rw [HC2'.out, H.out.2]; simp
 clear HC2 HC1 HB1 hc1 hl1
 go_loopw [3] (fun v wx => ∃ (j : Nat) (A' : Option Addr) (c' : Nat) (cs : List UInt8), j ≤ z ∧ v = .slice A' cs.length c' ∧ cs.length ≤ n + j + 1 ∧ n + j + 1 ≤ cs.length ∧ Hid (cs = xs ++ 128 :: List.replicate j 0) ∧ Hid (BR w wx v cs)) (fun v _ => match v with | .slice _ k _ => n + 65 - k | _ => 0)
 case atStart => exact ⟨0, _, _, cs2, by omega, rfl, hcl2.1, hcl2.2, HC2', HB2⟩
 case round =>
  obtain ⟨j, A', c', cs, hj, rfl, hcl, hcl', HC, HB⟩ := hrel
  have hsz := HB.out.size
  obtain ⟨r, hr⟩ : ∃ r, r = cs.length % 64 := ⟨_, rfl⟩
  have er : (cs.length : Int) % 64 = (r : Int) := by omega
  by_cases hlt : j < z
  ·have hr56 : r ≠ 56 := by have := HZ.out.2.2 j hlt; rw [hr]; intro e; apply this; rw [← e]; congr 1; omega
   have hrb : ((r : Int) != 56) = true := by simp; omega
   clear hr hr56
   go_wp2_with (at_builtin; refine wpList_push el_u8 rfl (.tmp 15) (.tmp 16) rfl w.heap.size _ _ (B8 cs) (.int .u8 0) rfl HB.out.own rfl rfl (by omega) (by omega) 5 ?_; intro v2 w2 hown2 hg2 hb2; obtain ⟨A3, c3, cs3, HC3, hc3, rfl, HB3⟩ := BR.push (xs := [0]) HB.out hown2 hg2; clear hown2 hg2 hb2)
   have h3 : cs3.length = cs.length + 1 := by rw [HC3.out]; simp
   have HC4 : Hid (cs3 = xs ++ 128 :: List.replicate (j + 1) 0) := by
    show cs3 = _
    rw [HC3.out, HC.out, List.replicate_succ', List.append_assoc, List.cons_append]
   go_roundw
   case rel => exact ⟨j + 1, A3, c3, cs3, by omega, rfl, by omega, by omega, HC4, HB3⟩
   case measure => show n + 65 - cs3.length < n + 65 - cs.length; omega
  ·obtain rfl : j = z := by omega
   have hr56 : r = 56 := by have := HZ.out.2.1; rw [hr]; rw [← this]; congr 1; omega
   have hrb : ((r : Int) != 56) = false := by rw [hr56]; rfl
   clear hr hr56
   obtain ⟨m8, hm8⟩ : ∃ m8, m8 = n * 8 := ⟨_, rfl⟩
   have em8 : IntKind.u64.wrap ((n : Int) * 8) = (m8 : Int) := by rw [IntKind.wrap_u64, hm8]; omega
   have en : IntKind.u64.wrap (n : Int) = (n : Int) := by rw [IntKind.wrap_u64]; omega
   have HM8 := Lib.hid hm8
   have hm8b : m8 ≤ 4398046511104 := by omega
   clear hm8
   go_wp2_with fail
   clear em8 en er hrb
   go_loopw [3, 5] (fun v s wx => ∃ (i : Nat) (t : Int) (A' : Option Addr) (c' : Nat) (ds : List UInt8), i ≤ 8 ∧ s = Value.int .i64 t ∧ t + (i : Int) ≤ 7 ∧ 7 ≤ t + (i : Int) ∧ v = .slice A' ds.length c' ∧ ds.length ≤ n + 65 + i ∧ Hid (ds = cs ++ (List.range i).map fun q => byteAt m8 (7 - q)) ∧ Hid (BR w wx v ds)) (fun _ s _ => (intOf s + 1).toNat)
   case atStart => exact ⟨0, 7, _, _, cs, by omega, rfl, by omega, by omega, rfl, by omega, by simp [Hid], HB⟩
   case round =>
    obtain ⟨i, t, A1, c1, ds, hi, rfl, ht1, ht2, rfl, hdl, HD, HB1⟩ := hrel
    have hsz1 := HB1.out.size
    by_cases hlt2 : i < 8
    ·obtain ⟨sh, rfl⟩ : ∃ sh : Nat, t = (sh : Int) := ⟨t.toNat, by omega⟩
     obtain ⟨y, HY⟩ : ∃ y : UInt8, Hid (y = byteAt m8 (7 - i)) := ⟨_, rfl⟩
     have hsh : sh ≤ 7 := by omega
     obtain ⟨s8, hs8⟩ : ∃ s8 : Nat, s8 = 8 * sh := ⟨_, rfl⟩
     have e8 : (8 : Int) * (sh : Int) = (s8 : Int) := by omega
     have hy : IntKind.u8.wrap ((m8 : Int) / 2 ^ s8) = (y.toNat : Int) := by
      rw [HY.out, hs8, show sh = 7 - i by omega]
      exact byteAt_wrap m8 (7 - i)
     have HS8 := Lib.hid hs8
     have hs8b : s8 ≤ 56 := by omega
     clear hs8
     go_wp2_with (at_builtin; refine wpList_push el_u8 rfl (.tmp 26) (.tmp 32) rfl w.heap.size _ _ (B8 ds) (.int .u8 (y.toNat : Int)) rfl HB1.out.own rfl rfl (by omega) (by omega) 5 ?_; intro v2 w2 hown2 hg2 hb2; obtain ⟨A3, c3, cs3, HC3, hc3, rfl, HB3⟩ := BR.push (xs := [y]) HB1.out hown2 hg2; clear hown2 hg2 hb2)
     have h3 : cs3.length = ds.length + 1 := by rw [HC3.out]; simp
     have HC4 : Hid (cs3 = cs ++ (List.range (i + 1)).map fun q => byteAt m8 (7 - q)) := by
      show cs3 = _
      rw [HC3.out, HD.out, List.range_succ, List.map_append, List.append_assoc, HY.out]
      rfl
     go_roundw
     case rel => exact ⟨i + 1, (sh : Int) - 1, A3, c3, cs3, by omega, by go_num, by omega, by omega, rfl, by omega, HC4, HB3⟩
     case measure => simp [intOf] <;> omega
    ·obtain rfl : i = 8 := by omega
     obtain rfl : t = -1 := by omega
     have HPAD : Hid (xs ++ shaPad n = ds) := by
      show _ = ds
      rw [HD.out, HC.out, HM8.out, HZ.out.1, List.append_assoc]
      rfl
     go_wp2_with fail
     go_ret
     exact newRow_of ds HPAD.out ⟨_, _, rfl, HB1.out.fr, HB1.out.own⟩
end Go.Proofs.YtlepfnihpdhcaaaGreatDoor
namespace Go.Proofs.YtlepfnihpdhcaaaGreatDoor
open Go.RowKit
structure RB (w wr : World) (bh br bk bw : Nat) (H : List Nat) (blk : List UInt8) (t : Nat) : Prop where
 fr : Fr [] w wr
 h : At wr bh 133 (U4 H)
 r : ∃ l, l.length = 8 ∧ At wr br 133 l
 k : At wr bk 158 (U4 shaK)
 sched : At wr bw 158 (wrow blk t)
 lo : w.heap.size ≤ bh
 o1 : bh < br
 o2 : br < bk
 o3 : bk < bw
theorem RB.drewN {w wr : World} {bh br bk bw : Nat} {H : List Nat} {blk : List UInt8} {t : Nat} (h : RB w wr bh br bk bw H blk t) (n : Nat) : RB w (wr.drewN n) bh br bk bw H blk t :=
 ⟨h.fr.drewN n, h.h, h.r, h.k, h.sched, h.lo, h.o1, h.o2, h.o3⟩
theorem RB.drew {w wr : World} {bh br bk bw : Nat} {H : List Nat} {blk : List UInt8} {t : Nat} (h : RB w wr bh br bk bw H blk t) : RB w wr.drew bh br bk bw H blk t :=
 ⟨h.fr.drew, h.h, h.r, h.k, h.sched, h.lo, h.o1, h.o2, h.o3⟩
theorem RB.fr' {w wr w1 : World} {bh br bk bw : Nat} {H : List Nat} {blk : List UInt8} {t : Nat} {S : List Nat} (h : RB w wr bh br bk bw H blk t) (hf : Fr S wr w1) (hs : ∀ x ∈ S, bw < x) : RB w w1 bh br bk bw H blk t := by
 have h0 := h.lo
 have h1 := h.o1
 have h2 := h.o2
 have h3 := h.o3
 have hn : ∀ x, x ≤ bw → x ∉ S := fun x hx hm => by have := hs x hm; omega
 obtain ⟨l, hl, hr⟩ := h.r
 exact ⟨h.fr.trans' hf (fun x hx => .inr (by have := hs x hx; omega)), h.h.fr hf (hn _ (by omega)), ⟨l, hl, hr.fr hf (hn _ (by omega))⟩, h.k.fr hf (hn _ (by omega)), h.sched.fr hf (hn _ (by omega)), h0, h1, h2, h3⟩
theorem RB.setW {w wr : World} {bh br bk bw : Nat} {H : List Nat} {blk : List UInt8} {t : Nat} (h : RB w wr bh br bk bw H blk t) (ht : t < 64) (x : Nat) (hx : x = if t < 16 then word blk t else nextW (schedTo blk t) t) :
  RB w (wr.setCell ⟨bw, t, none⟩ (.int .u32 (x : Int))) bh br bk bw H blk (t + 1) := by
 have h0 := h.lo
 have h1 := h.o1
 have h2 := h.o2
 have h3 := h.o3
 obtain ⟨l, hl, hr⟩ := h.r
 refine ⟨h.fr.setCell (.inr (show w.heap.size ≤ bw by omega)) _, h.h.far (show bh ≠ bw by omega) _, ⟨l, hl, hr.far (show br ≠ bw by omega) _⟩, h.k.far (show bk ≠ bw by omega) _, ?_, h0, h1, h2, h3⟩
 rw [← wrow_set blk t ht x hx]
 exact h.sched.set t _
theorem wrow_zero (blk : List UInt8) (t : Nat) (h : t < 64) : (wrow blk t)[t]? = some (.int .u32 0) := by
 unfold wrow
 rw [List.getElem?_append_right (by rw [U4_len, sched_len]; exact Nat.le_refl _), U4_len, sched_len, Nat.sub_self, List.getElem?_replicate, if_pos (by omega)]
theorem U4_one (l : List Nat) : ∀ v ∈ U4 l, v.oneCell' = true := by
 intro v hv
 obtain ⟨x, _, rfl⟩ := List.mem_map.1 hv
 rfl
theorem zip_comm (A B : List Nat) : List.zipWith add32 A B = List.zipWith add32 B A := by
 rw [List.zipWith_comm]
 congr 1
 funext x y
 unfold add32
 rw [Nat.add_comm]
set_option maxHeartbeats 4000000 in
theorem refBlock_any (g o cap : Nat) (H : List Nat) (blk : List UInt8) (w : World) (hH : H.length = 8) (hW : ∀ x ∈ H, W32 x) (hbl : blk.length = 64) (hrow : RowIn w (some ⟨g, o, none⟩) (B8 blk)) :
  Calls Tryz.prog 77 #[.agg (U4 H).toArray, .slice (some ⟨g, o, none⟩) 64 cap] w fun e w' => e = .returned (.agg (U4 (compress H blk)).toArray) ∧ Fr [] w w' := by
 have HH := Lib.hid (And.intro hH hW)
 have HR := Lib.hid (And.intro hbl hrow)
 clear hH hW hbl hrow
 obtain ⟨UH, HUH⟩ : ∃ UH, Hid (UH = U4 H) := ⟨_, rfl⟩
 rw [← HUH.out]
 obtain ⟨UK, HUK⟩ : ∃ UK, Hid (UK = U4 shaK) := ⟨_, rfl⟩
 obtain ⟨UZ, HUZ⟩ : ∃ UZ : List Value, Hid (UZ = List.replicate 64 (.int .u32 0)) := ⟨_, rfl⟩
 go_enter Tryz.func77, Tryz.ntmps77
 go_wp2_with fail
 refine (refK_any _).mono ?_
 rintro e w1 ⟨rfl, hf1⟩
 rw [← HUK.out]
 go_wp2_with (first
  | (refine wpList_build_to rfl 158 _ rfl UZ.toArray (by rw [HUZ.out]; kernel_rfl) ?_)
  | (refine wpList_store_new rfl 158 (.tmp 5) (.tmp 22) rfl rfl 158 _ UK rfl (by rw [HUK.out]; rfl) (by rw [HUK.out]; kernel_rfl) (by rw [HUK.out]; exact U4_one _) ?_; intro w2 hf2 ha2)
  | (refine wpList_store_new rfl 158 (.tmp 6) (.tmp 23) rfl rfl 158 _ UZ rfl (by rw [HUZ.out]; rfl) (by rw [HUZ.out]; kernel_rfl) (by rw [HUZ.out]; decide) ?_; intro w3 hf3 ha3))
 obtain ⟨bh, hbh⟩ : ∃ bh, bh = w.heap.size := ⟨_, rfl⟩
 obtain ⟨br, hbr⟩ : ∃ br, br = w.heap.size + 1 := ⟨_, rfl⟩
 obtain ⟨bk, hbk⟩ : ∃ bk, bk = w1.heap.size := ⟨_, rfl⟩
 obtain ⟨bw, hbw⟩ : ∃ bw, bw = w2.heap.size := ⟨_, rfl⟩
 have HB0 : Hid (RB w w3 bh br bk bw H blk 0) := by
  have hs1 := hf1.size
  simp at hs1
  have hlk : bk < w2.heap.size := by rw [hbk]; exact ha2.lt
  have f0 : Fr [] w w1 := (((Fr.refl [] w).alloc _).alloc _).trans hf1
  refine ⟨(f0.trans hf2).trans hf3, ?_, ⟨List.replicate 8 (.int .u32 0), rfl, ?_⟩, ?_, ?_, by omega, by omega, by omega, by omega⟩
  ·have a1 : At (w.alloc (.cells UH.toArray 133)) bh 133 UH := by rw [hbh]; exact At.new _ _ _
   rw [← HUH.out]
   exact (((a1.alloc _).fr hf1 (by simp)).fr hf2 (by simp)).fr hf3 (by simp)
  ·have a1 : At ((w.alloc (.cells UH.toArray 133)).alloc (.cells (List.replicate 8 (.int .u32 0)).toArray 133)) br 133 (List.replicate 8 (.int .u32 0)) := by
    have := At.new (w.alloc (.cells UH.toArray 133)) 133 (List.replicate 8 (.int .u32 0))
    rw [show br = (w.alloc (.cells UH.toArray 133)).heap.size by rw [hbr]; simp]
    exact this
   exact ((a1.fr hf1 (by simp)).fr hf2 (by simp)).fr hf3 (by simp)
  ·rw [← HUK.out, hbk]
   exact ha2.fr hf3 (by simp)
  ·rw [hbw]
   have e : wrow blk 0 = UZ := by rw [HUZ.out]; rfl
   rw [e]
   exact ha3
 rw [← hbr, ← hbh, ← hbk, ← hbw]
 clear hf1 hf2 hf3 ha2 ha3 hbh hbr hbk hbw
 go_loopw [7] (fun i wx => ∃ t : Nat, t ≤ 16 ∧ i = .int .i64 t ∧ Hid (RB w wx bh br bk bw H blk t)) (fun i _ => 16 - (intOf i).toNat)
 case atStart => exact ⟨0, by omega, rfl, HB0⟩
 case round =>
  obtain ⟨t, ht, rfl, HL⟩ := hrel
  by_cases h16 : t < 16
  ·obtain ⟨⟨v0, e0, c0, k0⟩, ⟨v1, e1, c1, k1⟩, ⟨v2, e2, c2, k2⟩, ⟨v3, e3, c3, k3⟩⟩ : (∃ v : UInt8, blk.getD (4 * t) 0 = v ∧ wr.cell? ⟨g, o + 4 * t, none⟩ = some (.int .u8 (v.toNat : Int)) ∧ g < w.heap.size) ∧ (∃ v : UInt8, blk.getD (4 * t + 1) 0 = v ∧ wr.cell? ⟨g, o + (4 * t + 1), none⟩ = some (.int .u8 (v.toNat : Int)) ∧ g < w.heap.size) ∧ (∃ v : UInt8, blk.getD (4 * t + 2) 0 = v ∧ wr.cell? ⟨g, o + (4 * t + 2), none⟩ = some (.int .u8 (v.toNat : Int)) ∧ g < w.heap.size) ∧ (∃ v : UInt8, blk.getD (4 * t + 3) 0 = v ∧ wr.cell? ⟨g, o + (4 * t + 3), none⟩ = some (.int .u8 (v.toNat : Int)) ∧ g < w.heap.size) := by
    have key : ∀ i, i < 64 → ∃ v : UInt8, blk.getD i 0 = v ∧ wr.cell? ⟨g, o + i, none⟩ = some (.int .u8 (v.toNat : Int)) ∧ g < w.heap.size := by
     intro i hi
     have hg := List.getElem?_eq_getElem (l := blk) (i := i) (by rw [HR.out.1]; exact hi)
     obtain ⟨g', o', hA, hg', hc⟩ := HR.out.2 i _ (B8_get blk i _ hg)
     injection hA with hA
     injection hA with a1 a2
     subst a1 a2
     refine ⟨_, by rw [List.getD_eq_getElem?_getD, hg, Option.getD_some], ?_, hg'⟩
     rw [HL.out.fr.cell (p := ⟨g, o + i, none⟩) hg' (by simp)]
     exact hc
    exact ⟨key (4 * t) (by omega), key (4 * t + 1) (by omega), key (4 * t + 2) (by omega), key (4 * t + 3) (by omega)⟩
   have q0 := HL.out.lo
   have q1 := HL.out.o1
   have q2 := HL.out.o2
   have q3 := HL.out.o3
   have n0 : g ≠ bw := by omega
   have n1 : bw ≠ g := by omega
   have wc : wr.cell? ⟨bw, t, none⟩ = some (.int .u32 0) := by rw [HL.out.sched.cell]; exact wrow_zero blk t (by omega)
   have wf := HL.out.sched.frozen t
   obtain ⟨x, HX⟩ : ∃ x, Hid (x = word blk t) := ⟨_, rfl⟩
   have xw : bits BinOp.or IntKind.u32 (bits BinOp.or IntKind.u32 (bits BinOp.or IntKind.u32 (IntKind.u32.wrap (IntKind.u32.wrap (v0.toNat : Int) * 16777216)) (IntKind.u32.wrap (IntKind.u32.wrap (v1.toNat : Int) * 65536))) (IntKind.u32.wrap (IntKind.u32.wrap (v2.toNat : Int) * 256))) (IntKind.u32.wrap (v3.toNat : Int)) = (x : Int) := by
    rw [word_walk, HX.out]
    unfold word
    rw [e0, e1, e2, e3]
   have m0 : IntKind.i64.wrap (4 * (t : Int)) = 4 * (t : Int) := IntWalk.i64_in _ (by omega)
   have m1 : IntKind.i64.wrap (4 * (t : Int) + 1) = 4 * (t : Int) + 1 := IntWalk.i64_in _ (by omega)
   have m2 : IntKind.i64.wrap (4 * (t : Int) + 2) = 4 * (t : Int) + 2 := IntWalk.i64_in _ (by omega)
   have m3 : IntKind.i64.wrap (4 * (t : Int) + 3) = 4 * (t : Int) + 3 := IntWalk.i64_in _ (by omega)
   have z0 : (0 : Int) ≤ 4 * (t : Int) := by omega
   have z1 : (0 : Int) ≤ 4 * (t : Int) + 1 := by omega
   have z2 : (0 : Int) ≤ 4 * (t : Int) + 2 := by omega
   have z3 : (0 : Int) ≤ 4 * (t : Int) + 3 := by omega
   have y0 : 4 * (t : Int) < 64 := by omega
   have y1 : 4 * (t : Int) + 1 < 64 := by omega
   have y2 : 4 * (t : Int) + 2 < 64 := by omega
   have y3 : 4 * (t : Int) + 3 < 64 := by omega
   have tn0 : (4 * (t : Int)).toNat = 4 * t := by omega
   have tn1 : (4 * (t : Int) + 1).toNat = 4 * t + 1 := by omega
   have tn2 : (4 * (t : Int) + 2).toNat = 4 * t + 2 := by omega
   have tn3 : (4 * (t : Int) + 3).toNat = 4 * t + 3 := by omega
   have tI : (t : Int) < 64 := by omega
   have HN : Hid (RB w (wr.setCell ⟨bw, t, none⟩ (.int .u32 (x : Int))).drew bh br bk bw H blk (t + 1)) := (HL.out.setW (by omega) x (by rw [if_pos h16]; exact HX.out)).drew
   clear e0 e1 e2 e3 k0 k1 k2 k3
   go_wp2_with fail
   go_region_held3 (fun w' => w'.cell? ⟨g, o + 4 * t, none⟩ = some (.int .u8 (v0.toNat : Int)) ∧ w'.cell? ⟨g, o + (4 * t + 1), none⟩ = some (.int .u8 (v1.toNat : Int)) ∧ w'.cell? ⟨g, o + (4 * t + 2), none⟩ = some (.int .u8 (v2.toNat : Int)) ∧ w'.cell? ⟨g, o + (4 * t + 3), none⟩ = some (.int .u8 (v3.toNat : Int))) (go_keep) (first | fail)
   generalize (wr.setCell ⟨bw, t, none⟩ (.int .u32 (x : Int))).drew = W1 at HN ⊢
   rename_i hHeld
   clear hHeld xw m0 m1 m2 m3 tn0 tn1 tn2 tn3 c0 c1 c2 c3 wc wf HL
   go_wp2_with fail
   go_roundw
   case rel =>
    first
     | exact ⟨t + 1, by omega, by go_num, HN⟩
     | ((repeat apply Exists.intro); exact ⟨⟨t + 1, by omega, by go_num, HN⟩, rfl⟩)
   case measure => simp [intOf] <;> omega
  ·obtain rfl : t = 16 := by omega
   go_wp2_with fail
   obtain ⟨wa, HWA⟩ : ∃ wa, Hid (wa = wr) := ⟨_, rfl⟩
   rw [← HWA.out] at HL ⊢
   clear HWA
   go_loopw [8] (fun i wx => ∃ t : Nat, 16 ≤ t ∧ t ≤ 64 ∧ i = .int .i64 t ∧ Hid (RB w wx bh br bk bw H blk t)) (fun i _ => 64 - (intOf i).toNat)
   case atStart => exact ⟨16, by omega, by omega, rfl, HL⟩
   case round =>
    obtain ⟨t, ht16, ht, rfl, HL⟩ := hrel
    by_cases hlt : t < 64
    ·obtain ⟨x2, f2, w2, d2⟩ := wrow_get blk t (t - 2) (by omega)
     obtain ⟨x7, f7, w7, d7⟩ := wrow_get blk t (t - 7) (by omega)
     obtain ⟨x15, f15, w15, d15⟩ := wrow_get blk t (t - 15) (by omega)
     obtain ⟨x16, f16, w16, d16⟩ := wrow_get blk t (t - 16) (by omega)
     have HCC : Hid (∀ W, RB w W bh br bk bw H blk t → W.cell? ⟨bw, t - 2, none⟩ = some (.int .u32 (x2 : Int)) ∧ W.cell? ⟨bw, t - 7, none⟩ = some (.int .u32 (x7 : Int)) ∧ W.cell? ⟨bw, t - 15, none⟩ = some (.int .u32 (x15 : Int)) ∧ W.cell? ⟨bw, t - 16, none⟩ = some (.int .u32 (x16 : Int)) ∧ W.cell? ⟨bw, t, none⟩ = some (.int .u32 0) ∧ W.frozen? ⟨bw, t, none⟩ = false) := fun W hW =>
      ⟨by rw [hW.sched.cell]; exact d2, by rw [hW.sched.cell]; exact d7, by rw [hW.sched.cell]; exact d15, by rw [hW.sched.cell]; exact d16, by rw [hW.sched.cell]; exact wrow_zero blk t hlt, hW.sched.frozen t⟩
     have HE := Lib.hid (And.intro f2 (And.intro f7 (And.intro f15 f16)))
     have HW := Lib.hid (And.intro w2 (And.intro w7 (And.intro w15 w16)))
     obtain ⟨s1, q1, HQ1⟩ : ∃ s1 : Nat, bits BinOp.xor IntKind.u32 (bits BinOp.xor IntKind.u32 (rotr 17 x2 : Int) (rotr 19 x2 : Int)) ((x2 : Int) / 1024) = (s1 : Int) ∧ Hid (s1 = sig1 x2) := ⟨_, sig1_walk x2 w2, rfl⟩
     obtain ⟨s0, q0, HQ0⟩ : ∃ s0 : Nat, bits BinOp.xor IntKind.u32 (bits BinOp.xor IntKind.u32 (rotr 7 x15 : Int) (rotr 18 x15 : Int)) ((x15 : Int) / 8) = (s0 : Int) ∧ Hid (s0 = sig0 x15) := ⟨_, sig0_walk x15 w15, rfl⟩
     obtain ⟨y1, p1, HP1⟩ : ∃ y : Nat, IntKind.u32.wrap ((s1 : Int) + (x7 : Int)) = (y : Int) ∧ Hid (y = add32 s1 x7) := ⟨_, u32_add _ _, rfl⟩
     obtain ⟨y2, p2, HP2⟩ : ∃ y : Nat, IntKind.u32.wrap ((y1 : Int) + (s0 : Int)) = (y : Int) ∧ Hid (y = add32 y1 s0) := ⟨_, u32_add _ _, rfl⟩
     obtain ⟨y3, p3, HP3⟩ : ∃ y : Nat, IntKind.u32.wrap ((y2 : Int) + (x16 : Int)) = (y : Int) ∧ Hid (y = add32 y2 x16) := ⟨_, u32_add _ _, rfl⟩
     have HX : Hid (y3 = if t < 16 then word blk t else nextW (schedTo blk t) t) := by
      show y3 = _
      rw [if_neg (by omega), HP3.out, HP2.out, HP1.out, HQ1.out, HQ0.out]
      unfold nextW
      rw [HE.out.1, HE.out.2.1, HE.out.2.2.1, HE.out.2.2.2]
     clear f2 f7 f15 f16 w2 w7 w15 w16 d2 d7 d15 d16
     obtain ⟨c2, c7, c15, c16, wc, wf⟩ := HCC.out wr HL.out
     have s2 : (0 : Int) ≤ (t : Int) - 2 := by omega
     have s15 : (0 : Int) ≤ (t : Int) - 15 := by omega
     have s7 : (0 : Int) ≤ (t : Int) - 7 := by omega
     have s16 : (0 : Int) ≤ (t : Int) - 16 := by omega
     have s2l : (t : Int) - 2 < 64 := by omega
     have s15l : (t : Int) - 15 < 64 := by omega
     have s7l : (t : Int) - 7 < 64 := by omega
     have s16l : (t : Int) - 16 < 64 := by omega
     have g2 : (2 : Int) ≤ (t : Int) := by omega
     have g2n : 2 ≤ t := by omega
     have g15 : (15 : Int) ≤ (t : Int) := by omega
     have g15n : 15 ≤ t := by omega
     have g7 : (7 : Int) ≤ (t : Int) := by omega
     have g7n : 7 ≤ t := by omega
     have g16 : (16 : Int) ≤ (t : Int) := by omega
     have o7 : t - 7 ≠ t := by omega
     have o7' : t ≠ t - 7 := by omega
     have o16 : t - 16 ≠ t := by omega
     have o16' : t ≠ t - 16 := by omega
     have tI : (t : Int) < 64 := by omega
     have s2n : ((t : Int) - 2).toNat = t - 2 := by omega
     have s7n : ((t : Int) - 7).toNat = t - 7 := by omega
     have s15n : ((t : Int) - 15).toNat = t - 15 := by omega
     have s16n : ((t : Int) - 16).toNat = t - 16 := by omega
     have s2w : IntKind.i64.wrap ((t : Int) - 2) = (t : Int) - 2 := IntWalk.i64_in _ (by omega)
     have s7w : IntKind.i64.wrap ((t : Int) - 7) = (t : Int) - 7 := IntWalk.i64_in _ (by omega)
     have s15w : IntKind.i64.wrap ((t : Int) - 15) = (t : Int) - 15 := IntWalk.i64_in _ (by omega)
     have s16w : IntKind.i64.wrap ((t : Int) - 16) = (t : Int) - 16 := IntWalk.i64_in _ (by omega)
     go_wp2_with fail
     go_quiet ((first
      | (go_at_call 99; exact Calls.quiet_of (refRotr_any x15 7 _ _ rfl HW.out.2.2.1 (by decide) (by decide)))
      | (go_at_call 99; exact Calls.quiet_of (refRotr_any x15 18 _ _ rfl HW.out.2.2.1 (by decide) (by decide)))))
     obtain ⟨W1, HW1⟩ : ∃ W1, Hid (W1 = wr.drewN nq) := ⟨_, rfl⟩
     rw [← HW1.out]
     have HL1 : Hid (RB w W1 bh br bk bw H blk t) := by show RB w W1 bh br bk bw H blk t; rw [HW1.out]; exact HL.out.drewN _
     clear c2 c7 c15 c16 wc wf HL HW1
     obtain ⟨c2, c7, c15, c16, wc, wf⟩ := HCC.out W1 HL1.out
     go_wp2_with fail
     go_quiet ((first
      | (go_at_call 99; exact Calls.quiet_of (refRotr_any x2 17 _ _ rfl HW.out.1 (by decide) (by decide)))
      | (go_at_call 99; exact Calls.quiet_of (refRotr_any x2 19 _ _ rfl HW.out.1 (by decide) (by decide)))))
     obtain ⟨W2, HW2⟩ : ∃ W2, Hid (W2 = W1.drewN nq) := ⟨_, rfl⟩
     rw [← HW2.out]
     have HL2 : Hid (RB w W2 bh br bk bw H blk t) := by show RB w W2 bh br bk bw H blk t; rw [HW2.out]; exact HL1.out.drewN _
     clear c2 c7 c15 c16 wc wf HL1 HW2
     obtain ⟨c2, c7, c15, c16, wc, wf⟩ := HCC.out W2 HL2.out
     have HN : Hid (RB w (W2.setCell ⟨bw, t, none⟩ (.int .u32 (y3 : Int))).drew bh br bk bw H blk (t + 1)) := (HL2.out.setW hlt y3 HX.out).drew
     go_wp2_with fail
     go_still_tail 15, (by kernel_rfl)
     change wpList _ _ _ _ _ W2.drew
     go_wp2_with fail
     generalize (W2.setCell ⟨bw, t, none⟩ (.int .u32 (y3 : Int))).drew = W3 at HN ⊢
     clear q1 q0 p1 p2 p3 s2n s7n s15n s16n s2w s7w s15w s16w c2 c7 c15 c16 wc wf HL2
     (try go_wp2_with fail)
     go_roundw
     case rel =>
      first
       | exact ⟨t + 1, by omega, by omega, by go_num, HN⟩
       | ((repeat apply Exists.intro); exact ⟨⟨t + 1, by omega, by omega, by go_num, HN⟩, rfl⟩)
     case measure => simp [intOf] <;> omega
    ·obtain rfl : t = 64 := by omega
     have HC8 : Hid (UH.length = 8 ∧ ∀ v ∈ UH, v.oneCell' = true) := by
      show _ ∧ _
      rw [HUH.out, U4_len]
      exact ⟨HH.out.1, U4_one _⟩
     have hhw := HL.out.h.lt
     have hww := HL.out.sched.lt
     go_wp2_with (first
      | (refine wpList_load_at rfl 133 (.tmp 2) rfl bh 0 rfl UH _ (fun j v hj => (by rw [Nat.zero_add, HL.out.h.cell, ← HUH.out]; exact hj)) Tryz.underlying133 rfl (by rw [HC8.out.1]; kernel_rfl) ?_)
      | (refine wpList_store_new rfl 133 (.tmp 11) (.tmp 116) rfl rfl 133 _ UH rfl (by rw [HC8.out.1]; rfl) (by rw [HC8.out.1]; kernel_rfl) HC8.out.2 ?_; intro w4 hf4 ha4))
     obtain ⟨bv, hbv⟩ : ∃ bv, bv = wr.heap.size := ⟨_, rfl⟩
     rw [← hbv] at ha4 ⊢
     have hbb : bw < bv := by omega
     have HV : Hid (RB w w4 bh br bk bw H blk 64 ∧ At w4 bv 133 (U4 H)) := ⟨HL.out.fr' hf4 (by simp), by rw [← HUH.out]; exact ha4⟩
     clear hf4 ha4 hbv HL hhw hww
     obtain ⟨s0, HS0⟩ : ∃ s0 : S8, Hid (s0 = S8.of H ∧ s0.Ok ∧ s0.list = H) := by
      refine ⟨_, rfl, S8.ok_of HH.out.2, ?_⟩
      have hl := HH.out.1
      match H, hl with
      | [h0, h1, h2, h3, h4, h5, h6, h7], _ => rfl
     obtain ⟨WS, HWS⟩ : ∃ WS, Hid (WS = schedTo blk 64) := ⟨_, rfl⟩
     go_loopw [12] (fun i wx => ∃ (t : Nat) (s : S8), t ≤ 64 ∧ i = .int .i64 t ∧ Hid (s = rounds WS s0 t ∧ s.Ok ∧ RB w wx bh br bk bw H blk 64 ∧ At wx bv 133 (U4 s.list))) (fun i _ => 64 - (intOf i).toNat)
     case atStart => exact ⟨0, s0, by omega, rfl, rfl, HS0.out.2.1, HV.out.1, by rw [HS0.out.2.2]; exact HV.out.2⟩
     case round =>
      obtain ⟨t, s, ht, rfl, HT⟩ := hrel
      obtain ⟨a, b', c, d, e, f, g', h⟩ := s
      by_cases hlt : t < 64
      ·obtain ⟨kt, hkt⟩ : ∃ kt, shaK[t]? = some kt := ⟨_, List.getElem?_eq_getElem (show t < shaK.length from hlt)⟩
       obtain ⟨wt, fw, ww, dw⟩ := wrow_get blk 64 t hlt
       obtain ⟨s1, ef, ne, ng, ch, x1, x2, x3, t1, z0, ab, ac, bc, mx, mj, t2, na, nd, q1, q2, q3, q4, q5, q6, q7, q8, q9, q10, q11, q12, q13, q14, q15, q16, q17, q18, HQ⟩ := rnd_walk a b' c d e f g' h kt wt HT.out.2.1
       have HO : Hid (W32 e ∧ W32 a) := ⟨HT.out.2.1.e, HT.out.2.1.a⟩
       have HK : Hid (rounds WS s0 (t + 1) = ⟨na, a, b', c, nd, e, f, g'⟩ ∧ S8.Ok ⟨na, a, b', c, nd, e, f, g'⟩) := by
        refine ⟨?_, by rw [← HQ.out]; exact HT.out.2.1.rnd _ _⟩
        rw [← HQ.out]
        show (rounds WS s0 t).rnd (shaK.getD t 0) (WS.getD t 0) = _
        rw [← HT.out.1, List.getD_eq_getElem?_getD, hkt, HWS.out, fw]
        rfl
       have HCC : Hid (∀ W, RB w W bh br bk bw H blk 64 → At W bv 133 (U4 [a, b', c, d, e, f, g', h]) → W.cell? ⟨bk, t, none⟩ = some (.int .u32 (kt : Int)) ∧ W.cell? ⟨bw, t, none⟩ = some (.int .u32 (wt : Int)) ∧ W.cell? ⟨bv, 0, none⟩ = some (.int .u32 (a : Int)) ∧ W.cell? ⟨bv, 1, none⟩ = some (.int .u32 (b' : Int)) ∧ W.cell? ⟨bv, 2, none⟩ = some (.int .u32 (c : Int)) ∧ W.cell? ⟨bv, 3, none⟩ = some (.int .u32 (d : Int)) ∧ W.cell? ⟨bv, 4, none⟩ = some (.int .u32 (e : Int)) ∧ W.cell? ⟨bv, 5, none⟩ = some (.int .u32 (f : Int)) ∧ W.cell? ⟨bv, 6, none⟩ = some (.int .u32 (g' : Int)) ∧ W.cell? ⟨bv, 7, none⟩ = some (.int .u32 (h : Int))) := fun W hW hA =>
        ⟨by rw [hW.k.cell]; exact U4_get _ _ _ hkt, by rw [hW.sched.cell]; exact dw, by rw [hA.cell]; rfl, by rw [hA.cell]; rfl, by rw [hA.cell]; rfl, by rw [hA.cell]; rfl, by rw [hA.cell]; rfl, by rw [hA.cell]; rfl, by rw [hA.cell]; rfl, by rw [hA.cell]; rfl⟩
       clear hkt fw ww dw
       have htI : (t : Int) < 64 := by omega
       obtain ⟨ck, cw, j0, j1, j2, j3, j4, j5, j6, j7⟩ := HCC.out wr HT.out.2.2.1 HT.out.2.2.2
       go_wp2_with fail
       go_quiet (fail)
       obtain ⟨W1, HW1⟩ : ∃ W1, Hid (W1 = wr.drewN nq) := ⟨_, rfl⟩
       rw [← HW1.out]
       have HL1 : Hid (RB w W1 bh br bk bw H blk 64 ∧ At W1 bv 133 (U4 [a, b', c, d, e, f, g', h])) := by show _ ∧ _; rw [HW1.out]; exact ⟨HT.out.2.2.1.drewN _, HT.out.2.2.2⟩
       clear ck cw j0 j1 j2 j3 j4 j5 j6 j7 HW1
       obtain ⟨ck, cw, j0, j1, j2, j3, j4, j5, j6, j7⟩ := HCC.out W1 HL1.out.1 HL1.out.2
       go_wp2_with fail
       go_quiet ((first
        | (go_at_call 99; exact Calls.quiet_of (refRotr_any e 6 _ _ rfl HO.out.1 (by decide) (by decide)))
        | (go_at_call 99; exact Calls.quiet_of (refRotr_any e 11 _ _ rfl HO.out.1 (by decide) (by decide)))
        | (go_at_call 99; exact Calls.quiet_of (refRotr_any e 25 _ _ rfl HO.out.1 (by decide) (by decide)))))
       obtain ⟨W2, HW2⟩ : ∃ W2, Hid (W2 = W1.drewN nq) := ⟨_, rfl⟩
       rw [← HW2.out]
       have HL2 : Hid (RB w W2 bh br bk bw H blk 64 ∧ At W2 bv 133 (U4 [a, b', c, d, e, f, g', h])) := by show _ ∧ _; rw [HW2.out]; exact ⟨HL1.out.1.drewN _, HL1.out.2⟩
       clear ck cw j0 j1 j2 j3 j4 j5 j6 j7 HW2 HL1
       go_wp2_with fail
       refine (refRotr_any a 2 _ _ rfl HO.out.2 (by decide) (by decide)).mono ?_
       rintro e1 w5 ⟨rfl, m5, rfl⟩
       go_wp2_with fail
       refine (refRotr_any a 13 _ _ rfl HO.out.2 (by decide) (by decide)).mono ?_
       rintro e1 w6 ⟨rfl, m6, rfl⟩
       go_wp2_with fail
       refine (refRotr_any a 22 _ _ rfl HO.out.2 (by decide) (by decide)).mono ?_
       rintro e1 w7 ⟨rfl, m7, rfl⟩
       obtain ⟨W3, HW3⟩ : ∃ W3, Hid (W3 = (W2.drewN (m5 + m6)).drewN m7) := ⟨_, rfl⟩
       have HL3 : Hid (RB w W3 bh br bk bw H blk 64 ∧ At W3 bv 133 (U4 [a, b', c, d, e, f, g', h])) := by show _ ∧ _; rw [HW3.out]; exact ⟨(HL2.out.1.drewN _).drewN _, HL2.out.2⟩
       rw [← HW3.out]
       clear HW3 HL2
       obtain ⟨ck, cw, j0, j1, j2, j3, j4, j5, j6, j7⟩ := HCC.out W3 HL3.out.1 HL3.out.2
       obtain ⟨L0, HL0⟩ : ∃ L0, Hid (L0 = U4 [a, b', c, d, e, f, g', h]) := ⟨_, rfl⟩
       obtain ⟨L2, HLL2⟩ : ∃ L2, Hid (L2 = U4 [na, a, b', c, nd, e, f, g']) := ⟨_, rfl⟩
       go_wp2_with (refine wpList_store_at rfl 133 (.tmp 11) (.tmp 194) rfl bv 0 rfl 133 L0 [.int .u32 (na : Int), .int .u32 (a : Int), .int .u32 (b' : Int), .int .u32 (c : Int), .int .u32 (nd : Int), .int .u32 (e : Int), .int .u32 (f : Int), .int .u32 (g' : Int)] rfl (by rw [HL0.out]; exact HL3.out.2) (by rw [HL0.out]; exact Nat.le_refl _) (by kernel_rfl) (U4_one [na, a, b', c, nd, e, f, g']) L2 (by rw [HL0.out, HLL2.out]; rfl) ?_; intro w8 hf8 ha8)
       have HN : Hid (RB w w8 bh br bk bw H blk 64 ∧ At w8 bv 133 (U4 [na, a, b', c, nd, e, f, g'])) := ⟨HL3.out.1.fr' hf8 (by simp; omega), by rw [← HLL2.out]; exact ha8⟩
       clear q1 q2 q3 q4 q5 q6 q7 q8 q9 q10 q11 q12 q13 q14 q15 q16 q17 q18 hf8 ha8 ck cw j0 j1 j2 j3 j4 j5 j6 j7 HL3 HCC
       go_wp2_with fail
       go_roundw
       case rel =>
        first
         | exact ⟨t + 1, ⟨na, a, b', c, nd, e, f, g'⟩, by omega, by go_num, HK.out.1.symm, HK.out.2, HN.out.1, HN.out.2⟩
         | ((repeat apply Exists.intro); exact ⟨⟨t + 1, ⟨na, a, b', c, nd, e, f, g'⟩, by omega, by go_num, HK.out.1.symm, HK.out.2, HN.out.1, HN.out.2⟩, rfl⟩)
       case measure => simp [intOf] <;> omega
      ·obtain rfl : t = 64 := by omega
       obtain ⟨V, HVV⟩ : ∃ V, Hid (V = [a, b', c, d, e, f, g', h]) := ⟨_, rfl⟩
       have HF : Hid (compress H blk = List.zipWith add32 V H) := by
        show compress H blk = _
        unfold compress
        rw [← HWS.out, ← HS0.out.1, ← HT.out.1, HVV.out, zip_comm]
        rfl
       have HV8 : Hid (V.length = 8) := by show V.length = 8; rw [HVV.out]; rfl
       have HZ : Hid (RB w wr bh br bk bw H blk 64 ∧ At wr bv 133 (U4 V)) := ⟨HT.out.2.2.1, by rw [HVV.out]; exact HT.out.2.2.2⟩
       obtain ⟨wb, HWB⟩ : ∃ wb, Hid (wb = wr) := ⟨_, rfl⟩
       rw [← HWB.out] at HZ ⊢
       clear HT HWB HVV
       go_wp2_with fail
       go_loopw [21] (fun i wx => ∃ k : Nat, k ≤ 8 ∧ i = .int .i64 k ∧ Hid (RB w wx bh br bk bw H blk 64 ∧ At wx bv 133 (U4 ((List.zipWith add32 V H).take k ++ V.drop k) ++ []))) (fun i _ => 8 - (intOf i).toNat)
       case atStart => exact ⟨0, by omega, rfl, by rw [List.take_zero, List.nil_append, List.drop_zero, List.append_nil]; exact HZ⟩
       case round =>
        obtain ⟨k, hk, rfl, HY⟩ := hrel
        by_cases hlt4 : k < 8
        ·obtain ⟨x, hx⟩ : ∃ x, H[k]? = some x := ⟨_, List.getElem?_eq_getElem (by rw [HH.out.1]; exact hlt4)⟩
         obtain ⟨y, hy⟩ : ∃ y, V[k]? = some y := ⟨_, List.getElem?_eq_getElem (by rw [HV8.out]; exact hlt4)⟩
         have HS := Lib.hid (words_set V H [] k y x hy hx)
         have cy : wr.cell? ⟨bh, k, none⟩ = some (.int .u32 (x : Int)) := by rw [HY.out.1.h.cell]; exact U4_get _ _ _ hx
         have cb : wr.cell? ⟨bv, k, none⟩ = some (.int .u32 (y : Int)) := by rw [HY.out.2.cell]; exact words_get V H [] k y x hy hx
         have fb := HY.out.2.frozen k
         obtain ⟨sm, em, HSM⟩ : ∃ sm : Nat, IntKind.u32.wrap ((y : Int) + (x : Int)) = (sm : Int) ∧ Hid (sm = add32 y x) := ⟨_, u32_add y x, rfl⟩
         have hkI : (k : Int) < 8 := by omega
         have b0 := HY.out.1.o1
         have b1 := HY.out.1.o2
         have b2 := HY.out.1.o3
         have hne : bh ≠ bv := by omega
         have hne' : bv ≠ bh := by omega
         have HN : Hid (RB w (wr.setCell ⟨bv, k, none⟩ (.int .u32 (sm : Int))).drew bh br bk bw H blk 64 ∧ At (wr.setCell ⟨bv, k, none⟩ (.int .u32 (sm : Int))).drew bv 133 (U4 ((List.zipWith add32 V H).take (k + 1) ++ V.drop (k + 1)) ++ [])) := by
          refine ⟨HY.out.1.fr' (S := [bv]) (((Fr.refl _ _).setCell (by simp) _).drew) (by simp; omega), ?_⟩
          rw [HSM.out, ← HS.out]
          exact (HY.out.2.set k _).drew
         clear hx hy
         go_wp2_with fail
         go_region
         generalize (wr.setCell ⟨bv, k, none⟩ (.int .u32 (sm : Int))).drew = W5 at HN ⊢
         clear em cy cb fb HY HS
         go_wp2_with fail
         go_roundw
         case rel =>
          first
           | exact ⟨k + 1, by omega, by go_num, HN⟩
           | ((repeat apply Exists.intro); exact ⟨⟨k + 1, by omega, by go_num, HN⟩, rfl⟩)
         case measure => simp [intOf] <;> omega
        ·obtain rfl : k = 8 := by omega
         obtain ⟨l, hl8, har⟩ := HY.out.1.r
         obtain ⟨LF, HLF⟩ : ∃ LF, Hid (LF = U4 (compress H blk)) := ⟨_, rfl⟩
         have HLX : Hid (LF.length = 8 ∧ (∀ v ∈ LF, v.oneCell' = true) ∧ At wr bv 133 LF) := by
          show _ ∧ _ ∧ _
          rw [HLF.out, U4_len]
          refine ⟨compress_len H blk HH.out.1, U4_one _, ?_⟩
          have h8 := HY.out.2
          rw [List.append_nil, List.take_of_length_le (by simp [HH.out.1, HV8.out]), List.drop_of_length_le (by rw [HV8.out]; exact Nat.le_refl _), List.append_nil] at h8
          rw [HF.out]
          exact h8
         have HAR := Lib.hid (And.intro hl8 har)
         have b0 := HY.out.1.o1
         have b00 := HY.out.1.lo
         clear hl8 har
         go_wp2_with (first
          | (refine wpList_load_at rfl 133 (.tmp 11) rfl bv 0 rfl LF _ (fun j v hj => (by rw [Nat.zero_add, HLX.out.2.2.cell]; exact hj)) Tryz.underlying133 rfl (by rw [HLX.out.1]; kernel_rfl) ?_)
          | (refine wpList_store_at rfl 133 (.tmp 4) (.tmp 207) rfl br 0 rfl 133 l LF rfl HAR.out.2 (by rw [HAR.out.1, HLX.out.1]; exact Nat.le_refl _) (by rw [HLX.out.1]; kernel_rfl) HLX.out.2.1 LF (by rw [HLX.out.1, List.drop_of_length_le (by rw [HAR.out.1]; exact Nat.le_refl _)]; simp) ?_; intro w9 hf9 ha9))
         refine bodyPost_ret (results_at (t := 133) rfl _ _ br LF _ rfl ha9 Tryz.underlying133 rfl (by rw [HLX.out.1]; kernel_rfl)) rfl ⟨by rw [HLF.out], ?_⟩
         exact HY.out.1.fr.trans' hf9 (by simp; omega)
end Go.Proofs.YtlepfnihpdhcaaaGreatDoor
namespace Go.Proofs.YtlepfnihpdhcaaaGreatDoor
open Go.RowKit
theorem pad_blocks (xs : List UInt8) : ∃ q, (xs ++ shaPad xs.length).length = 64 * q := by
 have := shaPad_len xs.length
 exact ⟨(xs ++ shaPad xs.length).length / 64, by rw [List.length_append]; omega⟩
theorem refSum_any (A : Option Addr) (cp : Nat) (xs : List UInt8) (w : World) (hrow : RowIn w A (B8 xs)) (hlen : xs.length ≤ 68719476736) :
  Calls Tryz.prog 52 #[.slice A xs.length cp] w fun e w' => e = .returned (.string (strOf (sha xs))) ∧ Fr [] w w' := by
 have H := Lib.hid (And.intro hrow hlen)
 clear hrow hlen
 obtain ⟨n, HN⟩ : ∃ n, Hid (n = xs.length) := ⟨_, rfl⟩
 rw [← HN.out]
 obtain ⟨UI, HUI⟩ : ∃ UI, Hid (UI = U4 shaI) := ⟨_, rfl⟩
 go_enter Tryz.func52, Tryz.ntmps52
 go_wp2_with (first
  | (refine wpList_build_to rfl 133 _ rfl UI.toArray (by rw [HUI.out]; kernel_rfl) ?_)
  | (refine wpList_store_new rfl 133 (.tmp 3) (.tmp 8) rfl rfl 133 _ UI rfl (by rw [HUI.out]; rfl) (by rw [HUI.out]; kernel_rfl) (by rw [HUI.out]; exact U4_one _) ?_; intro w1 hf1 ha1))
 obtain ⟨bh, hbh⟩ : ∃ bh, bh = w.heap.size := ⟨_, rfl⟩
 rw [← hbh] at ha1 ⊢
 have HP := Lib.hid (refPad_any A cp xs w1 (H.out.1.fr0 hf1) H.out.2)
 rw [← HN.out] at HP
 have H1 : Hid (Fr [] w w1 ∧ At w1 bh 133 (U4 shaI) ∧ bh = w.heap.size) := ⟨hf1, by rw [← HUI.out]; exact ha1, hbh⟩
 clear hf1 ha1 hbh
 go_wp2_with fail
 refine HP.out.mono ?_
 rintro e w2 ⟨A2, c2, rfl, hf2, hown2⟩
 obtain ⟨p, HPP⟩ : ∃ p, Hid (p = xs ++ shaPad n) := ⟨_, rfl⟩
 rw [← HPP.out] at hown2 ⊢
 obtain ⟨q, HQ⟩ : ∃ q, Hid (p.length = 64 * q) := by rw [HPP.out, HN.out]; exact pad_blocks xs
 have hpl : p.length ≤ 68719476864 := by
  rw [HPP.out, HN.out, List.length_append]
  have := H.out.2
  simp only [shaPad, List.length_append, List.length_cons, List.length_replicate, List.length_nil]
  omega
 have HR := Lib.hid (RowIn.of_own hown2)
 have hcap2 : p.length ≤ c2 := by
  have hb : BR w1 w2 (.slice A2 p.length c2) p := ⟨hf2, hown2⟩
  exact hb.cap
 obtain ⟨g, o, rfl, hg⟩ := HR.out.some (by rw [HPP.out, List.length_append]; simp [shaPad]; omega)
 have hgb : g ≠ bh := by
  have hb : BR w1 w2 (.slice (some ⟨g, o, none⟩) p.length c2) p := ⟨hf2, hown2⟩
  have := hb.far g o rfl
  have := H1.out.2.1.lt
  omega
 have H2 : Hid (Fr [] w w2 ∧ At w2 bh 133 (U4 shaI)) := ⟨H1.out.1.trans hf2, H1.out.2.1.fr hf2 (by simp)⟩
 clear hown2 hf2 HP
 obtain ⟨pl, HPL⟩ : ∃ pl, Hid (pl = p.length) := ⟨_, rfl⟩
 rw [← HPL.out] at hpl hcap2 HQ ⊢
 go_wp2_with fail
 go_loopw [5] (fun i wx => ∃ (k j : Nat), i = .int .i64 j ∧ j ≤ pl ∧ Hid (j = 64 * k ∧ Fr [bh] w2 wx ∧ At wx bh 133 (U4 (hashN k shaI p)))) (fun i _ => pl - (intOf i).toNat)
 case atStart => exact ⟨0, 0, rfl, by omega, rfl, Fr.refl _ _, H2.out.2⟩
 case round =>
  obtain ⟨k, j, rfl, hj, HL⟩ := hrel
  by_cases hlt : j < pl
  ·have hj64 : j + 64 ≤ pl := by have h1 := HL.out.1; have h2 := HQ.out; omega
   obtain ⟨h0, h1, h2, h3, h4, h5, h6, h7, HH⟩ : ∃ h0 h1 h2 h3 h4 h5 h6 h7 : Nat, Hid (hashN k shaI p = [h0, h1, h2, h3, h4, h5, h6, h7]) := by
    have hl := (hashN_ok k shaI p rfl shaI_w32).1
    generalize hashN k shaI p = X at hl
    match X, hl with
    | [h0, h1, h2, h3, h4, h5, h6, h7], _ => exact ⟨h0, h1, h2, h3, h4, h5, h6, h7, rfl⟩
   have hab := HL.out.2.2
   rw [HH.out] at hab
   have d0 : wr.cell? ⟨bh, 0, none⟩ = some (.int .u32 (h0 : Int)) := by rw [hab.cell]; rfl
   have d1 : wr.cell? ⟨bh, 1, none⟩ = some (.int .u32 (h1 : Int)) := by rw [hab.cell]; rfl
   have d2 : wr.cell? ⟨bh, 2, none⟩ = some (.int .u32 (h2 : Int)) := by rw [hab.cell]; rfl
   have d3 : wr.cell? ⟨bh, 3, none⟩ = some (.int .u32 (h3 : Int)) := by rw [hab.cell]; rfl
   have d4 : wr.cell? ⟨bh, 4, none⟩ = some (.int .u32 (h4 : Int)) := by rw [hab.cell]; rfl
   have d5 : wr.cell? ⟨bh, 5, none⟩ = some (.int .u32 (h5 : Int)) := by rw [hab.cell]; rfl
   have d6 : wr.cell? ⟨bh, 6, none⟩ = some (.int .u32 (h6 : Int)) := by rw [hab.cell]; rfl
   have d7 : wr.cell? ⟨bh, 7, none⟩ = some (.int .u32 (h7 : Int)) := by rw [hab.cell]; rfl
   have HAB := Lib.hid hab
   clear hab
   obtain ⟨o2, cp2, ho2, hsl⟩ : ∃ o2 cp2 : Nat, o2 = o + j ∧ ∀ W : World, (Instr.slice 37 (.slice (some ⟨g, o, none⟩) pl c2) (some (.int .i64 (j : Int))) (some (.int .i64 ((j : Int) + 64))) none).run Tryz.prog W = .ok (.slice (some ⟨g, o2, none⟩) 64 cp2) W := by
    refine ⟨o + j, c2 - j, rfl, fun W => ?_⟩
    have hne : ¬ (c2 = j) := by omega
    rw [run_slice_lh W 37 (some ⟨g, o, none⟩) pl c2 (by kernel_rfl) .i64 .i64 (j : Int) ((j : Int) + 64) (by omega) (by omega) (by omega), show (sizeOf (Tryz.prog.elem 37)).run Tryz.prog W = .ok 1 W by kernel_rfl]
    have e1 : ((j : Int) + 64).toNat = j + 64 := by omega
    simp [sliced, hne, add_none, e1]
   have HO2 := Lib.hid ho2
   clear ho2
   have HROW : Hid (RowIn wr.drew (some ⟨g, o2, none⟩) (B8 ((p.drop (64 * k)).take 64))) := by
    have h5 := (HR.out.fr HL.out.2.1 (by intro b o' e; injection e with e; injection e with e1 e2; subst e1; simpa using hgb)).dropB (k := j) (o' := o2) (fun _ => HO2.out)
    rw [← HL.out.1]
    exact h5.takeB
   have HC := Lib.hid (refBlock_any g o2 cp2 [h0, h1, h2, h3, h4, h5, h6, h7] ((p.drop (64 * k)).take 64) wr.drew rfl (by rw [← HH.out]; exact (hashN_ok k shaI p rfl shaI_w32).2) (by have e1 := HL.out.1; have e2 := HPL.out; rw [List.length_take, List.length_drop]; omega) HROW.out)
   have hw1 : IntKind.i64.wrap ((j : Int) + 64) = (j : Int) + 64 := IntWalk.i64_in _ (by omega)
   go_wp2_with fail
   go_still_tail 6, (by kernel_rfl)
   change wpList _ _ _ _ _ wr.drew
   go_wp2_with fail
   refine HC.out.mono ?_
   rintro e w3 ⟨rfl, hf3⟩
   obtain ⟨LF, HLF⟩ : ∃ LF, Hid (LF = U4 (compress [h0, h1, h2, h3, h4, h5, h6, h7] ((p.drop (64 * k)).take 64))) := ⟨_, rfl⟩
   rw [← HLF.out]
   have HLX : Hid (LF.length = 8 ∧ (∀ v ∈ LF, v.oneCell' = true)) := by
    show _ ∧ _
    rw [HLF.out, U4_len]
    exact ⟨compress_len _ _ rfl, U4_one _⟩
   obtain ⟨L0, HL0⟩ : ∃ L0, Hid (L0 = U4 [h0, h1, h2, h3, h4, h5, h6, h7]) := ⟨_, rfl⟩
   have HA3 : Hid (Fr [bh] w2 w3 ∧ At w3 bh 133 L0 ∧ L0.length = 8) := ⟨(HL.out.2.1.drew.mono (by simp)).trans' hf3 (by simp), by rw [HL0.out]; exact HAB.out.drew.fr hf3 (by simp), by rw [HL0.out]; rfl⟩
   clear d0 d1 d2 d3 d4 d5 d6 d7 hf3 hsl hw1 HC HAB
   go_wp2_with (refine wpList_store_at rfl 133 (.tmp 3) (.tmp 23) rfl bh 0 rfl 133 L0 LF rfl HA3.out.2.1 (by rw [HA3.out.2.2, HLX.out.1]; exact Nat.le_refl _) (by rw [HLX.out.1]; kernel_rfl) HLX.out.2 LF (by rw [HLX.out.1, List.drop_of_length_le (by rw [HA3.out.2.2]; exact Nat.le_refl _)]; simp) ?_; intro w4 hf4 ha4)
   have HNN : Hid (j + 64 = 64 * (k + 1) ∧ Fr [bh] w2 w4 ∧ At w4 bh 133 (U4 (hashN (k + 1) shaI p))) := by
    refine ⟨by have := HL.out.1; omega, HA3.out.1.trans hf4, ?_⟩
    rw [hashN_succ, HH.out, ← HLF.out]
    exact ha4
   clear hf4 ha4
   go_roundw
   case rel =>
    first
     | exact ⟨k + 1, j + 64, by go_num, by omega, HNN⟩
     | ((repeat apply Exists.intro); exact ⟨⟨k + 1, j + 64, by go_num, by omega, HNN⟩, rfl⟩)
   case measure => simp [intOf] <;> omega
  ·obtain rfl : j = pl := by omega
   obtain ⟨X, HX⟩ : ∃ X, Hid (X = hashN k shaI p) := ⟨_, rfl⟩
   have HX8 : Hid (X.length = 8 ∧ (∀ x ∈ X, W32 x) ∧ digest X = sha xs) := by
    show _ ∧ _ ∧ _
    rw [HX.out]
    refine ⟨(hashN_ok k shaI p rfl shaI_w32).1, (hashN_ok k shaI p rfl shaI_w32).2, ?_⟩
    have e1 := HL.out.1
    have e2 := HPL.out
    rw [sha_eq, shaWords, ← HN.out, ← HPP.out, ← e2, e1, Nat.mul_div_cancel_left _ (by decide)]
   have HZ : Hid (Fr [] w wr ∧ At wr bh 133 (U4 X)) := ⟨(H2.out.1.mono (by simp)).trans' HL.out.2.1 (by have := H1.out.2.2; simp; omega), by rw [HX.out]; exact HL.out.2.2⟩
   obtain ⟨wb, HWB⟩ : ∃ wb, Hid (wb = wr) := ⟨_, rfl⟩
   rw [← HWB.out] at HZ ⊢
   clear HWB HL
   have hbw := HZ.out.2.lt
   go_wp2_with fail
   go_loopw [6, 7] (fun v s wx => ∃ (i : Nat) (A' : Option Addr) (c' : Nat) (es : List UInt8), i ≤ 8 ∧ s = .int .i64 i ∧ v = .slice A' es.length c' ∧ es.length ≤ 4 * i ∧ Hid (es = digest (X.take i)) ∧ Hid (BR wb wx v es)) (fun _ s _ => 8 - (intOf s).toNat)
   case atStart => exact ⟨0, _, _, [], by omega, rfl, rfl, by simp, rfl, (Fr.refl _ _).alloc _, World.ownsRow_made wb #[] 0 (Nat.le_refl _) (Nat.zero_le _) rfl⟩
   case round =>
    obtain ⟨i, A4, c4, es, hi, rfl, rfl, hel, HE, HB4⟩ := hrel
    have hsz4 := HB4.out.size
    by_cases hlt3 : i < 8
    ·obtain ⟨x, hx⟩ : ∃ x, X[i]? = some x := ⟨_, List.getElem?_eq_getElem (by rw [HX8.out.1]; exact hlt3)⟩
     have cx : wr.cell? ⟨bh, i, none⟩ = some (.int .u32 (x : Int)) := by rw [HB4.out.fr.cell (p := ⟨bh, i, none⟩) hbw (by simp), HZ.out.2.cell]; exact U4_get _ _ _ hx
     obtain ⟨y3, HY3⟩ : ∃ y : UInt8, Hid (y = byteAt x 3) := ⟨_, rfl⟩
     obtain ⟨y2, HY2⟩ : ∃ y : UInt8, Hid (y = byteAt x 2) := ⟨_, rfl⟩
     obtain ⟨y1, HY1⟩ : ∃ y : UInt8, Hid (y = byteAt x 1) := ⟨_, rfl⟩
     obtain ⟨y0, HY0⟩ : ∃ y : UInt8, Hid (y = byteAt x 0) := ⟨_, rfl⟩
     have k3 : IntKind.u8.wrap ((x : Int) / 16777216) = (y3.toNat : Int) := by rw [HY3.out]; exact byteAt_wrap x 3
     have k2 : IntKind.u8.wrap ((x : Int) / 65536) = (y2.toNat : Int) := by rw [HY2.out]; exact byteAt_wrap x 2
     have k1 : IntKind.u8.wrap ((x : Int) / 256) = (y1.toNat : Int) := by rw [HY1.out]; exact byteAt_wrap x 1
     have k0 : IntKind.u8.wrap (x : Int) = (y0.toNat : Int) := by rw [HY0.out]; have := byteAt_wrap x 0; simpa using this
     have HXX : Hid (digest (X.take (i + 1)) = digest (X.take i) ++ [y3, y2, y1, y0]) := by
      obtain ⟨h1, e1⟩ := List.getElem?_eq_some_iff.1 hx
      show digest _ = _
      rw [List.take_succ_eq_append_getElem h1, e1, digest, List.flatMap_append, HY3.out, HY2.out, HY1.out, HY0.out]
      simp [digest]
     have hiI : (i : Int) < 8 := by omega
     have HCX : Hid ((U4 X)[i]? = some (.int .u32 (x : Int))) := U4_get _ _ _ hx
     clear hx
     go_wp2_with fail
     have hne : wr.heap.size ≠ bh := by omega
     have hne' : bh ≠ wr.heap.size := by omega
     have hbr : bh < wr.heap.size := by omega
     go_region_held3 (fun w' => w'.cell? ⟨bh, i, none⟩ = some (.int .u32 (x : Int))) (first | go_keep | (rw [HG.out.cell (p := ⟨bh, i, none⟩) hbr (by simp)]; assumption))
      ((refine step_app el_u8 rfl (.tmp 29) (.tmp 49) rfl wb.heap.size (.slice A4 es.length c4) es.length (B8 es) (by simp [Act.eval]) (by exact HB4.out.own.alloc _) (some ⟨wr.heap.size, 0, none⟩) 4 4 (B8 [y3, y2, y1, y0]) (by simp [Act.eval]) rfl (by exact CellsAt.new _ _ (B8 [y3, y2, y1, y0])) (B8_one _) (by omega) (by simp; omega) ?_; intro v2 w5 hown2 hg2 hb2; have HG : Hid (Fr [] wb w5) := (fr_push (HB4.out.fr.alloc _) (HB4.out.own.alloc _) (grown_drew hg2)); obtain ⟨A3, c3, cs3, HC3, hc3, rfl, HB3⟩ := BR.push (xs := [y3, y2, y1, y0]) (HB4.out.alloc _) hown2 (grown_drew hg2); have cx5 : w5.cell? ⟨bh, i, none⟩ = some (.int .u32 (x : Int)) := (by rw [HG.out.cell (p := ⟨bh, i, none⟩) hbw (by simp), HZ.out.2.cell]; exact HCX.out); clear hown2 hg2 hb2))
     have HC4 : Hid (cs3 = digest (X.take (i + 1))) := by show cs3 = _; rw [HC3.out, HXX.out, HE.out]
     have h3 : cs3.length ≤ es.length + 4 := hc3
     rename_i hHeld
     clear hHeld k3 k2 k1 k0 cx cx5
     go_wp2_with fail
     go_roundw
     case rel =>
      first
       | exact ⟨i + 1, A3, c3, cs3, by omega, by go_num, rfl, by omega, HC4, HB3⟩
       | ((repeat apply Exists.intro); exact ⟨⟨i + 1, A3, c3, cs3, by omega, by go_num, rfl, by omega, HC4, HB3⟩, rfl⟩)
     case measure => simp [intOf] <;> omega
    ·obtain rfl : i = 8 := by omega
     have hst := run_str (P := Tryz.prog) (src := 37) (dst := 9) Tryz.underlying37 Tryz.underlying5 Tryz.underlying9 wr A4 c4 es HB4.out.row
     go_wp2_with fail
     go_ret
     refine ⟨?_, HZ.out.1.trans HB4.out.fr⟩
     rw [HE.out, List.take_of_length_le (by rw [HX8.out.1]; exact Nat.le_refl _), HX8.out.2.2]
     rfl
end Go.Proofs.YtlepfnihpdhcaaaGreatDoor
namespace Go.Proofs.YtlepfnihpdhcaaaGreatDoor
open Go.RowKit
theorem rsJoin_any (A : Option Addr) (c : Nat) (l : List (List UInt8)) (w : World) (r0 : Rf [] w (Vars)) (r1 : Rf [] w (fun w => RowIn w A (SS l))) (hj : l.flatten.length ≤ 549755813888) (hn : l.length ≤ 1000) :
  Calls Tryz.prog 51 #[(vL A l c)] w fun e w' => e = .returned (vS (sha l.flatten)) ∧ Back [] w [] w' := (shaJoin_any A c l w r0.here r1.here hj hn).mono fun _ _ ⟨he, hf⟩ => ⟨he, Mm.of_fr hf⟩
theorem rsRefSum_any (A : Option Addr) (c : Nat) (bs : List UInt8) (w : World) (r0 : Rf [] w (fun w => RowIn w A (B8 bs))) (hl : bs.length ≤ 68719476736) :
  Calls Tryz.prog 52 #[(vL A bs c)] w fun e w' => e = .returned (vS (sha bs)) ∧ Back [] w [] w' := (refSum_any A c bs w r0.here hl).mono fun _ _ ⟨he, hf⟩ => ⟨he, Mm.of_fr hf⟩
theorem lsItem_any (y : UInt8) (w : World) :
  Calls Tryz.prog 33 #[(.int .u8 ((y.toNat : Nat) : Int))] w fun e w' => e = .returned (vS (itemB y)) ∧ Back [] w [] w' := by
 refine stEnter (args := [(.int .u8 ((y.toNat : Nat) : Int))]) (fps []) Tryz.func33 rfl 15 rfl [(0, (.int .u8 ((y.toNat : Nat) : Int)))] ⟨rfl, trivial⟩ [] (Mm.start w []) ?_
 refine stSeq (reg ?_)
 refine la ?_
 refine liNil (qThen (stSeq (reg ?_)))
 refine la ?_
 refine liNil (qThen (stSeq (stSeq (reg ?_))))
 refine la ?_
 refine liNil (qThen (stBlock ?_))
 refine stLoop (ι := Nat) (fun i => i ≤ 32) (fun i => 32 - i) (fun i => [(0, (.int .u8 ((y.toNat : Nat) : Int))), (2, (.string ⟨#[]⟩)), (3, (vS (List.replicate i y))), (4, (vI i))]) (fun i => []) 0 (by omega) ⟨rfl, rfl, rfl, rfl, trivial⟩ (fun _ h => h) ?_
 intro i hok
 show St _ _ _ [(0, (.int .u8 ((y.toNat : Nat) : Int))), (2, (.string ⟨#[]⟩)), (3, (vS (List.replicate i y))), (4, (vI i))] [] _
 refine stSeq (stSeq (reg ?_))
 refine lm ?_
 refine lc (.bool (decide (((i : Nat) : Int) < 32))) ?_
 refine liNil (qThen ?_)
 refine stCond rfl (fun hc6 => ?_) (fun hc6 => ?_)
 ·have hd6 := of_decide_eq_true hc6
  refine stSkip (qThen (stSeq (stBlock (reg ?_))))
  refine lm ?_
  refine lm ?_
  refine li rfl ?_
  refine opNew (v := fun b => .slice (some ⟨b, 0, none⟩) 1 1) 5 [(.int .u8 ((y.toNat : Nat) : Int))] rfl (by kernel_rfl) (fun _ => by kernel_rfl) (fun b11 => ?_)
  refine lv (v := (vS [y])) (rStr (e := 5) [y] rfl (by kernel_rfl) (by kernel_rfl) (by kernel_rfl) rfl rfl (fun w hM => rowAtI (hM.at (i := 0) rfl) rfl)) ?_
  refine lv (v := (vS ((List.replicate i y) ++ [y]))) (rStrAdd rfl rfl rfl (by simp; omega)) ?_
  refine la ?_
  refine liNil (qBlock (qThen (reg ?_)))
  refine lm ?_
  refine lv (v := (vI (i + 1))) (rAdd _ rfl rfl rfl (by omega) (by omega) (by omega)) ?_
  refine la ?_
  refine liNil (qThen ?_)
  rw [show List.replicate i y ++ [y] = List.replicate (i + 1) y from (List.replicate_succ' ..).symm]
  refine St.drop (cs' := []) (List.nil_sublist _) ?_
  exact stAgain (i + 1) (by show _ ≤ _; omega) (by show 32 - (i + 1) < 32 - i; omega) ⟨rfl, rfl, rfl, rfl, trivial⟩ (fun w hM => hM)
 ·have hd6 := of_decide_eq_false hc6
  refine stExit (qThenX (qThenX (qBlockX (qThen (stSeq (reg ?_))))))
  refine lm ?_
  refine la ?_
  refine liNil (qThen (stRet ?_))
  refine stEnd [(vS (List.replicate i y))] rfl ⟨rfl, trivial⟩ (fun w hM => ?_)
  exact ⟨by rw [show i = 32 by omega]; rfl, hM⟩
theorem rsRefFp_any (A : Option Addr) (c : Nat) (l : List (List UInt8)) (w : World) (r0 : Rf [] w (fun w => RowIn w A (SS l))) (hl : l.length ≤ 68719476736) (hf : l.flatten.length ≤ 68719476736) :
  Calls Tryz.prog 31 #[(vL A l c)] w fun e w' => e = .returned (vS (fpB l)) ∧ Back [] w [] w' := by
 refine stEnter (args := [(vL A l c)]) (fps []) Tryz.func31 rfl 19 rfl [(0, (vL A l c))] ⟨rfl, trivial⟩ [] (Mm.start w []) ?_
 refine stSeq (reg ?_)
 refine la ?_
 refine liNil (qThen (stSeq (reg ?_)))
 refine la ?_
 refine liNil (qThen (stSeq (stSeq (reg ?_))))
 refine lm ?_
 refine lc (vI l.length) ?_
 refine lm ?_
 refine liNil (qThen (stBlock ?_))
 refine stLoop (ι := Nat) (fun i => i ≤ l.length) (fun i => l.length - i) (fun i => [(2, (.string ⟨#[]⟩)), (6, (vL A l c)), (7, (vI l.length)), (3, (vS ((l.take i).flatten))), (8, (vI i))]) (fun i => []) 0 (Nat.zero_le _) ⟨rfl, rfl, rfl, rfl, rfl, trivial⟩ (fun _ h => h) ?_
 intro i hok
 show St _ _ _ [(2, (.string ⟨#[]⟩)), (6, (vL A l c)), (7, (vI l.length)), (3, (vS ((l.take i).flatten))), (8, (vI i))] [] _
 refine stSeq (reg ?_)
 refine lc (.bool (decide (((i : Nat) : Int) < ((l.length : Nat) : Int)))) ?_
 refine liNil (qThen (stSeq ?_))
 refine stCond rfl (fun hc9 => ?_) (fun hc9 => ?_)
 ·have hd9 := of_decide_eq_true hc9
  refine stSkip (qThen (stSeq (stBlock (stSeq (reg ?_)))))
  obtain ⟨x0, hx0⟩ : ∃ ξ, (l)[i]? = some ξ := ⟨_, List.getElem?_eq_getElem (by omega)⟩
  refine St.rowPtr (fun w hM => r0.now hM) (SS_at hx0) (fun p10 q10 hA10 hc10 => ?_)
  refine lv (v := (vP p10 (q10 + i))) (rIndexRow (e := 9) rfl (by kernel_rfl) (by kernel_rfl) rfl rfl hA10 (by omega)) ?_
  refine lv (v := (vS x0)) (rLoadW rfl rfl (by kernel_rfl) hc10) ?_
  refine la ?_
  refine liNil (qThen (reg ?_))
  refine lm ?_
  refine lm ?_
  refine lv (v := (vS ((l.take i).flatten ++ x0))) (rStrAdd rfl rfl rfl (by have := flatten_le (l := l) hx0; omega)) ?_
  refine la ?_
  refine liNil (qBlock (qThen (reg ?_)))
  refine lv (v := (vI (i + 1))) (rAdd _ rfl rfl rfl (by omega) (by omega) (by omega)) ?_
  refine lm ?_
  refine liNil (qThen ?_)
  rw [show (l.take i).flatten ++ x0 = (l.take (i + 1)).flatten from flatten_take hx0]
  exact stAgain (i + 1) (by show _ ≤ _; omega) (by show l.length - (i + 1) < l.length - i; omega) ⟨rfl, rfl, rfl, rfl, rfl, trivial⟩ (fun w hM => hM)
 ·have hd9 := of_decide_eq_false hc9
  obtain rfl : i = l.length := by omega
  rw [List.take_length]
  refine stExit (qThenX (qThenX (qBlockX (qThen (stSeq (reg ?_))))))
  refine lm ?_
  refine li rfl ?_
  refine opBytes (e := 5) (bs := l.flatten) rfl rfl (by kernel_rfl) (by kernel_rfl) (by kernel_rfl) (by kernel_rfl) rfl (fun b17 c17 => ?_)
  refine li rfl ?_
  refine opK0 (fun w hM => (rsRefSum_any (some ⟨b17, 0, none⟩) c17 l.flatten w (hM.keep0 (j := 0) rfl (fun _ h => cBlk_row h)) (by omega)).mono ?_)
  rintro e w' ⟨rfl, hP⟩
  refine ⟨_, _, rfl, hP, ?_⟩; clear hP hM
  refine la ?_
  refine liNil (qThen (stRet ?_))
  refine stEnd [(vS (sha l.flatten))] rfl ⟨rfl, trivial⟩ (fun w hM => ?_)
  exact ⟨rfl, (hM.pick [] rfl rfl)⟩
theorem rsDepth_any (n : Nat) (fan : Nat) (leaf : Nat) (w : World) (hf : 2 ≤ fan) (hf2 : fan ≤ 16) (hl : 1 ≤ leaf) (hl2 : leaf ≤ 64) (hn : n ≤ 16384) :
  Calls Tryz.prog 32 #[(vI n), (.agg #[(vI fan), (vI leaf)])] w fun e w' => e = .returned (vI (depthN fan leaf n)) ∧ Back [] w [] w' := by
 refine stEnter (args := [(vI n), (.agg #[(vI fan), (vI leaf)])]) (fps []) Tryz.func32 rfl 21 rfl [(0, (vI n)), (1, (.agg #[(vI fan), (vI leaf)]))] ⟨rfl, rfl, trivial⟩ [] (Mm.start w []) ?_
 refine stSeq (reg (li rfl ?_))
 refine opBox [(vI fan), (vI leaf)] rfl rfl (by kernel_rfl) rfl rfl (fun b3 => ?_)
 refine la ?_
 refine liNil (qThen (stSeq (reg ?_)))
 refine la ?_
 refine liNil (qThen (stSeq (stBlock ?_)))
 refine stLoop (ι := Nat × Nat) (fun (m, k) => m ≤ 16384 ∧ k ≤ 20000 - m ∧ k + depthN fan leaf m = depthN fan leaf n) (fun (m, k) => m) (fun (m, k) => [(3, (vP b3 0)), (4, (.int .i64 0)), (0, (vI m)), (5, (vI k))]) (fun (m, k) => [cAt b3 24 [(vI fan), (vI leaf)]]) (n, 0) ⟨hn, by omega, by omega⟩ ⟨rfl, rfl, rfl, rfl, trivial⟩ (fun _ h => h) ?_
 rintro ⟨m, k⟩ ⟨hm, hk, hd⟩
 show St _ _ _ [(3, (vP b3 0)), (4, (.int .i64 0)), (0, (vI m)), (5, (vI k))] [cAt b3 24 [(vI fan), (vI leaf)]] _
 refine stSeq (stSeq (reg ?_))
 refine lm ?_
 refine lc (vP b3 1) ?_
 refine lv (v := (vI leaf)) (rLoad 0 rfl rfl (by kernel_rfl) rfl rfl) ?_
 refine lc (.bool (decide (((m : Nat) : Int) > ((leaf : Nat) : Int)))) ?_
 refine liNil (qThen ?_)
 refine stCond rfl (fun hc9 => ?_) (fun hc9 => ?_)
 ·have hd9 := of_decide_eq_true hc9
  obtain ⟨q, hqe⟩ : ∃ q, (m + fan - 1) / fan = q := ⟨_, rfl⟩
  have hq : q < m := by rw [← hqe]; exact div_lt hf (by omega)
  refine stSkip (qThen (stBlock (stSeq (reg ?_))))
  refine lm ?_
  refine lc (vP b3 0) ?_
  refine lv (v := (vI fan)) (rLoad 0 rfl rfl (by kernel_rfl) rfl rfl) ?_
  refine lv (v := (vI (m + fan))) (rAdd _ rfl rfl rfl (by omega) (by omega) (by omega)) ?_
  refine lv (v := (vI (m + fan - 1))) (rSub _ rfl rfl rfl (by omega) (by omega) (by omega)) ?_
  refine lc (vP b3 0) ?_
  refine lv (v := (vI fan)) (rLoad 0 rfl rfl (by kernel_rfl) rfl rfl) ?_
  refine lv (v := (vI q)) (rQuo _ rfl rfl rfl (by omega) (by rw [← hqe]; rfl) (by omega) (by omega)) ?_
  refine la ?_
  refine liNil (qThen (reg ?_))
  refine lm ?_
  refine lv (v := (vI (k + 1))) (rAdd _ rfl rfl rfl (by omega) (by omega) (by omega)) ?_
  refine la ?_
  refine liNil (qBlock (qThen ?_))
  exact stAgain (q, k + 1) (⟨by omega, by omega, by rw [← hd, depthN_step (n := m) hf hl (by omega), hqe]; omega⟩) (hq) ⟨rfl, rfl, rfl, rfl, trivial⟩ (fun w hM => hM)
 ·have hd9 := of_decide_eq_false hc9
  refine stExit (qThenX (qThenX (qBlockX (qThen (stSeq (reg ?_))))))
  refine lm ?_
  refine la ?_
  refine liNil (qThen (stRet ?_))
  refine stEnd [(vI k)] rfl ⟨rfl, trivial⟩ (fun w hM => ?_)
  exact ⟨by rw [← hd, depthN_zero (by omega)]; rfl, (hM.pick [] rfl rfl)⟩
theorem rsBound_ok (n : Nat) (fan : Nat) (leaf : Nat) (w : World) (hok : okP (fan : Int) (leaf : Int) = true) (hf : 2 ≤ fan) (hf2 : fan ≤ 16) (hl : 1 ≤ leaf) (hl2 : leaf ≤ 64) (hn : n ≤ 16384) :
  Calls Tryz.prog 28 #[(vI n), (.agg #[(vI fan), (vI leaf)])] w fun e w' => e = .returned (.tuple #[(vI (2 * depthN fan leaf n + 3)), (.int .i64 0)]) ∧ Back [] w [] w' := by
 refine stEnter (args := [(vI n), (.agg #[(vI fan), (vI leaf)])]) (fps []) Tryz.func28 rfl 35 rfl [(0, (vI n)), (1, (.agg #[(vI fan), (vI leaf)]))] ⟨rfl, rfl, trivial⟩ [] (Mm.start w []) ?_
 refine stSeq (reg (li rfl ?_))
 refine opBox [(vI fan), (vI leaf)] rfl rfl (by kernel_rfl) rfl rfl (fun b3 => ?_)
 refine la ?_
 refine la ?_
 refine liNil (qThen (stSeq (stSeq (reg ?_))))
 refine lv (v := (.agg #[(vI fan), (vI leaf)])) (rLoadA [(vI fan), (vI leaf)] rfl rfl (by kernel_rfl) (by kernel_rfl) (segAt (i := 0) rfl (by intro j v hj; first | (rw [Nat.zero_add]; exact hj) | (match j, hj with | 0, h => exact h | 1, h => exact h)))) ?_
 refine li rfl ?_
 refine opK0 (fun w hM => (rsPvalid_any ((fan : Nat) : Int) ((leaf : Nat) : Int) w ).mono ?_)
 rintro e w' ⟨rfl, hP⟩
 refine ⟨_, _, rfl, hP, ?_⟩; clear hP hM
 rw [hok]
 refine lc (.bool false) ?_
 refine lm ?_
 refine lgm ?_
 refine lgc (.bool (decide (((n : Nat) : Int) < 0))) ?_
 refine lc (.bool (decide (((n : Nat) : Int) < 0))) ?_
 refine lm ?_
 refine St.known 14 (b' := false) rfl (by simp) ?_
 refine lgm ?_
 refine lgc (.bool (decide (((n : Nat) : Int) > 16384))) ?_
 refine lc (.bool (decide (((n : Nat) : Int) > 16384))) ?_
 refine liNil (qThen ?_)
 refine stFalseK rfl (by simp; omega) ?_
 refine stSkip (qThen (stSeq (reg ?_)))
 refine la ?_
 refine liNil (qThen (stSeq (stBlock ?_)))
 refine stLoop (ι := Nat × Nat) (fun (m, k) => m ≤ 16384 ∧ k ≤ 20000 - m ∧ k + depthN fan leaf m = depthN fan leaf n) (fun (m, k) => m) (fun (m, k) => [(3, (vP b3 0)), (4, (.int .i64 0)), (5, (.int .i64 0)), (0, (vI m)), (6, (vI k))]) (fun (m, k) => [cAt b3 33 [(vI fan), (vI leaf)]]) (n, 0) ⟨hn, by omega, by omega⟩ ⟨rfl, rfl, rfl, rfl, rfl, trivial⟩ (fun _ h => h) ?_
 rintro ⟨m, k⟩ ⟨hm, hk, hd⟩
 show St _ _ _ [(3, (vP b3 0)), (4, (.int .i64 0)), (5, (.int .i64 0)), (0, (vI m)), (6, (vI k))] [cAt b3 33 [(vI fan), (vI leaf)]] _
 refine stSeq (stSeq (reg ?_))
 refine lm ?_
 refine lc (vP b3 1) ?_
 refine lv (v := (vI leaf)) (rLoad 0 rfl rfl (by kernel_rfl) rfl rfl) ?_
 refine lc (.bool (decide (((m : Nat) : Int) > ((leaf : Nat) : Int)))) ?_
 refine liNil (qThen ?_)
 refine stCond rfl (fun hc21 => ?_) (fun hc21 => ?_)
 ·have hd21 := of_decide_eq_true hc21
  obtain ⟨q, hqe⟩ : ∃ q, (m + fan - 1) / fan = q := ⟨_, rfl⟩
  have hq : q < m := by rw [← hqe]; exact div_lt hf (by omega)
  refine stSkip (qThen (stBlock (stSeq (reg ?_))))
  refine lm ?_
  refine lc (vP b3 0) ?_
  refine lv (v := (vI fan)) (rLoad 0 rfl rfl (by kernel_rfl) rfl rfl) ?_
  refine lv (v := (vI (m + fan))) (rAdd _ rfl rfl rfl (by omega) (by omega) (by omega)) ?_
  refine lv (v := (vI (m + fan - 1))) (rSub _ rfl rfl rfl (by omega) (by omega) (by omega)) ?_
  refine lc (vP b3 0) ?_
  refine lv (v := (vI fan)) (rLoad 0 rfl rfl (by kernel_rfl) rfl rfl) ?_
  refine lv (v := (vI q)) (rQuo _ rfl rfl rfl (by omega) (by rw [← hqe]; rfl) (by omega) (by omega)) ?_
  refine la ?_
  refine liNil (qThen (reg ?_))
  refine lm ?_
  refine lv (v := (vI (k + 1))) (rAdd _ rfl rfl rfl (by omega) (by omega) (by omega)) ?_
  refine la ?_
  refine liNil (qBlock (qThen ?_))
  exact stAgain (q, k + 1) (⟨by omega, by omega, by rw [← hd, depthN_step (n := m) hf hl (by omega), hqe]; omega⟩) (hq) ⟨rfl, rfl, rfl, rfl, rfl, trivial⟩ (fun w hM => hM)
 ·have hd21 := of_decide_eq_false hc21
  refine stExit (qThenX (qThenX (qBlockX (qThen (stSeq (reg ?_))))))
  refine lm ?_
  refine lv (v := (vI (2 * k))) (rMul _ rfl rfl rfl (by omega) (by omega) (by omega)) ?_
  refine lv (v := (vI (2 * k + 3))) (rAdd _ rfl rfl rfl (by omega) (by omega) (by omega)) ?_
  refine la ?_
  refine la ?_
  refine liNil (qThen (stRet ?_))
  refine stEnd [(vI (2 * k + 3)), (.int .i64 0)] rfl ⟨rfl, rfl, trivial⟩ (fun w hM => ?_)
  exact ⟨by rw [← hd, depthN_zero (by omega)]; rfl, (hM.pick [] rfl rfl)⟩
theorem rsWith_any (A : Option Addr) (c : Nat) (l : List (List UInt8)) (A2 : Option Addr) (c2 : Nat) (m : List (List UInt8)) (w : World) (r0 : Rf [] w (fun w => RowIn w A (SS l))) (r1 : Rf [] w (fun w => RowIn w A2 (SS m))) (hl : l.length ≤ 4294967296) (hl2 : m.length ≤ 4294967296) :
  Calls Tryz.prog 47 #[(vL A l c), (vL A2 m c2)] w fun e w' => ∃ (B : Option Addr) (cb : Nat), e = .returned (vL B (withL l m) cb) ∧ Back [] w [cS B (withL l m) cb] w' := by
 refine stEnter (args := [(vL A l c), (vL A2 m c2)]) (fps []) Tryz.func47 rfl 49 rfl [(0, (vL A l c)), (1, (vL A2 m c2))] ⟨rfl, rfl, trivial⟩ [] (Mm.start w []) ?_
 refine stSeq (reg ?_)
 refine la ?_
 refine liNil (qThen (stSeq (reg (li rfl ?_))))
 refine opNew (v := fun b => .slice (some ⟨b, 0, none⟩) 0 0) 9 [] rfl (by kernel_rfl) (fun _ => by kernel_rfl) (fun b9 => ?_)
 refine lm ?_
 refine li rfl ?_
 refine opMem (fun w hM => hM.toOwn0 0 rfl 1) ?_
 refine opAppend el_strC 0 (SS l) rfl rfl (by kernel_rfl) rfl rfl rfl (by simp) (fun w hM => CellsAt.of_row (r0.now hM)) (SS_one) (by simp only [Nat.zero_add]; omega) ((l).length) (by first | exact (List.length_append ..).symm | (simp; done) | (simp; omega)) (SS (l)) (by simp [SS]) (fun A11 c11 => ?_)
 refine la ?_
 refine liNil (qThen (stSeq (stSeq (reg ?_))))
 refine lm ?_
 refine lc (vI m.length) ?_
 refine lm ?_
 refine liNil (qThen (stBlock ?_))
 refine stLoop (ι := Nat × Option Addr × Nat) (fun (i, B, cb) => i ≤ m.length) (fun (i, B, cb) => m.length - i) (fun (i, B, cb) => [(4, (.slice none 0 0)), (12, (vL A2 m c2)), (13, (vI m.length)), (5, (vL B (withL l (m.take i)) cb)), (14, (vI i))]) (fun (i, B, cb) => [cS B (withL l (m.take i)) cb]) (0, A11, c11) (Nat.zero_le _) ⟨rfl, rfl, rfl, rfl, rfl, trivial⟩ (fun _ h => h) ?_
 rintro ⟨i, B, cb⟩ (hok : i ≤ m.length)
 show St _ _ _ [(4, (.slice none 0 0)), (12, (vL A2 m c2)), (13, (vI m.length)), (5, (vL B (withL l (m.take i)) cb)), (14, (vI i))] [cS B (withL l (m.take i)) cb] _
 refine stSeq (reg ?_)
 refine lc (.bool (decide (((i : Nat) : Int) < ((m.length : Nat) : Int)))) ?_
 refine liNil (qThen (stSeq ?_))
 refine stCond rfl (fun hc15 => ?_) (fun hc15 => ?_)
 ·have hd15 := of_decide_eq_true hc15
  have hwl : (withL l (m.take i)).length ≤ l.length + m.length := by have h := withL_len (m.take i) l; rw [List.length_take] at h; omega
  refine stSkip (qThen (stSeq (stBlock (stSeq (reg ?_)))))
  obtain ⟨x0, hx0⟩ : ∃ ξ, (m)[i]? = some ξ := ⟨_, List.getElem?_eq_getElem (by omega)⟩
  refine St.rowPtr (fun w hM => r1.now hM) (SS_at hx0) (fun p16 q16 hA16 hc16 => ?_)
  refine lv (v := (vP p16 (q16 + i))) (rIndexRow (e := 9) rfl (by kernel_rfl) (by kernel_rfl) rfl rfl hA16 (by omega)) ?_
  refine lv (v := (vS x0)) (rLoadW rfl rfl (by kernel_rfl) hc16) ?_
  refine la ?_
  refine liNil (qThen (stSeq (stSeq (reg ?_))))
  refine lm ?_
  refine lm ?_
  refine li rfl ?_
  refine opK0 (fun w hM => (rsHas_any B cb (withL l (m.take i)) x0 w (hM.keep0 (j := 0) rfl (fun _ h => RowIn.of_own h)) (by omega)).mono ?_)
  rintro e w' ⟨rfl, hP⟩
  refine ⟨_, _, rfl, hP, ?_⟩; clear hP hM
  refine liNil (qThen ?_)
  refine stCond rfl (fun hc20 => ?_) (fun hc20 => ?_)
  ·refine stExit (qThenX (qBlockX (qThen (reg ?_))))
   refine lv (v := (vI (i + 1))) (rAdd _ rfl rfl rfl (by omega) (by omega) (by omega)) ?_
   refine lm ?_
   refine liNil (qThen ?_)
   rw [show withL l (m.take i) = withL l (m.take (i + 1)) from withL_no hx0 hc20]
   exact stAgain (i + 1, B, cb) (by show _ ≤ _; omega) (by show m.length - (i + 1) < m.length - i; omega) ⟨rfl, rfl, rfl, rfl, rfl, trivial⟩ (fun w hM => hM)
  ·refine stSkip (qThen (stSeq (reg ?_)))
   refine la ?_
   refine liNil (qThen (stSeq (stBlock ?_)))
   refine stLoop (ι := Nat) (fun k => k ≤ posB (withL l (m.take i)) x0) (fun k => (withL l (m.take i)).length - k) (fun k => [(4, (.slice none 0 0)), (5, (vL B (withL l (m.take i)) cb)), (7, (vS x0)), (12, (vL A2 m c2)), (13, (vI m.length)), (14, (vI i)), (8, (vI k))]) (fun k => [cS B (withL l (m.take i)) cb]) 0 (Nat.zero_le _) ⟨rfl, rfl, rfl, rfl, rfl, rfl, rfl, trivial⟩ (fun _ h => h) ?_
   intro k hok2
   show St _ _ _ [(4, (.slice none 0 0)), (5, (vL B (withL l (m.take i)) cb)), (7, (vS x0)), (12, (vL A2 m c2)), (13, (vI m.length)), (14, (vI i)), (8, (vI k))] [cS B (withL l (m.take i)) cb] _
   refine stSeq (stSeq (reg ?_))
   refine lm ?_
   refine lm ?_
   refine lc (vI ((withL l (m.take i)).length)) ?_
   refine lc (.bool (decide (((k : Nat) : Int) < (((withL l (m.take i)).length : Nat) : Int)))) ?_
   refine lm ?_
   refine St.dec 25 rfl (fun hc25 => ?_) (fun hc25 => ?_)
   ·have hd25 := of_decide_eq_true hc25
    refine lgm ?_
    refine lgm ?_
    obtain ⟨x1, hx1⟩ : ∃ ξ, (withL l (m.take i))[k]? = some ξ := ⟨_, List.getElem?_eq_getElem (by omega)⟩
    refine St.rowPtr (fun w hM => rowOwn (i := 0) rfl w hM) (SS_at hx1) (fun p28 q28 hA28 hc28 => ?_)
    refine lgv (v := (vP p28 (q28 + k))) (rIndexRow (e := 9) rfl (by kernel_rfl) (by kernel_rfl) rfl rfl hA28 (by omega)) ?_
    refine lgv (v := (vS x1)) (rLoadW rfl rfl (by kernel_rfl) hc28) ?_
    refine lgm ?_
    refine lgv (v := (.bool (decide (x1 < x0)))) (rStrLt rfl rfl rfl) ?_
    refine lc (.bool (decide (x1 < x0))) ?_
    refine liNil (qThen ?_)
    refine stCond rfl (fun hc32 => ?_) (fun hc32 => ?_)
    ·have hd32 := of_decide_eq_true hc32
     refine stSkip (qThen (stBlock (reg ?_)))
     refine lm ?_
     refine lv (v := (vI (k + 1))) (rAdd _ rfl rfl rfl (by omega) (by omega) (by omega)) ?_
     refine la ?_
     refine liNil (qBlock (qThen ?_))
     exact stAgain (k + 1) ((posB_step hok2 hx1).1 (by simpa using hc32)) (by show (withL l (m.take i)).length - (k + 1) < (withL l (m.take i)).length - k; omega) ⟨rfl, rfl, rfl, rfl, rfl, rfl, rfl, trivial⟩ (fun w hM => hM)
    ·have hd32 := of_decide_eq_false hc32
     have hk : k = posB (withL l (m.take i)) x0 := by have h := mt (posB_step hok2 hx1).2 (by simpa using hc32); omega
     refine stExit (qThenX (qThenX (qBlockX (qThen ?_))))
     have hkl : k ≤ (withL l (m.take i)).length := by rw [hk]; exact posB_le _ _
     refine anyBegin [cS B (withL l (m.take i)) cb] 13 (by kernel_rfl) (fun _ h => h) ?_
     refine am 1 ?_
     refine am 2 ?_
     refine Any.fact (fun w hM => own_cap (hM.at (i := 0) rfl)) (fun hcap38 => ?_)
     refine av 3 (vL B ((withL l (m.take i)).take k) cb) rfl (rConv (rSliceHi (e := 9) rfl (by kernel_rfl) (by kernel_rfl) rfl rfl (by have := hcap38; omega)) (by show Value.slice _ _ _ = Value.slice _ _ _; rw [List.length_take, Nat.min_eq_left (by omega)])) ?_
     refine am 5 ?_
     refine am 8 ?_
     refine am 9 ?_
     refine Any.fact (fun w hM => own_cap (hM.at (i := 0) rfl)) (fun hcap45 => ?_)
     refine av 10 (vL (if cb = k then B else B.map (·.add (k * 1))) ((withL l (m.take i)).drop k) (cb - k)) rfl (rConv (rSliceLo (e := 9) (sz := 1) rfl (by kernel_rfl) (by kernel_rfl) rfl rfl (by omega)) (by show Value.slice _ _ _ = Value.slice _ _ _; rw [List.length_drop])) ?_
     refine anyTwo (i := 0) (j := 6) (by kernel_rfl) rfl rfl rfl rfl ?_ ?_
     ·refine opNew (v := fun b => .slice (some ⟨b, 0, none⟩) 0 0) 9 [] rfl (by kernel_rfl) (fun _ => by kernel_rfl) (fun b35 => ?_)
      refine St.to [cS B (withL l (m.take i)) cb, cAt b35 9 []] (by kernel_rfl) ?_
      refine anyNext [cS B (withL l (m.take i)) cb] (fun _ h => h) (fun _ h => h.pick [0] rfl rfl) ?_
      refine anyTwo (i := 4) (j := 6) (by kernel_rfl) rfl rfl rfl rfl ?_ ?_
      ·refine opMem (fun w hM => hM.toOwn0 1 rfl 1) ?_
       refine opAppend el_strC 1 (SS ((withL l (m.take i)).take k)) rfl rfl (by kernel_rfl) rfl rfl rfl (by simp) (fun w hM => CellsAt.of_row (rowTake k (rowOwn (i := 0) rfl w hM))) (SS_one) (by first | (simp; omega) | (simp; done)) (((withL l (m.take i)).take k).length) (by first | exact (List.length_append ..).symm | (simp; done) | (simp; omega)) (SS ((withL l (m.take i)).take k)) (by simp [SS]) (fun A39 c39 => ?_)
       refine anyNext [cS B (withL l (m.take i)) cb] (fun _ h => h) (fun _ h => h.pick [0] rfl rfl) ?_
       refine a1 6 ?_
       refine opNew (v := fun b => .slice (some ⟨b, 0, none⟩) 1 1) 9 [(vS x0)] rfl (by kernel_rfl) (fun _ => by kernel_rfl) (fun b41 => ?_)
       refine anyNext [cS B (withL l (m.take i)) cb, cAt b41 9 [(vS x0)]] (fun _ h => h.pick [0] rfl rfl) (fun _ h => h.pick [0, 2] rfl rfl) ?_
       refine a1 7 ?_
       refine opAppend el_strC 1 ([(vS x0)]) rfl rfl (by kernel_rfl) rfl rfl rfl (rfl) (srcAt (i := 2) rfl (fun j v h => by rw [Nat.zero_add]; exact h)) (by simp [Value.oneCell']) (by first | (simp; omega) | (simp; done)) (((withL l (m.take i)).take k ++ [x0]).length) (by first | exact (List.length_append ..).symm | (simp; done) | (simp; omega)) (SS ((withL l (m.take i)).take k ++ [x0])) (by simp [SS]) (fun A42 c42 => ?_)
       refine anyNext [cS B (withL l (m.take i)) cb, cAt b41 9 [(vS x0)]] (fun _ h => h) (fun _ h => h.pick [0, 2] rfl rfl) ?_
       refine a1 11 ?_
       refine opAppend el_strC 1 (SS ((withL l (m.take i)).drop k)) rfl rfl (by kernel_rfl) rfl rfl rfl (by simp) (fun w hM => CellsAt.of_row (rowDrop k (rowOwn (i := 0) rfl w hM) (hcap45))) (SS_one) (by first | (simp; omega) | (simp; done)) (((withL l (m.take i)).take k ++ [x0] ++ ((withL l (m.take i)).drop k)).length) (by first | exact (List.length_append ..).symm | (simp; done) | (simp; omega)) (SS ((withL l (m.take i)).take k ++ [x0] ++ ((withL l (m.take i)).drop k))) (by simp [SS]) (fun A46 c46 => ?_)
       refine anyNext [cS B (withL l (m.take i)) cb, cS A46 ((withL l (m.take i)).take k ++ [x0] ++ ((withL l (m.take i)).drop k)) c46, cAt b41 9 [(vS x0)]] (fun _ h => h.pick [0, 2] rfl rfl) (fun _ h => h) ?_
       refine aa 12 ?_
       refine anyDone (by kernel_rfl) ?_
       refine qBlock (qThen ?_)
       refine St.to [cS B (withL l (m.take i)) cb, cS A46 ((withL l (m.take i)).take k ++ [x0] ++ ((withL l (m.take i)).drop k)) c46, cAt b41 9 [(vS x0)]] (by kernel_rfl) ?_
       refine reg ?_
       refine lv (v := (vI (i + 1))) (rAdd _ rfl rfl rfl (by omega) (by omega) (by omega)) ?_
       refine lm ?_
       refine liNil (qThen ?_)
       rw [show (withL l (m.take i)).take k ++ [x0] ++ ((withL l (m.take i)).drop k) = withL l (m.take (i + 1)) from withL_yes hx0 hc20 hk]
       exact stAgain (i + 1, A46, c46) (by show _ ≤ _; omega) (by show m.length - (i + 1) < m.length - i; omega) ⟨rfl, rfl, rfl, rfl, rfl, trivial⟩ (fun w hM => (hM.pick [1] rfl rfl))
      ·refine opNew (v := fun b => .slice (some ⟨b, 0, none⟩) 1 1) 9 [(vS x0)] rfl (by kernel_rfl) (fun _ => by kernel_rfl) (fun b41 => ?_)
       refine anyNext [cS B (withL l (m.take i)) cb, cAt b41 9 [(vS x0)]] (fun _ h => h.pick [0] rfl rfl) (fun _ h => h.pick [0, 2] rfl rfl) ?_
       refine a1 4 ?_
       refine opMem (fun w hM => hM.toOwn0 1 rfl 1) ?_
       refine opAppend el_strC 1 (SS ((withL l (m.take i)).take k)) rfl rfl (by kernel_rfl) rfl rfl rfl (by simp) (fun w hM => CellsAt.of_row (rowTake k (rowOwn (i := 0) rfl w hM))) (SS_one) (by first | (simp; omega) | (simp; done)) (((withL l (m.take i)).take k).length) (by first | exact (List.length_append ..).symm | (simp; done) | (simp; omega)) (SS ((withL l (m.take i)).take k)) (by simp [SS]) (fun A39 c39 => ?_)
       refine anyNext [cS B (withL l (m.take i)) cb, cAt b41 9 [(vS x0)]] (fun _ h => h) (fun _ h => h.pick [0, 2] rfl rfl) ?_
       refine a1 7 ?_
       refine opAppend el_strC 1 ([(vS x0)]) rfl rfl (by kernel_rfl) rfl rfl rfl (rfl) (srcAt (i := 2) rfl (fun j v h => by rw [Nat.zero_add]; exact h)) (by simp [Value.oneCell']) (by first | (simp; omega) | (simp; done)) (((withL l (m.take i)).take k ++ [x0]).length) (by first | exact (List.length_append ..).symm | (simp; done) | (simp; omega)) (SS ((withL l (m.take i)).take k ++ [x0])) (by simp [SS]) (fun A42 c42 => ?_)
       refine anyNext [cS B (withL l (m.take i)) cb, cAt b41 9 [(vS x0)]] (fun _ h => h) (fun _ h => h.pick [0, 2] rfl rfl) ?_
       refine a1 11 ?_
       refine opAppend el_strC 1 (SS ((withL l (m.take i)).drop k)) rfl rfl (by kernel_rfl) rfl rfl rfl (by simp) (fun w hM => CellsAt.of_row (rowDrop k (rowOwn (i := 0) rfl w hM) (hcap45))) (SS_one) (by first | (simp; omega) | (simp; done)) (((withL l (m.take i)).take k ++ [x0] ++ ((withL l (m.take i)).drop k)).length) (by first | exact (List.length_append ..).symm | (simp; done) | (simp; omega)) (SS ((withL l (m.take i)).take k ++ [x0] ++ ((withL l (m.take i)).drop k))) (by simp [SS]) (fun A46 c46 => ?_)
       refine anyNext [cS B (withL l (m.take i)) cb, cS A46 ((withL l (m.take i)).take k ++ [x0] ++ ((withL l (m.take i)).drop k)) c46, cAt b41 9 [(vS x0)]] (fun _ h => h.pick [0, 2] rfl rfl) (fun _ h => h) ?_
       refine aa 12 ?_
       refine anyDone (by kernel_rfl) ?_
       refine qBlock (qThen ?_)
       refine St.to [cS B (withL l (m.take i)) cb, cS A46 ((withL l (m.take i)).take k ++ [x0] ++ ((withL l (m.take i)).drop k)) c46, cAt b41 9 [(vS x0)]] (by kernel_rfl) ?_
       refine reg ?_
       refine lv (v := (vI (i + 1))) (rAdd _ rfl rfl rfl (by omega) (by omega) (by omega)) ?_
       refine lm ?_
       refine liNil (qThen ?_)
       rw [show (withL l (m.take i)).take k ++ [x0] ++ ((withL l (m.take i)).drop k) = withL l (m.take (i + 1)) from withL_yes hx0 hc20 hk]
       exact stAgain (i + 1, A46, c46) (by show _ ≤ _; omega) (by show m.length - (i + 1) < m.length - i; omega) ⟨rfl, rfl, rfl, rfl, rfl, trivial⟩ (fun w hM => (hM.pick [1] rfl rfl))
     ·refine opNew (v := fun b => .slice (some ⟨b, 0, none⟩) 1 1) 9 [(vS x0)] rfl (by kernel_rfl) (fun _ => by kernel_rfl) (fun b41 => ?_)
      refine anyNext [cS B (withL l (m.take i)) cb, cAt b41 9 [(vS x0)]] (fun _ h => h.pick [0] rfl rfl) (fun _ h => h) ?_
      refine a1 0 ?_
      refine opNew (v := fun b => .slice (some ⟨b, 0, none⟩) 0 0) 9 [] rfl (by kernel_rfl) (fun _ => by kernel_rfl) (fun b35 => ?_)
      refine anyNext [cS B (withL l (m.take i)) cb, cAt b41 9 [(vS x0)]] (fun _ h => h) (fun _ h => h.pick [0, 1] rfl rfl) ?_
      refine a1 4 ?_
      refine opMem (fun w hM => hM.toOwn0 2 rfl 1) ?_
      refine opAppend el_strC 2 (SS ((withL l (m.take i)).take k)) rfl rfl (by kernel_rfl) rfl rfl rfl (by simp) (fun w hM => CellsAt.of_row (rowTake k (rowOwn (i := 0) rfl w hM))) (SS_one) (by first | (simp; omega) | (simp; done)) (((withL l (m.take i)).take k).length) (by first | exact (List.length_append ..).symm | (simp; done) | (simp; omega)) (SS ((withL l (m.take i)).take k)) (by simp [SS]) (fun A39 c39 => ?_)
      refine anyNext [cS B (withL l (m.take i)) cb, cAt b41 9 [(vS x0)]] (fun _ h => h) (fun _ h => h.pick [0, 1] rfl rfl) ?_
      refine a1 7 ?_
      refine opAppend el_strC 2 ([(vS x0)]) rfl rfl (by kernel_rfl) rfl rfl rfl (rfl) (srcAt (i := 1) rfl (fun j v h => by rw [Nat.zero_add]; exact h)) (by simp [Value.oneCell']) (by first | (simp; omega) | (simp; done)) (((withL l (m.take i)).take k ++ [x0]).length) (by first | exact (List.length_append ..).symm | (simp; done) | (simp; omega)) (SS ((withL l (m.take i)).take k ++ [x0])) (by simp [SS]) (fun A42 c42 => ?_)
      refine anyNext [cS B (withL l (m.take i)) cb, cAt b41 9 [(vS x0)]] (fun _ h => h) (fun _ h => h.pick [0, 1] rfl rfl) ?_
      refine a1 11 ?_
      refine opAppend el_strC 2 (SS ((withL l (m.take i)).drop k)) rfl rfl (by kernel_rfl) rfl rfl rfl (by simp) (fun w hM => CellsAt.of_row (rowDrop k (rowOwn (i := 0) rfl w hM) (hcap45))) (SS_one) (by first | (simp; omega) | (simp; done)) (((withL l (m.take i)).take k ++ [x0] ++ ((withL l (m.take i)).drop k)).length) (by first | exact (List.length_append ..).symm | (simp; done) | (simp; omega)) (SS ((withL l (m.take i)).take k ++ [x0] ++ ((withL l (m.take i)).drop k))) (by simp [SS]) (fun A46 c46 => ?_)
      refine anyNext [cS B (withL l (m.take i)) cb, cAt b41 9 [(vS x0)], cS A46 ((withL l (m.take i)).take k ++ [x0] ++ ((withL l (m.take i)).drop k)) c46] (fun _ h => h.pick [0, 1] rfl rfl) (fun _ h => h) ?_
      refine aa 12 ?_
      refine anyDone (by kernel_rfl) ?_
      refine qBlock (qThen ?_)
      refine St.to [cS B (withL l (m.take i)) cb, cAt b41 9 [(vS x0)], cS A46 ((withL l (m.take i)).take k ++ [x0] ++ ((withL l (m.take i)).drop k)) c46] (by kernel_rfl) ?_
      refine reg ?_
      refine lv (v := (vI (i + 1))) (rAdd _ rfl rfl rfl (by omega) (by omega) (by omega)) ?_
      refine lm ?_
      refine liNil (qThen ?_)
      rw [show (withL l (m.take i)).take k ++ [x0] ++ ((withL l (m.take i)).drop k) = withL l (m.take (i + 1)) from withL_yes hx0 hc20 hk]
      exact stAgain (i + 1, A46, c46) (by show _ ≤ _; omega) (by show m.length - (i + 1) < m.length - i; omega) ⟨rfl, rfl, rfl, rfl, rfl, trivial⟩ (fun w hM => (hM.pick [2] rfl rfl))
   ·have hd25 := of_decide_eq_false hc25
    have hk : k = posB (withL l (m.take i)) x0 := posB_end hok2 (by omega)
    refine lnF ?_
    refine lnF ?_
    refine lnF ?_
    refine lnF ?_
    refine lnF ?_
    refine lnF ?_
    refine lc (.bool false) ?_
    refine liNil (qThen (stFalse rfl (stExit (qThenX (qThenX (qBlockX (qThen ?_)))))))
    have hkl : k ≤ (withL l (m.take i)).length := by rw [hk]; exact posB_le _ _
    refine anyBegin [cS B (withL l (m.take i)) cb] 13 (by kernel_rfl) (fun _ h => h) ?_
    refine am 1 ?_
    refine am 2 ?_
    refine Any.fact (fun w hM => own_cap (hM.at (i := 0) rfl)) (fun hcap38 => ?_)
    refine av 3 (vL B ((withL l (m.take i)).take k) cb) rfl (rConv (rSliceHi (e := 9) rfl (by kernel_rfl) (by kernel_rfl) rfl rfl (by have := hcap38; omega)) (by show Value.slice _ _ _ = Value.slice _ _ _; rw [List.length_take, Nat.min_eq_left (by omega)])) ?_
    refine am 5 ?_
    refine am 8 ?_
    refine am 9 ?_
    refine Any.fact (fun w hM => own_cap (hM.at (i := 0) rfl)) (fun hcap45 => ?_)
    refine av 10 (vL (if cb = k then B else B.map (·.add (k * 1))) ((withL l (m.take i)).drop k) (cb - k)) rfl (rConv (rSliceLo (e := 9) (sz := 1) rfl (by kernel_rfl) (by kernel_rfl) rfl rfl (by omega)) (by show Value.slice _ _ _ = Value.slice _ _ _; rw [List.length_drop])) ?_
    refine anyTwo (i := 0) (j := 6) (by kernel_rfl) rfl rfl rfl rfl ?_ ?_
    ·refine opNew (v := fun b => .slice (some ⟨b, 0, none⟩) 0 0) 9 [] rfl (by kernel_rfl) (fun _ => by kernel_rfl) (fun b35 => ?_)
     refine St.to [cS B (withL l (m.take i)) cb, cAt b35 9 []] (by kernel_rfl) ?_
     refine anyNext [cS B (withL l (m.take i)) cb] (fun _ h => h) (fun _ h => h.pick [0] rfl rfl) ?_
     refine anyTwo (i := 4) (j := 6) (by kernel_rfl) rfl rfl rfl rfl ?_ ?_
     ·refine opMem (fun w hM => hM.toOwn0 1 rfl 1) ?_
      refine opAppend el_strC 1 (SS ((withL l (m.take i)).take k)) rfl rfl (by kernel_rfl) rfl rfl rfl (by simp) (fun w hM => CellsAt.of_row (rowTake k (rowOwn (i := 0) rfl w hM))) (SS_one) (by first | (simp; omega) | (simp; done)) (((withL l (m.take i)).take k).length) (by first | exact (List.length_append ..).symm | (simp; done) | (simp; omega)) (SS ((withL l (m.take i)).take k)) (by simp [SS]) (fun A39 c39 => ?_)
      refine anyNext [cS B (withL l (m.take i)) cb] (fun _ h => h) (fun _ h => h.pick [0] rfl rfl) ?_
      refine a1 6 ?_
      refine opNew (v := fun b => .slice (some ⟨b, 0, none⟩) 1 1) 9 [(vS x0)] rfl (by kernel_rfl) (fun _ => by kernel_rfl) (fun b41 => ?_)
      refine anyNext [cS B (withL l (m.take i)) cb, cAt b41 9 [(vS x0)]] (fun _ h => h.pick [0] rfl rfl) (fun _ h => h.pick [0, 2] rfl rfl) ?_
      refine a1 7 ?_
      refine opAppend el_strC 1 ([(vS x0)]) rfl rfl (by kernel_rfl) rfl rfl rfl (rfl) (srcAt (i := 2) rfl (fun j v h => by rw [Nat.zero_add]; exact h)) (by simp [Value.oneCell']) (by first | (simp; omega) | (simp; done)) (((withL l (m.take i)).take k ++ [x0]).length) (by first | exact (List.length_append ..).symm | (simp; done) | (simp; omega)) (SS ((withL l (m.take i)).take k ++ [x0])) (by simp [SS]) (fun A42 c42 => ?_)
      refine anyNext [cS B (withL l (m.take i)) cb, cAt b41 9 [(vS x0)]] (fun _ h => h) (fun _ h => h.pick [0, 2] rfl rfl) ?_
      refine a1 11 ?_
      refine opAppend el_strC 1 (SS ((withL l (m.take i)).drop k)) rfl rfl (by kernel_rfl) rfl rfl rfl (by simp) (fun w hM => CellsAt.of_row (rowDrop k (rowOwn (i := 0) rfl w hM) (hcap45))) (SS_one) (by first | (simp; omega) | (simp; done)) (((withL l (m.take i)).take k ++ [x0] ++ ((withL l (m.take i)).drop k)).length) (by first | exact (List.length_append ..).symm | (simp; done) | (simp; omega)) (SS ((withL l (m.take i)).take k ++ [x0] ++ ((withL l (m.take i)).drop k))) (by simp [SS]) (fun A46 c46 => ?_)
      refine anyNext [cS B (withL l (m.take i)) cb, cS A46 ((withL l (m.take i)).take k ++ [x0] ++ ((withL l (m.take i)).drop k)) c46, cAt b41 9 [(vS x0)]] (fun _ h => h.pick [0, 2] rfl rfl) (fun _ h => h) ?_
      refine aa 12 ?_
      refine anyDone (by kernel_rfl) ?_
      refine qBlock (qThen ?_)
      refine St.to [cS B (withL l (m.take i)) cb, cS A46 ((withL l (m.take i)).take k ++ [x0] ++ ((withL l (m.take i)).drop k)) c46, cAt b41 9 [(vS x0)]] (by kernel_rfl) ?_
      refine reg ?_
      refine lv (v := (vI (i + 1))) (rAdd _ rfl rfl rfl (by omega) (by omega) (by omega)) ?_
      refine lm ?_
      refine liNil (qThen ?_)
      rw [show (withL l (m.take i)).take k ++ [x0] ++ ((withL l (m.take i)).drop k) = withL l (m.take (i + 1)) from withL_yes hx0 hc20 hk]
      exact stAgain (i + 1, A46, c46) (by show _ ≤ _; omega) (by show m.length - (i + 1) < m.length - i; omega) ⟨rfl, rfl, rfl, rfl, rfl, trivial⟩ (fun w hM => (hM.pick [1] rfl rfl))
     ·refine opNew (v := fun b => .slice (some ⟨b, 0, none⟩) 1 1) 9 [(vS x0)] rfl (by kernel_rfl) (fun _ => by kernel_rfl) (fun b41 => ?_)
      refine anyNext [cS B (withL l (m.take i)) cb, cAt b41 9 [(vS x0)]] (fun _ h => h.pick [0] rfl rfl) (fun _ h => h.pick [0, 2] rfl rfl) ?_
      refine a1 4 ?_
      refine opMem (fun w hM => hM.toOwn0 1 rfl 1) ?_
      refine opAppend el_strC 1 (SS ((withL l (m.take i)).take k)) rfl rfl (by kernel_rfl) rfl rfl rfl (by simp) (fun w hM => CellsAt.of_row (rowTake k (rowOwn (i := 0) rfl w hM))) (SS_one) (by first | (simp; omega) | (simp; done)) (((withL l (m.take i)).take k).length) (by first | exact (List.length_append ..).symm | (simp; done) | (simp; omega)) (SS ((withL l (m.take i)).take k)) (by simp [SS]) (fun A39 c39 => ?_)
      refine anyNext [cS B (withL l (m.take i)) cb, cAt b41 9 [(vS x0)]] (fun _ h => h) (fun _ h => h.pick [0, 2] rfl rfl) ?_
      refine a1 7 ?_
      refine opAppend el_strC 1 ([(vS x0)]) rfl rfl (by kernel_rfl) rfl rfl rfl (rfl) (srcAt (i := 2) rfl (fun j v h => by rw [Nat.zero_add]; exact h)) (by simp [Value.oneCell']) (by first | (simp; omega) | (simp; done)) (((withL l (m.take i)).take k ++ [x0]).length) (by first | exact (List.length_append ..).symm | (simp; done) | (simp; omega)) (SS ((withL l (m.take i)).take k ++ [x0])) (by simp [SS]) (fun A42 c42 => ?_)
      refine anyNext [cS B (withL l (m.take i)) cb, cAt b41 9 [(vS x0)]] (fun _ h => h) (fun _ h => h.pick [0, 2] rfl rfl) ?_
      refine a1 11 ?_
      refine opAppend el_strC 1 (SS ((withL l (m.take i)).drop k)) rfl rfl (by kernel_rfl) rfl rfl rfl (by simp) (fun w hM => CellsAt.of_row (rowDrop k (rowOwn (i := 0) rfl w hM) (hcap45))) (SS_one) (by first | (simp; omega) | (simp; done)) (((withL l (m.take i)).take k ++ [x0] ++ ((withL l (m.take i)).drop k)).length) (by first | exact (List.length_append ..).symm | (simp; done) | (simp; omega)) (SS ((withL l (m.take i)).take k ++ [x0] ++ ((withL l (m.take i)).drop k))) (by simp [SS]) (fun A46 c46 => ?_)
      refine anyNext [cS B (withL l (m.take i)) cb, cS A46 ((withL l (m.take i)).take k ++ [x0] ++ ((withL l (m.take i)).drop k)) c46, cAt b41 9 [(vS x0)]] (fun _ h => h.pick [0, 2] rfl rfl) (fun _ h => h) ?_
      refine aa 12 ?_
      refine anyDone (by kernel_rfl) ?_
      refine qBlock (qThen ?_)
      refine St.to [cS B (withL l (m.take i)) cb, cS A46 ((withL l (m.take i)).take k ++ [x0] ++ ((withL l (m.take i)).drop k)) c46, cAt b41 9 [(vS x0)]] (by kernel_rfl) ?_
      refine reg ?_
      refine lv (v := (vI (i + 1))) (rAdd _ rfl rfl rfl (by omega) (by omega) (by omega)) ?_
      refine lm ?_
      refine liNil (qThen ?_)
      rw [show (withL l (m.take i)).take k ++ [x0] ++ ((withL l (m.take i)).drop k) = withL l (m.take (i + 1)) from withL_yes hx0 hc20 hk]
      exact stAgain (i + 1, A46, c46) (by show _ ≤ _; omega) (by show m.length - (i + 1) < m.length - i; omega) ⟨rfl, rfl, rfl, rfl, rfl, trivial⟩ (fun w hM => (hM.pick [1] rfl rfl))
    ·refine opNew (v := fun b => .slice (some ⟨b, 0, none⟩) 1 1) 9 [(vS x0)] rfl (by kernel_rfl) (fun _ => by kernel_rfl) (fun b41 => ?_)
     refine anyNext [cS B (withL l (m.take i)) cb, cAt b41 9 [(vS x0)]] (fun _ h => h.pick [0] rfl rfl) (fun _ h => h) ?_
     refine a1 0 ?_
     refine opNew (v := fun b => .slice (some ⟨b, 0, none⟩) 0 0) 9 [] rfl (by kernel_rfl) (fun _ => by kernel_rfl) (fun b35 => ?_)
     refine anyNext [cS B (withL l (m.take i)) cb, cAt b41 9 [(vS x0)]] (fun _ h => h) (fun _ h => h.pick [0, 1] rfl rfl) ?_
     refine a1 4 ?_
     refine opMem (fun w hM => hM.toOwn0 2 rfl 1) ?_
     refine opAppend el_strC 2 (SS ((withL l (m.take i)).take k)) rfl rfl (by kernel_rfl) rfl rfl rfl (by simp) (fun w hM => CellsAt.of_row (rowTake k (rowOwn (i := 0) rfl w hM))) (SS_one) (by first | (simp; omega) | (simp; done)) (((withL l (m.take i)).take k).length) (by first | exact (List.length_append ..).symm | (simp; done) | (simp; omega)) (SS ((withL l (m.take i)).take k)) (by simp [SS]) (fun A39 c39 => ?_)
     refine anyNext [cS B (withL l (m.take i)) cb, cAt b41 9 [(vS x0)]] (fun _ h => h) (fun _ h => h.pick [0, 1] rfl rfl) ?_
     refine a1 7 ?_
     refine opAppend el_strC 2 ([(vS x0)]) rfl rfl (by kernel_rfl) rfl rfl rfl (rfl) (srcAt (i := 1) rfl (fun j v h => by rw [Nat.zero_add]; exact h)) (by simp [Value.oneCell']) (by first | (simp; omega) | (simp; done)) (((withL l (m.take i)).take k ++ [x0]).length) (by first | exact (List.length_append ..).symm | (simp; done) | (simp; omega)) (SS ((withL l (m.take i)).take k ++ [x0])) (by simp [SS]) (fun A42 c42 => ?_)
     refine anyNext [cS B (withL l (m.take i)) cb, cAt b41 9 [(vS x0)]] (fun _ h => h) (fun _ h => h.pick [0, 1] rfl rfl) ?_
     refine a1 11 ?_
     refine opAppend el_strC 2 (SS ((withL l (m.take i)).drop k)) rfl rfl (by kernel_rfl) rfl rfl rfl (by simp) (fun w hM => CellsAt.of_row (rowDrop k (rowOwn (i := 0) rfl w hM) (hcap45))) (SS_one) (by first | (simp; omega) | (simp; done)) (((withL l (m.take i)).take k ++ [x0] ++ ((withL l (m.take i)).drop k)).length) (by first | exact (List.length_append ..).symm | (simp; done) | (simp; omega)) (SS ((withL l (m.take i)).take k ++ [x0] ++ ((withL l (m.take i)).drop k))) (by simp [SS]) (fun A46 c46 => ?_)
     refine anyNext [cS B (withL l (m.take i)) cb, cAt b41 9 [(vS x0)], cS A46 ((withL l (m.take i)).take k ++ [x0] ++ ((withL l (m.take i)).drop k)) c46] (fun _ h => h.pick [0, 1] rfl rfl) (fun _ h => h) ?_
     refine aa 12 ?_
     refine anyDone (by kernel_rfl) ?_
     refine qBlock (qThen ?_)
     refine St.to [cS B (withL l (m.take i)) cb, cAt b41 9 [(vS x0)], cS A46 ((withL l (m.take i)).take k ++ [x0] ++ ((withL l (m.take i)).drop k)) c46] (by kernel_rfl) ?_
     refine reg ?_
     refine lv (v := (vI (i + 1))) (rAdd _ rfl rfl rfl (by omega) (by omega) (by omega)) ?_
     refine lm ?_
     refine liNil (qThen ?_)
     rw [show (withL l (m.take i)).take k ++ [x0] ++ ((withL l (m.take i)).drop k) = withL l (m.take (i + 1)) from withL_yes hx0 hc20 hk]
     exact stAgain (i + 1, A46, c46) (by show _ ≤ _; omega) (by show m.length - (i + 1) < m.length - i; omega) ⟨rfl, rfl, rfl, rfl, rfl, trivial⟩ (fun w hM => (hM.pick [2] rfl rfl))
 ·have hd15 := of_decide_eq_false hc15
  obtain rfl : i = m.length := by omega
  rw [List.take_length]
  refine stExit (qThenX (qThenX (qBlockX (qThen (stSeq (reg ?_))))))
  refine lm ?_
  refine la ?_
  refine liNil (qThen (stRet ?_))
  refine stEnd [(vL B (withL l m) cb)] rfl ⟨rfl, trivial⟩ (fun w hM => ?_)
  exact ⟨B, cb, rfl, hM⟩
end Go.Proofs.YtlepfnihpdhcaaaGreatDoor
namespace Go.Proofs.YtlepfnihpdhcaaaGreatDoor
open Go.RowKit
def SessAt (bs : Nat) (A : Option Addr) (c : Nat) (its : List (List UInt8)) (fan leaf nm om : Nat) (w : World) : Prop := At w bs 66 [(vL A its c), (vI fan), (vI leaf), (.map (some nm)), (.map (some om))] ∧ RowIn w A (SS its)
theorem search_any (n : Nat) (g : FuncId) (caps : List Value) (p : Nat → Bool) (w : World) (hn : n ≤ 68719476736) (eg : ∀ args w, (callFunc g args).run Tryz.prog w = .ok (.enter g args) w) (hc : ∀ i, i < n → ∀ w', Fr [] w w' → Calls Tryz.prog g (#[.int .i64 ((i : Nat) : Int)] ++ caps.toArray) w' fun e w'' => e = .returned (.bool (p i)) ∧ Fr [] w' w'') :
  Calls Tryz.prog 80 #[(vI n), (.func (.func g) #[] caps.toArray)] w fun e w' => e = .returned (vI (bsr p 0 n)) ∧ Back [] w [] w' := by
 refine stEnter (args := [(vI n), (.func (.func g) #[] caps.toArray)]) (fps []) Tryz.func80 rfl 26 rfl [(0, (vI n)), (1, (.func (.func g) #[] caps.toArray))] ⟨rfl, rfl, trivial⟩ [] (Mm.start w []) ?_
 refine stSeq (reg ?_)
 refine la ?_
 refine liNil (qThen (stSeq (reg ?_)))
 refine lm ?_
 refine la ?_
 refine la ?_
 refine liNil (qThen (stSeq (stBlock ?_)))
 refine stLoop (ι := Nat × Nat) (fun (i, j) => i ≤ j ∧ j ≤ n ∧ bsr p i j = bsr p 0 n) (fun (i, j) => j - i) (fun (i, j) => [(1, (.func (.func g) #[] caps.toArray)), (4, (.int .i64 0)), (5, (vI i)), (6, (vI j))]) (fun (i, j) => []) (0, n) ⟨Nat.zero_le _, Nat.le_refl _, rfl⟩ ⟨rfl, rfl, rfl, rfl, trivial⟩ (fun _ h => h) ?_
 rintro ⟨i, j⟩ ⟨h1, h2, h3⟩
 show St _ _ _ [(1, (.func (.func g) #[] caps.toArray)), (4, (.int .i64 0)), (5, (vI i)), (6, (vI j))] [] _
 refine stSeq (stSeq (reg ?_))
 refine lm ?_
 refine lm ?_
 refine lc (.bool (decide (((i : Nat) : Int) < ((j : Nat) : Int)))) ?_
 refine liNil (qThen ?_)
 refine stCond rfl (fun hc11 => ?_) (fun hc11 => ?_)
 ·have hd11 := of_decide_eq_true hc11
  have hij : i < j := by omega
  refine stSkip (qThen (stBlock (stSeq (reg ?_))))
  refine lm ?_
  refine lm ?_
  refine lv (v := (vI (i + j))) (rAdd _ rfl rfl rfl (by omega) (by omega) (by omega)) ?_
  refine lv (v := (.int .u64 (((i + j) : Nat) : Int))) (rIntC _ (fun _ => by kernel_rfl) rfl rfl (wrapU64_id (by omega) (by omega))) ?_
  refine lv (v := (.int .u64 ((((i + j) / 2) : Nat) : Int))) (rShr1 rfl rfl rfl) ?_
  refine lv (v := (vI ((i + j) / 2))) (rIntC _ (fun _ => by kernel_rfl) rfl rfl (wrap64_id (by omega) (by omega))) ?_
  refine la ?_
  refine liNil (qThen (stSeq (reg ?_)))
  refine lm ?_
  refine lm ?_
  refine li rfl ?_
  refine opKF (f := g) (caps := caps.toArray) rfl rfl rfl eg (fun w hM => (hc ((i + j) / 2) (by omega) w hM.fr).mono ?_)
  rintro e w' ⟨rfl, hf⟩
  refine ⟨_, [], rfl, Mm.of_fr hf, ?_⟩; clear hf hM
  refine lc (.bool (!(p ((i + j) / 2)))) ?_
  refine liNil (qThen ?_)
  refine stCond rfl (fun hc21 => ?_) (fun hc21 => ?_)
  ·refine reg ?_
   refine lm ?_
   refine lv (v := (vI (((i + j) / 2) + 1))) (rAdd _ rfl rfl rfl (by omega) (by omega) (by omega)) ?_
   refine la ?_
   refine liNil (qBlock (qThen ?_))
   exact stAgain (((i + j) / 2) + 1, j) (by refine ⟨by omega, by omega, ?_⟩; rw [← h3]; first | exact (bsr_lo hij (by simpa using hc21)).symm | exact (bsr_hi hij (by simpa using hc21)).symm) (by dsimp only; omega) ⟨rfl, rfl, rfl, rfl, trivial⟩ (fun w hM => hM)
  ·refine reg ?_
   refine lm ?_
   refine la ?_
   refine liNil (qBlock (qThen ?_))
   exact stAgain (i, ((i + j) / 2)) (by refine ⟨by omega, by omega, ?_⟩; rw [← h3]; first | exact (bsr_lo hij (by simpa using hc21)).symm | exact (bsr_hi hij (by simpa using hc21)).symm) (by dsimp only; omega) ⟨rfl, rfl, rfl, rfl, trivial⟩ (fun w hM => hM)
 ·have hd11 := of_decide_eq_false hc11
  refine stExit (qThenX (qThenX (qBlockX (qThen (stSeq (reg ?_))))))
  refine lm ?_
  refine la ?_
  refine liNil (qThen (stRet ?_))
  refine stEnd [(vI i)] rfl ⟨rfl, trivial⟩ (fun w hM => ?_)
  exact ⟨by rw [← h3, bsr_end (by omega)]; rfl, hM⟩
theorem rsClo1_any (i : Nat) (b2 : Nat) (b3 : Nat) (bs : Nat) (A : Option Addr) (c : Nat) (its : List (List UInt8)) (fan : Nat) (leaf : Nat) (nm : Nat) (om : Nat) (lo : List UInt8) (hi : List UInt8) (w : World) (r0 : Rf [] w (SessAt bs A c its fan leaf nm om)) (r1 : Rf [] w (fun w => At w b2 29 [(vP bs 0)])) (r2 : Rf [] w (fun w => At w b3 69 [(vS lo), (vS hi)])) (hi' : i < its.length) :
  Calls Tryz.prog 81 #[(vI i), (vP b2 0), (vP b3 0)] w fun e w' => e = .returned (.bool (geP its lo i)) ∧ Back [] w [] w' := by
 have ra := r0.imp (fun _ h => h.1)
 have rb := r0.imp (fun _ h => h.2)
 refine stEnter (args := [(vI i), (vP b2 0), (vP b3 0)]) (fps []) Tryz.func81 rfl 15 rfl [(0, (vI i)), (1, (vP b2 0)), (2, (vP b3 0))] ⟨rfl, rfl, rfl, trivial⟩ [] (Mm.start w []) ?_
 refine stSeq (reg ?_)
 refine la ?_
 refine liNil (qThen (stSeq ?_))
 refine anyBegin [] 11 (by kernel_rfl) (fun _ h => h) ?_
 refine av 0 (vP bs 0) rfl (rLoadW rfl rfl (by kernel_rfl) (fun w hM => At.cell (r1.now hM) 0)) ?_
 refine ac 1 (vP bs 0) ?_
 refine ac 2 (vP bs 0) ?_
 refine av 3 (vL A its c) rfl (rLoadW rfl rfl (by kernel_rfl) (fun w hM => At.cell (ra.now hM) 0)) ?_
 refine am 4 ?_
 obtain ⟨x0, hx0⟩ : ∃ ξ, (its)[i]? = some ξ := ⟨_, List.getElem?_eq_getElem (by omega)⟩
 refine Any.rowPtr (fun w hM => rb.now hM) (SS_at hx0) (fun p10 q10 hA10 hc10 => ?_)
 refine av 5 (vP p10 (q10 + i)) rfl (rIndexRow (e := 9) rfl (by kernel_rfl) (by kernel_rfl) rfl rfl hA10 (by omega)) ?_
 refine av 6 (vS x0) rfl (rLoadW rfl rfl (by kernel_rfl) hc10) ?_
 refine ac 7 (vP b3 0) ?_
 refine av 8 (vS lo) rfl (rLoadW rfl rfl (by kernel_rfl) (fun w hM => At.cell (r2.now hM) 0)) ?_
 refine av 9 (.bool (!decide (x0 < lo))) rfl (rStrGe rfl rfl rfl) ?_
 refine aa 10 ?_
 refine anyDone (by kernel_rfl) ?_
 refine qThen (stRet ?_)
 refine stEnd [(.bool (!decide (x0 < lo)))] rfl ⟨rfl, trivial⟩ (fun w hM => ?_)
 exact ⟨ret_bool (geP_at hx0).symm, hM⟩
theorem rsClo2_any (i : Nat) (b2 : Nat) (b3 : Nat) (bs : Nat) (A : Option Addr) (c : Nat) (its : List (List UInt8)) (fan : Nat) (leaf : Nat) (nm : Nat) (om : Nat) (lo : List UInt8) (hi : List UInt8) (w : World) (r0 : Rf [] w (SessAt bs A c its fan leaf nm om)) (r1 : Rf [] w (fun w => At w b2 29 [(vP bs 0)])) (r2 : Rf [] w (fun w => At w b3 69 [(vS lo), (vS hi)])) (hi' : i < its.length) :
  Calls Tryz.prog 82 #[(vI i), (vP b2 0), (vP b3 0)] w fun e w' => e = .returned (.bool (geP its hi i)) ∧ Back [] w [] w' := by
 have ra := r0.imp (fun _ h => h.1)
 have rb := r0.imp (fun _ h => h.2)
 refine stEnter (args := [(vI i), (vP b2 0), (vP b3 0)]) (fps []) Tryz.func82 rfl 15 rfl [(0, (vI i)), (1, (vP b2 0)), (2, (vP b3 0))] ⟨rfl, rfl, rfl, trivial⟩ [] (Mm.start w []) ?_
 refine stSeq (reg ?_)
 refine la ?_
 refine liNil (qThen (stSeq ?_))
 refine anyBegin [] 11 (by kernel_rfl) (fun _ h => h) ?_
 refine av 0 (vP bs 0) rfl (rLoadW rfl rfl (by kernel_rfl) (fun w hM => At.cell (r1.now hM) 0)) ?_
 refine ac 1 (vP bs 0) ?_
 refine ac 2 (vP bs 0) ?_
 refine av 3 (vL A its c) rfl (rLoadW rfl rfl (by kernel_rfl) (fun w hM => At.cell (ra.now hM) 0)) ?_
 refine am 4 ?_
 obtain ⟨x0, hx0⟩ : ∃ ξ, (its)[i]? = some ξ := ⟨_, List.getElem?_eq_getElem (by omega)⟩
 refine Any.rowPtr (fun w hM => rb.now hM) (SS_at hx0) (fun p10 q10 hA10 hc10 => ?_)
 refine av 5 (vP p10 (q10 + i)) rfl (rIndexRow (e := 9) rfl (by kernel_rfl) (by kernel_rfl) rfl rfl hA10 (by omega)) ?_
 refine av 6 (vS x0) rfl (rLoadW rfl rfl (by kernel_rfl) hc10) ?_
 refine ac 7 (vP b3 1) ?_
 refine av 8 (vS hi) rfl (rLoadW rfl rfl (by kernel_rfl) (fun w hM => At.cell (r2.now hM) 1)) ?_
 refine av 9 (.bool (!decide (x0 < hi))) rfl (rStrGe rfl rfl rfl) ?_
 refine aa 10 ?_
 refine anyDone (by kernel_rfl) ?_
 refine qThen (stRet ?_)
 refine stEnd [(.bool (!decide (x0 < hi)))] rfl ⟨rfl, trivial⟩ (fun w hM => ?_)
 exact ⟨ret_bool (geP_at hx0).symm, hM⟩
theorem rsClo3_any (i : Nat) (b2 : Nat) (b3 : Nat) (bs : Nat) (A : Option Addr) (c : Nat) (its : List (List UInt8)) (fan : Nat) (leaf : Nat) (nm : Nat) (om : Nat) (x : List UInt8) (w : World) (r0 : Rf [] w (SessAt bs A c its fan leaf nm om)) (r1 : Rf [] w (fun w => At w b2 29 [(vP bs 0)])) (r2 : Rf [] w (fun w => At w b3 9 [(vS x)])) (hi' : i < its.length) :
  Calls Tryz.prog 93 #[(vI i), (vP b2 0), (vP b3 0)] w fun e w' => e = .returned (.bool (geP its x i)) ∧ Back [] w [] w' := by
 have ra := r0.imp (fun _ h => h.1)
 have rb := r0.imp (fun _ h => h.2)
 refine stEnter (args := [(vI i), (vP b2 0), (vP b3 0)]) (fps []) Tryz.func93 rfl 14 rfl [(0, (vI i)), (1, (vP b2 0)), (2, (vP b3 0))] ⟨rfl, rfl, rfl, trivial⟩ [] (Mm.start w []) ?_
 refine stSeq (reg ?_)
 refine la ?_
 refine liNil (qThen (stSeq ?_))
 refine anyBegin [] 10 (by kernel_rfl) (fun _ h => h) ?_
 refine av 0 (vP bs 0) rfl (rLoadW rfl rfl (by kernel_rfl) (fun w hM => At.cell (r1.now hM) 0)) ?_
 refine ac 1 (vP bs 0) ?_
 refine ac 2 (vP bs 0) ?_
 refine av 3 (vL A its c) rfl (rLoadW rfl rfl (by kernel_rfl) (fun w hM => At.cell (ra.now hM) 0)) ?_
 refine am 4 ?_
 obtain ⟨x0, hx0⟩ : ∃ ξ, (its)[i]? = some ξ := ⟨_, List.getElem?_eq_getElem (by omega)⟩
 refine Any.rowPtr (fun w hM => rb.now hM) (SS_at hx0) (fun p10 q10 hA10 hc10 => ?_)
 refine av 5 (vP p10 (q10 + i)) rfl (rIndexRow (e := 9) rfl (by kernel_rfl) (by kernel_rfl) rfl rfl hA10 (by omega)) ?_
 refine av 6 (vS x0) rfl (rLoadW rfl rfl (by kernel_rfl) hc10) ?_
 refine av 7 (vS x) rfl (rLoadW rfl rfl (by kernel_rfl) (fun w hM => At.cell (r2.now hM) 0)) ?_
 refine av 8 (.bool (!decide (x0 < x))) rfl (rStrGe rfl rfl rfl) ?_
 refine aa 9 ?_
 refine anyDone (by kernel_rfl) ?_
 refine qThen (stRet ?_)
 refine stEnd [(.bool (!decide (x0 < x)))] rfl ⟨rfl, trivial⟩ (fun w hM => ?_)
 exact ⟨ret_bool (geP_at hx0).symm, hM⟩
theorem rsWithin_any (bs : Nat) (A : Option Addr) (c : Nat) (its : List (List UInt8)) (fan : Nat) (leaf : Nat) (nm : Nat) (om : Nat) (lo : List UInt8) (hi : List UInt8) (w : World) (r0 : Rf [] w (SessAt bs A c its fan leaf nm om)) (hs : okSet its) (hn : its.length ≤ 1000) (hcap : its.length ≤ c) :
  Calls Tryz.prog 57 #[(vP bs 0), (.agg #[(vS lo), (vS hi)])] w fun e w' => ∃ (B : Option Addr) (cb : Nat), e = .returned (vL B (inL its lo hi) cb) ∧ Back [] w [] w' ∧ (∀ w, RowIn w A (SS its) → RowIn w B (SS (inL its lo hi))) := by
 have ra := r0.imp (fun _ h => h.1)
 have rb := r0.imp (fun _ h => h.2)
 refine stEnter (args := [(vP bs 0), (.agg #[(vS lo), (vS hi)])]) (fps []) Tryz.func57 rfl 38 rfl [(0, (vP bs 0)), (1, (.agg #[(vS lo), (vS hi)]))] ⟨rfl, rfl, trivial⟩ [] (Mm.start w []) ?_
 refine stSeq (reg (li rfl ?_))
 refine opBox [(vP bs 0)] rfl rfl (by kernel_rfl) rfl rfl (fun b2 => ?_)
 refine li rfl ?_
 refine opBox [(vS lo), (vS hi)] rfl rfl (by kernel_rfl) rfl rfl (fun b3 => ?_)
 refine la ?_
 refine liNil (qThen (stSeq (reg ?_)))
 refine lv (v := (vP bs 0)) (rLoad 0 rfl rfl (by kernel_rfl) rfl rfl) ?_
 refine lc (vP bs 0) ?_
 refine lc (vP bs 0) ?_
 refine lv (v := (vL A its c)) (rLoadW rfl rfl (by kernel_rfl) (fun w hM => At.cell (ra.now hM) 0)) ?_
 refine lc (vI its.length) ?_
 refine lc (.func (.func 81) #[] #[(vP b2 0), (vP b3 0)]) ?_
 refine li rfl ?_
 refine opK0 (fun w hM => (search_any (its.length) 81 [(vP b2 0), (vP b3 0)] (geP its lo) w (by omega) (enters Tryz.func81 (by kernel_rfl) rfl) (fun i hlt w' hf => (rsClo1_any i _ _ bs A c its fan leaf nm om lo hi w' (((r0.go0 hM).step hf (by simp))) (((hM.keep0 (j := 0) rfl (fun _ h => h)).step hf (by simp))) (((hM.keep0 (j := 1) rfl (fun _ h => h)).step hf (by simp))) hlt).mono fun e w'' he => ⟨he.1, he.2.fr⟩)).mono ?_)
 rintro e w' ⟨rfl, hP⟩
 refine ⟨_, _, rfl, hP, ?_⟩; clear hP hM
 rw [search_pos hs.2 lo]
 refine la ?_
 refine liNil (qThen (stSeq (reg ?_)))
 refine lv (v := (vP bs 0)) (rLoad 0 rfl rfl (by kernel_rfl) rfl rfl) ?_
 refine lc (vP bs 0) ?_
 refine lc (vP bs 0) ?_
 refine lv (v := (vL A its c)) (rLoadW rfl rfl (by kernel_rfl) (fun w hM => At.cell (ra.now hM) 0)) ?_
 refine lc (vI its.length) ?_
 refine la ?_
 refine liNil (qThen (stSeq (stSeq (reg ?_))))
 refine lc (vP b3 1) ?_
 refine lv (v := (vS hi)) (rLoad 1 rfl rfl (by kernel_rfl) rfl rfl) ?_
 refine lv (v := (.bool (!decide (hi = [])))) (rStrNe rfl rfl rfl) ?_
 refine liNil (qThen ?_)
 refine stCond rfl (fun hc21 => ?_) (fun hc21 => ?_)
 ·refine reg ?_
  refine lv (v := (vP bs 0)) (rLoad 0 rfl rfl (by kernel_rfl) rfl rfl) ?_
  refine lc (vP bs 0) ?_
  refine lc (vP bs 0) ?_
  refine lv (v := (vL A its c)) (rLoadW rfl rfl (by kernel_rfl) (fun w hM => At.cell (ra.now hM) 0)) ?_
  refine lc (vI its.length) ?_
  refine lc (.func (.func 82) #[] #[(vP b2 0), (vP b3 0)]) ?_
  refine li rfl ?_
  refine opK0 (fun w hM => (search_any (its.length) 82 [(vP b2 0), (vP b3 0)] (geP its hi) w (by omega) (enters Tryz.func82 (by kernel_rfl) rfl) (fun i hlt w' hf => (rsClo2_any i _ _ bs A c its fan leaf nm om lo hi w' (((r0.go0 hM).step hf (by simp))) (((hM.keep0 (j := 0) rfl (fun _ h => h)).step hf (by simp))) (((hM.keep0 (j := 1) rfl (fun _ h => h)).step hf (by simp))) hlt).mono fun e w'' he => ⟨he.1, he.2.fr⟩)).mono ?_)
  rintro e w' ⟨rfl, hP⟩
  refine ⟨_, _, rfl, hP, ?_⟩; clear hP hM
  rw [search_pos hs.2 hi]
  refine la ?_
  refine liNil (qThen (stSeq ?_))
  refine St.to [cAt b2 29 [(vP bs 0)], cAt b3 69 [(vS lo), (vS hi)]] (by kernel_rfl) ?_
  refine reg ?_
  refine lv (v := (vP bs 0)) (rLoad 0 rfl rfl (by kernel_rfl) rfl rfl) ?_
  refine lc (vP bs 0) ?_
  refine lc (vP bs 0) ?_
  refine lv (v := (vL A its c)) (rLoadW rfl rfl (by kernel_rfl) (fun w hM => At.cell (ra.now hM) 0)) ?_
  refine lm ?_
  refine lm ?_
  refine lm ?_
  refine lv (v := (vI (max (posB its lo) (posB its hi)))) (rMaxN rfl rfl rfl) ?_
  have hp := inL_part hs.2 lo hi
  rw [if_neg (by simpa using hc21)] at hp
  have h1 := posB_le its lo
  have h2 := posB_le its hi
  refine lv (v := (vL (if c = posB its lo then A else A.map (·.add (posB its lo * 1))) (inL its lo hi) (c - posB its lo))) (rConv (rSliceLH (e := 9) (sz := 1) rfl (by kernel_rfl) (by kernel_rfl) rfl rfl rfl (by omega) (by omega)) (by show Value.slice _ _ _ = Value.slice _ _ _; rw [← hp, List.length_drop, List.length_take, Nat.min_eq_left (by omega)])) ?_
  refine la ?_
  refine liNil (qThen (stRet ?_))
  refine stEnd [(vL (if c = posB its lo then A else A.map (·.add (posB its lo * 1))) (inL its lo hi) (c - posB its lo))] rfl ⟨rfl, trivial⟩ (fun w hM => ?_)
  exact ⟨_, _, rfl, (hM.pick [] rfl rfl), fun w h => by rw [← hp]; exact rowMid _ _ h hcap⟩
 ·refine stSkip (qThen (stSeq (reg ?_)))
  refine lv (v := (vP bs 0)) (rLoad 0 rfl rfl (by kernel_rfl) rfl rfl) ?_
  refine lc (vP bs 0) ?_
  refine lc (vP bs 0) ?_
  refine lv (v := (vL A its c)) (rLoadW rfl rfl (by kernel_rfl) (fun w hM => At.cell (ra.now hM) 0)) ?_
  refine lm ?_
  refine lm ?_
  refine lm ?_
  refine lv (v := (vI (max (posB its lo) its.length))) (rMaxN rfl rfl rfl) ?_
  have hp := inL_part hs.2 lo hi
  rw [if_pos (by simpa using hc21)] at hp
  have h1 := posB_le its lo
  have h2 := posB_le its hi
  refine lv (v := (vL (if c = posB its lo then A else A.map (·.add (posB its lo * 1))) (inL its lo hi) (c - posB its lo))) (rConv (rSliceLH (e := 9) (sz := 1) rfl (by kernel_rfl) (by kernel_rfl) rfl rfl rfl (by omega) (by omega)) (by show Value.slice _ _ _ = Value.slice _ _ _; rw [← hp, List.length_drop, List.length_take, Nat.min_eq_left (by omega)])) ?_
  refine la ?_
  refine liNil (qThen (stRet ?_))
  refine stEnd [(vL (if c = posB its lo then A else A.map (·.add (posB its lo * 1))) (inL its lo hi) (c - posB its lo))] rfl ⟨rfl, trivial⟩ (fun w hM => ?_)
  exact ⟨_, _, rfl, (hM.pick [] rfl rfl), fun w h => by rw [← hp]; exact rowMid _ _ h hcap⟩
theorem rsSHas_any (bs : Nat) (A : Option Addr) (c : Nat) (its : List (List UInt8)) (fan : Nat) (leaf : Nat) (nm : Nat) (om : Nat) (x : List UInt8) (w : World) (r0 : Rf [] w (SessAt bs A c its fan leaf nm om)) (hs : okSet its) (hn : its.length ≤ 1000) :
  Calls Tryz.prog 64 #[(vP bs 0), (vS x)] w fun e w' => e = .returned (.bool (its.contains x)) ∧ Back [] w [] w' := by
 have ra := r0.imp (fun _ h => h.1)
 have rb := r0.imp (fun _ h => h.2)
 refine stEnter (args := [(vP bs 0), (vS x)]) (fps []) Tryz.func64 rfl 31 rfl [(0, (vP bs 0)), (1, (vS x))] ⟨rfl, rfl, trivial⟩ [] (Mm.start w []) ?_
 refine stSeq (reg (li rfl ?_))
 refine opBox [(vP bs 0)] rfl rfl (by kernel_rfl) rfl rfl (fun b2 => ?_)
 refine li rfl ?_
 refine opBox [(vS x)] rfl rfl (by kernel_rfl) rfl rfl (fun b3 => ?_)
 refine la ?_
 refine liNil (qThen (stSeq (reg ?_)))
 refine lv (v := (vP bs 0)) (rLoad 0 rfl rfl (by kernel_rfl) rfl rfl) ?_
 refine lc (vP bs 0) ?_
 refine lc (vP bs 0) ?_
 refine lv (v := (vL A its c)) (rLoadW rfl rfl (by kernel_rfl) (fun w hM => At.cell (ra.now hM) 0)) ?_
 refine lc (vI its.length) ?_
 refine lc (.func (.func 93) #[] #[(vP b2 0), (vP b3 0)]) ?_
 refine li rfl ?_
 refine opK0 (fun w hM => (search_any (its.length) 93 [(vP b2 0), (vP b3 0)] (geP its x) w (by omega) (enters Tryz.func93 (by kernel_rfl) rfl) (fun i hlt w' hf => (rsClo3_any i _ _ bs A c its fan leaf nm om x w' (((r0.go0 hM).step hf (by simp))) (((hM.keep0 (j := 0) rfl (fun _ h => h)).step hf (by simp))) (((hM.keep0 (j := 1) rfl (fun _ h => h)).step hf (by simp))) hlt).mono fun e w'' he => ⟨he.1, he.2.fr⟩)).mono ?_)
 rintro e w' ⟨rfl, hP⟩
 refine ⟨_, _, rfl, hP, ?_⟩; clear hP hM
 rw [search_pos hs.2 x]
 refine la ?_
 refine liNil (qThen (stSeq ?_))
 refine anyBegin [cAt b2 29 [(vP bs 0)], cAt b3 9 [(vS x)]] 19 (by kernel_rfl) (fun _ h => h) ?_
 refine am 0 ?_
 refine av 1 (vP bs 0) rfl (rLoad 0 rfl rfl (by kernel_rfl) rfl rfl) ?_
 refine ac 2 (vP bs 0) ?_
 refine ac 3 (vP bs 0) ?_
 refine av 4 (vL A its c) rfl (rLoadW rfl rfl (by kernel_rfl) (fun w hM => At.cell (ra.now hM) 0)) ?_
 refine ac 5 (vI its.length) ?_
 refine ac 6 (.bool (decide ((((posB its x) : Nat) : Int) < ((its.length : Nat) : Int)))) ?_
 refine am 7 ?_
 refine Any.dec 20 rfl (fun hc20 => ?_) (fun hc20 => ?_)
 ·have hd20 := of_decide_eq_true hc20
  refine agv 8 (vP bs 0) rfl (rLoad 0 rfl rfl (by kernel_rfl) rfl rfl) ?_
  refine agc 9 (vP bs 0) ?_
  refine agc 10 (vP bs 0) ?_
  refine agv 11 (vL A its c) rfl (rLoadW rfl rfl (by kernel_rfl) (fun w hM => At.cell (ra.now hM) 0)) ?_
  refine agm 12 ?_
  obtain ⟨x0, hx0⟩ : ∃ ξ, (its)[posB its x]? = some ξ := ⟨_, List.getElem?_eq_getElem (by omega)⟩
  refine Any.rowPtr (fun w hM => rb.now hM) (SS_at hx0) (fun p26 q26 hA26 hc26 => ?_)
  refine agv 13 (vP p26 (q26 + (posB its x))) rfl (rIndexRow (e := 9) rfl (by kernel_rfl) (by kernel_rfl) rfl rfl hA26 (by omega)) ?_
  refine agv 14 (vS x0) rfl (rLoadW rfl rfl (by kernel_rfl) hc26) ?_
  refine agv 15 (vS x) rfl (rLoad 1 rfl rfl (by kernel_rfl) rfl rfl) ?_
  refine agv 16 (.bool (decide (x0 = x))) rfl (rStrEq rfl rfl rfl) ?_
  refine ac 17 (.bool (decide (x0 = x))) ?_
  refine aa 18 ?_
  refine anyDone (by kernel_rfl) ?_
  refine qThen (stRet ?_)
  refine stEnd [(.bool (decide (x0 = x)))] rfl ⟨rfl, trivial⟩ (fun w hM => ?_)
  exact ⟨ret_bool (by rw [has_pos hs.2, hx0]; simp), (hM.pick [] rfl rfl)⟩
 ·have hd20 := of_decide_eq_false hc20
  refine anF 8 ?_
  refine anF 9 ?_
  refine anF 10 ?_
  refine anF 11 ?_
  refine anF 12 ?_
  refine anF 13 ?_
  refine anF 14 ?_
  refine anF 15 ?_
  refine anF 16 ?_
  refine ac 17 (.bool false) ?_
  refine aa 18 ?_
  refine anyDone (by kernel_rfl) ?_
  refine qThen (stRet ?_)
  refine stEnd [(.bool false)] rfl ⟨rfl, trivial⟩ (fun w hM => ?_)
  exact ⟨ret_bool (by rw [has_pos hs.2, List.getElem?_eq_none (l := its) (i := posB its x) (by omega)]; simp), (hM.pick [] rfl rfl)⟩
theorem rsSum_any (bs : Nat) (A : Option Addr) (c : Nat) (its : List (List UInt8)) (fan : Nat) (leaf : Nat) (nm : Nat) (om : Nat) (lo : List UInt8) (hi : List UInt8) (w : World) (r0 : Rf [] w (Vars)) (r1 : Rf [] w (SessAt bs A c its fan leaf nm om)) (hs : okSet its) (hn : its.length ≤ 1000) (hcap : its.length ≤ c) :
  Calls Tryz.prog 38 #[(vP bs 0), (.agg #[(vS lo), (vS hi)])] w fun e w' => e = .returned (.agg #[(vI ((inL its lo hi).length)), (vS (fpB (inL its lo hi)))]) ∧ Back [] w [] w' := by
 have ra := r1.imp (fun _ h => h.1)
 have rb := r1.imp (fun _ h => h.2)
 refine stEnter (args := [(vP bs 0), (.agg #[(vS lo), (vS hi)])]) (fps []) Tryz.func38 rfl 14 rfl [(0, (vP bs 0)), (1, (.agg #[(vS lo), (vS hi)]))] ⟨rfl, rfl, trivial⟩ [] (Mm.start w []) ?_
 refine stSeq (reg (li rfl ?_))
 refine opBox [(vS lo), (vS hi)] rfl rfl (by kernel_rfl) rfl rfl (fun b3 => ?_)
 refine li rfl ?_
 refine opAlloc [(.int .i64 0), (.string ⟨#[]⟩)] rfl rfl (by kernel_rfl) (by kernel_rfl) (fun b4 => ?_)
 refine liNil (qThen (stSeq (reg ?_)))
 refine lm ?_
 refine lv (v := (.agg #[(vS lo), (vS hi)])) (rLoadA [(vS lo), (vS hi)] rfl rfl (by kernel_rfl) (by kernel_rfl) (segAt (i := 0) rfl (by intro j v hj; first | (rw [Nat.zero_add]; exact hj) | (match j, hj with | 0, h => exact h | 1, h => exact h)))) ?_
 refine li rfl ?_
 refine opK0 (fun w hM => (rsWithin_any bs A c its fan leaf nm om lo hi w (r1.go0 hM) (by assumption) (by assumption) (by assumption)).mono ?_)
 rintro e w' ⟨B8, cb8, rfl, hP, hsub8⟩
 refine ⟨_, _, rfl, hP, ?_⟩; clear hP hM
 have rs8 := Ro.imp (Ψ := fun w => RowIn w B8 (SS (inL its lo hi))) rb hsub8
 refine la ?_
 refine liNil (qThen (stSeq (reg ?_)))
 refine lm ?_
 refine lc (vI ((inL its lo hi).length)) ?_
 refine lm ?_
 refine li rfl ?_
 refine opK0 (fun w hM => (rsJoin_any B8 cb8 (inL its lo hi) w (r0.go0 hM) (rs8.go0 hM) (by have := inL_flat hs lo hi; omega) (by have := inL_len its lo hi; omega)).mono ?_)
 rintro e w' ⟨rfl, hP⟩
 refine ⟨_, _, rfl, hP, ?_⟩; clear hP hM
 refine lc (.agg #[(vI ((inL its lo hi).length)), (vS (sha (inL its lo hi).flatten))]) ?_
 refine li rfl ?_
 refine opStoreN 1 [(vI ((inL its lo hi).length)), (vS (sha (inL its lo hi).flatten))] (vs := [(vI ((inL its lo hi).length)), (vS (sha (inL its lo hi).flatten))]) rfl rfl (by kernel_rfl) rfl rfl rfl (by kernel_rfl) rfl (by simp) (by simp [Value.oneCell']) rfl ?_
 refine liNil (qThen (stRet ?_))
 refine stEnd [(.agg #[(vI ((inL its lo hi).length)), (vS (sha (inL its lo hi).flatten))])] rfl ⟨⟨_, rfl, fun w hM => run_loadVarA (by kernel_rfl) (by kernel_rfl) (segAt (i := 1) (off := 0) rfl (by intro j v hj; rw [Nat.zero_add]; exact hj) w hM)⟩, trivial⟩ (fun w hM => ?_)
 exact ⟨rfl, (hM.pick [] rfl rfl)⟩
end Go.Proofs.YtlepfnihpdhcaaaGreatDoor
namespace Go.Proofs.YtlepfnihpdhcaaaGreatDoor
open Go.RowKit
/-! ### In memory -/
inductive CV where
 | sum (n : Nat) (f : Bs) | list (A : Option Addr) (c : Nat) (xs : List Bs) | ans (A : Option Addr) (c : Nat) (xs : List Bs) (B : Option Addr) (d : Nat) (ms : List Bs)
structure PV where
 (lo hi : Bs) (c : CV)
def CV.val : CV → Value
 | .sum n f => .iface 71 (.agg #[.int .i64 ((n : Nat) : Int), .string (strOf f)])
 | .list A c xs => .iface 89 (.agg #[.slice A xs.length c])
 | .ans A c xs B d ms => .iface 92 (.agg #[.slice A xs.length c, .slice B ms.length d])
def CV.abs : CV → AC
 | .sum n f => .sum n f
 | .list _ _ xs => .list xs
 | .ans _ _ xs _ _ ms => .ans xs ms
def PV.abs (p : PV) : AP := ⟨p.lo, p.hi, p.c.abs⟩
def CV.rows : CV → List (Option Addr × List Bs)
 | .sum _ _ => []
 | .list A _ xs => [(A, xs)]
 | .ans A _ xs B _ ms => [(A, xs), (B, ms)]
def PV.cells (p : PV) : List Value := [.string (strOf p.lo), .string (strOf p.hi), p.c.val]
def PS (ps : List PV) : List Value := ps.flatMap PV.cells
abbrev cP (A : Option Addr) (l : List PV) (c : Nat) : Ch := cOwn 76 3 A l.length c (PS l)
theorem PS_append (a b : List PV) : PS (a ++ b) = PS a ++ PS b := List.flatMap_append
theorem CV.one (c : CV) : c.val.oneCell' = true := by cases c <;> rfl
theorem PV.one (p : PV) : ∀ u ∈ p.cells, u.oneCell' = true := by
 intro u hu
 simp only [PV.cells, List.mem_cons, List.not_mem_nil, or_false] at hu
 rcases hu with rfl | rfl | rfl
 ·rfl
 ·rfl
 ·exact CV.one _
theorem PS_one {ps : List PV} : ∀ u ∈ PS ps, u.oneCell' = true := by
 intro u hu
 obtain ⟨p, _, hp⟩ := List.mem_flatMap.1 hu
 simp only [PV.cells, List.mem_cons, List.not_mem_nil, or_false] at hp
 rcases hp with rfl | rfl | rfl
 ·rfl
 ·rfl
 ·exact CV.one _
theorem PS_at {ps : List PV} {i : Nat} {p : PV} (h : ps[i]? = some p) (k : Nat) (v : Value) (hk : p.cells[k]? = some v) : (PS ps)[i * 3 + k]? = some v := by
 induction ps generalizing i with
 | nil => simp at h
 | cons q ps ih =>
  show (q.cells ++ PS ps)[i * 3 + k]? = some v
  cases i with
  | zero =>
   simp only [List.getElem?_cons_zero, Option.some.injEq] at h
   subst h
   rw [Nat.zero_mul, Nat.zero_add, List.getElem?_append_left (List.getElem?_eq_some_iff.1 hk).1]
   exact hk
  | succ i =>
   rw [List.getElem?_append_right (by show 3 ≤ _; omega), show (i + 1) * 3 + k - q.cells.length = i * 3 + k by show _ - 3 = _; omega]
   exact ih (by simpa using h)
def sumP (its : List Bs) (lo hi : Bs) : PV := ⟨lo, hi, .sum (inL its lo hi).length (fpB (inL its lo hi))⟩
def divP (its own : List Bs) (fan : Nat) (lo : Bs) : Nat → Bs × List PV
 | 0 => (lo, [])
 | k + 1 => if own.getD ((k + 1) * own.length / fan) [] = (divP its own fan lo k).1 then divP its own fan lo k else (own.getD ((k + 1) * own.length / fan) [], (divP its own fan lo k).2 ++ [sumP its (divP its own fan lo k).1 (own.getD ((k + 1) * own.length / fan) [])])
theorem divP_abs (its own : List Bs) (fan : Nat) (lo : Bs) : ∀ k, (divP its own fan lo k).1 = (divTo its own fan lo k).1 ∧ (divP its own fan lo k).2.map PV.abs = (divTo its own fan lo k).2
 | 0 => ⟨rfl, rfl⟩
 | k + 1 => by
  obtain ⟨h1, h2⟩ := divP_abs its own fan lo k
  unfold divP divTo
  rw [h1]
  split
  ·exact ⟨h1, h2⟩
  ·refine ⟨rfl, ?_⟩
   rw [List.map_append, h2]
   rfl
theorem divP_no {its own : List Bs} {fan k : Nat} {lo x : Bs} (hx : own[(k + 1) * own.length / fan]? = some x) (h : (!decide (x = (divP its own fan lo k).1)) = false) : divP its own fan lo (k + 1) = divP its own fan lo k := by
 have e : own.getD ((k + 1) * own.length / fan) [] = x := by rw [List.getD_eq_getElem?_getD, hx]; rfl
 rw [divP, e, if_pos (by simpa using h)]
theorem divP_yes {its own : List Bs} {fan k : Nat} {lo x : Bs} (hx : own[(k + 1) * own.length / fan]? = some x) (h : (!decide (x = (divP its own fan lo k).1)) = true) : divP its own fan lo (k + 1) = (x, (divP its own fan lo k).2 ++ [sumP its (divP its own fan lo k).1 x]) := by
 have e : own.getD ((k + 1) * own.length / fan) [] = x := by rw [List.getD_eq_getElem?_getD, hx]; rfl
 rw [divP, e, if_neg (by simpa using h)]
theorem divP_len (its own : List Bs) (fan : Nat) (lo : Bs) : ∀ k, (divP its own fan lo k).2.length ≤ k
 | 0 => Nat.le_refl _
 | k + 1 => by
  have := divP_len its own fan lo k
  unfold divP
  split
  ·omega
  ·simp only [List.length_append, List.length_cons, List.length_nil]; omega
theorem divP_sum (its own : List Bs) (fan : Nat) (lo : Bs) : ∀ k, ∀ p ∈ (divP its own fan lo k).2, p.c.rows = []
 | 0 => by simp [divP]
 | k + 1 => by
  unfold divP
  split
  ·exact divP_sum its own fan lo k
  ·intro p hp
   rcases List.mem_append.1 hp with hp | hp
   ·exact divP_sum its own fan lo k p hp
   ·rw [List.mem_singleton.1 hp]; rfl
/-! ### Rows as one piece -/
def cBag (L : List (Option Addr × List Bs)) : Ch where
 fp := L.flatMap fun r => ownFp r.1
 holds w := ∀ r ∈ L, RowIn w r.1 (SS r.2) ∧ ∀ b ∈ ownFp r.1, b < w.heap.size
 ok w w' hb h := fun r hr => by
  obtain ⟨h1, h2⟩ := h r hr
  have hb' : ∀ b ∈ ownFp r.1, w'.heap[b]? = w.heap[b]? := fun b hb1 => hb b (List.mem_flatMap.2 ⟨r, hr, hb1⟩)
  refine ⟨fun j v hj => ?_, fun b hb1 => ?_⟩
  ·obtain ⟨b, o, hA, hlt, hc⟩ := h1 j v hj
   have e := hb' b (by rw [hA]; simp [ownFp])
   refine ⟨b, o, hA, ?_, ?_⟩
   ·by_cases hlt' : b < w'.heap.size
    ·exact hlt'
    ·rw [Array.getElem?_eq_none (by omega), Array.getElem?_eq_getElem hlt] at e
     cases e
   ·rw [← hc]
    simp only [World.cell?, e]
  ·have e := hb' b hb1
   by_cases hlt' : b < w'.heap.size
   ·exact hlt'
   ·rw [Array.getElem?_eq_none (by omega), Array.getElem?_eq_getElem (h2 b hb1)] at e
    cases e
 lt w h b hb := by
  obtain ⟨r, hr, hb1⟩ := List.mem_flatMap.1 hb
  exact (h r hr).2 b hb1
section
variable {w0 w w' : World} {F : List Nat} {cs : List Ch}
theorem bag1_fp {A : Option Addr} {xs : List Bs} : (cBag [(A, xs)]).fp = ownFp A := by simp [cBag]
theorem Mm.toBag (h : Mm w0 F cs w) (i : Nat) {e : TypeId} {A : Option Addr} {n c : Nat} {xs : List Bs} (hi : cs[i]? = some (cOwn e 1 A n c (SS xs))) : Mm w0 F (cs.set i (cBag [(A, xs)])) w :=
 h.swap i hi (Fr.refl _ _) (fun r hr => by
  rw [List.mem_singleton.1 hr]
  have ho := h.at hi
  refine ⟨?_, ?_⟩
  ·have ho' : w.ownsRow 0 e 1 (.slice A n c) n (SS xs) := ho
   exact RowIn.of_own ho'
  ·intro b hb
   exact (cOwn e 1 A n c (SS xs)).lt w ho b hb) (fun b hb => .inl (by rw [bag1_fp] at hb; exact hb)) (by simpa [cBag] using ownFp_nodup A)
theorem cBag_fp (L M : List (Option Addr × List Bs)) : (cBag (L ++ M)).fp = (cBag L).fp ++ (cBag M).fp := List.flatMap_append
theorem Mm.join {L M : List (Option Addr × List Bs)} (h : Mm w0 F (cs ++ [cBag L, cBag M]) w) : Mm w0 F (cs ++ [cBag (L ++ M)]) w := by
 have e : (cs ++ [cBag (L ++ M)]).flatMap Ch.fp = (cs ++ [cBag L, cBag M]).flatMap Ch.fp := by
  simp only [List.flatMap_append, List.flatMap_cons, List.flatMap_nil, cBag_fp, List.append_nil]
 refine ⟨h.fr, ?_, ?_, ?_⟩
 ·intro c hc
  rcases List.mem_append.1 hc with hc | hc
  ·exact h.hold c (List.mem_append_left _ hc)
  ·rw [List.mem_singleton.1 hc]
   intro r hr
   rcases List.mem_append.1 hr with hr | hr
   ·exact h.hold (cBag L) (List.mem_append_right _ (by simp)) r hr
   ·exact h.hold (cBag M) (List.mem_append_right _ (by simp)) r hr
 ·rw [e]; exact h.nodup
 ·rw [e]; exact h.own
theorem Mm.joinP {cs' : List Ch} {L M : List (Option Addr × List Bs)} (h : Mm w0 F cs w) (is : List Nat) (i j : Nat) (hn : ndB (is ++ [i, j]) = true) (hi : cs[i]? = some (cBag L)) (hj : cs[j]? = some (cBag M)) (he : pk cs is ++ [cBag (L ++ M)] = cs') : Mm w0 F cs' w := by
 subst he
 refine Mm.join (h.pick (is ++ [i, j]) hn ?_)
 simp [pk, List.filterMap_append, hi, hj]
theorem Mm.noBag (h : Mm w0 F cs w) : Mm w0 F (cs ++ [cBag []]) w := h.push (c := cBag []) (Fr.refl _ _) (by intro r hr; cases hr) (by simp [cBag]) (by simp [cBag])
end
def SrcOk (L : List (Option Addr × List Bs)) (A : Option Addr) (its : List Bs) (ps : List PV) : Prop := ∀ p ∈ ps, ∀ r ∈ p.c.rows, r ∈ L ∨ ∀ w, RowIn w A (SS its) → RowIn w r.1 (SS r.2)
def PsOk (ps : List PV) (w : World) : Prop := ∀ p ∈ ps, ∀ r ∈ p.c.rows, RowIn w r.1 (SS r.2)
theorem SrcOk.nil {L : List (Option Addr × List Bs)} {A : Option Addr} {its : List Bs} : SrcOk L A its [] := by intro p hp; cases hp
theorem SrcOk.append {L M : List (Option Addr × List Bs)} {A : Option Addr} {its : List Bs} {a b : List PV} (h : SrcOk L A its a) (k : SrcOk M A its b) : SrcOk (L ++ M) A its (a ++ b) := by
 intro p hp r hr
 rcases List.mem_append.1 hp with hp | hp
 ·exact (h p hp r hr).imp (List.mem_append_left _) id
 ·exact (k p hp r hr).imp (List.mem_append_right _) id
theorem SrcOk.ok {L : List (Option Addr × List Bs)} {A : Option Addr} {its : List Bs} {ps : List PV} {w : World} (h : SrcOk L A its ps) (hL : (cBag L).holds w) (hr : RowIn w A (SS its)) : PsOk ps w := fun p hp r hp' => (h p hp r hp').elim (fun hm => (hL r hm).1) (fun hf => hf w hr)
theorem SrcOk.noRows {L : List (Option Addr × List Bs)} {A : Option Addr} {its : List Bs} {ps : List PV} (h : ∀ p ∈ ps, p.c.rows = []) : SrcOk L A its ps := fun p hp r hr => by rw [h p hp] at hr; cases hr
theorem el_part : Elem Tryz.prog 77 76 (.agg #[.string ⟨#[]⟩, .string ⟨#[]⟩, .nilIface]) 3 48 := ⟨Tryz.underlying77, by kernel_rfl, rfl, by omega, by omega⟩
section
variable {P : Program} {Q : Exit → Act → World → Prop} {n : Nat} {w0 : World} {F : List Nat} {E : Env} {cs : List Ch} {X K : Act → World → Prop} {ops : Array Oper} {o oi : Oper} {rest : List Oper} {d : Nat}
theorem rQuoN {ty u : TypeId} {x y : Operand} {a b : Nat} (ho : o.op = .binOp .quo ty x y u) (hx : evO E x = some (.int .i64 ((a : Nat) : Int))) (hy : evO E y = some (.int .i64 ((b : Nat) : Int))) (hb : 0 < b) (ha : a ≤ 9223372036854775807) : RunV P w0 F cs E o (.int .i64 ((a / b : Nat) : Int)) := by
 have h := Nat.div_le_self a b
 exact rQuo _ ho hx hy (by omega) (by rw [Int.natCast_ediv, Int.tdiv_eq_ediv_of_nonneg (by omega)]) (Int.le_trans (by decide) (Int.natCast_nonneg _)) (Int.ofNat_le.2 (Nat.le_trans h ha))
end
section
variable {w0 : World} {F : List Nat} {E : Env} {cs : List Ch} {o : Oper}
theorem rEqSummed {u : TypeId} {x y : Operand} {a b : Nat} {p q : Bs} (ho : o.op = .binOp .eql 71 x y u) (hx : evO E x = some (.agg #[.int .i64 ((a : Nat) : Int), .string (strOf p)])) (hy : evO E y = some (.agg #[.int .i64 ((b : Nat) : Int), .string (strOf q)])) : RunV Tryz.prog w0 F cs E o (.bool (decide (a = b ∧ p = q))) := fun w _ => by
 have hg : Tryz.prog.eqGuardType Tryz.prog.depth 71 = false := by kernel_rfl
 have hs : Tryz.prog.stoodInHeld 71 = false := by kernel_rfl
 have hm : (Tryz.prog.fieldsOf 71).toList.map (fun f => (f.name == "_", f.type, f.offset)) = [(false, 3, 0), (false, 9, 1)] := by kernel_rfl
 have he : (Op.equal 71 (.agg #[.int .i64 ((a : Nat) : Int), .string (strOf p)]) (.agg #[.int .i64 ((b : Nat) : Int), .string (strOf q)])).run Tryz.prog w = .ok (decide (a = b ∧ p = q)) w := by
  refine (run_equalIn_struct w 9999 _ _ _ (by kernel_rfl) hs).trans ?_
  generalize (Tryz.prog.fieldsOf 71).toList = l at hm
  have hl : l.length = 2 := by simpa using congrArg List.length hm
  match l, hl with
  | [g1, g2], _ =>
   simp only [List.map_cons, List.map_nil, List.cons.injEq, Prod.mk.injEq, and_true, beq_eq_false_iff_ne] at hm
   obtain ⟨⟨h1, t1, o1⟩, h2, t2, o2⟩ := hm
   have e1 := run_part_plain w (P := Tryz.prog) (e := 3) (xs := #[.int .i64 ((a : Nat) : Int), .string (strOf p)]) (off := 0) (v := .int .i64 ((a : Nat) : Int)) (by kernel_rfl) rfl
   have e2 := run_part_plain w (P := Tryz.prog) (e := 3) (xs := #[.int .i64 ((b : Nat) : Int), .string (strOf q)]) (off := 0) (v := .int .i64 ((b : Nat) : Int)) (by kernel_rfl) rfl
   have e3 := run_part_plain w (P := Tryz.prog) (e := 9) (xs := #[.int .i64 ((a : Nat) : Int), .string (strOf p)]) (off := 1) (v := .string (strOf p)) (by kernel_rfl) rfl
   have e4 := run_part_plain w (P := Tryz.prog) (e := 9) (xs := #[.int .i64 ((b : Nat) : Int), .string (strOf q)]) (off := 1) (v := .string (strOf q)) (by kernel_rfl) rfl
   simp only [Op.eqFields, h1, h2, ne_eq, not_false_eq_true, if_true, Sem.run_bind, Sem.run_ite, Sem.run_pure, t1, t2, o1, o2, e1, e2, e3, e4, Result.andThen_ok, run_equalIn_int w 9998 _ .i64 _ _ _ Tryz.underlying3, run_equalIn_string w 9998 _ _ _ Tryz.underlying9, strOf_toList]
   by_cases ha : a = b
   ·subst ha
    by_cases hp : p = q
    ·subst hp; simp
    ·simp [hp]
   ·have ha' : ¬ ((a : Nat) : Int) = ((b : Nat) : Int) := fun h => ha (Int.ofNat.inj h)
    simp [ha, ha']
 unfold execOp
 simp only [ho, evE_of hx, evE_of hy, Sem.run_bind, run_eqGuard_agg w _ _ _ _ _ _ hg, binOp, Result.andThen_ok, he, Sem.run_pure]
end
section
variable {P : Program} {Q : Exit → Act → World → Prop} {n : Nat} {w0 : World} {F : List Nat} {E : Env} {cs : List Ch} {X K : Act → World → Prop} {ops : Array Oper} {o oi : Oper} {rest : List Oper} {d : Nat}
theorem rowOwn3 {e : TypeId} {i sz : Nat} {A : Option Addr} {m c : Nat} {xs : List Value} (hi : cs[i]? = some (cOwn e sz A m c xs)) : ∀ w, Mm w0 F cs w → RowIn w A xs := by
 intro w hM j u hu
 have h : w.ownsRow 0 e sz (.slice A m c) m xs := hM.at hi
 rcases h.2 with ⟨_, h0⟩ | ⟨g, cap, cur, hv, _, hg, _, _, _, hc⟩
 ·have := h.1
  rw [h0, Nat.zero_mul] at this
  rw [List.eq_nil_of_length_eq_zero this] at hu
  simp at hu
 ·simp only [Value.slice.injEq] at hv
  obtain ⟨rfl, _, _⟩ := hv
  refine ⟨g, 0, rfl, (Array.getElem?_eq_some_iff.1 hg).1, ?_⟩
  have hlt := (List.getElem?_eq_some_iff.1 hu).1
  rw [h.1] at hlt
  have : cur.toList[j]? = some u := by rw [← List.getElem?_take_of_lt hlt, hc]; exact hu
  rw [Nat.zero_add]
  simpa [World.cell?, hg] using this
theorem own3_row {e : TypeId} {sz : Nat} {A : Option Addr} {m c : Nat} {xs : List Value} {w : World} (h : (cOwn e sz A m c xs).holds w) : RowIn w A xs := by
 have hM : Mm w (ownFp A) [cOwn e sz A m c xs] w := ⟨Fr.refl _ _, by intro d hd; rw [List.mem_singleton.1 hd]; exact h, by simpa [cOwn] using ownFp_nodup A, by intro b hb; exact .inl (by simpa [cOwn] using hb)⟩
 exact rowOwn3 (i := 0) rfl w hM
theorem part_cells {w : World} {A : Option Addr} {ps : List PV} {i : Nat} {p : PV} (h : RowIn w A (PS ps)) (hp : ps[i]? = some p) {b q : Nat} (hA : A = some ⟨b, q, none⟩) : ∀ j v, p.cells[j]? = some v → w.cell? ⟨b, q + i * 3 + j, none⟩ = some v := fun j v hj => by
 rw [Nat.add_assoc]
 exact row_cell h (PS_at hp j v hj) hA
theorem St.partPtr {A : Option Addr} {ps : List PV} {i : Nat} {p : PV} (h : ∀ w, Mm w0 F cs w → RowIn w A (PS ps)) (hp : ps[i]? = some p) (k : ∀ b q, A = some ⟨b, q, none⟩ → (∀ w, Mm w0 F cs w → ∀ j v, p.cells[j]? = some v → w.cell? ⟨b, q + i * 3 + j, none⟩ = some v) → St n w0 F E cs X) : St n w0 F E cs X := fun a w ha hM => by
 obtain ⟨b, q, hA⟩ := row_form (h w hM) (PS_at hp 0 _ rfl)
 exact k b q hA (fun w' hM' => part_cells (h w' hM') hp hA) a w ha hM
theorem Any.partPtr {css : List Ch} {z fuel : Nat} {listed : Array Bool} {A : Option Addr} {ps : List PV} {i : Nat} {p : PV} (h : ∀ w, Mm w0 F css w → RowIn w A (PS ps)) (hp : ps[i]? = some p) (k : ∀ b q, A = some ⟨b, q, none⟩ → (∀ w, Mm w0 F css w → ∀ j v, p.cells[j]? = some v → w.cell? ⟨b, q + i * 3 + j, none⟩ = some v) → Any P ops Q n w0 F E cs css z fuel listed) : Any P ops Q n w0 F E cs css z fuel listed := fun a w ha hM hS hc => by
 obtain ⟨b, q, hA⟩ := row_form (h w hS) (PS_at hp 0 _ rfl)
 exact k b q hA (fun w' hM' => part_cells (h w' hM') hp hA) a w ha hM hS hc
theorem rIndexRow3 {ty e : TypeId} {x i : Operand} {A : Option Addr} {b off len cap j : Nat} {k : IntKind} (ho : o.op = .indexAddr ty x i) (hu : P.underlying ty = some (.slice e)) (hsz : sizeT P e = some 3) (hx : evO E x = some (.slice A len cap)) (hi : evO E i = some (.int k (j : Int))) (hA : A = some ⟨b, off, none⟩) (hlt : j < len) : RunV P w0 F cs E o (.pointer (some ⟨b, off + j * 3, none⟩)) := by
 subst hA
 exact rIndexAddr ho hu hsz hx hi hlt
def CV.pay : CV → Value
 | .sum n f => .agg #[.int .i64 ((n : Nat) : Int), .string (strOf f)]
 | .list A c xs => .agg #[.slice A xs.length c]
 | .ans A c xs B d ms => .agg #[.slice A xs.length c, .slice B ms.length d]
def CV.wfn : CV → FuncId
 | .sum _ _ => 146
 | .list _ _ _ => 149
 | .ans _ _ _ _ _ _ => 154
theorem hrWrite {x y : Operand} {t : Array TypeId} {c : CV} {wv : Value} (ho : o.op = .call { callee := .invoke x "kinkeep/rangesum.write", args := #[y], argTypes := t }) (hx : evO E x = some c.val) (hy : evO E y = some wv) : ∀ w, (execOp (evE E) o).run Tryz.prog w = .ok (.enter c.wfn #[c.pay, wv]) w := by
 intro w
 unfold execOp
 simp only [ho, resolve, evE_of hx, evE_of hy, Sem.run_bind, Sem.run_pure, Result.andThen_ok, List.map_toArray, List.map_cons, List.map_nil]
 cases c <;> kernel_rfl
end
end Go.Proofs.YtlepfnihpdhcaaaGreatDoor
namespace Go.Proofs.YtlepfnihpdhcaaaGreatDoor
open Go.RowKit
structure Grew (base : Nat) (v : Value) (bs : List UInt8) (w : World) (v' : Value) (w' : World) : Prop where
 own : w'.ownsRow base 5 1 v' bs.length (B8 bs)
 gr : w.grownBy w' v.ownBlock
 blk : v'.ownBlock = v.ownBlock ∨ ∃ g, v'.ownBlock = some g ∧ w.heap.size ≤ g
theorem Grew.step {base : Nat} {v v' v'' : Value} {bs cs : List UInt8} {w w' w'' : World} (h : Grew base v bs w v' w') (k : Grew base v' cs w' v'' w'') : Grew base v cs w v'' w'' := by
 refine ⟨k.own, ⟨k.gr.os.trans h.gr.os, k.gr.tape.trans h.gr.tape, k.gr.output.trans h.gr.output, Nat.le_trans h.gr.size k.gr.size, fun i hi hn => ?_⟩, ?_⟩
 ·refine (k.gr.block i (Nat.lt_of_lt_of_le hi h.gr.size) (fun e => ?_)).trans (h.gr.block i hi hn)
  rcases h.blk with hb | ⟨g, hb, hg⟩
  ·exact hn (e.trans hb)
  ·rw [hb] at e
   injection e with e
   omega
 ·rcases k.blk with hb | ⟨g, hb, hg⟩
  ·rcases h.blk with hb' | ⟨g, hb', hg⟩
   ·exact .inl (hb.trans hb')
   ·exact .inr ⟨g, hb.trans hb', hg⟩
  ·exact .inr ⟨g, hb, Nat.le_trans h.gr.size hg⟩
theorem Grew.refl {base : Nat} {v : Value} {bs : List UInt8} {w : World} (h : w.ownsRow base 5 1 v bs.length (B8 bs)) : Grew base v bs w v w := ⟨h, World.grownBy.refl w _, .inl rfl⟩
theorem Grew.size {base : Nat} {v v' : Value} {bs : List UInt8} {w w' : World} (h : Grew base v bs w v' w') : w.heap.size ≤ w'.heap.size := h.gr.size
theorem Grew.push {base : Nat} {v v' : Value} {bs : List UInt8} {b : UInt8} {w w' : World} (h : w'.ownsRow base 5 1 v' (bs.length + 1) (B8 bs ++ [.int .u8 (b.toNat : Int)])) (hg : w.grownBy w' v.ownBlock) (hb : v'.ownBlock = v.ownBlock ∨ v'.ownBlock = some (w.heap.size + 1)) : Grew base v (bs ++ [b]) w v' w' := by
 refine ⟨?_, hg, ?_⟩
 ·rw [B8_append, List.length_append]; exact h
 ·rcases hb with hb | hb
  ·exact .inl hb
  ·exact .inr ⟨_, hb, by omega⟩
set_option maxHeartbeats 2000000 in
theorem extend_any (base n : Nat) (v : Value) (bs : List UInt8) (w : World) (hn : U64 n) (hl : bs.length + 10 ≤ 4294967296) (hb : base ≤ w.heap.size) (hown : w.ownsRow base 5 1 v bs.length (B8 bs)) :
  Calls Tryz.prog 79 #[v, .int .u64 (n : Int)] w fun e w' => ∃ v', e = .returned v' ∧ Grew base v (bs ++ num n) w v' w' := by
 have H0 := Lib.hid (Grew.refl hown)
 have hnl := num_length n hn
 have HN := Lib.hid hn
 have HL := Lib.hid hl
 clear hown hn hl
 go_enter Tryz.func79, Tryz.ntmps79
 go_wp2_with fail
 go_loopw [0, 1] (fun b i wr => ∃ (m : Nat) (cs : List UInt8), U64 m ∧ i = .int .u64 (m : Int) ∧ bs ++ num n = cs ++ num m ∧ Grew base v cs w b wr) (fun _ i _ => (intOf i).toNat)
 case atStart => exact ⟨n, bs, HN.out, rfl, rfl, H0.out⟩
 case round =>
  obtain ⟨m, cs, hm, rfl, he, hg⟩ := hrel
  have hsz := hg.size
  have HC : Hid (cs.length + 1 ≤ 137438953472) := by have h1 := congrArg List.length he; have h2 := HL.out; rw [List.length_append, List.length_append] at h1; show _ ≤ _; omega
  have HG := Lib.hid hg
  have HE := Lib.hid he
  have HM := Lib.hid hm
  have hmI : (m : Int) ≤ 18446744073709551615 := by unfold U64 at hm; omega
  clear hg he hm
  obtain ⟨A, c, rfl⟩ := ownsRow_form HG.out.own
  by_cases hlt : m < 128
  ·go_wp2_with (at_builtin; refine wpList_push el_u8 rfl (.tmp 15) (.tmp 18) rfl base _ _ _ (.int .u8 (m : Int)) rfl HG.out.own rfl rfl HC.out (by omega) 5 ?_; intro v' w1 hown1 hg1 hb1)
   go_ret
   refine ⟨v', rfl, HG.out.step ?_⟩
   rw [HE.out, num_small m hlt]
   exact Grew.push (by rw [byte_low m (by omega)] at hown1; exact hown1) hg1 hb1
  ·have hor := byte_or m
   have hge : (128 : Int) ≤ (m : Int) := by omega
   go_wp2_with (at_builtin; refine wpList_push el_u8 rfl (.tmp 7) (.tmp 11) rfl base _ _ _ (.int .u8 ((UInt8.ofNat (m % 128 + 128)).toNat : Int)) rfl HG.out.own rfl rfl HC.out (by omega) 5 ?_; intro v' w1 hown1 hg1 hb1)
   go_roundw
   case rel =>
    refine ⟨m / 128, cs ++ [UInt8.ofNat (m % 128 + 128)], ?_, by go_num, ?_, HG.out.step (Grew.push hown1 hg1 hb1)⟩
    ·have := HM.out; unfold U64 at this ⊢; omega
    ·rw [HE.out, num_big m hlt, List.append_assoc]; rfl
   case measure => simp [intOf]; omega
end Go.Proofs.YtlepfnihpdhcaaaGreatDoor
namespace Go.Proofs.YtlepfnihpdhcaaaGreatDoor
open Go.RowKit
theorem own_ne {w : World} {base : Nat} {e t : TypeId} {sz n b : Nat} {v : Value} {xs l : List Value} (h : w.ownsRow base e sz v n xs) (ha : At w b t l) (hne : e ≠ t) : v.ownBlock ≠ some b := by
 rcases h.2 with ⟨rfl, _⟩ | ⟨g, cap, cur, rfl, _, hh, _⟩
 ·simp [Value.ownBlock]
 ·intro he
  have : g = b := by simpa [Value.ownBlock] using he
  subst this
  unfold At at ha
  rw [ha] at hh
  simp only [Option.some.injEq, Obj.cells.injEq] at hh
  exact hne hh.2.1.symm
theorem newWriter_any (w : World) : Calls Tryz.prog 53 #[] w fun e w' => e = .returned (Value.pointer (some ⟨w.heap.size, 0, none⟩)) ∧ Fr [] w w' ∧ At w' w.heap.size 138 [.slice none 0 0, Value.int .i64 0] := by
 go_enter Tryz.func53, Tryz.ntmps53
 go_wp2
 go_ret
 exact ⟨rfl, (Fr.refl _ _).alloc _, At.new w 138 [.slice none 0 0, Value.int .i64 0]⟩
end Go.Proofs.YtlepfnihpdhcaaaGreatDoor
namespace Go.Proofs.YtlepfnihpdhcaaaGreatDoor
open Go.RowKit
variable {X : Option Addr × Nat}
def ReaderAt (X : Option Addr × Nat) (w : World) (br : Nat) (D : List UInt8) (off last : Nat) (err : Int) : Prop :=
 ∃ A c, X = (A, c) ∧ At w br 146 [.slice A D.length c, Value.int .i64 (off : Int), Value.int .i64 (last : Int), Value.int .i64 err] ∧ w.ownsRow 0 5 1 (.slice A D.length c) D.length (B8 D)
def NumRes (X : Option Addr × Nat) (br : Nat) (D : List UInt8) (off last : Nat) (w : World) (e : Ending) (w' : World) : Prop :=
 Fr [br] w w' ∧ ∃ off', off' ≤ D.length ∧ ReaderAt X w' br D off' last 0 ∧
  match rdNum D off with
  | some (n, m) => e = .returned (.tuple #[.int .u64 (n : Int), Value.int .i64 0]) ∧ off' = m ∧ U64 n
  | none => e = .returned (.tuple #[.int .u64 0, Value.int .i64 3])
theorem ReaderAt.fr {w w' : World} {br : Nat} {D : List UInt8} {off last : Nat} {err : Int} (h : ReaderAt X w br D off last err) (hf : Fr [] w w') : ReaderAt X w' br D off last err := by
 obtain ⟨A, c, hX, h1, h2⟩ := h
 exact ⟨A, c, hX, h1.fr hf (by simp), ownsRow_fr h2 hf (by simp)⟩
theorem number_fin (br : Nat) (D : List UInt8) (off last : Nat) (w wr : World) (A : Option Addr) (c : Nat) (v : Value) (k : Nat)
  (ha : At w br 146 [.slice A D.length c, Value.int .i64 (off : Int), Value.int .i64 (last : Int), Value.int .i64 0]) (hrow : w.ownsRow 0 5 1 (.slice A D.length c) D.length (B8 D)) (hX : X = (A, c)) (hf : Fr [br] w wr)
  (hat : At wr br 146 [.slice A D.length c, v, Value.int .i64 (last : Int), Value.int .i64 0]) (nq : Nat) :
  Fr [br] w ((wr.drewN nq).setCell ⟨br, 1, none⟩ (Value.int .i64 ((off : Int) + (k : Int) + 1))) ∧ At ((wr.drewN nq).setCell ⟨br, 1, none⟩ (Value.int .i64 ((off : Int) + (k : Int) + 1))) br 146 [.slice A D.length c, Value.int .i64 ((off + k + 1 : Nat) : Int), Value.int .i64 (last : Int), Value.int .i64 0] ∧ ReaderAt X ((wr.drewN nq).setCell ⟨br, 1, none⟩ (Value.int .i64 ((off : Int) + (k : Int) + 1))) br D (off + k + 1) last 0 := by
 have h1 := (hf.drewN nq).setCell (p := ⟨br, 1, none⟩) (.inl (by simp)) (Value.int .i64 ((off : Int) + (k : Int) + 1))
 have e : (off : Int) + (k : Int) + 1 = ((off + k + 1 : Nat) : Int) := by omega
 have h2 := (hat.drewN nq).set 1 (Value.int .i64 ((off : Int) + (k : Int) + 1))
 rw [e] at h1 h2 ⊢
 refine ⟨h1, h2, A, c, hX, h2, ownsRow_fr hrow h1 ?_⟩
 intro g hg hm
 have : g = br := by simpa using hm
 subst this
 exact own_ne hrow ha (by decide) hg
set_option maxHeartbeats 4000000 in
theorem number_any (br : Nat) (D : List UInt8) (off last : Nat) (w : World) (hr : ReaderAt X w br D off last 0) (ho : off ≤ D.length) (hD : D.length ≤ 4294967296) :
  Calls Tryz.prog 101 #[Value.pointer (some ⟨br, 0, none⟩)] w (NumRes X br D off last w) := by
 obtain ⟨A, c, hX, ha, hrow⟩ := hr
 have HR := Lib.hid (And.intro ha hrow)
 have HD := Lib.hid hD
 clear ha hrow hD
 go_enter Tryz.func101, Tryz.ntmps101
 go_wp2_with fail
 go_loopw [2, 6] (fun n i wr => ∃ k : Nat, k ≤ 10 ∧ i = .int .i64 k ∧ Fr [br] w wr ∧ At wr br 146 [.slice A D.length c, Value.int .i64 ((off + k : Nat) : Int), Value.int .i64 (last : Int), Value.int .i64 0] ∧ off + k ≤ D.length ∧
  (∀ j b, j < k → D[off + j]? = some b → 128 ≤ b.toNat) ∧ ∃ m : Nat, n = .int .u64 (m : Int) ∧ U64 m ∧ (k ≤ 9 → m = accN (D.drop off) k)) (fun _ i _ => 10 - (intOf i).toNat)
 case atStart => exact ⟨0, by omega, rfl, Fr.refl _ _, HR.out.1, ho, by intro j b h; omega, 0, rfl, by unfold U64; decide, fun _ => by simp [accN]⟩
 case round =>
  obtain ⟨k, hk, rfl, hfr, hat, hle, hpre, m, rfl, hm, hacc⟩ := hrel
  have HS := Lib.hid (And.intro hfr (And.intro hat (And.intro hpre (And.intro hm hacc))))
  have c0 : wr.cell? ⟨br, 0, none⟩ = some (.slice A D.length c) := by rw [hat.cell]; rfl
  have c1 : wr.cell? ⟨br, 1, none⟩ = some (Value.int .i64 ((off + k : Nat) : Int)) := by rw [hat.cell]; rfl
  have z1 : wr.frozen? ⟨br, 1, none⟩ = false := hat.frozen 1
  have hmI : (m : Int) ≤ 18446744073709551615 := by unfold U64 at hm; omega
  have hDI : (D.length : Int) ≤ 4294967296 := by have := HD.out; omega
  clear hfr hat hpre hm hacc
  by_cases hk10 : k < 10
  ·by_cases hend : off + k = D.length
   ·have t1 : (((off + k : Nat) : Int) == (D.length : Int)) = true := by rw [hend]; simp
    have HE := Lib.hid hend
    clear hend
    go_wp2_with fail
    go_quiet (fail)
    go_wp2_with fail
    go_ret2
    refine ⟨HS.out.1.drewN _, off + k, hle, ⟨A, c, hX, HS.out.2.1.drewN _, ?_⟩, ?_⟩
    ·refine ownsRow_fr HR.out.2 (HS.out.1.drewN _) ?_
     intro g hg hm
     have : g = br := by simpa using hm
     subst this
     exact own_ne HR.out.2 HR.out.1 (by decide) hg
    ·rw [rdNum_end D off k HS.out.2.2.1 HE.out]
     rfl
   ·have hlt : off + k < D.length := by omega
    have t1 : (((off + k : Nat) : Int) == (D.length : Int)) = false := by simp; omega
    obtain ⟨g, cap', rest, hv, _, _, hrat, hxl, _⟩ := ownsRow_at HR.out.2 (by omega)
    simp only [Value.slice.injEq, true_and] at hv
    obtain ⟨rfl, rfl⟩ := hv
    have hx := List.getElem?_eq_getElem hlt
    generalize D[off + k] = x at hx
    have hgb : g ≠ br := fun e => own_ne HR.out.2 HR.out.1 (by decide) (by rw [e]; rfl)
    have hcx : wr.cell? ⟨g, off + k, none⟩ = some (.int .u8 (x.toNat : Int)) := by
     rw [(hrat.fr HS.out.1 (by simpa using hgb)).cell, List.getElem?_append_left (by rw [B8_length]; exact hlt)]
     exact B8_get D _ x hx
    have hxb := UInt8.toNat_lt x
    have HX := Lib.hid hx
    obtain ⟨m', he, hm'⟩ := orG_nat m x k HS.out.2.2.2.1
    unfold orG at he
    have HM := Lib.hid hm'
    clear hx hrat hend hm' hxl
    by_cases hx128 : 128 ≤ x.toNat
    ·have a1 : (128 : Int) ≤ (x.toNat : Int) := by omega
     go_wp2_with fail
     go_quiet (fail)
     go_wp2_with fail
     go_quiet (fail)
     go_wp2_with fail
     go_roundw
     case rel =>
      obtain ⟨f1, f2, f3⟩ := number_fin br D off last w wr _ c _ k HR.out.1 HR.out.2 hX HS.out.1 HS.out.2.1 _
      refine ⟨k + 1, by omega, by go_num, f1, f2, by omega, ?_, m', rfl, HM.out.1, fun hk9 => ?_⟩
      ·intro j b hj hb
       by_cases e : j = k
       ·subst e
        rw [HX.out] at hb
        injection hb with hb
        subst hb
        omega
       ·exact HS.out.2.2.1 j b (by omega) hb
      ·rw [accN_succ k _ x (by rw [List.getElem?_drop]; exact HX.out), ← HS.out.2.2.2.2 (by omega)]
       refine HM.out.2 ?_ ?_
       ·rw [HS.out.2.2.2.2 (by omega)]; exact accN_lt _ _
       ·have h1 : 128 ^ k ≤ 128 ^ 8 := Nat.pow_le_pow_right (by omega) (by first | omega | (have := HG.out; omega))
        have h2 := Nat.mod_lt x.toNat (show 128 > 0 by omega)
        have h3 : x.toNat % 128 * 128 ^ k ≤ 127 * 128 ^ 8 := Nat.mul_le_mul (by omega) h1
        have h4 : 127 * 128 ^ 8 < 18446744073709551616 := by decide
        omega
     case measure => simp [intOf]; omega
    ·by_cases hbad : (0 < k ∧ x.toNat = 0) ∨ (k = 9 ∧ 1 < x.toNat)
     ·have HB := Lib.hid hbad
      by_cases hx0 : x.toNat = 0
      ·have a1 : ((x.toNat : Int) == 0) = true := by simp [hx0]
       have a2 : (0 : Int) < (k : Int) := by omega
       have a3 : (x.toNat : Int) < 128 := by omega
       clear hbad
       go_wp2_with fail
       go_quiet (fail)
       go_wp2_with fail
       go_quiet (fail)
       go_wp2_with fail
       go_ret2
       obtain ⟨f1, f2, f3⟩ := number_fin br D off last w wr _ c _ k HR.out.1 HR.out.2 hX HS.out.1 HS.out.2.1 _
       refine ⟨f1, _, ?_, f3, ?_⟩
       ·omega
       rw [rdNum_at D off k x HS.out.2.2.1 HX.out (by omega)]
       rw [if_neg (by have := HB.out; omega)]
       rfl
      ·have a1 : ((x.toNat : Int) == 0) = false := by simp; omega
       have a2 : (0 : Int) < (k : Int) := by omega
       have a3 : (x.toNat : Int) < 128 := by omega
       have a4 : ((k : Int) == 9) = true := by simp; omega
       have a5 : (1 : Int) < (x.toNat : Int) := by omega
       clear hbad
       go_wp2_with fail
       go_quiet (fail)
       go_wp2_with fail
       go_quiet (fail)
       go_wp2_with fail
       go_ret2
       obtain ⟨f1, f2, f3⟩ := number_fin br D off last w wr _ c _ k HR.out.1 HR.out.2 hX HS.out.1 HS.out.2.1 _
       refine ⟨f1, _, ?_, f3, ?_⟩
       ·omega
       rw [rdNum_at D off k x HS.out.2.2.1 HX.out (by omega)]
       rw [if_neg (by have := HB.out; omega)]
       rfl
     ·have HG0 := Lib.hid hbad
      by_cases hk0 : k = 0
      ·have a1 : decide ((0 : Int) < (k : Int)) = false := by simp; omega
       have a1n : decide (0 < k) = false := by simp; omega
       have HG := Lib.hid (And.intro HG0.out (And.intro hk0 hx128))
       have a3 : (x.toNat : Int) < 128 := by omega
       have a4 : ((k : Int) == 9) = false := by simp; omega
       clear hbad hk0 HG0
       go_wp2_with fail
       go_quiet (fail)
       go_wp2_with fail
       go_quiet (fail)
       go_wp2_with fail
       go_ret2
       obtain ⟨f1, f2, f3⟩ := number_fin br D off last w wr _ c _ k HR.out.1 HR.out.2 hX HS.out.1 HS.out.2.1 _
       refine ⟨f1, _, ?_, f3, ?_⟩
       ·omega
       rw [rdNum_at D off k x HS.out.2.2.1 HX.out (by omega)]
       rw [if_pos (by have := HG.out; omega)]
       have hv : m' = accN (D.drop off) (k + 1) := by
        rw [accN_succ k _ x (by rw [List.getElem?_drop]; exact HX.out), ← HS.out.2.2.2.2 (by omega)]
        refine HM.out.2 ?_ ?_
        ·rw [HS.out.2.2.2.2 (by omega)]; exact accN_lt _ _
        ·have h1 : 128 ^ k ≤ 128 ^ 8 := Nat.pow_le_pow_right (by omega) (by first | omega | (have := HG.out; omega))
         have h2 := Nat.mod_lt x.toNat (show 128 > 0 by omega)
         have h3 : x.toNat % 128 * 128 ^ k ≤ 127 * 128 ^ 8 := Nat.mul_le_mul (by omega) h1
         have h4 : 127 * 128 ^ 8 < 18446744073709551616 := by decide
         omega
       rw [← hv]
       exact ⟨rfl, rfl, HM.out.1⟩
      ·by_cases hk9 : k = 9
       ·have a1 : ((x.toNat : Int) == 0) = false := by simp; omega
        have a2 : (0 : Int) < (k : Int) := by omega
        have a3 : (x.toNat : Int) < 128 := by omega
        have a4 : ((k : Int) == 9) = true := by simp; omega
        have a5 : ¬ (1 : Int) < (x.toNat : Int) := by omega
        have HK := Lib.hid hk9
        have HG := Lib.hid (And.intro HG0.out (And.intro hk9 hx128))
        clear hbad hk0 hk9
        go_wp2_with fail
        go_quiet (fail)
        go_wp2_with fail
        go_quiet (fail)
        go_wp2_with fail
        go_ret2
        obtain ⟨f1, f2, f3⟩ := number_fin br D off last w wr _ c _ k HR.out.1 HR.out.2 hX HS.out.1 HS.out.2.1 _
        refine ⟨f1, _, ?_, f3, ?_⟩
        ·omega
        rw [rdNum_at D off k x HS.out.2.2.1 HX.out (by omega)]
        rw [if_pos (by have := HG.out; omega)]
        have hv : m' = accN (D.drop off) (k + 1) := by
         rw [accN_succ k _ x (by rw [List.getElem?_drop]; exact HX.out), ← HS.out.2.2.2.2 (by omega)]
         refine HM.out.2 ?_ ?_
         ·rw [HS.out.2.2.2.2 (by omega)]; exact accN_lt _ _
         ·have hk9 := HK.out
          subst hk9
          have h1 : x.toNat % 128 = 1 := by have := HG.out; omega
          rw [h1]
          decide
        rw [← hv]
        exact ⟨rfl, rfl, HM.out.1⟩
       ·have a1 : ((x.toNat : Int) == 0) = false := by simp; omega
        have a2 : (0 : Int) < (k : Int) := by omega
        have a3 : (x.toNat : Int) < 128 := by omega
        have a4 : ((k : Int) == 9) = false := by simp; omega
        have HG := Lib.hid (And.intro HG0.out (And.intro hk9 (And.intro hk0 hx128)))
        clear hbad hk9 hk0
        go_wp2_with fail
        go_quiet (fail)
        go_wp2_with fail
        go_quiet (fail)
        go_wp2_with fail
        go_ret2
        obtain ⟨f1, f2, f3⟩ := number_fin br D off last w wr _ c _ k HR.out.1 HR.out.2 hX HS.out.1 HS.out.2.1 _
        refine ⟨f1, _, ?_, f3, ?_⟩
        ·omega
        rw [rdNum_at D off k x HS.out.2.2.1 HX.out (by omega)]
        rw [if_pos (by have := HG.out; omega)]
        have hv : m' = accN (D.drop off) (k + 1) := by
         rw [accN_succ k _ x (by rw [List.getElem?_drop]; exact HX.out), ← HS.out.2.2.2.2 (by omega)]
         refine HM.out.2 ?_ ?_
         ·rw [HS.out.2.2.2.2 (by omega)]; exact accN_lt _ _
         ·have h1 : 128 ^ k ≤ 128 ^ 8 := Nat.pow_le_pow_right (by omega) (by first | omega | (have := HG.out; omega))
          have h2 := Nat.mod_lt x.toNat (show 128 > 0 by omega)
          have h3 : x.toNat % 128 * 128 ^ k ≤ 127 * 128 ^ 8 := Nat.mul_le_mul (by omega) h1
          have h4 : 127 * 128 ^ 8 < 18446744073709551616 := by decide
          omega
        rw [← hv]
        exact ⟨rfl, rfl, HM.out.1⟩
  ·obtain rfl : k = 10 := by omega
   go_wp2_with fail
   go_ret2
   refine ⟨HS.out.1, off + 10, hle, ⟨A, c, hX, HS.out.2.1, ?_⟩, ?_⟩
   ·refine ownsRow_fr HR.out.2 HS.out.1 ?_
    intro g hg hm
    have : g = br := by simpa using hm
    subst this
    exact own_ne HR.out.2 HR.out.1 (by decide) hg
   ·rw [rdNum_long D off HS.out.2.2.1 hle]
    rfl
end Go.Proofs.YtlepfnihpdhcaaaGreatDoor
namespace Go.Proofs.YtlepfnihpdhcaaaGreatDoor
open Go.RowKit
variable {X : Option Addr × Nat}
structure Rd where
 D : List UInt8
 off : Nat
 last : Nat
 err : Int
structure Rd.Ok (r : Rd) : Prop where
 off : r.off ≤ r.D.length
 len : r.D.length ≤ 4294967296
def RdAt (X : Option Addr × Nat) (w : World) (br : Nat) (r : Rd) : Prop := ReaderAt X w br r.D r.off r.last r.err
def Rd.done (r : Rd) (m : Nat) : Rd := { r with off := m, last := r.off }
def Rd.fail (r : Rd) (e : Int) : Rd := { r with last := r.off, err := e }
def Rd.uint (r : Rd) : Nat × Rd := if r.err = 0 then (match rdNum r.D r.off with | some (n, m) => (n, r.done m) | none => (0, r.fail 3)) else (0, r)
theorem rvClose_ok (b0 b1 b2 br : Nat) (A : Option Addr) (n c : Nat) (off last start : Int) (w : World) (h0 : At w b0 3 [Value.int .i64 start]) (h1 : At w b1 114 [Value.pointer (some ⟨br, 0, none⟩)]) (hr : At w br 146 [.slice A n c, Value.int .i64 off, Value.int .i64 last, Value.int .i64 0]) :
  CallsD Tryz.prog 122 #[Value.pointer (some ⟨b0, 0, none⟩), Value.pointer (some ⟨b1, 0, none⟩), Value.pointer (some ⟨b2, 0, none⟩)] .returning w fun e u' w' => u' = .returning ∧ e = .returned (.tuple #[]) ∧ w' = w.setCell ⟨br, 2, none⟩ (Value.int .i64 start) := by
 have c0 : w.cell? ⟨b0, 0, none⟩ = some (Value.int .i64 start) := by rw [h0.cell]; rfl
 have c1 : w.cell? ⟨b1, 0, none⟩ = some (Value.pointer (some ⟨br, 0, none⟩)) := by rw [h1.cell]; rfl
 have c2 : w.cell? ⟨br, 2, none⟩ = some (Value.int .i64 last) := by rw [hr.cell]; rfl
 have c3 : w.cell? ⟨br, 3, none⟩ = some (Value.int .i64 0) := by rw [hr.cell]; rfl
 have z2 := hr.frozen 2
 have hne : b1 ≠ br := h1.ne hr (by decide)
 clear h0 h1 hr
 go_enter_d Tryz.func122, Tryz.ntmps122
 go_wp2_with fail
 go_end0
 exact ⟨rfl, rfl⟩
theorem rvClose_err (b0 b1 b2 br : Nat) (A : Option Addr) (n c : Nat) (off last start err : Int) (v : Int) (w : World) (h0 : At w b0 3 [Value.int .i64 start]) (h1 : At w b1 114 [Value.pointer (some ⟨br, 0, none⟩)]) (h2 : At w b2 140 [.int .u64 v]) (hr : At w br 146 [.slice A n c, Value.int .i64 off, Value.int .i64 last, Value.int .i64 err]) (he : err ≠ 0) :
  CallsD Tryz.prog 122 #[Value.pointer (some ⟨b0, 0, none⟩), Value.pointer (some ⟨b1, 0, none⟩), Value.pointer (some ⟨b2, 0, none⟩)] .returning w fun e u' w' => u' = .returning ∧ e = .returned (.tuple #[]) ∧ w' = ((w.setCell ⟨br, 2, none⟩ (Value.int .i64 start)).setCell ⟨br, 1, none⟩ (Value.int .i64 start)).setCell ⟨b2, 0, none⟩ (.int .u64 0) := by
 have c0 : w.cell? ⟨b0, 0, none⟩ = some (Value.int .i64 start) := by rw [h0.cell]; rfl
 have c1 : w.cell? ⟨b1, 0, none⟩ = some (Value.pointer (some ⟨br, 0, none⟩)) := by rw [h1.cell]; rfl
 have cr1 : w.cell? ⟨br, 1, none⟩ = some (Value.int .i64 off) := by rw [hr.cell]; rfl
 have c2 : w.cell? ⟨br, 2, none⟩ = some (Value.int .i64 last) := by rw [hr.cell]; rfl
 have c3 : w.cell? ⟨br, 3, none⟩ = some (Value.int .i64 err) := by rw [hr.cell]; rfl
 have c4 : w.cell? ⟨b2, 0, none⟩ = some (.int .u64 v) := by rw [h2.cell]; rfl
 have z2 := hr.frozen 2
 have z1 := hr.frozen 1
 have z4 := h2.frozen 0
 have hne : b1 ≠ br := h1.ne hr (by decide)
 have hne2 : b2 ≠ br := h2.ne hr (by decide)
 have hne0 : b0 ≠ br := h0.ne hr (by decide)
 have heb : (err != 0) = true := by simpa using he
 clear h0 h1 hr h2 he
 go_enter_d Tryz.func122, Tryz.ntmps122
 go_wp2_with fail
 go_end0
 exact ⟨rfl, rfl⟩
theorem number_some (br : Nat) (D : List UInt8) (off last : Nat) (w : World) (hr : ReaderAt X w br D off last 0) (ho : off ≤ D.length) (hD : D.length ≤ 4294967296) (n m : Nat) (h : rdNum D off = some (n, m)) :
  Calls Tryz.prog 101 #[Value.pointer (some ⟨br, 0, none⟩)] w fun e w' => e = .returned (.tuple #[.int .u64 (n : Int), Value.int .i64 0]) ∧ Fr [br] w w' ∧ ReaderAt X w' br D m last 0 ∧ m ≤ D.length ∧ U64 n := by
 refine (number_any br D off last w hr ho hD).mono ?_
 rintro e w' ⟨hf, off', h1, h2, h3⟩
 rw [h] at h3
 obtain ⟨rfl, rfl, hu⟩ := h3
 exact ⟨rfl, hf, h2, h1, hu⟩
theorem number_none (br : Nat) (D : List UInt8) (off last : Nat) (w : World) (hr : ReaderAt X w br D off last 0) (ho : off ≤ D.length) (hD : D.length ≤ 4294967296) (h : rdNum D off = none) :
  Calls Tryz.prog 101 #[Value.pointer (some ⟨br, 0, none⟩)] w fun e w' => e = .returned (.tuple #[.int .u64 0, Value.int .i64 3]) ∧ Fr [br] w w' ∧ ∃ off', off' ≤ D.length ∧ ReaderAt X w' br D off' last 0 := by
 refine (number_any br D off last w hr ho hD).mono ?_
 rintro e w' ⟨hf, off', h1, h2, h3⟩
 rw [h] at h3
 exact ⟨h3, hf, off', h1, h2⟩
theorem ReaderAt.ne {w : World} {br b : Nat} {D : List UInt8} {off last : Nat} {err : Int} {t : TypeId} {l : List Value} (h : ReaderAt X w br D off last err) (ha : At w b t l) (hne : t ≠ 146) : b ≠ br := by
 obtain ⟨A, c, hX, h1, _⟩ := h
 exact ha.ne h1 hne
theorem rv_cells {W w1 : World} {br B b2 : Nat} {D : List UInt8} {off last off' last' : Nat} {err : Int} {t2 : TypeId} {v2 : Value} (h0 : At W B 114 [Value.pointer (some ⟨br, 0, none⟩)]) (h1 : At W b2 t2 [v2]) (hr : ReaderAt X W br D off last 0) (hf : Fr [br] W.drew w1) (hr1 : ReaderAt X w1 br D off' last' err) (ht : t2 ≠ 146 := by decide) :
  w1.cell? ⟨B, 0, none⟩ = some (Value.pointer (some ⟨br, 0, none⟩)) ∧ w1.cell? ⟨b2, 0, none⟩ = some v2 ∧ w1.frozen? ⟨b2, 0, none⟩ = false ∧ w1.cell? ⟨br, 3, none⟩ = some (Value.int .i64 err) ∧ w1.frozen? ⟨br, 3, none⟩ = false := by
 have n0 := hr.ne h0 (by decide)
 have n1 := hr.ne h1 ht
 have k0 : At w1 B 114 [Value.pointer (some ⟨br, 0, none⟩)] := (At.drew h0).fr hf (by simpa using n0)
 have k1 : At w1 b2 t2 [v2] := (At.drew h1).fr hf (by simpa using n1)
 obtain ⟨A, c, hX, h3, _⟩ := hr1
 exact ⟨by rw [k0.cell]; rfl, by rw [k1.cell]; rfl, k1.frozen 0, by rw [h3.cell]; rfl, h3.frozen 3⟩
theorem rv_end {W w1 : World} {br B b2 b3 : Nat} {D : List UInt8} {off last off' last' : Nat} {start : Int} {t2 : TypeId} {v2 : Value} (h0 : At W B 114 [Value.pointer (some ⟨br, 0, none⟩)]) (h1 : At W b2 t2 [v2]) (h3 : At W b3 3 [Value.int .i64 start]) (hr : ReaderAt X W br D off last 0) (hf : Fr [br] W.drew w1) (hr1 : ReaderAt X w1 br D off' last' 0)
  (v er : Value) (hb : b2 ≠ br ∧ b2 ≠ B ∧ b2 ≠ b3 ∧ b3 ≠ br) (ht8 : t2 ≠ 5) :
  At (((w1.setCell ⟨b2, 0, none⟩ v).setCell ⟨br, 3, none⟩ er).setCell ⟨b2, 0, none⟩ v) B 114 [Value.pointer (some ⟨br, 0, none⟩)] ∧ At (((w1.setCell ⟨b2, 0, none⟩ v).setCell ⟨br, 3, none⟩ er).setCell ⟨b2, 0, none⟩ v) b2 t2 [v] ∧ At (((w1.setCell ⟨b2, 0, none⟩ v).setCell ⟨br, 3, none⟩ er).setCell ⟨b2, 0, none⟩ v) b3 3 [Value.int .i64 start] ∧
  (∃ A c, X = (A, c) ∧ At (((w1.setCell ⟨b2, 0, none⟩ v).setCell ⟨br, 3, none⟩ er).setCell ⟨b2, 0, none⟩ v) br 146 [.slice A D.length c, Value.int .i64 (off' : Int), Value.int .i64 (last' : Int), er] ∧ (((w1.setCell ⟨b2, 0, none⟩ v).setCell ⟨br, 3, none⟩ er).setCell ⟨b2, 0, none⟩ v).ownsRow 0 5 1 (.slice A D.length c) D.length (B8 D)) ∧
  Fr [br, b2] W (((w1.setCell ⟨b2, 0, none⟩ v).setCell ⟨br, 3, none⟩ er).setCell ⟨b2, 0, none⟩ v) := by
 obtain ⟨hb1, hb2, hb3, hb4⟩ := hb
 have n0 := hr.ne h0 (by decide)
 have n1 : b2 ≠ br := hb1
 have k0 : At w1 B 114 [Value.pointer (some ⟨br, 0, none⟩)] := (At.drew h0).fr hf (by simpa using n0)
 have k1 : At w1 b2 t2 [v2] := (At.drew h1).fr hf (by simpa using n1)
 have k3 : At w1 b3 3 [Value.int .i64 start] := (At.drew h3).fr hf (by simpa using hb4)
 obtain ⟨A, c, hX, hra, hrow⟩ := hr1
 have f1 : Fr [br, b2] W (((w1.setCell ⟨b2, 0, none⟩ v).setCell ⟨br, 3, none⟩ er).setCell ⟨b2, 0, none⟩ v) := by
  have : Fr [br] W w1 := ⟨hf.os, hf.tape, hf.output, hf.size, hf.block⟩
  exact (((this.mono (S' := [br, b2]) (by simp)).setCell (.inl (by simp)) _).setCell (.inl (by simp)) _).setCell (.inl (by simp)) _
 refine ⟨((k0.far (by simpa using hb2.symm) _).far (by simpa using n0) _).far (by simpa using hb2.symm) _, ?_, ((k3.far (by simpa using hb3.symm) _).far (by simpa using hb4) _).far (by simpa using hb3.symm) _, ⟨A, c, hX, ?_, ?_⟩, f1⟩
 ·exact ((k1.set 0 v).far (by simpa using n1) _).set 0 v
 ·exact ((hra.far (by simpa using n1.symm) _).set 3 er).far (by simpa using n1.symm) _
 ·have f2 : Fr [br, b2] w1 (((w1.setCell ⟨b2, 0, none⟩ v).setCell ⟨br, 3, none⟩ er).setCell ⟨b2, 0, none⟩ v) := ((((Fr.refl _ _).setCell (.inl (by simp)) _).setCell (.inl (by simp)) _).setCell (.inl (by simp)) _)
  refine ownsRow_fr hrow f2 ?_
  intro g hg hm
  simp only [List.mem_cons, List.not_mem_nil, or_false] at hm
  rcases hm with rfl | rfl
  ·exact own_ne hrow hra (by decide) hg
  ·exact own_ne hrow k1 (Ne.symm ht8) hg
theorem rv_done {W w5 : World} {w : World} {br : Nat} {D : List UInt8} {off m last : Nat} {b2 : Nat} {t2 : TypeId} {v : Value} {A : Option Addr} {c : Nat} (hW : Fr [] w W) (hf : Fr [br, b2] W w5) (hb2 : w.heap.size ≤ b2) (h2 : At w5 b2 t2 [v]) (ht : t2 ≠ 146)
  (hr : At w5 br 146 [.slice A D.length c, Value.int .i64 (m : Int), Value.int .i64 (last : Int), Value.int .i64 0]) (hrow : w5.ownsRow 0 5 1 (.slice A D.length c) D.length (B8 D)) (hX : X = (A, c)) :
  (w5.setCell ⟨br, 2, none⟩ (Value.int .i64 (off : Int))).cell? ⟨b2, 0, none⟩ = some v ∧ Fr [br] w (w5.setCell ⟨br, 2, none⟩ (Value.int .i64 (off : Int))) ∧ ReaderAt X (w5.setCell ⟨br, 2, none⟩ (Value.int .i64 (off : Int))) br D m off 0 := by
 have hne := h2.ne hr ht
 refine ⟨by rw [(h2.far (by simpa using hne) _).cell]; rfl, ?_, A, c, hX, hr.set 2 _, ?_⟩
 ·refine ((hW.mono (S' := [br]) (by simp)).trans' hf ?_).setCell (.inl (by simp)) _
  intro x hx
  simp only [List.mem_cons, List.not_mem_nil, or_false] at hx
  rcases hx with rfl | rfl
  ·exact .inl (by simp)
  ·exact .inr hb2
 ·refine ownsRow_fr (S := [br]) hrow ((Fr.refl _ _).setCell (.inl (by simp)) _) ?_
  intro g hg hm
  have : g = br := by simpa using hm
  subst this
  exact own_ne hrow hr (by decide) hg
theorem rv_failed {W w5 : World} {w : World} {br : Nat} {D : List UInt8} {off m last : Nat} {b2 : Nat} {t2 : TypeId} {v z : Value} {er : Int} {A : Option Addr} {c : Nat} (hW : Fr [] w W) (hf : Fr [br, b2] W w5) (hb2 : w.heap.size ≤ b2) (h2 : At w5 b2 t2 [v]) (ht : t2 ≠ 146) (ht8 : t2 ≠ 5)
  (hr : At w5 br 146 [.slice A D.length c, Value.int .i64 (m : Int), Value.int .i64 (last : Int), Value.int .i64 er]) (hrow : w5.ownsRow 0 5 1 (.slice A D.length c) D.length (B8 D)) (hX : X = (A, c)) :
  (((w5.setCell ⟨br, 2, none⟩ (Value.int .i64 (off : Int))).setCell ⟨br, 1, none⟩ (Value.int .i64 (off : Int))).setCell ⟨b2, 0, none⟩ z).cell? ⟨b2, 0, none⟩ = some z ∧ Fr [br] w (((w5.setCell ⟨br, 2, none⟩ (Value.int .i64 (off : Int))).setCell ⟨br, 1, none⟩ (Value.int .i64 (off : Int))).setCell ⟨b2, 0, none⟩ z) ∧ ReaderAt X (((w5.setCell ⟨br, 2, none⟩ (Value.int .i64 (off : Int))).setCell ⟨br, 1, none⟩ (Value.int .i64 (off : Int))).setCell ⟨b2, 0, none⟩ z) br D off off er := by
 have hne := h2.ne hr ht
 refine ⟨by rw [(((h2.far (by simpa using hne) _).far (by simpa using hne) _).set 0 z).cell]; rfl, ?_, A, c, hX, (((hr.set 2 _).set 1 _).far (by simpa using hne.symm) _), ?_⟩
 ·refine ((((hW.mono (S' := [br]) (by simp)).trans' hf ?_).setCell (.inl (by simp)) _).setCell (.inl (by simp)) _).setCell (.inr hb2) _
  intro x hx
  simp only [List.mem_cons, List.not_mem_nil, or_false] at hx
  rcases hx with rfl | rfl
  ·exact .inl (by simp)
  ·exact .inr hb2
 ·refine ownsRow_fr (S := [br, b2]) hrow ((((Fr.refl _ _).setCell (.inl (by simp)) _).setCell (.inl (by simp)) _).setCell (.inl (by simp)) _) ?_
  intro g hg hm
  simp only [List.mem_cons, List.not_mem_nil, or_false] at hm
  rcases hm with rfl | rfl
  ·exact own_ne hrow hr (by decide) hg
  ·exact own_ne hrow h2 (Ne.symm ht8) hg
set_option maxHeartbeats 4000000 in
theorem readU64_ok (br : Nat) (r : Rd) (w : World) (hr : RdAt X w br r) (hk : r.Ok) (h0 : r.err = 0) :
  Calls Tryz.prog 105 #[Value.pointer (some ⟨br, 0, none⟩), .func (.func 101) #[Value.pointer (some ⟨br, 0, none⟩)] #[]] w fun e w' => e = .returned (.int .u64 (r.uint.1 : Int)) ∧ Fr [br] w w' ∧ RdAt X w' br r.uint.2 := by
 obtain ⟨D, off, last, err⟩ := r
 simp only at h0
 subst h0
 obtain ⟨A, c, hX, ha, hrow⟩ := hr
 have c1 : w.cell? ⟨br, 1, none⟩ = some (Value.int .i64 (off : Int)) := by rw [ha.cell]; rfl
 have c3 : w.cell? ⟨br, 3, none⟩ = some (Value.int .i64 0) := by rw [ha.cell]; rfl
 have hlt := ha.lt
 have HR := Lib.hid (And.intro ha hrow)
 have HK := Lib.hid hk
 clear ha hrow hk
 have hmf : ∀ (fn : Fn) (first cap : Array Value) (w : World), (Instr.makeFunc fn first cap).run Tryz.prog w = .ok (.func fn first cap) w := fun _ _ _ _ => rfl
 go_enter_defers Tryz.func105, Tryz.ntmps105
 go_wp2_with fail
 obtain ⟨W, hW⟩ : ∃ W, W = ((w.alloc (Obj.cells #[Value.pointer (some ⟨br, 0, none⟩)] 114)).alloc (Obj.cells #[Value.int IntKind.u64 0] 140)).alloc (Obj.cells #[Value.int .i64 (off : Int)] 3) := ⟨_, rfl⟩
 rw [← hW]
 have HW : Hid (At W w.heap.size 114 [Value.pointer (some ⟨br, 0, none⟩)] ∧ At W (w.heap.size + 1) 140 [.int .u64 0] ∧ At W (w.heap.size + 1 + 1) 3 [Value.int .i64 (off : Int)] ∧ Fr [] w W ∧ ReaderAt X W br D off last 0) := by
  rw [hW]
  refine ⟨((At.new w 114 [Value.pointer (some ⟨br, 0, none⟩)]).alloc _).alloc _, ?_, ?_, (((Fr.refl _ _).alloc _).alloc _).alloc _, A, c, hX, ((HR.out.1.alloc _).alloc _).alloc _, ((HR.out.2.alloc _).alloc _).alloc _⟩
  ·have := (At.new (w.alloc (Obj.cells #[Value.pointer (some ⟨br, 0, none⟩)] 114)) 140 [.int .u64 0]).alloc (Obj.cells #[Value.int .i64 (off : Int)] 3)
   simpa using this
  ·have := At.new ((w.alloc (Obj.cells #[Value.pointer (some ⟨br, 0, none⟩)] 114)).alloc (Obj.cells #[Value.int IntKind.u64 0] 140)) 3 [Value.int .i64 (off : Int)]
   simpa using this
 clear hW c1 c3
 have d0 : W.cell? ⟨w.heap.size, 0, none⟩ = some (Value.pointer (some ⟨br, 0, none⟩)) := by rw [HW.out.1.cell]; rfl
 have nb1 : w.heap.size ≠ br := by omega
 have nb2 : br ≠ w.heap.size := by omega
 cases hrd : rdNum D off with
 | some p =>
  obtain ⟨n, m⟩ := p
  have HD := Lib.hid hrd
  clear hrd
  go_region_held3 (fun w' => w'.cell? ⟨w.heap.size, 0, none⟩ = some (Value.pointer (some ⟨br, 0, none⟩))) (go_keep) (first | (go_at_call 101; refine (number_some br D off last _ (by exact HW.out.2.2.2.2) HK.out.off HK.out.len n m HD.out).mono ?_; rintro e w1 ⟨rfl, hf1, hr1, hm1, hu1⟩; obtain ⟨e0, e1, z1, e3, z3⟩ := rv_cells (W := W) HW.out.1 HW.out.2.1 HW.out.2.2.2.2 hf1 hr1; have H1 := Lib.hid (And.intro hf1 (And.intro hr1 (And.intro hm1 hu1))); clear hf1 hr1 hm1 hu1))
  go_wp2_with fail
  obtain ⟨k0, k1, k2, k3, kf⟩ := rv_end HW.out.1 HW.out.2.1 HW.out.2.2.1 HW.out.2.2.2.2 H1.out.1 H1.out.2.1 (.int .u64 (n : Int)) (Value.int .i64 0) (by omega) (by decide)
  refine leaves_cons (f := 122) (args := #[Value.pointer (some ⟨w.heap.size + 1 + 1, 0, none⟩), Value.pointer (some ⟨w.heap.size, 0, none⟩), Value.pointer (some ⟨w.heap.size + 1, 0, none⟩)]) (by simp) (by simp [go_sem]) ?_
  obtain ⟨A', c', hX', k3'⟩ := k3
  refine (rvClose_ok _ _ _ br A' _ c' _ _ _ _ k2 k0 k3'.1).mono ?_
  rintro e u' w'' ⟨rfl, rfl, rfl⟩
  obtain ⟨g1, g2, g3⟩ := rv_done (off := off) HW.out.2.2.2.1 kf (by omega) k1 (by decide) k3'.1 k3'.2 hX'
  refine ⟨.int .u64 (n : Int), by simp [results, Tryz.results105, go_sem, g1], ?_, g2, ?_⟩
  ·simp only [Rd.uint, if_true, HD.out]
  ·simp only [Rd.uint, if_true, HD.out]
   exact g3
 | none =>
  have HD := Lib.hid hrd
  clear hrd
  go_region_held3 (fun w' => w'.cell? ⟨w.heap.size, 0, none⟩ = some (Value.pointer (some ⟨br, 0, none⟩))) (go_keep) (first | (go_at_call 101; refine (number_none br D off last _ (by exact HW.out.2.2.2.2) HK.out.off HK.out.len HD.out).mono ?_; rintro e w1 ⟨rfl, hf1, off', hm1, hr1⟩; obtain ⟨e0, e1, z1, e3, z3⟩ := rv_cells (W := W) HW.out.1 HW.out.2.1 HW.out.2.2.2.2 hf1 hr1; have H1 := Lib.hid (And.intro hf1 (And.intro hr1 hm1)); clear hf1 hr1 hm1))
  go_wp2_with fail
  obtain ⟨k0, k1, k2, k3, kf⟩ := rv_end HW.out.1 HW.out.2.1 HW.out.2.2.1 HW.out.2.2.2.2 H1.out.1 H1.out.2.1 (.int .u64 0) (Value.int .i64 3) (by omega) (by decide)
  refine leaves_cons (f := 122) (args := #[Value.pointer (some ⟨w.heap.size + 1 + 1, 0, none⟩), Value.pointer (some ⟨w.heap.size, 0, none⟩), Value.pointer (some ⟨w.heap.size + 1, 0, none⟩)]) (by simp) (by simp [go_sem]) ?_
  obtain ⟨A', c', hX', k3'⟩ := k3
  refine (rvClose_err _ _ _ br A' _ c' _ _ _ 3 0 _ k2 k0 k1 k3'.1 (by decide)).mono ?_
  rintro e u' w'' ⟨rfl, rfl, rfl⟩
  obtain ⟨g1, g2, g3⟩ := rv_failed (off := off) (z := .int .u64 0) HW.out.2.2.2.1 kf (by omega) k1 (by decide) (by decide) k3'.1 k3'.2 hX'
  refine ⟨.int .u64 0, by simp [results, Tryz.results105, go_sem, g1], ?_, g2, ?_⟩
  ·simp only [Rd.uint, if_true, HD.out]
   rfl
  ·simp only [Rd.uint, if_true, HD.out]
   exact g3
theorem readU64_err (br : Nat) (r : Rd) (fv : Value) (w : World) (hr : RdAt X w br r) (h0 : r.err ≠ 0) :
  Calls Tryz.prog 105 #[Value.pointer (some ⟨br, 0, none⟩), fv] w fun e w' => e = .returned (.int .u64 0) ∧ Fr [] w w' ∧ RdAt X w' br r := by
 have hr0 := hr
 obtain ⟨A, c, hX, ha, hrow⟩ := hr
 have c3 : w.cell? ⟨br, 3, none⟩ = some (Value.int .i64 r.err) := by rw [ha.cell]; rfl
 have hb : (r.err != 0) = true := by simpa using h0
 have hlt := ha.lt
 have HR := Lib.hid hr0
 clear ha hrow hr0 h0
 go_enter_defers Tryz.func105, Tryz.ntmps105
 go_wp2_with fail
 have hf : Fr [] w ((w.alloc (Obj.cells #[Value.pointer (some ⟨br, 0, none⟩)] 114)).alloc (Obj.cells #[Value.int IntKind.u64 0] 140)) := ((Fr.refl _ _).alloc _).alloc _
 exact ⟨.int .u64 0, by simp [results, Tryz.results105, go_sem], rfl, hf, ReaderAt.fr HR.out hf⟩
end Go.Proofs.YtlepfnihpdhcaaaGreatDoor
namespace Go.Proofs.YtlepfnihpdhcaaaGreatDoor
open Go.RowKit
variable {X : Option Addr × Nat}
theorem rvClose_ok_Cnt (b0 b1 b2 br : Nat) (A : Option Addr) (n c : Nat) (off last start : Int) (w : World) (h0 : At w b0 3 [Value.int .i64 start]) (h1 : At w b1 114 [Value.pointer (some ⟨br, 0, none⟩)]) (hr : At w br 146 [.slice A n c, Value.int .i64 off, Value.int .i64 last, Value.int .i64 0]) :
  CallsD Tryz.prog 100 #[Value.pointer (some ⟨b0, 0, none⟩), Value.pointer (some ⟨b1, 0, none⟩), Value.pointer (some ⟨b2, 0, none⟩)] .returning w fun e u' w' => u' = .returning ∧ e = .returned (.tuple #[]) ∧ w' = w.setCell ⟨br, 2, none⟩ (Value.int .i64 start) := by
 have c0 : w.cell? ⟨b0, 0, none⟩ = some (Value.int .i64 start) := by rw [h0.cell]; rfl
 have c1 : w.cell? ⟨b1, 0, none⟩ = some (Value.pointer (some ⟨br, 0, none⟩)) := by rw [h1.cell]; rfl
 have c2 : w.cell? ⟨br, 2, none⟩ = some (Value.int .i64 last) := by rw [hr.cell]; rfl
 have c3 : w.cell? ⟨br, 3, none⟩ = some (Value.int .i64 0) := by rw [hr.cell]; rfl
 have z2 := hr.frozen 2
 have hne : b1 ≠ br := h1.ne hr (by decide)
 clear h0 h1 hr
 go_enter_d Tryz.func100, Tryz.ntmps100
 go_wp2_with fail
 go_end0
 exact ⟨rfl, rfl⟩
theorem rvClose_err_Cnt (b0 b1 b2 br : Nat) (A : Option Addr) (n c : Nat) (off last start err : Int) (v : Value) (w : World) (h0 : At w b0 3 [Value.int .i64 start]) (h1 : At w b1 114 [Value.pointer (some ⟨br, 0, none⟩)]) (h2 : At w b2 3 [v]) (hr : At w br 146 [.slice A n c, Value.int .i64 off, Value.int .i64 last, Value.int .i64 err]) (he : err ≠ 0) (hb : b2 ≠ b0 ∧ b2 ≠ br) :
  CallsD Tryz.prog 100 #[Value.pointer (some ⟨b0, 0, none⟩), Value.pointer (some ⟨b1, 0, none⟩), Value.pointer (some ⟨b2, 0, none⟩)] .returning w fun e u' w' => u' = .returning ∧ e = .returned (.tuple #[]) ∧ w' = ((w.setCell ⟨br, 2, none⟩ (Value.int .i64 start)).setCell ⟨br, 1, none⟩ (Value.int .i64 start)).setCell ⟨b2, 0, none⟩ (Value.int .i64 0) := by
 have c0 : w.cell? ⟨b0, 0, none⟩ = some (Value.int .i64 start) := by rw [h0.cell]; rfl
 have c1 : w.cell? ⟨b1, 0, none⟩ = some (Value.pointer (some ⟨br, 0, none⟩)) := by rw [h1.cell]; rfl
 have cr1 : w.cell? ⟨br, 1, none⟩ = some (Value.int .i64 off) := by rw [hr.cell]; rfl
 have c2 : w.cell? ⟨br, 2, none⟩ = some (Value.int .i64 last) := by rw [hr.cell]; rfl
 have c3 : w.cell? ⟨br, 3, none⟩ = some (Value.int .i64 err) := by rw [hr.cell]; rfl
 have c4 : w.cell? ⟨b2, 0, none⟩ = some v := by rw [h2.cell]; rfl
 have z2 := hr.frozen 2
 have z1 := hr.frozen 1
 have z4 := h2.frozen 0
 have hne : b1 ≠ br := h1.ne hr (by decide)
 have hne2 : b2 ≠ br := hb.2
 have hne0 : b0 ≠ br := h0.ne hr (by decide)
 have heb : (err != 0) = true := by simpa using he
 clear h0 h1 hr h2 he hb
 go_enter_d Tryz.func100, Tryz.ntmps100
 go_wp2_with fail
 go_end0
 exact ⟨rfl, rfl⟩
set_option maxHeartbeats 4000000 in
theorem readCnt_some (br : Nat) (D : List UInt8) (off last m : Nat) (x : Int) (bx by_ : Nat) (w : World) (hr : ReaderAt X w br D off last 0)
  (hdec : ∀ W, Fr [] w W → ReaderAt X W br D off last 0 → Calls Tryz.prog 85 #[Value.pointer (some ⟨bx, 0, none⟩), Value.pointer (some ⟨by_, 0, none⟩)] W fun e w' => e = .returned (.tuple #[Value.int .i64 x, Value.int .i64 0]) ∧ Fr [br] W w' ∧ ReaderAt X w' br D m last 0) :
  Calls Tryz.prog 84 #[Value.pointer (some ⟨br, 0, none⟩), .func (.func 85) #[] #[Value.pointer (some ⟨bx, 0, none⟩), Value.pointer (some ⟨by_, 0, none⟩)]] w fun e w' => e = .returned (Value.int .i64 x) ∧ Fr [br] w w' ∧ ReaderAt X w' br D m off 0 := by
 obtain ⟨A, c, hX, ha, hrow⟩ := hr
 have c1 : w.cell? ⟨br, 1, none⟩ = some (Value.int .i64 (off : Int)) := by rw [ha.cell]; rfl
 have c3 : w.cell? ⟨br, 3, none⟩ = some (Value.int .i64 0) := by rw [ha.cell]; rfl
 have hlt := ha.lt
 have HR := Lib.hid (And.intro ha hrow)
 have HD := Lib.hid hdec
 clear ha hrow hdec
 have hmf : ∀ (fn : Fn) (first cap : Array Value) (w : World), (Instr.makeFunc fn first cap).run Tryz.prog w = .ok (.func fn first cap) w := fun _ _ _ _ => rfl
 go_enter_defers Tryz.func84, Tryz.ntmps84
 go_wp2_with fail
 obtain ⟨W, hW⟩ : ∃ W, W = ((w.alloc (Obj.cells #[Value.pointer (some ⟨br, 0, none⟩)] 114)).alloc (Obj.cells #[Value.int .i64 0] 3)).alloc (Obj.cells #[Value.int .i64 (off : Int)] 3) := ⟨_, rfl⟩
 rw [← hW]
 have HW : Hid (At W w.heap.size 114 [Value.pointer (some ⟨br, 0, none⟩)] ∧ At W (w.heap.size + 1) 3 [Value.int .i64 0] ∧ At W (w.heap.size + 1 + 1) 3 [Value.int .i64 (off : Int)] ∧ Fr [] w W ∧ ReaderAt X W br D off last 0) := by
  rw [hW]
  refine ⟨((At.new w 114 [Value.pointer (some ⟨br, 0, none⟩)]).alloc _).alloc _, ?_, ?_, (((Fr.refl _ _).alloc _).alloc _).alloc _, A, c, hX, ((HR.out.1.alloc _).alloc _).alloc _, ((HR.out.2.alloc _).alloc _).alloc _⟩
  ·have := (At.new (w.alloc (Obj.cells #[Value.pointer (some ⟨br, 0, none⟩)] 114)) 3 [Value.int .i64 0]).alloc (Obj.cells #[Value.int .i64 (off : Int)] 3)
   simpa using this
  ·have := At.new ((w.alloc (Obj.cells #[Value.pointer (some ⟨br, 0, none⟩)] 114)).alloc (Obj.cells #[Value.int .i64 0] 3)) 3 [Value.int .i64 (off : Int)]
   simpa using this
 clear hW c1 c3
 have d0 : W.cell? ⟨w.heap.size, 0, none⟩ = some (Value.pointer (some ⟨br, 0, none⟩)) := by rw [HW.out.1.cell]; rfl
 have nb1 : w.heap.size ≠ br := by omega
 have nb2 : br ≠ w.heap.size := by omega
 go_region_held3 (fun w' => w'.cell? ⟨w.heap.size, 0, none⟩ = some (Value.pointer (some ⟨br, 0, none⟩))) (go_keep) (first | (go_at_call 85; refine (HD.out W.drew (by exact HW.out.2.2.2.1.drew) (by exact HW.out.2.2.2.2)).mono ?_; rintro e w1 ⟨rfl, hf1, hr1⟩; obtain ⟨e0, e1, z1, e3, z3⟩ := rv_cells (W := W) HW.out.1 HW.out.2.1 HW.out.2.2.2.2 hf1 hr1; have H1 := Lib.hid (And.intro hf1 hr1); clear hf1 hr1))
 go_wp2_with fail
 obtain ⟨k0, k1, k2, k3, kf⟩ := rv_end HW.out.1 HW.out.2.1 HW.out.2.2.1 HW.out.2.2.2.2 H1.out.1 H1.out.2 (Value.int .i64 x) (Value.int .i64 0) (by omega) (by decide)
 refine leaves_cons (f := 100) (args := #[Value.pointer (some ⟨w.heap.size + 1 + 1, 0, none⟩), Value.pointer (some ⟨w.heap.size, 0, none⟩), Value.pointer (some ⟨w.heap.size + 1, 0, none⟩)]) (by simp) (by simp [go_sem]) ?_
 obtain ⟨A', c', hX', k3'⟩ := k3
 refine (rvClose_ok_Cnt _ _ _ br A' _ c' _ _ _ _ k2 k0 k3'.1).mono ?_
 rintro e u' w'' ⟨rfl, rfl, rfl⟩
 obtain ⟨g1, g2, g3⟩ := rv_done (off := off) HW.out.2.2.2.1 kf (by omega) k1 (by decide) k3'.1 k3'.2 hX'
 exact ⟨Value.int .i64 x, by simp [results, Tryz.results84, go_sem, g1], rfl, g2, g3⟩
set_option maxHeartbeats 4000000 in
theorem readCnt_none (br : Nat) (D : List UInt8) (off last : Nat) (er : Int) (x : Int) (bx by_ : Nat) (w : World) (hr : ReaderAt X w br D off last 0) (he : er ≠ 0)
  (hdec : ∀ W, Fr [] w W → ReaderAt X W br D off last 0 → Calls Tryz.prog 85 #[Value.pointer (some ⟨bx, 0, none⟩), Value.pointer (some ⟨by_, 0, none⟩)] W fun e w' => e = .returned (.tuple #[Value.int .i64 x, Value.int .i64 er]) ∧ Fr [br] W w' ∧ ∃ off' : Nat, ReaderAt X w' br D off' last 0) :
  Calls Tryz.prog 84 #[Value.pointer (some ⟨br, 0, none⟩), .func (.func 85) #[] #[Value.pointer (some ⟨bx, 0, none⟩), Value.pointer (some ⟨by_, 0, none⟩)]] w fun e w' => e = .returned (Value.int .i64 0) ∧ Fr [br] w w' ∧ ReaderAt X w' br D off off er := by
 have HE := Lib.hid he
 clear he
 obtain ⟨A, c, hX, ha, hrow⟩ := hr
 have c1 : w.cell? ⟨br, 1, none⟩ = some (Value.int .i64 (off : Int)) := by rw [ha.cell]; rfl
 have c3 : w.cell? ⟨br, 3, none⟩ = some (Value.int .i64 0) := by rw [ha.cell]; rfl
 have hlt := ha.lt
 have HR := Lib.hid (And.intro ha hrow)
 have HD := Lib.hid hdec
 clear ha hrow hdec
 have hmf : ∀ (fn : Fn) (first cap : Array Value) (w : World), (Instr.makeFunc fn first cap).run Tryz.prog w = .ok (.func fn first cap) w := fun _ _ _ _ => rfl
 go_enter_defers Tryz.func84, Tryz.ntmps84
 go_wp2_with fail
 obtain ⟨W, hW⟩ : ∃ W, W = ((w.alloc (Obj.cells #[Value.pointer (some ⟨br, 0, none⟩)] 114)).alloc (Obj.cells #[Value.int .i64 0] 3)).alloc (Obj.cells #[Value.int .i64 (off : Int)] 3) := ⟨_, rfl⟩
 rw [← hW]
 have HW : Hid (At W w.heap.size 114 [Value.pointer (some ⟨br, 0, none⟩)] ∧ At W (w.heap.size + 1) 3 [Value.int .i64 0] ∧ At W (w.heap.size + 1 + 1) 3 [Value.int .i64 (off : Int)] ∧ Fr [] w W ∧ ReaderAt X W br D off last 0) := by
  rw [hW]
  refine ⟨((At.new w 114 [Value.pointer (some ⟨br, 0, none⟩)]).alloc _).alloc _, ?_, ?_, (((Fr.refl _ _).alloc _).alloc _).alloc _, A, c, hX, ((HR.out.1.alloc _).alloc _).alloc _, ((HR.out.2.alloc _).alloc _).alloc _⟩
  ·have := (At.new (w.alloc (Obj.cells #[Value.pointer (some ⟨br, 0, none⟩)] 114)) 3 [Value.int .i64 0]).alloc (Obj.cells #[Value.int .i64 (off : Int)] 3)
   simpa using this
  ·have := At.new ((w.alloc (Obj.cells #[Value.pointer (some ⟨br, 0, none⟩)] 114)).alloc (Obj.cells #[Value.int .i64 0] 3)) 3 [Value.int .i64 (off : Int)]
   simpa using this
 clear hW c1 c3
 have d0 : W.cell? ⟨w.heap.size, 0, none⟩ = some (Value.pointer (some ⟨br, 0, none⟩)) := by rw [HW.out.1.cell]; rfl
 have nb1 : w.heap.size ≠ br := by omega
 have nb2 : br ≠ w.heap.size := by omega
 go_region_held3 (fun w' => w'.cell? ⟨w.heap.size, 0, none⟩ = some (Value.pointer (some ⟨br, 0, none⟩))) (go_keep) (first | (go_at_call 85; refine (HD.out W.drew (by exact HW.out.2.2.2.1.drew) (by exact HW.out.2.2.2.2)).mono ?_; rintro e w1 ⟨rfl, hf1, off', hr1⟩; obtain ⟨e0, e1, z1, e3, z3⟩ := rv_cells (W := W) HW.out.1 HW.out.2.1 HW.out.2.2.2.2 hf1 hr1; have H1 := Lib.hid (And.intro hf1 hr1); clear hf1 hr1))
 go_wp2_with fail
 obtain ⟨k0, k1, k2, k3, kf⟩ := rv_end HW.out.1 HW.out.2.1 HW.out.2.2.1 HW.out.2.2.2.2 H1.out.1 H1.out.2 (Value.int .i64 x) (Value.int .i64 er) (by omega) (by decide)
 refine leaves_cons (f := 100) (args := #[Value.pointer (some ⟨w.heap.size + 1 + 1, 0, none⟩), Value.pointer (some ⟨w.heap.size, 0, none⟩), Value.pointer (some ⟨w.heap.size + 1, 0, none⟩)]) (by simp) (by simp [go_sem]) ?_
 obtain ⟨A', c', hX', k3'⟩ := k3
 refine (rvClose_err_Cnt _ _ _ br A' _ c' _ _ _ er (Value.int .i64 x) _ k2 k0 k1 k3'.1 HE.out (by omega)).mono ?_
 rintro e u' w'' ⟨rfl, rfl, rfl⟩
 obtain ⟨g1, g2, g3⟩ := rv_failed (off := off) (z := Value.int .i64 0) HW.out.2.2.2.1 kf (by omega) k1 (by decide) (by decide) k3'.1 k3'.2 hX'
 exact ⟨Value.int .i64 0, by simp [results, Tryz.results84, go_sem, g1], rfl, g2, g3⟩
theorem readCnt_err (br : Nat) (r : Rd) (fv : Value) (w : World) (hr : RdAt X w br r) (h0 : r.err ≠ 0) :
  Calls Tryz.prog 84 #[Value.pointer (some ⟨br, 0, none⟩), fv] w fun e w' => e = .returned (Value.int .i64 0) ∧ Fr [] w w' ∧ RdAt X w' br r := by
 have hr0 := hr
 obtain ⟨A, c, hX, ha, hrow⟩ := hr
 have c3 : w.cell? ⟨br, 3, none⟩ = some (Value.int .i64 r.err) := by rw [ha.cell]; rfl
 have hb : (r.err != 0) = true := by simpa using h0
 have hlt := ha.lt
 have HR := Lib.hid hr0
 clear ha hrow hr0 h0
 go_enter_defers Tryz.func84, Tryz.ntmps84
 go_wp2_with fail
 have hf : Fr [] w ((w.alloc (Obj.cells #[Value.pointer (some ⟨br, 0, none⟩)] 114)).alloc (Obj.cells #[Value.int .i64 0] 3)) := ((Fr.refl _ _).alloc _).alloc _
 exact ⟨Value.int .i64 0, by simp [results, Tryz.results84, go_sem], rfl, hf, ReaderAt.fr HR.out hf⟩
end Go.Proofs.YtlepfnihpdhcaaaGreatDoor
namespace Go.Proofs.YtlepfnihpdhcaaaGreatDoor
open Go.RowKit
variable {X : Option Addr × Nat}
theorem Rd.Ok.uint {r : Rd} (h : r.Ok) (hn : ∀ n m, rdNum r.D r.off = some (n, m) → m ≤ r.D.length) : r.uint.2.Ok := by
 unfold Rd.uint
 split
 ·cases hd : rdNum r.D r.off with
  | none => exact ⟨h.off, h.len⟩
  | some p => exact ⟨hn p.1 p.2 hd, h.len⟩
 ·exact h
theorem rdNum_le (D : List UInt8) (off n m : Nat) (h : rdNum D off = some (n, m)) : off < m ∧ m ≤ D.length ∧ U64 n := by
 unfold rdNum at h
 split at h
 ·cases h
 ·rename_i b hb
  split at h
  ·rename_i hc
   simp only [Option.some.injEq, Prod.mk.injEq] at h
   obtain ⟨rfl, rfl⟩ := h
   have hl := (List.getElem?_eq_some_iff.1 hb).1
   rw [List.length_drop] at hl
   refine ⟨by omega, by omega, ?_⟩
   unfold U64
   rw [accN_succ _ _ b hb]
   have h1 := accN_lt (ahead (D.drop off)) (D.drop off)
   by_cases h9 : ahead (D.drop off) = 9
   ·have hb1 : b.toNat ≤ 1 := by omega
    rw [h9] at h1 ⊢
    have h2 : b.toNat % 128 ≤ 1 := by omega
    have h3 : b.toNat % 128 * 128 ^ 9 ≤ 1 * 128 ^ 9 := Nat.mul_le_mul_right _ h2
    have h4 : 128 ^ 9 + 1 * 128 ^ 9 ≤ 18446744073709551616 := by decide
    omega
   ·have h2 : b.toNat % 128 ≤ 127 := by omega
    have h3 : b.toNat % 128 * 128 ^ (ahead (D.drop off)) ≤ 127 * 128 ^ (ahead (D.drop off)) := Nat.mul_le_mul_right _ h2
    have h4 : 128 ^ (ahead (D.drop off)) ≤ 128 ^ 8 := Nat.pow_le_pow_right (by omega) (by omega)
    have h5 : 128 * 128 ^ 8 < 18446744073709551616 := by decide
    omega
  ·cases h
theorem rUint (br : Nat) (r : Rd) (w : World) (hr : RdAt X w br r) (hk : r.Ok) :
  Calls Tryz.prog 90 #[Value.pointer (some ⟨br, 0, none⟩)] w fun e w' => e = .returned (.int .u64 (r.uint.1 : Int)) ∧ Fr [br] w w' ∧ RdAt X w' br r.uint.2 := by
 have hmf : ∀ (fn : Fn) (first cap : Array Value) (w : World), (Instr.makeFunc fn first cap).run Tryz.prog w = .ok (.func fn first cap) w := fun _ _ _ _ => rfl
 have H := Lib.hid (And.intro hr hk)
 clear hr hk
 by_cases h0 : r.err = 0
 ·have H0 := Lib.hid h0
  clear h0
  go_enter Tryz.func90, Tryz.ntmps90
  go_wp2_with fail
  refine (readU64_ok br r _ H.out.1 H.out.2 H0.out).mono ?_
  rintro e w1 ⟨rfl, hf, hr1⟩
  have H1 := Lib.hid (And.intro hf hr1)
  clear hf hr1
  go_wp2_with fail
  go_ret
  exact ⟨rfl, H1.out⟩
 ·have H0 := Lib.hid h0
  clear h0
  go_enter Tryz.func90, Tryz.ntmps90
  go_wp2_with fail
  refine (readU64_err br r _ _ H.out.1 H0.out).mono ?_
  rintro e w1 ⟨rfl, hf, hr1⟩
  have H1 := Lib.hid (And.intro (hf.mono (S' := [br]) (by simp)) hr1)
  clear hf hr1
  have e : r.uint = (0, r) := by unfold Rd.uint; rw [if_neg H0.out]
  have HE := Lib.hid e
  clear e
  go_wp2_with fail
  go_ret
  rw [HE.out]
  exact ⟨rfl, H1.out⟩
end Go.Proofs.YtlepfnihpdhcaaaGreatDoor
namespace Go.Proofs.YtlepfnihpdhcaaaGreatDoor
open Go.RowKit
variable {X : Option Addr × Nat}
def LimRes (X : Option Addr × Nat) (br : Nat) (D : List UInt8) (off last : Nat) (most : Int) (w : World) (e : Ending) (w' : World) : Prop :=
 Fr [br] w w' ∧ match rdNum D off with
  | none => e = .returned (.tuple #[Value.int .i64 0, Value.int .i64 3]) ∧ ∃ off' : Nat, ReaderAt X w' br D off' last 0
  | some (n, m) => if max most 0 < (n : Int) then e = .returned (.tuple #[Value.int .i64 0, Value.int .i64 2]) ∧ ∃ off' : Nat, ReaderAt X w' br D off' last 0 else e = .returned (.tuple #[Value.int .i64 (n : Int), Value.int .i64 0]) ∧ ReaderAt X w' br D m last 0
theorem limited_any (br : Nat) (D : List UInt8) (off last : Nat) (most : Int) (w : World) (hr : ReaderAt X w br D off last 0) (ho : off ≤ D.length) (hD : D.length ≤ 4294967296) (hm : Fit64 most) :
  Calls Tryz.prog 86 #[Value.pointer (some ⟨br, 0, none⟩), Value.int .i64 most] w (LimRes X br D off last most w) := by
 have H := Lib.hid (And.intro hr (And.intro ho hD))
 have hm0 := hm.1
 have hm1 := hm.2
 clear hr ho hD hm
 cases hb : rdNum D off with
 | none =>
  have HB := Lib.hid hb
  clear hb
  go_enter Tryz.func86, Tryz.ntmps86
  go_wp2_with fail
  refine (number_none br D off last _ H.out.1 H.out.2.1 H.out.2.2 HB.out).mono ?_
  rintro e w1 ⟨rfl, hf, off', ho', hr1⟩
  have H1 := Lib.hid (And.intro hf hr1)
  clear hf hr1 ho'
  go_wp2_with fail
  go_ret2
  unfold LimRes
  rw [HB.out]
  exact ⟨H1.out.1, rfl, off', H1.out.2⟩
 | some p =>
  obtain ⟨n, m⟩ := p
  have hu := (rdNum_le _ _ _ _ hb).2.2
  have hI : (n : Int) ≤ 18446744073709551615 := by unfold U64 at hu; omega
  have HB := Lib.hid hb
  clear hb hu
  by_cases hg : max most 0 < (n : Int)
  ·have HG := Lib.hid hg
   go_enter Tryz.func86, Tryz.ntmps86
   go_wp2_with fail
   refine (number_some br D off last _ H.out.1 H.out.2.1 H.out.2.2 n m HB.out).mono ?_
   rintro e w1 ⟨rfl, hf, hr1, _, _⟩
   have H1 := Lib.hid (And.intro hf hr1)
   clear hf hr1
   go_wp2_with fail
   all_goals
    go_ret2
    unfold LimRes
    rw [HB.out]
    simp only
    rw [if_pos HG.out]
    exact ⟨H1.out.1, rfl, m, H1.out.2⟩
  ·have HG := Lib.hid hg
   have hg' : (n : Int) ≤ max most 0 := by omega
   have hn2 : (n : Int) ≤ 9223372036854775807 := by omega
   clear hg
   go_enter Tryz.func86, Tryz.ntmps86
   go_wp2_with fail
   refine (number_some br D off last _ H.out.1 H.out.2.1 H.out.2.2 n m HB.out).mono ?_
   rintro e w1 ⟨rfl, hf, hr1, _, _⟩
   have H1 := Lib.hid (And.intro hf hr1)
   clear hf hr1
   go_wp2_with fail
   all_goals
    go_ret2
    unfold LimRes
    rw [HB.out]
    simp only
    rw [if_neg (by have := HG.out; omega)]
    exact ⟨H1.out.1, rfl, H1.out.2⟩
theorem countc_any (bx by_ br : Nat) (D : List UInt8) (off last : Nat) (most : Int) (w : World) (hx : At w bx 114 [Value.pointer (some ⟨br, 0, none⟩)]) (hy : At w by_ 3 [Value.int .i64 most]) (hr : ReaderAt X w br D off last 0) (ho : off ≤ D.length) (hD : D.length ≤ 4294967296) (hm : Fit64 most) :
  Calls Tryz.prog 85 #[Value.pointer (some ⟨bx, 0, none⟩), Value.pointer (some ⟨by_, 0, none⟩)] w (LimRes X br D off last most w) := by
 have x0 : w.cell? ⟨bx, 0, none⟩ = some (Value.pointer (some ⟨br, 0, none⟩)) := by rw [hx.cell]; rfl
 have y0 : w.cell? ⟨by_, 0, none⟩ = some (Value.int .i64 most) := by rw [hy.cell]; rfl
 have H := Lib.hid (limited_any br D off last most w hr ho hD hm)
 clear hr ho hD hm hx hy
 go_enter Tryz.func85, Tryz.ntmps85
 go_wp2_with fail
 refine H.out.mono ?_
 intro e w1 h
 have HH := Lib.hid h
 unfold LimRes at h
 obtain ⟨hf, h⟩ := h
 split at h
 ·obtain ⟨rfl, _⟩ := h
  clear hf
  go_wp2_with fail
  go_ret2
  exact HH.out
 ·split at h
  ·obtain ⟨rfl, _⟩ := h
   clear hf
   go_wp2_with fail
   go_ret2
   exact HH.out
  ·obtain ⟨rfl, _⟩ := h
   clear hf
   go_wp2_with fail
   go_ret2
   exact HH.out
def Rd.count (r : Rd) (most : Int) : Nat × Rd := if r.err = 0 then (match rdNum r.D r.off with
 | none => (0, r.fail 3)
 | some (n, m) => if max most 0 < (n : Int) then (0, r.fail 2) else (n, r.done m)) else (0, r)
theorem rCount (br : Nat) (r : Rd) (most : Int) (w : World) (hr : RdAt X w br r) (hk : r.Ok) (hm : Fit64 most) :
  Calls Tryz.prog 61 #[Value.pointer (some ⟨br, 0, none⟩), Value.int .i64 most] w fun e w' => e = .returned (Value.int .i64 ((r.count most).1 : Int)) ∧ Fr [br] w w' ∧ RdAt X w' br (r.count most).2 := by
 have hmf : ∀ (fn : Fn) (first cap : Array Value) (w : World), (Instr.makeFunc fn first cap).run Tryz.prog w = .ok (.func fn first cap) w := fun _ _ _ _ => rfl
 have hlt : br < w.heap.size := by obtain ⟨A, c, hX, ha, _⟩ := hr; exact ha.lt
 have hf0 : Fr [] w ((w.alloc (.cells #[Value.pointer (some ⟨br, 0, none⟩)] 114)).alloc (.cells #[Value.int .i64 most] 3)) := ((Fr.refl _ _).alloc _).alloc _
 have ha0 : At ((w.alloc (.cells #[Value.pointer (some ⟨br, 0, none⟩)] 114)).alloc (.cells #[Value.int .i64 most] 3)) w.heap.size 114 [Value.pointer (some ⟨br, 0, none⟩)] := (At.new w _ [Value.pointer (some ⟨br, 0, none⟩)]).alloc _
 have hb0 : At ((w.alloc (.cells #[Value.pointer (some ⟨br, 0, none⟩)] 114)).alloc (.cells #[Value.int .i64 most] 3)) (w.heap.size + 1) 3 [Value.int .i64 most] := by
  have := At.new (w.alloc (.cells #[Value.pointer (some ⟨br, 0, none⟩)] 114)) 3 [Value.int .i64 most]
  simpa using this
 have hr0 : RdAt X ((w.alloc (.cells #[Value.pointer (some ⟨br, 0, none⟩)] 114)).alloc (.cells #[Value.int .i64 most] 3)) br r := ReaderAt.fr hr hf0
 have H := Lib.hid (And.intro hr0 (And.intro hk (And.intro hf0 (And.intro ha0 hb0))))
 have HM := Lib.hid hm
 clear hr hk hf0 ha0 hr0 hb0 hm
 by_cases h0 : r.err = 0
 ·obtain ⟨D, off, last, err⟩ := r
  simp only at h0
  subst h0
  have hdec : ∀ W, Fr [] ((w.alloc (.cells #[Value.pointer (some ⟨br, 0, none⟩)] 114)).alloc (.cells #[Value.int .i64 most] 3)) W → ReaderAt X W br D off last 0 → Calls Tryz.prog 85 #[Value.pointer (some ⟨w.heap.size, 0, none⟩), Value.pointer (some ⟨w.heap.size + 1, 0, none⟩)] W (LimRes X br D off last most W) :=
   fun W hf hr => countc_any w.heap.size (w.heap.size + 1) br D off last most W (H.out.2.2.2.1.fr hf (by simp)) (H.out.2.2.2.2.fr hf (by simp)) hr H.out.2.1.off H.out.2.1.len HM.out
  have HD := Lib.hid hdec
  clear hdec
  cases hb : rdNum D off with
  | none =>
   have HB := Lib.hid hb
   clear hb
   go_enter Tryz.func61, Tryz.ntmps61
   go_wp2_with fail
   refine (readCnt_none br D off last 3 0 w.heap.size (w.heap.size + 1) _ H.out.1 (by decide) (fun W hf hr => (HD.out W hf hr).mono (fun e w' h => by unfold LimRes at h; rw [HB.out] at h; exact ⟨h.2.1, h.1, h.2.2⟩))).mono ?_
   rintro e w1 ⟨rfl, hf, hr1⟩
   have H1 := Lib.hid (And.intro (H.out.2.2.1.mono (S' := [br]) (by simp) |>.trans hf) hr1)
   clear hf hr1
   go_wp2_with fail
   go_ret
   simp only [Rd.count, if_true, HB.out]
   exact ⟨rfl, H1.out⟩
  | some p =>
   obtain ⟨n, m⟩ := p
   have HB := Lib.hid hb
   clear hb
   by_cases hg : max most 0 < (n : Int)
   ·have HG := Lib.hid hg
    clear hg
    go_enter Tryz.func61, Tryz.ntmps61
    go_wp2_with fail
    refine (readCnt_none br D off last 2 0 w.heap.size (w.heap.size + 1) _ H.out.1 (by decide) (fun W hf hr => (HD.out W hf hr).mono (fun e w' h => by unfold LimRes at h; rw [HB.out] at h; simp only [if_pos HG.out] at h; exact ⟨h.2.1, h.1, h.2.2⟩))).mono ?_
    rintro e w1 ⟨rfl, hf, hr1⟩
    have H1 := Lib.hid (And.intro (H.out.2.2.1.mono (S' := [br]) (by simp) |>.trans hf) hr1)
    clear hf hr1
    go_wp2_with fail
    go_ret
    simp only [Rd.count, if_true, HB.out, if_pos HG.out]
    exact ⟨rfl, H1.out⟩
   ·have HG := Lib.hid hg
    clear hg
    go_enter Tryz.func61, Tryz.ntmps61
    go_wp2_with fail
    refine (readCnt_some br D off last m (n : Int) w.heap.size (w.heap.size + 1) _ H.out.1 (fun W hf hr => (HD.out W hf hr).mono (fun e w' h => by unfold LimRes at h; rw [HB.out] at h; simp only at h; rw [if_neg (by have := HG.out; omega)] at h; exact ⟨h.2.1, h.1, h.2.2⟩))).mono ?_
    rintro e w1 ⟨rfl, hf, hr1⟩
    have H1 := Lib.hid (And.intro (H.out.2.2.1.mono (S' := [br]) (by simp) |>.trans hf) hr1)
    clear hf hr1
    go_wp2_with fail
    go_ret
    simp only [Rd.count, if_true, HB.out]
    rw [if_neg (by have := HG.out; omega)]
    exact ⟨rfl, H1.out⟩
 ·have e : r.count most = (0, r) := by unfold Rd.count; rw [if_neg h0]
  have HE := Lib.hid (And.intro h0 e)
  clear h0 e
  go_enter Tryz.func61, Tryz.ntmps61
  go_wp2_with fail
  refine (readCnt_err br r _ _ H.out.1 HE.out.1).mono ?_
  rintro e w1 ⟨rfl, hf, hr1⟩
  have H1 := Lib.hid (And.intro ((H.out.2.2.1.trans hf).mono (S' := [br]) (by simp)) hr1)
  clear hf hr1
  go_wp2_with fail
  go_ret
  rw [HE.out.2]
  exact ⟨rfl, H1.out⟩
def Rd.end_ (r : Rd) : Int := if r.err ≠ 0 then r.err else if r.off < r.D.length then 3 else 0
theorem rEnd (br : Nat) (r : Rd) (w : World) (hr : RdAt X w br r) (hk : r.Ok) :
  Calls Tryz.prog 63 #[Value.pointer (some ⟨br, 0, none⟩)] w fun e w' => e = .returned (.tuple #[Value.int .i64 (r.off : Int), Value.int .i64 r.end_]) ∧ Fr [] w w' := by
 obtain ⟨A, c, hX, ha, hrow⟩ := hr
 have c0 : w.cell? ⟨br, 0, none⟩ = some (.slice A r.D.length c) := by rw [ha.cell]; rfl
 have c1 : w.cell? ⟨br, 1, none⟩ = some (Value.int .i64 (r.off : Int)) := by rw [ha.cell]; rfl
 have c3 : w.cell? ⟨br, 3, none⟩ = some (Value.int .i64 r.err) := by rw [ha.cell]; rfl
 have hDI : (r.D.length : Int) ≤ 4294967296 := by have := hk.len; omega
 clear ha hrow hk
 by_cases h0 : r.err = 0
 ·have hb : (r.err != 0) = false := by simpa using h0
  by_cases hl : r.off < r.D.length
  ·have hlI : decide (r.off < r.D.length) = true := by simpa using hl
   have he : r.end_ = 3 := by unfold Rd.end_; rw [if_neg (by simpa using h0), if_pos hl]
   have HE := Lib.hid he
   clear h0 he
   go_enter Tryz.func63, Tryz.ntmps63
   go_wp2_with fail
   go_quiet (fail)
   go_wp2_with fail
   go_ret2
   rw [HE.out]
   exact ⟨rfl, (Fr.refl _ _).drewN _⟩
  ·have hlI : decide (r.off < r.D.length) = false := by simpa using hl
   have he : r.end_ = 0 := by unfold Rd.end_; rw [if_neg (by simpa using h0), if_neg hl]
   have HE := Lib.hid he
   clear h0 he
   go_enter Tryz.func63, Tryz.ntmps63
   go_wp2_with fail
   go_quiet (fail)
   go_wp2_with fail
   go_ret2
   rw [HE.out]
   exact ⟨rfl, (Fr.refl _ _).drewN _⟩
 ·have hb : (r.err != 0) = true := by simpa using h0
  have he : r.end_ = r.err := by unfold Rd.end_; rw [if_pos h0]
  have HE := Lib.hid he
  clear h0 he
  go_enter Tryz.func63, Tryz.ntmps63
  go_wp2_with fail
  go_quiet (fail)
  go_wp2_with fail
  go_ret2
  rw [HE.out]
  exact ⟨rfl, (Fr.refl _ _).drewN _⟩
theorem newReader_any (A : Option Addr) (c : Nat) (D : List UInt8) (w : World) (hD : D.length ≤ 4294967296) (hrow : RowIn w A (B8 D)) :
  Calls Tryz.prog 60 #[.slice A D.length c] w fun e w' => ∃ br A2 c2, e = .returned (Value.pointer (some ⟨br, 0, none⟩)) ∧ w.heap.size ≤ br ∧ Fr [] w w' ∧ RdAt (A2, c2) w' br ⟨D, 0, 0, 0⟩ ∧ w'.ownsRow w.heap.size 5 1 (.slice A2 D.length c2) D.length (B8 D) := by
 have H := Lib.hid (And.intro hrow hD)
 clear hrow hD
 go_enter Tryz.func60, Tryz.ntmps60
 go_wp2_with (at_builtin; refine wpList_app el_u8 rfl (.tmp 3) (.tmp 4) rfl w.heap.size _ 0 [] rfl (by exact World.ownsRow_made _ #[] 0 (Nat.le_refl _) (Nat.zero_le _) rfl) A _ c (B8 D) rfl (by rw [B8_length]; simp) (by exact CellsAt.of_row (H.out.1.fr0 ((Fr.refl _ _).alloc _))) (B8_one _) (by have := H.out.2; omega) (by simp) ?_; intro v2 w2 hown2 hg2 hb2; obtain ⟨A2, c2, rfl⟩ := ownsRow_form hown2)
 go_ret
 have hf : Fr [] w w2 := ((Fr.refl [] w).alloc _).grown hg2 (fun g hg => .inr (by have hg' : some w.heap.size = some g := hg; injection hg' with hg'; omega))
 refine ⟨w2.heap.size, A2, c2, rfl, hf.size, hf.alloc _, ⟨A2, c2, rfl, ?_, ?_⟩, ?_⟩
 ·have := At.new w2 146 [.slice A2 D.length c2, Value.int .i64 0, Value.int .i64 0, Value.int .i64 0]
  simpa using this
 ·have := ownsRow_base hown2 (Nat.zero_le w.heap.size)
  simpa using this.alloc _
 ·simpa using hown2.alloc _
end Go.Proofs.YtlepfnihpdhcaaaGreatDoor
namespace Go.Proofs.YtlepfnihpdhcaaaGreatDoor
open Go.RowKit
variable {X : Option Addr × Nat}
theorem Mm.one {w : World} {b : Nat} {t : TypeId} {l : List Value} (h : At w b t l) : Mm w [b] [cAt b t l] w :=
 ⟨Fr.refl _ _, fun c hc => by rw [List.mem_singleton] at hc; subst hc; exact h, by simp [cAt], fun x hx => .inl (by simpa [cAt] using hx)⟩
theorem own_at_ne {w : World} {base : Nat} {e t : TypeId} {sz n : Nat} {v : Value} {xs l : List Value} {b : Nat} (h : w.ownsRow base e sz v n xs) (ha : At w b t l) (hne : e ≠ t) : some b ≠ v.ownBlock := by
 intro hb
 rcases h.2 with ⟨rfl, _⟩ | ⟨g, cap, cur, rfl, _, hg, _⟩
 ·simp [Value.ownBlock] at hb
 ·have : some b = some g := hb
  injection this with this
  subst this
  unfold At at ha
  rw [hg] at ha
  simp only [Option.some.injEq, Obj.cells.injEq] at ha
  exact hne ha.2.1
theorem ownCap {w : World} {base : Nat} {e : TypeId} {sz : Nat} {A : Option Addr} {m c : Nat} {xs : List Value} (ho : w.ownsRow base e sz (.slice A m c) m xs) : m ≤ c := by
 rcases ho.2 with ⟨hv, h0⟩ | ⟨g, cap, cur, hv, _, _, hnc, _⟩
 ·omega
 ·simp only [Value.slice.injEq] at hv
  omega
theorem rowPart {w : World} {A : Option Addr} {xs : List UInt8} {c k N : Nat} (h : RowIn w A (B8 xs)) (hc : (B8 xs).length ≤ c) : RowIn w (if c = k then A else A.map (·.add (k * 1))) (B8 ((xs.drop k).take N)) := by
 intro j u hu
 have hj : (B8 xs)[k + j]? = some u := by
  simp only [B8, List.getElem?_map, List.getElem?_take, List.getElem?_drop] at hu ⊢
  split at hu
  ·exact hu
  ·cases hu
 have hlt := (List.getElem?_eq_some_iff.1 hj).1
 obtain ⟨b, o, hA, hb, hcell⟩ := h _ _ hj
 refine ⟨b, o + k, ?_, hb, by rw [Nat.add_assoc]; exact hcell⟩
 rw [if_neg (by omega), hA]
 show some ((⟨b, o, none⟩ : Addr).add (k * 1)) = _
 rw [add_none, Nat.mul_one]
theorem take_few (br : Nat) (D : List UInt8) (off last N : Nat) (err : Int) (w : World) (A : Option Addr) (c : Nat) (ha : At w br 146 [.slice A D.length c, Value.int .i64 (off : Int), Value.int .i64 (last : Int), Value.int .i64 err]) (_hl : D.length ≤ 4294967296) (ho : off ≤ D.length) (hN : N ≤ 4294967296) (_hc : D.length ≤ c) (hf : D.length < off + N) :
  Calls Tryz.prog 107 #[Value.pointer (some ⟨br, 0, none⟩), Value.int .i64 (N : Int)] w fun e w' => e = .returned (.tuple #[.slice none 0 0, Value.int .i64 3]) ∧ Fr [br] w w' ∧ At w' br 146 [.slice A D.length c, Value.int .i64 (off : Int), Value.int .i64 (last : Int), Value.int .i64 err] := by
 have HA := Lib.hid ha
 clear ha
 refine stEnter (args := [Value.pointer (some ⟨br, 0, none⟩), Value.int .i64 (N : Int)]) [br] Tryz.func107 rfl 43 rfl [(0, Value.pointer (some ⟨br, 0, none⟩)), (1, Value.int .i64 (N : Int))] ⟨rfl, rfl, trivial⟩ [cAt br 146 [(vL A D c), (vI off), (vI last), (.int .i64 err)]] (Mm.one HA.out) ?_
 refine stSeq ?_
 refine reg ?_
 refine li rfl (opVal (.slice none 0 0) rfl (by kernel_rfl) (rAssign rfl rfl) ?_)
 refine li rfl (opVal (.int .i64 0) rfl (by kernel_rfl) (rAssign rfl rfl) ?_)
 refine liNil ?_
 refine qThen ?_
 refine stSeq ?_
 refine stSeq ?_
 refine anyBegin [cAt br 146 [(vL A D c), (vI off), (vI last), (.int .i64 err)]] 12 (by kernel_rfl) (fun _ h => h) ?_
 refine anyVal (i := 0) (vI N) rfl rfl rfl (by kernel_rfl) (by kernel_rfl) (fun _ _ _ h => h) (rMove rfl rfl) ?_
 refine anyVal (i := 1) (vP br 0) rfl rfl rfl (by kernel_rfl) (by kernel_rfl) (fun _ _ _ h => h) (rMove rfl rfl) ?_
 refine anyVal (i := 2) (vP br 0) rfl rfl rfl (by kernel_rfl) (by kernel_rfl) (fun _ _ _ h => h) (rClosed fun _ => by kernel_rfl) ?_
 refine anyVal (i := 3) (vP br 0) rfl rfl rfl (by kernel_rfl) (by kernel_rfl) (fun _ _ _ h => h) (rClosed fun _ => by kernel_rfl) ?_
 refine anyVal (i := 4) (vL A D c) rfl rfl rfl (by kernel_rfl) (by kernel_rfl) (fun _ _ _ h => h) (rLoad 0 rfl rfl (by kernel_rfl) rfl rfl) ?_
 refine anyVal (i := 5) (vI D.length) rfl rfl rfl (by kernel_rfl) (by kernel_rfl) (fun _ _ _ h => h) (rClosed fun _ => by kernel_rfl) ?_
 refine anyVal (i := 6) (vP br 0) rfl rfl rfl (by kernel_rfl) (by kernel_rfl) (fun _ _ _ h => h) (rMove rfl rfl) ?_
 refine anyVal (i := 7) (vP br 0) rfl rfl rfl (by kernel_rfl) (by kernel_rfl) (fun _ _ _ h => h) (rClosed fun _ => by kernel_rfl) ?_
 refine anyVal (i := 8) (vP br 1) rfl rfl rfl (by kernel_rfl) (by kernel_rfl) (fun _ _ _ h => h) (rClosed fun _ => by kernel_rfl) ?_
 refine anyVal (i := 9) (vI off) rfl rfl rfl (by kernel_rfl) (by kernel_rfl) (fun _ _ _ h => h) (rLoad 0 rfl rfl (by kernel_rfl) rfl rfl) ?_
 refine anyVal (i := 10) (.int .i64 (((D.length : Nat) : Int) - ((off : Nat) : Int))) rfl rfl rfl (by kernel_rfl) (by kernel_rfl) (fun _ _ _ h => h) (rSub _ rfl rfl rfl rfl (by omega) (by omega)) ?_
 refine anyVal (i := 11) (.bool (decide (((N : Nat) : Int) > (((D.length : Nat) : Int) - ((off : Nat) : Int))))) rfl rfl rfl (by kernel_rfl) (by kernel_rfl) (fun _ _ _ h => h) (rClosed fun _ => by kernel_rfl) ?_
 refine anyDone (by kernel_rfl) ?_
 refine qThen ?_
 refine stTrueK rfl (by simp; omega) ?_
 refine stSeq ?_
 refine reg ?_
 refine li rfl (opVal (.slice none 0 0) rfl (by kernel_rfl) (rAssign rfl rfl) ?_)
 refine li rfl (opVal (.int .i64 3) rfl (by kernel_rfl) (rAssign rfl rfl) ?_)
 refine liNil ?_
 refine qThen ?_
 refine stRet ?_
 refine qThenR ?_
 refine stEnd [(.slice none 0 0), (.int .i64 3)] rfl ⟨rfl, rfl, trivial⟩ (fun w hM => ?_)
 exact ⟨rfl, hM.fr, hM.at (i := 0) rfl⟩
theorem take_ok (br : Nat) (D : List UInt8) (off last N : Nat) (err : Int) (w : World) (A : Option Addr) (c : Nat) (ha : At w br 146 [.slice A D.length c, Value.int .i64 (off : Int), Value.int .i64 (last : Int), Value.int .i64 err]) (hl : D.length ≤ 4294967296) (ho : off ≤ D.length) (hN : N ≤ 4294967296) (hc : D.length ≤ c) (hf : off + N ≤ D.length) :
  Calls Tryz.prog 107 #[Value.pointer (some ⟨br, 0, none⟩), Value.int .i64 (N : Int)] w fun e w' => e = .returned (.tuple #[.slice (if c = off then A else A.map (·.add (off * 1))) N (c - off), Value.int .i64 0]) ∧ Fr [br] w w' ∧ At w' br 146 [.slice A D.length c, Value.int .i64 ((off + N : Nat) : Int), Value.int .i64 (last : Int), Value.int .i64 err] := by
 have HA := Lib.hid ha
 clear ha
 refine stEnter (args := [Value.pointer (some ⟨br, 0, none⟩), Value.int .i64 (N : Int)]) [br] Tryz.func107 rfl 43 rfl [(0, Value.pointer (some ⟨br, 0, none⟩)), (1, Value.int .i64 (N : Int))] ⟨rfl, rfl, trivial⟩ [cAt br 146 [(vL A D c), (vI off), (vI last), (.int .i64 err)]] (Mm.one HA.out) ?_
 refine stSeq ?_
 refine reg ?_
 refine li rfl (opVal (.slice none 0 0) rfl (by kernel_rfl) (rAssign rfl rfl) ?_)
 refine li rfl (opVal (.int .i64 0) rfl (by kernel_rfl) (rAssign rfl rfl) ?_)
 refine liNil ?_
 refine qThen ?_
 refine stSeq ?_
 refine stSeq ?_
 refine anyBegin [cAt br 146 [(vL A D c), (vI off), (vI last), (.int .i64 err)]] 12 (by kernel_rfl) (fun _ h => h) ?_
 refine anyVal (i := 0) (vI N) rfl rfl rfl (by kernel_rfl) (by kernel_rfl) (fun _ _ _ h => h) (rMove rfl rfl) ?_
 refine anyVal (i := 1) (vP br 0) rfl rfl rfl (by kernel_rfl) (by kernel_rfl) (fun _ _ _ h => h) (rMove rfl rfl) ?_
 refine anyVal (i := 2) (vP br 0) rfl rfl rfl (by kernel_rfl) (by kernel_rfl) (fun _ _ _ h => h) (rClosed fun _ => by kernel_rfl) ?_
 refine anyVal (i := 3) (vP br 0) rfl rfl rfl (by kernel_rfl) (by kernel_rfl) (fun _ _ _ h => h) (rClosed fun _ => by kernel_rfl) ?_
 refine anyVal (i := 4) (vL A D c) rfl rfl rfl (by kernel_rfl) (by kernel_rfl) (fun _ _ _ h => h) (rLoad 0 rfl rfl (by kernel_rfl) rfl rfl) ?_
 refine anyVal (i := 5) (vI D.length) rfl rfl rfl (by kernel_rfl) (by kernel_rfl) (fun _ _ _ h => h) (rClosed fun _ => by kernel_rfl) ?_
 refine anyVal (i := 6) (vP br 0) rfl rfl rfl (by kernel_rfl) (by kernel_rfl) (fun _ _ _ h => h) (rMove rfl rfl) ?_
 refine anyVal (i := 7) (vP br 0) rfl rfl rfl (by kernel_rfl) (by kernel_rfl) (fun _ _ _ h => h) (rClosed fun _ => by kernel_rfl) ?_
 refine anyVal (i := 8) (vP br 1) rfl rfl rfl (by kernel_rfl) (by kernel_rfl) (fun _ _ _ h => h) (rClosed fun _ => by kernel_rfl) ?_
 refine anyVal (i := 9) (vI off) rfl rfl rfl (by kernel_rfl) (by kernel_rfl) (fun _ _ _ h => h) (rLoad 0 rfl rfl (by kernel_rfl) rfl rfl) ?_
 refine anyVal (i := 10) (.int .i64 (((D.length : Nat) : Int) - ((off : Nat) : Int))) rfl rfl rfl (by kernel_rfl) (by kernel_rfl) (fun _ _ _ h => h) (rSub _ rfl rfl rfl rfl (by omega) (by omega)) ?_
 refine anyVal (i := 11) (.bool (decide (((N : Nat) : Int) > (((D.length : Nat) : Int) - ((off : Nat) : Int))))) rfl rfl rfl (by kernel_rfl) (by kernel_rfl) (fun _ _ _ h => h) (rClosed fun _ => by kernel_rfl) ?_
 refine anyDone (by kernel_rfl) ?_
 refine qThen ?_
 refine stFalseK rfl (by simp; omega) ?_
 refine stSkip ?_
 refine qThen ?_
 refine stSeq ?_
 refine anyBegin [cAt br 146 [(vL A D c), (vI off), (vI last), (.int .i64 err)]] 16 (by kernel_rfl) (fun _ h => h) ?_
 refine anyVal (i := 0) (vP br 0) rfl rfl rfl (by kernel_rfl) (by kernel_rfl) (fun _ _ _ h => h) (rMove rfl rfl) ?_
 refine anyVal (i := 1) (vP br 0) rfl rfl rfl (by kernel_rfl) (by kernel_rfl) (fun _ _ _ h => h) (rClosed fun _ => by kernel_rfl) ?_
 refine anyVal (i := 2) (vP br 0) rfl rfl rfl (by kernel_rfl) (by kernel_rfl) (fun _ _ _ h => h) (rClosed fun _ => by kernel_rfl) ?_
 refine anyVal (i := 3) (vL A D c) rfl rfl rfl (by kernel_rfl) (by kernel_rfl) (fun _ _ _ h => h) (rLoad 0 rfl rfl (by kernel_rfl) rfl rfl) ?_
 refine anyVal (i := 4) (vP br 0) rfl rfl rfl (by kernel_rfl) (by kernel_rfl) (fun _ _ _ h => h) (rMove rfl rfl) ?_
 refine anyVal (i := 5) (vP br 0) rfl rfl rfl (by kernel_rfl) (by kernel_rfl) (fun _ _ _ h => h) (rClosed fun _ => by kernel_rfl) ?_
 refine anyVal (i := 6) (vP br 1) rfl rfl rfl (by kernel_rfl) (by kernel_rfl) (fun _ _ _ h => h) (rClosed fun _ => by kernel_rfl) ?_
 refine anyVal (i := 7) (vI off) rfl rfl rfl (by kernel_rfl) (by kernel_rfl) (fun _ _ _ h => h) (rLoad 0 rfl rfl (by kernel_rfl) rfl rfl) ?_
 refine anyVal (i := 8) (vP br 0) rfl rfl rfl (by kernel_rfl) (by kernel_rfl) (fun _ _ _ h => h) (rMove rfl rfl) ?_
 refine anyVal (i := 9) (vP br 0) rfl rfl rfl (by kernel_rfl) (by kernel_rfl) (fun _ _ _ h => h) (rClosed fun _ => by kernel_rfl) ?_
 refine anyVal (i := 10) (vP br 1) rfl rfl rfl (by kernel_rfl) (by kernel_rfl) (fun _ _ _ h => h) (rClosed fun _ => by kernel_rfl) ?_
 refine anyVal (i := 11) (vI off) rfl rfl rfl (by kernel_rfl) (by kernel_rfl) (fun _ _ _ h => h) (rLoad 0 rfl rfl (by kernel_rfl) rfl rfl) ?_
 refine anyVal (i := 12) (vI N) rfl rfl rfl (by kernel_rfl) (by kernel_rfl) (fun _ _ _ h => h) (rMove rfl rfl) ?_
 refine anyVal (i := 13) (vI (off + N)) rfl rfl rfl (by kernel_rfl) (by kernel_rfl) (fun _ _ _ h => h) (rAdd _ rfl rfl rfl (by omega) (by omega) (by omega)) ?_
 refine anyVal (i := 14) (.slice (if c = off then A else A.map (·.add (off * 1))) (off + N - off) (c - off)) rfl rfl rfl (by kernel_rfl) (by kernel_rfl) (fun _ _ _ h => h) (rSliceLH (e := 5) (sz := 1) rfl (by kernel_rfl) (by kernel_rfl) rfl rfl rfl (by omega) (by omega)) ?_
 refine anyVal (i := 15) (.slice (if c = off then A else A.map (·.add (off * 1))) (off + N - off) (c - off)) rfl rfl rfl (by kernel_rfl) (by kernel_rfl) (fun _ _ _ h => h) (rAssign rfl rfl) ?_
 refine anyDone (by kernel_rfl) ?_
 refine qThen ?_
 refine stSeq ?_
 refine reg ?_
 refine li rfl (opVal (vP br 0) rfl (by kernel_rfl) (rMove rfl rfl) ?_)
 refine li rfl (opVal (vP br 0) rfl (by kernel_rfl) (rClosed fun _ => by kernel_rfl) ?_)
 refine li rfl (opVal (vP br 1) rfl (by kernel_rfl) (rClosed fun _ => by kernel_rfl) ?_)
 refine li rfl (opVal (vI off) rfl (by kernel_rfl) (rLoad 0 rfl rfl (by kernel_rfl) rfl rfl) ?_)
 refine li rfl (opVal (vI N) rfl (by kernel_rfl) (rMove rfl rfl) ?_)
 refine li rfl (opVal (vI (off + N)) rfl (by kernel_rfl) (rAdd _ rfl rfl rfl (by omega) (by omega) (by omega)) ?_)
 refine li rfl (opVal (vP br 0) rfl (by kernel_rfl) (rClosed fun _ => by kernel_rfl) ?_)
 refine li rfl (opVal (vP br 1) rfl (by kernel_rfl) (rClosed fun _ => by kernel_rfl) ?_)
 refine li rfl ?_
 refine opStore1 0 rfl rfl (by kernel_rfl) rfl rfl rfl (by kernel_rfl) rfl (by simp) ?_
 refine liNil ?_
 refine qThen ?_
 refine stSeq ?_
 refine reg ?_
 refine li rfl (opVal (.slice (if c = off then A else A.map (·.add (off * 1))) (off + N - off) (c - off)) rfl (by kernel_rfl) (rMove rfl rfl) ?_)
 refine li rfl (opVal (.slice (if c = off then A else A.map (·.add (off * 1))) (off + N - off) (c - off)) rfl (by kernel_rfl) (rAssign rfl rfl) ?_)
 refine li rfl (opVal (.int .i64 0) rfl (by kernel_rfl) (rAssign rfl rfl) ?_)
 refine liNil ?_
 refine qThen ?_
 refine stRet ?_
 refine stEnd [(.slice (if c = off then A else A.map (·.add (off * 1))) (off + N - off) (c - off)), (.int .i64 0)] rfl ⟨rfl, rfl, trivial⟩ (fun w hM => ?_)
 exact ⟨by rw [show off + N - off = N by omega]; rfl, hM.fr, hM.at (i := 0) rfl⟩
theorem sumc_ok (bx br : Nat) (D : List UInt8) (off last : Nat) (err : Int) (w : World) (hx0 : At w bx 114 [Value.pointer (some ⟨br, 0, none⟩)]) (hr : ReaderAt X w br D off last err) (hl : D.length ≤ 4294967296) (ho : off ≤ D.length) (hf : off + 32 ≤ D.length) :
  Calls Tryz.prog 106 #[Value.pointer (some ⟨bx, 0, none⟩)] w fun e w' => e = .returned (.tuple #[.string (strOf ((D.drop off).take 32)), Value.int .i64 0]) ∧ Fr [br] w w' ∧ ReaderAt X w' br D (off + 32) last err := by
 obtain ⟨A, c, hX, ha, hown⟩ := hr
 have hx : w.cell? ⟨bx, 0, none⟩ = some (Value.pointer (some ⟨br, 0, none⟩)) := by rw [hx0.cell]; rfl
 have hxb : bx ≠ br := hx0.ne ha (by decide)
 have HA := Lib.hid ha
 have HO := Lib.hid hown
 have HR : Hid (RowIn w A (B8 D)) := RowIn.of_own hown
 have hc : D.length ≤ c := ownCap hown
 have HNB : Hid (∀ g, (Value.slice A D.length c).ownBlock = some g → g ∉ [br]) := fun g hg => by
  have h1 := own_at_ne hown ha (by decide)
  simp only [List.mem_singleton]
  rintro rfl
  exact h1 hg.symm
 have HNE : Hid (∀ b o, A = some ⟨b, o, none⟩ → b ∉ [br]) := fun b o hA => HNB.out b (by rw [hA]; rfl)
 clear ha hown hx0
 refine stEnter (args := [Value.pointer (some ⟨bx, 0, none⟩)]) [br] Tryz.func106 rfl 13 rfl [(0, Value.pointer (some ⟨bx, 0, none⟩))] ⟨rfl, trivial⟩ [cAt br 146 [(vL A D c), (vI off), (vI last), (.int .i64 err)]] (Mm.one HA.out) ?_
 refine stSeq ?_
 refine reg ?_
 refine li rfl (opVal (.string ⟨#[]⟩) rfl (by kernel_rfl) (rAssign rfl rfl) ?_)
 refine li rfl (opVal (.int .i64 0) rfl (by kernel_rfl) (rAssign rfl rfl) ?_)
 refine liNil ?_
 refine qThen ?_
 refine stSeq ?_
 refine reg ?_
 refine li rfl (opVal (vP br 0) rfl (by kernel_rfl) (rLoadW rfl rfl (by kernel_rfl) (fun w hM => hM.old hx (by simpa using hxb))) ?_)
 refine li rfl ?_
 refine opCall 107 #[(vP br 0), (.int .i64 32)] rfl (by kernel_rfl) (fun _ => by kernel_rfl) (fun w hM => ?_)
 refine (take_ok br D off last 32 err w A c (hM.at (i := 0) rfl) hl ho (by omega) hc hf).mono ?_
 rintro e w' ⟨rfl, hf2, ha2⟩
 have hM' := hM.swap 0 (c' := cAt br 146 [(vL A D c), (vI (off + 32)), (vI last), (.int .i64 err)]) rfl hf2 ha2 (fun b hb => .inl hb) (by simp [cAt])
 refine ⟨_, _, rfl, hM', ?_⟩
 clear hM hM' hf2 ha2
 refine li rfl (opVal (.tuple #[(.slice (if c = off then A else A.map (·.add (off * 1))) (32) (c - off)), (.int .i64 0)]) rfl (by kernel_rfl) (rMove rfl rfl) ?_)
 refine li rfl (opVal (.slice (if c = off then A else A.map (·.add (off * 1))) (32) (c - off)) rfl (by kernel_rfl) (rClosed fun _ => by kernel_rfl) ?_)
 refine li rfl (opVal (.int .i64 0) rfl (by kernel_rfl) (rClosed fun _ => by kernel_rfl) ?_)
 refine li rfl (opVal (.slice (if c = off then A else A.map (·.add (off * 1))) (32) (c - off)) rfl (by kernel_rfl) (rAssign rfl rfl) ?_)
 refine li rfl (opVal (.int .i64 0) rfl (by kernel_rfl) (rAssign rfl rfl) ?_)
 refine liNil ?_
 refine qThen ?_
 refine stSeq ?_
 refine reg ?_
 refine li rfl (opVal (.slice (if c = off then A else A.map (·.add (off * 1))) (32) (c - off)) rfl (by kernel_rfl) (rMove rfl rfl) ?_)
 refine li rfl (opVal (vS ((D.drop off).take 32)) rfl (by kernel_rfl) (rStr (e := 5) ((D.drop off).take 32) rfl (by kernel_rfl) (by kernel_rfl) (by kernel_rfl) rfl (by rw [List.length_take, List.length_drop]; omega) (fun w hM => rowPart (HR.out.fr hM.fr HNE.out) (by rw [B8_length]; exact hc))) ?_)
 refine li rfl (opVal (.int .i64 0) rfl (by kernel_rfl) (rMove rfl rfl) ?_)
 refine li rfl (opVal (vS ((D.drop off).take 32)) rfl (by kernel_rfl) (rAssign rfl rfl) ?_)
 refine li rfl (opVal (.int .i64 0) rfl (by kernel_rfl) (rAssign rfl rfl) ?_)
 refine liNil ?_
 refine qThen ?_
 refine stRet ?_
 refine stEnd [(vS ((D.drop off).take 32)), (.int .i64 0)] rfl ⟨rfl, rfl, trivial⟩ (fun w hM => ?_)
 exact ⟨rfl, hM.fr, A, c, hX, hM.at (i := 0) rfl, ownsRow_fr HO.out hM.fr HNB.out⟩
theorem sumc_few (bx br : Nat) (D : List UInt8) (off last : Nat) (err : Int) (w : World) (hx0 : At w bx 114 [Value.pointer (some ⟨br, 0, none⟩)]) (hr : ReaderAt X w br D off last err) (hl : D.length ≤ 4294967296) (ho : off ≤ D.length) (hf : D.length < off + 32) :
  Calls Tryz.prog 106 #[Value.pointer (some ⟨bx, 0, none⟩)] w fun e w' => e = .returned (.tuple #[.string (strOf []), Value.int .i64 3]) ∧ Fr [br] w w' ∧ ReaderAt X w' br D off last err := by
 obtain ⟨A, c, hX, ha, hown⟩ := hr
 have hx : w.cell? ⟨bx, 0, none⟩ = some (Value.pointer (some ⟨br, 0, none⟩)) := by rw [hx0.cell]; rfl
 have hxb : bx ≠ br := hx0.ne ha (by decide)
 have HA := Lib.hid ha
 have HO := Lib.hid hown
 have HR : Hid (RowIn w A (B8 D)) := RowIn.of_own hown
 have hc : D.length ≤ c := ownCap hown
 have HNB : Hid (∀ g, (Value.slice A D.length c).ownBlock = some g → g ∉ [br]) := fun g hg => by
  have h1 := own_at_ne hown ha (by decide)
  simp only [List.mem_singleton]
  rintro rfl
  exact h1 hg.symm
 have HNE : Hid (∀ b o, A = some ⟨b, o, none⟩ → b ∉ [br]) := fun b o hA => HNB.out b (by rw [hA]; rfl)
 clear ha hown hx0
 refine stEnter (args := [Value.pointer (some ⟨bx, 0, none⟩)]) [br] Tryz.func106 rfl 13 rfl [(0, Value.pointer (some ⟨bx, 0, none⟩))] ⟨rfl, trivial⟩ [cAt br 146 [(vL A D c), (vI off), (vI last), (.int .i64 err)]] (Mm.one HA.out) ?_
 refine stSeq ?_
 refine reg ?_
 refine li rfl (opVal (.string ⟨#[]⟩) rfl (by kernel_rfl) (rAssign rfl rfl) ?_)
 refine li rfl (opVal (.int .i64 0) rfl (by kernel_rfl) (rAssign rfl rfl) ?_)
 refine liNil ?_
 refine qThen ?_
 refine stSeq ?_
 refine reg ?_
 refine li rfl (opVal (vP br 0) rfl (by kernel_rfl) (rLoadW rfl rfl (by kernel_rfl) (fun w hM => hM.old hx (by simpa using hxb))) ?_)
 refine li rfl ?_
 refine opCall 107 #[(vP br 0), (.int .i64 32)] rfl (by kernel_rfl) (fun _ => by kernel_rfl) (fun w hM => ?_)
 refine (take_few br D off last 32 err w A c (hM.at (i := 0) rfl) hl ho (by omega) hc hf).mono ?_
 rintro e w' ⟨rfl, hf2, ha2⟩
 have hM' := hM.swap 0 (c' := cAt br 146 [(vL A D c), (vI off), (vI last), (.int .i64 err)]) rfl hf2 ha2 (fun b hb => .inl hb) (by simp [cAt])
 refine ⟨_, _, rfl, hM', ?_⟩
 clear hM hM' hf2 ha2
 refine li rfl (opVal (.tuple #[(.slice none 0 0), (.int .i64 3)]) rfl (by kernel_rfl) (rMove rfl rfl) ?_)
 refine li rfl (opVal (.slice none 0 0) rfl (by kernel_rfl) (rClosed fun _ => by kernel_rfl) ?_)
 refine li rfl (opVal (.int .i64 3) rfl (by kernel_rfl) (rClosed fun _ => by kernel_rfl) ?_)
 refine li rfl (opVal (.slice none 0 0) rfl (by kernel_rfl) (rAssign rfl rfl) ?_)
 refine li rfl (opVal (.int .i64 3) rfl (by kernel_rfl) (rAssign rfl rfl) ?_)
 refine liNil ?_
 refine qThen ?_
 refine stSeq ?_
 refine reg ?_
 refine li rfl (opVal (.slice none 0 0) rfl (by kernel_rfl) (rMove rfl rfl) ?_)
 refine li rfl (opVal (vS []) rfl (by kernel_rfl) (rStr (e := 5) [] rfl (by kernel_rfl) (by kernel_rfl) (by kernel_rfl) rfl rfl (fun w hM j v hj => by simp [B8] at hj)) ?_)
 refine li rfl (opVal (.int .i64 3) rfl (by kernel_rfl) (rMove rfl rfl) ?_)
 refine li rfl (opVal (vS []) rfl (by kernel_rfl) (rAssign rfl rfl) ?_)
 refine li rfl (opVal (.int .i64 3) rfl (by kernel_rfl) (rAssign rfl rfl) ?_)
 refine liNil ?_
 refine qThen ?_
 refine stRet ?_
 refine stEnd [(vS []), (.int .i64 3)] rfl ⟨rfl, rfl, trivial⟩ (fun w hM => ?_)
 exact ⟨rfl, hM.fr, A, c, hX, hM.at (i := 0) rfl, ownsRow_fr HO.out hM.fr HNB.out⟩
theorem rvClose_ok_Sum (b0 b1 b2 br : Nat) (A : Option Addr) (n c : Nat) (off last start : Int) (w : World) (h0 : At w b0 3 [Value.int .i64 start]) (h1 : At w b1 114 [Value.pointer (some ⟨br, 0, none⟩)]) (hr : At w br 146 [.slice A n c, Value.int .i64 off, Value.int .i64 last, Value.int .i64 0]) :
  CallsD Tryz.prog 121 #[Value.pointer (some ⟨b0, 0, none⟩), Value.pointer (some ⟨b1, 0, none⟩), Value.pointer (some ⟨b2, 0, none⟩)] .returning w fun e u' w' => u' = .returning ∧ e = .returned (.tuple #[]) ∧ w' = w.setCell ⟨br, 2, none⟩ (Value.int .i64 start) := by
 have c0 : w.cell? ⟨b0, 0, none⟩ = some (Value.int .i64 start) := by rw [h0.cell]; rfl
 have c1 : w.cell? ⟨b1, 0, none⟩ = some (Value.pointer (some ⟨br, 0, none⟩)) := by rw [h1.cell]; rfl
 have c2 : w.cell? ⟨br, 2, none⟩ = some (Value.int .i64 last) := by rw [hr.cell]; rfl
 have c3 : w.cell? ⟨br, 3, none⟩ = some (Value.int .i64 0) := by rw [hr.cell]; rfl
 have z2 := hr.frozen 2
 have hne : b1 ≠ br := h1.ne hr (by decide)
 clear h0 h1 hr
 go_enter_d Tryz.func121, Tryz.ntmps121
 go_wp2_with fail
 go_end0
 exact ⟨rfl, rfl⟩
theorem rvClose_err_Sum (b0 b1 b2 br : Nat) (A : Option Addr) (n c : Nat) (off last start err : Int) (v : Value) (w : World) (h0 : At w b0 3 [Value.int .i64 start]) (h1 : At w b1 114 [Value.pointer (some ⟨br, 0, none⟩)]) (h2 : At w b2 9 [v]) (hr : At w br 146 [.slice A n c, Value.int .i64 off, Value.int .i64 last, Value.int .i64 err]) (he : err ≠ 0) (hb : b2 ≠ b0 ∧ b2 ≠ br) :
  CallsD Tryz.prog 121 #[Value.pointer (some ⟨b0, 0, none⟩), Value.pointer (some ⟨b1, 0, none⟩), Value.pointer (some ⟨b2, 0, none⟩)] .returning w fun e u' w' => u' = .returning ∧ e = .returned (.tuple #[]) ∧ w' = ((w.setCell ⟨br, 2, none⟩ (Value.int .i64 start)).setCell ⟨br, 1, none⟩ (Value.int .i64 start)).setCell ⟨b2, 0, none⟩ (Value.string ⟨#[]⟩) := by
 have c0 : w.cell? ⟨b0, 0, none⟩ = some (Value.int .i64 start) := by rw [h0.cell]; rfl
 have c1 : w.cell? ⟨b1, 0, none⟩ = some (Value.pointer (some ⟨br, 0, none⟩)) := by rw [h1.cell]; rfl
 have cr1 : w.cell? ⟨br, 1, none⟩ = some (Value.int .i64 off) := by rw [hr.cell]; rfl
 have c2 : w.cell? ⟨br, 2, none⟩ = some (Value.int .i64 last) := by rw [hr.cell]; rfl
 have c3 : w.cell? ⟨br, 3, none⟩ = some (Value.int .i64 err) := by rw [hr.cell]; rfl
 have c4 : w.cell? ⟨b2, 0, none⟩ = some v := by rw [h2.cell]; rfl
 have z2 := hr.frozen 2
 have z1 := hr.frozen 1
 have z4 := h2.frozen 0
 have hne : b1 ≠ br := h1.ne hr (by decide)
 have hne2 : b2 ≠ br := hb.2
 have hne0 : b0 ≠ br := h0.ne hr (by decide)
 have heb : (err != 0) = true := by simpa using he
 clear h0 h1 hr h2 he hb
 go_enter_d Tryz.func121, Tryz.ntmps121
 go_wp2_with fail
 go_end0
 exact ⟨rfl, rfl⟩
set_option maxHeartbeats 4000000 in
theorem readSum_some (br : Nat) (D : List UInt8) (off last m : Nat) (x : List UInt8) (bx : Nat) (w : World) (hr : ReaderAt X w br D off last 0)
  (hdec : ∀ W, Fr [] w W → ReaderAt X W br D off last 0 → Calls Tryz.prog 106 #[Value.pointer (some ⟨bx, 0, none⟩)] W fun e w' => e = .returned (.tuple #[Value.string (strOf x), Value.int .i64 0]) ∧ Fr [br] W w' ∧ ReaderAt X w' br D m last 0) :
  Calls Tryz.prog 102 #[Value.pointer (some ⟨br, 0, none⟩), .func (.func 106) #[] #[Value.pointer (some ⟨bx, 0, none⟩)]] w fun e w' => e = .returned (Value.string (strOf x)) ∧ Fr [br] w w' ∧ ReaderAt X w' br D m off 0 := by
 obtain ⟨A, c, hX, ha, hrow⟩ := hr
 have c1 : w.cell? ⟨br, 1, none⟩ = some (Value.int .i64 (off : Int)) := by rw [ha.cell]; rfl
 have c3 : w.cell? ⟨br, 3, none⟩ = some (Value.int .i64 0) := by rw [ha.cell]; rfl
 have hlt := ha.lt
 have HR := Lib.hid (And.intro ha hrow)
 have HD := Lib.hid hdec
 clear ha hrow hdec
 have hmf : ∀ (fn : Fn) (first cap : Array Value) (w : World), (Instr.makeFunc fn first cap).run Tryz.prog w = .ok (.func fn first cap) w := fun _ _ _ _ => rfl
 go_enter_defers Tryz.func102, Tryz.ntmps102
 go_wp2_with fail
 obtain ⟨W, hW⟩ : ∃ W, W = ((w.alloc (Obj.cells #[Value.pointer (some ⟨br, 0, none⟩)] 114)).alloc (Obj.cells #[Value.string ⟨#[]⟩] 9)).alloc (Obj.cells #[Value.int .i64 (off : Int)] 3) := ⟨_, rfl⟩
 rw [← hW]
 have HW : Hid (At W w.heap.size 114 [Value.pointer (some ⟨br, 0, none⟩)] ∧ At W (w.heap.size + 1) 9 [Value.string ⟨#[]⟩] ∧ At W (w.heap.size + 1 + 1) 3 [Value.int .i64 (off : Int)] ∧ Fr [] w W ∧ ReaderAt X W br D off last 0) := by
  rw [hW]
  refine ⟨((At.new w 114 [Value.pointer (some ⟨br, 0, none⟩)]).alloc _).alloc _, ?_, ?_, (((Fr.refl _ _).alloc _).alloc _).alloc _, A, c, hX, ((HR.out.1.alloc _).alloc _).alloc _, ((HR.out.2.alloc _).alloc _).alloc _⟩
  ·have := (At.new (w.alloc (Obj.cells #[Value.pointer (some ⟨br, 0, none⟩)] 114)) 9 [Value.string ⟨#[]⟩]).alloc (Obj.cells #[Value.int .i64 (off : Int)] 3)
   simpa using this
  ·have := At.new ((w.alloc (Obj.cells #[Value.pointer (some ⟨br, 0, none⟩)] 114)).alloc (Obj.cells #[Value.string ⟨#[]⟩] 9)) 3 [Value.int .i64 (off : Int)]
   simpa using this
 clear hW c1 c3
 have d0 : W.cell? ⟨w.heap.size, 0, none⟩ = some (Value.pointer (some ⟨br, 0, none⟩)) := by rw [HW.out.1.cell]; rfl
 have nb1 : w.heap.size ≠ br := by omega
 have nb2 : br ≠ w.heap.size := by omega
 go_region_held3 (fun w' => w'.cell? ⟨w.heap.size, 0, none⟩ = some (Value.pointer (some ⟨br, 0, none⟩))) (go_keep) (first | (go_at_call 106; refine (HD.out W.drew (by exact HW.out.2.2.2.1.drew) (by exact HW.out.2.2.2.2)).mono ?_; rintro e w1 ⟨rfl, hf1, hr1⟩; obtain ⟨e0, e1, z1, e3, z3⟩ := rv_cells (W := W) HW.out.1 HW.out.2.1 HW.out.2.2.2.2 hf1 hr1; have H1 := Lib.hid (And.intro hf1 hr1); clear hf1 hr1))
 go_wp2_with fail
 obtain ⟨k0, k1, k2, k3, kf⟩ := rv_end HW.out.1 HW.out.2.1 HW.out.2.2.1 HW.out.2.2.2.2 H1.out.1 H1.out.2 (Value.string (strOf x)) (Value.int .i64 0) (by omega) (by decide)
 refine leaves_cons (f := 121) (args := #[Value.pointer (some ⟨w.heap.size + 1 + 1, 0, none⟩), Value.pointer (some ⟨w.heap.size, 0, none⟩), Value.pointer (some ⟨w.heap.size + 1, 0, none⟩)]) (by simp) (by simp [go_sem]) ?_
 obtain ⟨A', c', hX', k3'⟩ := k3
 refine (rvClose_ok_Sum _ _ _ br A' _ c' _ _ _ _ k2 k0 k3'.1).mono ?_
 rintro e u' w'' ⟨rfl, rfl, rfl⟩
 obtain ⟨g1, g2, g3⟩ := rv_done (off := off) HW.out.2.2.2.1 kf (by omega) k1 (by decide) k3'.1 k3'.2 hX'
 exact ⟨Value.string (strOf x), by simp [results, Tryz.results102, go_sem, g1], rfl, g2, g3⟩
set_option maxHeartbeats 4000000 in
theorem readSum_none (br : Nat) (D : List UInt8) (off last : Nat) (er : Int) (x : List UInt8) (bx : Nat) (w : World) (hr : ReaderAt X w br D off last 0) (he : er ≠ 0)
  (hdec : ∀ W, Fr [] w W → ReaderAt X W br D off last 0 → Calls Tryz.prog 106 #[Value.pointer (some ⟨bx, 0, none⟩)] W fun e w' => e = .returned (.tuple #[Value.string (strOf x), Value.int .i64 er]) ∧ Fr [br] W w' ∧ ∃ off' : Nat, ReaderAt X w' br D off' last 0) :
  Calls Tryz.prog 102 #[Value.pointer (some ⟨br, 0, none⟩), .func (.func 106) #[] #[Value.pointer (some ⟨bx, 0, none⟩)]] w fun e w' => e = .returned (Value.string ⟨#[]⟩) ∧ Fr [br] w w' ∧ ReaderAt X w' br D off off er := by
 have HE := Lib.hid he
 clear he
 obtain ⟨A, c, hX, ha, hrow⟩ := hr
 have c1 : w.cell? ⟨br, 1, none⟩ = some (Value.int .i64 (off : Int)) := by rw [ha.cell]; rfl
 have c3 : w.cell? ⟨br, 3, none⟩ = some (Value.int .i64 0) := by rw [ha.cell]; rfl
 have hlt := ha.lt
 have HR := Lib.hid (And.intro ha hrow)
 have HD := Lib.hid hdec
 clear ha hrow hdec
 have hmf : ∀ (fn : Fn) (first cap : Array Value) (w : World), (Instr.makeFunc fn first cap).run Tryz.prog w = .ok (.func fn first cap) w := fun _ _ _ _ => rfl
 go_enter_defers Tryz.func102, Tryz.ntmps102
 go_wp2_with fail
 obtain ⟨W, hW⟩ : ∃ W, W = ((w.alloc (Obj.cells #[Value.pointer (some ⟨br, 0, none⟩)] 114)).alloc (Obj.cells #[Value.string ⟨#[]⟩] 9)).alloc (Obj.cells #[Value.int .i64 (off : Int)] 3) := ⟨_, rfl⟩
 rw [← hW]
 have HW : Hid (At W w.heap.size 114 [Value.pointer (some ⟨br, 0, none⟩)] ∧ At W (w.heap.size + 1) 9 [Value.string ⟨#[]⟩] ∧ At W (w.heap.size + 1 + 1) 3 [Value.int .i64 (off : Int)] ∧ Fr [] w W ∧ ReaderAt X W br D off last 0) := by
  rw [hW]
  refine ⟨((At.new w 114 [Value.pointer (some ⟨br, 0, none⟩)]).alloc _).alloc _, ?_, ?_, (((Fr.refl _ _).alloc _).alloc _).alloc _, A, c, hX, ((HR.out.1.alloc _).alloc _).alloc _, ((HR.out.2.alloc _).alloc _).alloc _⟩
  ·have := (At.new (w.alloc (Obj.cells #[Value.pointer (some ⟨br, 0, none⟩)] 114)) 9 [Value.string ⟨#[]⟩]).alloc (Obj.cells #[Value.int .i64 (off : Int)] 3)
   simpa using this
  ·have := At.new ((w.alloc (Obj.cells #[Value.pointer (some ⟨br, 0, none⟩)] 114)).alloc (Obj.cells #[Value.string ⟨#[]⟩] 9)) 3 [Value.int .i64 (off : Int)]
   simpa using this
 clear hW c1 c3
 have d0 : W.cell? ⟨w.heap.size, 0, none⟩ = some (Value.pointer (some ⟨br, 0, none⟩)) := by rw [HW.out.1.cell]; rfl
 have nb1 : w.heap.size ≠ br := by omega
 have nb2 : br ≠ w.heap.size := by omega
 go_region_held3 (fun w' => w'.cell? ⟨w.heap.size, 0, none⟩ = some (Value.pointer (some ⟨br, 0, none⟩))) (go_keep) (first | (go_at_call 106; refine (HD.out W.drew (by exact HW.out.2.2.2.1.drew) (by exact HW.out.2.2.2.2)).mono ?_; rintro e w1 ⟨rfl, hf1, off', hr1⟩; obtain ⟨e0, e1, z1, e3, z3⟩ := rv_cells (W := W) HW.out.1 HW.out.2.1 HW.out.2.2.2.2 hf1 hr1; have H1 := Lib.hid (And.intro hf1 hr1); clear hf1 hr1))
 go_wp2_with fail
 obtain ⟨k0, k1, k2, k3, kf⟩ := rv_end HW.out.1 HW.out.2.1 HW.out.2.2.1 HW.out.2.2.2.2 H1.out.1 H1.out.2 (Value.string (strOf x)) (Value.int .i64 er) (by omega) (by decide)
 refine leaves_cons (f := 121) (args := #[Value.pointer (some ⟨w.heap.size + 1 + 1, 0, none⟩), Value.pointer (some ⟨w.heap.size, 0, none⟩), Value.pointer (some ⟨w.heap.size + 1, 0, none⟩)]) (by simp) (by simp [go_sem]) ?_
 obtain ⟨A', c', hX', k3'⟩ := k3
 refine (rvClose_err_Sum _ _ _ br A' _ c' _ _ _ er (Value.string (strOf x)) _ k2 k0 k1 k3'.1 HE.out (by omega)).mono ?_
 rintro e u' w'' ⟨rfl, rfl, rfl⟩
 obtain ⟨g1, g2, g3⟩ := rv_failed (off := off) (z := Value.string ⟨#[]⟩) HW.out.2.2.2.1 kf (by omega) k1 (by decide) (by decide) k3'.1 k3'.2 hX'
 exact ⟨Value.string ⟨#[]⟩, by simp [results, Tryz.results102, go_sem, g1], rfl, g2, g3⟩
theorem readSum_err (br : Nat) (r : Rd) (fv : Value) (w : World) (hr : RdAt X w br r) (h0 : r.err ≠ 0) :
  Calls Tryz.prog 102 #[Value.pointer (some ⟨br, 0, none⟩), fv] w fun e w' => e = .returned (Value.string ⟨#[]⟩) ∧ Fr [] w w' ∧ RdAt X w' br r := by
 have hr0 := hr
 obtain ⟨A, c, hX, ha, hrow⟩ := hr
 have c3 : w.cell? ⟨br, 3, none⟩ = some (Value.int .i64 r.err) := by rw [ha.cell]; rfl
 have hb : (r.err != 0) = true := by simpa using h0
 have hlt := ha.lt
 have HR := Lib.hid hr0
 clear ha hrow hr0 h0
 go_enter_defers Tryz.func102, Tryz.ntmps102
 go_wp2_with fail
 have hf : Fr [] w ((w.alloc (Obj.cells #[Value.pointer (some ⟨br, 0, none⟩)] 114)).alloc (Obj.cells #[Value.string ⟨#[]⟩] 9)) := ((Fr.refl _ _).alloc _).alloc _
 exact ⟨Value.string ⟨#[]⟩, by simp [results, Tryz.results102, go_sem], rfl, hf, ReaderAt.fr HR.out hf⟩
def Rd.sum (r : Rd) : List UInt8 × Rd := if r.err = 0 then (if r.off + 32 ≤ r.D.length then ((r.D.drop r.off).take 32, r.done (r.off + 32)) else ([], r.fail 3)) else ([], r)
theorem rSum_err (br : Nat) (r : Rd) (w : World) (hr : RdAt X w br r) (hk : r.Ok) (h0 : r.err ≠ 0) :
  Calls Tryz.prog 91 #[Value.pointer (some ⟨br, 0, none⟩)] w fun e w' => e = .returned (vS r.sum.1) ∧ Fr [br] w w' ∧ RdAt X w' br r.sum.2 := by
 have HR := Lib.hid hr
 have HK := Lib.hid hk
 clear hr hk
 refine stEnter (args := [Value.pointer (some ⟨br, 0, none⟩)]) [] Tryz.func91 rfl 6 rfl [(0, Value.pointer (some ⟨br, 0, none⟩))] ⟨rfl, trivial⟩ [] (Mm.start w []) ?_
 refine stSeq ?_
 refine reg ?_
 refine li rfl ?_
 refine opBox [(vP br 0)] rfl rfl (by kernel_rfl) rfl rfl (fun b1 => ?_)
 refine li rfl (opVal (.string ⟨#[]⟩) rfl (by kernel_rfl) (rAssign rfl rfl) ?_)
 refine liNil ?_
 refine qThen ?_
 refine stSeq ?_
 refine reg ?_
 refine li rfl (opVal (vP br 0) rfl (by kernel_rfl) (rLoad 0 rfl rfl (by kernel_rfl) rfl rfl) ?_)
 refine li rfl (opVal (.func (.func 106) #[] #[(vP b1 0)]) rfl (by kernel_rfl) (rClosed fun _ => by kernel_rfl) ?_)
 refine li rfl ?_
 refine opCallB 102 #[(vP br 0), (.func (.func 106) #[] #[(vP b1 0)])] rfl (by kernel_rfl) (fun _ => by kernel_rfl) (fun w1 hM => ?_)
 have HR1 : Hid (RdAt X w1 br r) := ReaderAt.fr HR.out hM.fr
 have HB1 : Hid (At w1 b1 114 [Value.pointer (some ⟨br, 0, none⟩)]) := hM.at (i := 0) rfl
 have HF1 := Lib.hid hM.fr
 refine (readSum_err br r _ w1 HR1.out h0).mono ?_
 rintro e w2 ⟨rfl, hf, hr2⟩
 refine ⟨_, w2, [], [], rfl, Mm.start w2 [], ?_⟩
 clear hM
 refine li rfl (opVal (.string ⟨#[]⟩) rfl (by kernel_rfl) (rAssign rfl rfl) ?_)
 refine liNil ?_
 refine qThen ?_
 refine stRet ?_
 refine stEnd [(.string ⟨#[]⟩)] rfl ⟨rfl, trivial⟩ (fun w hM => ?_)
 exact ⟨by unfold Rd.sum; rw [if_neg h0]; rfl, ((HF1.out.trans hf).trans hM.fr).mono (by simp), by unfold Rd.sum; rw [if_neg h0]; exact ReaderAt.fr hr2 hM.fr⟩
theorem rSum_ok (br : Nat) (r : Rd) (w : World) (hr : RdAt X w br r) (hk : r.Ok) (h0 : r.err = 0) (hf32 : r.off + 32 ≤ r.D.length) :
  Calls Tryz.prog 91 #[Value.pointer (some ⟨br, 0, none⟩)] w fun e w' => e = .returned (vS r.sum.1) ∧ Fr [br] w w' ∧ RdAt X w' br r.sum.2 := by
 have HR := Lib.hid hr
 have HK := Lib.hid hk
 clear hr hk
 refine stEnter (args := [Value.pointer (some ⟨br, 0, none⟩)]) [] Tryz.func91 rfl 6 rfl [(0, Value.pointer (some ⟨br, 0, none⟩))] ⟨rfl, trivial⟩ [] (Mm.start w []) ?_
 refine stSeq ?_
 refine reg ?_
 refine li rfl ?_
 refine opBox [(vP br 0)] rfl rfl (by kernel_rfl) rfl rfl (fun b1 => ?_)
 refine li rfl (opVal (.string ⟨#[]⟩) rfl (by kernel_rfl) (rAssign rfl rfl) ?_)
 refine liNil ?_
 refine qThen ?_
 refine stSeq ?_
 refine reg ?_
 refine li rfl (opVal (vP br 0) rfl (by kernel_rfl) (rLoad 0 rfl rfl (by kernel_rfl) rfl rfl) ?_)
 refine li rfl (opVal (.func (.func 106) #[] #[(vP b1 0)]) rfl (by kernel_rfl) (rClosed fun _ => by kernel_rfl) ?_)
 refine li rfl ?_
 refine opCallB 102 #[(vP br 0), (.func (.func 106) #[] #[(vP b1 0)])] rfl (by kernel_rfl) (fun _ => by kernel_rfl) (fun w1 hM => ?_)
 have HR1 : Hid (RdAt X w1 br r) := ReaderAt.fr HR.out hM.fr
 have HB1 : Hid (At w1 b1 114 [Value.pointer (some ⟨br, 0, none⟩)]) := hM.at (i := 0) rfl
 have HF1 := Lib.hid hM.fr
 refine (readSum_some br r.D r.off r.last (r.off + 32) ((r.D.drop r.off).take 32) b1 w1 (by have h := HR1.out; unfold RdAt at h; rw [h0] at h; exact h) (fun W hf hr => (sumc_ok b1 br r.D r.off r.last 0 W (HB1.out.fr hf (by simp)) hr HK.out.len HK.out.off hf32))).mono ?_
 rintro e w2 ⟨rfl, hf, hr2⟩
 refine ⟨_, w2, [], [], rfl, Mm.start w2 [], ?_⟩
 clear hM
 refine li rfl (opVal (vS ((r.D.drop r.off).take 32)) rfl (by kernel_rfl) (rAssign rfl rfl) ?_)
 refine liNil ?_
 refine qThen ?_
 refine stRet ?_
 refine stEnd [(vS ((r.D.drop r.off).take 32))] rfl ⟨rfl, trivial⟩ (fun w hM => ?_)
 exact ⟨by unfold Rd.sum; rw [if_pos h0, if_pos hf32]; rfl, ((HF1.out.mono (by simp)).trans hf).trans (hM.fr.mono (by simp)), by unfold Rd.sum Rd.done RdAt; rw [if_pos h0, if_pos hf32]; have h := ReaderAt.fr hr2 hM.fr; rw [← h0] at h; exact h⟩
theorem rSum_few (br : Nat) (r : Rd) (w : World) (hr : RdAt X w br r) (hk : r.Ok) (h0 : r.err = 0) (hf32 : ¬ r.off + 32 ≤ r.D.length) :
  Calls Tryz.prog 91 #[Value.pointer (some ⟨br, 0, none⟩)] w fun e w' => e = .returned (vS r.sum.1) ∧ Fr [br] w w' ∧ RdAt X w' br r.sum.2 := by
 have HR := Lib.hid hr
 have HK := Lib.hid hk
 clear hr hk
 refine stEnter (args := [Value.pointer (some ⟨br, 0, none⟩)]) [] Tryz.func91 rfl 6 rfl [(0, Value.pointer (some ⟨br, 0, none⟩))] ⟨rfl, trivial⟩ [] (Mm.start w []) ?_
 refine stSeq ?_
 refine reg ?_
 refine li rfl ?_
 refine opBox [(vP br 0)] rfl rfl (by kernel_rfl) rfl rfl (fun b1 => ?_)
 refine li rfl (opVal (.string ⟨#[]⟩) rfl (by kernel_rfl) (rAssign rfl rfl) ?_)
 refine liNil ?_
 refine qThen ?_
 refine stSeq ?_
 refine reg ?_
 refine li rfl (opVal (vP br 0) rfl (by kernel_rfl) (rLoad 0 rfl rfl (by kernel_rfl) rfl rfl) ?_)
 refine li rfl (opVal (.func (.func 106) #[] #[(vP b1 0)]) rfl (by kernel_rfl) (rClosed fun _ => by kernel_rfl) ?_)
 refine li rfl ?_
 refine opCallB 102 #[(vP br 0), (.func (.func 106) #[] #[(vP b1 0)])] rfl (by kernel_rfl) (fun _ => by kernel_rfl) (fun w1 hM => ?_)
 have HR1 : Hid (RdAt X w1 br r) := ReaderAt.fr HR.out hM.fr
 have HB1 : Hid (At w1 b1 114 [Value.pointer (some ⟨br, 0, none⟩)]) := hM.at (i := 0) rfl
 have HF1 := Lib.hid hM.fr
 refine (readSum_none br r.D r.off r.last 3 [] b1 w1 (by have h := HR1.out; unfold RdAt at h; rw [h0] at h; exact h) (by decide) (fun W hf hr => ((sumc_few b1 br r.D r.off r.last 0 W (HB1.out.fr hf (by simp)) hr HK.out.len HK.out.off (by omega)).mono (fun e w' h => ⟨h.1, h.2.1, r.off, h.2.2⟩)))).mono ?_
 rintro e w2 ⟨rfl, hf, hr2⟩
 refine ⟨_, w2, [], [], rfl, Mm.start w2 [], ?_⟩
 clear hM
 refine li rfl (opVal (.string ⟨#[]⟩) rfl (by kernel_rfl) (rAssign rfl rfl) ?_)
 refine liNil ?_
 refine qThen ?_
 refine stRet ?_
 refine stEnd [(.string ⟨#[]⟩)] rfl ⟨rfl, trivial⟩ (fun w hM => ?_)
 exact ⟨by unfold Rd.sum; rw [if_pos h0, if_neg hf32]; rfl, ((HF1.out.mono (by simp)).trans hf).trans (hM.fr.mono (by simp)), by unfold Rd.sum Rd.fail RdAt; rw [if_pos h0, if_neg hf32]; exact ReaderAt.fr hr2 hM.fr⟩
theorem rSum (br : Nat) (r : Rd) (w : World) (hr : RdAt X w br r) (hk : r.Ok) : Calls Tryz.prog 91 #[Value.pointer (some ⟨br, 0, none⟩)] w fun e w' => e = .returned (vS r.sum.1) ∧ Fr [br] w w' ∧ RdAt X w' br r.sum.2 := by
 by_cases h0 : r.err = 0
 ·by_cases hf : r.off + 32 ≤ r.D.length
  ·exact rSum_ok br r w hr hk h0 hf
  ·exact rSum_few br r w hr hk h0 hf
 ·exact rSum_err br r w hr hk h0
end Go.Proofs.YtlepfnihpdhcaaaGreatDoor
