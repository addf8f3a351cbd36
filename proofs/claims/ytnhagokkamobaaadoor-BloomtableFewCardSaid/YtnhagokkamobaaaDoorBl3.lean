/- Contracts of bloomtable: New, Insert, Delete, clone, pure, Empty, Cells. -/
import Derived.Test.YtnhagokkamobaaaDoorBl2
import Derived.Laws.MakeOwn
import Derived.Deep.RegionLaw
namespace Go.Proofs.YtnhagokkamobaaaDoor
open Go.RowKit

theorem zero_rep_get (n i : Nat) (h : i < n * 34) : (tcells (List.replicate n BC.zero))[i]? = BC.zero.cells[i % 34]? := by
  have ok : Ok34 (List.replicate n BC.zero) := by
    intro c hc
    rw [List.eq_of_mem_replicate hc]
    exact BC.Ok.zero
  have hp : (List.replicate n BC.zero)[i / 34]? = some BC.zero := by rw [List.getElem?_replicate, if_pos (by omega)]
  have := tcells_get ok [] (i / 34) BC.zero hp (i % 34) (by omega)
  rw [List.append_nil, show i / 34 * 34 + i % 34 = i by omega] at this
  exact this

theorem made_zero (n : Nat) : madeCells BC.zero.cells.toArray (n * 34) = (tcells (List.replicate n BC.zero)).toArray := by
  have ok : Ok34 (List.replicate n BC.zero) := by
    intro c hc
    rw [List.eq_of_mem_replicate hc]
    exact BC.Ok.zero
  apply Array.ext_getElem?
  intro i
  rw [show (tcells (List.replicate n BC.zero)).toArray[i]? = (tcells (List.replicate n BC.zero))[i]? from List.getElem?_toArray ..]
  by_cases h : i < n * 34
  · rw [zero_rep_get n i h]
    have hz : BC.zero.cells.toArray.size = 34 := rfl
    have hm : i % 34 < BC.zero.cells.toArray.size := by rw [hz]; omega
    have e1 : (madeCells BC.zero.cells.toArray (n * 34))[i]? = some (BC.zero.cells.toArray[i % 34]!) := by
      unfold madeCells
      rw [Array.getElem?_map, Array.getElem?_range, if_pos h, hz]
      rfl
    rw [e1, getElem!_pos BC.zero.cells.toArray (i % 34) hm, List.getElem?_eq_getElem (l := BC.zero.cells) (i := i % 34) (by simpa using hm)]
    rfl
  · rw [List.getElem?_eq_none (by rw [tcells_len ok, List.length_replicate]; omega), Array.getElem?_eq_none (by rw [size_madeCells]; omega)]

theorem BT.Ok.new (n seed : Nat) (hs : U64 seed) : (BT.new n seed).Ok := by
  refine ⟨fun c hc => ?_, hs⟩
  rw [List.eq_of_mem_replicate hc]
  exact BC.Ok.zero

set_option maxRecDepth 100000 in
theorem blNew_bad (n : Int) (seed : Nat) (w : World) (h : isSz n = false) : Calls Tryd.prog 21 #[Value.int .i64 n, .int .u64 (seed : Int)] w fun e w' => e = .returned (.tuple #[.pointer none, Value.int .i64 1]) ∧ w = w' := by
  have H := Lib.hid (isSize_any n w)
  rw [h] at H
  clear h
  go_enter Tryd.func21, Tryd.ntmps21
  go_wp2_with fail
  refine H.out.mono ?_
  rintro e w1 ⟨rfl, rfl⟩
  go_wp2_with fail
  go_ret2
  exact ⟨rfl, rfl⟩

/-- make([]cell, n) -/
theorem run_makeCells (n : Nat) (hn : n ≤ 3072) (w : World) : (Instr.makeSlice 73 (.int .i64 (n : Int)) (.int .i64 (n : Int))).run Tryd.prog w = .ok (.slice (some ⟨w.heap.size, 0, none⟩) n n) (w.alloc (.cells (tcells (List.replicate n BC.zero)).toArray 85)) := by
  have hinfo : (Tryd.prog.info? 85).map (fun i => (i.zero, i.size, i.bytes)) = some (some (.agg BC.zero.cells.toArray), 34, 48) := by kernel_rfl
  obtain ⟨i, hi, hz, hsz, hby⟩ := info_parts hinfo
  have := run_make (P := Tryd.prog) w 73 85 i _ Tryd.underlying73 hi hz .i64 .i64 (n : Int) (n : Int) (by omega) (by omega) (by rw [hby]; omega) (by omega)
  rw [hsz, Int.toNat_natCast] at this
  rw [this, ← made_zero]
  rfl

set_option maxRecDepth 100000 in
theorem blNew_any (n seed : Nat) (w : World) (h : isSz (n : Int) = true) (hs : U64 seed) : Calls Tryd.prog 21 #[Value.int .i64 (n : Int), .int .u64 (seed : Int)] w fun e w' => e = .returned (.tuple #[Value.pointer (some ⟨w.heap.size + 1, 0, none⟩), Value.int .i64 0]) ∧ Fr [] w w' ∧ TabAt w' (w.heap.size + 1) w.heap.size n [] (BT.new n seed) := by
  have H := Lib.hid (isSize_any (n : Int) w)
  rw [h] at H
  obtain ⟨n3, n4, n5⟩ := isSz_bounds h
  have hmk := run_makeCells n n4 w
  have HH := Lib.hid (And.intro h hs)
  clear h hs n5
  obtain ⟨W1, HW1⟩ : ∃ W1, Hid (W1 = w.alloc (.cells (tcells (List.replicate n BC.zero)).toArray 85)) := ⟨_, rfl⟩
  rw [← HW1.out] at hmk
  have hsz : W1.heap.size = w.heap.size + 1 := by rw [HW1.out]; simp
  have HZ := Lib.hid hsz
  clear hsz
  go_enter Tryd.func21, Tryd.ntmps21
  go_wp2_with fail
  refine H.out.mono ?_
  rintro e w1 ⟨rfl, rfl⟩
  go_wp2_with fail
  go_ret2
  have ha : At W1 w.heap.size 85 (tcells (List.replicate n BC.zero)) := by rw [HW1.out]; exact At.new _ _ _
  have hf : Fr [] w W1 := by rw [HW1.out]; exact (Fr.refl _ _).alloc _
  refine ⟨by rw [HZ.out]; rfl, hf.alloc _, ?_, ?_, BT.Ok.new n seed HH.out.2, ?_, ?_⟩
  · have := At.new W1 75 [.slice (some ⟨w.heap.size, 0, none⟩) n n, .int .u64 (seed : Int)]
    rw [HZ.out] at this
    have e : (BT.new n seed).cells.length = n := by simp [BT.new]
    rw [e]
    exact this
  · rw [List.append_nil]
    exact ha.alloc _
  · have e : (BT.new n seed).cells.length = n := by simp [BT.new]
    rw [e]
    exact HH.out.1
  · have e : (BT.new n seed).cells.length = n := by simp [BT.new]
    rw [e]
    exact Nat.le_refl _

set_option maxRecDepth 100000 in
theorem enter_any (bt bc cap : Nat) (rest : List Value) (t : BT) (key : List UInt8) (num : Int) (w : World) (hv : Vars w) (ht : TabAt w bt bc cap rest t) (hk : key.length = 32) :
    Calls Tryd.prog 42 #[Value.pointer (some ⟨bt, 0, none⟩), .string (strOf key), Value.int .i64 num] w fun e w' => e = .returned (Value.int .i64 0) ∧ Fr [bc] w w' ∧ TabAt w' bt bc cap rest (t.change key num) := by
  have hs : (strOf key).size = 32 := by simp [strOf, ByteArray.size, hk]
  obtain ⟨n, HN⟩ : ∃ n, Hid (n = t.cells.length) := ⟨_, rfl⟩
  have h3 : 3 ≤ n := by rw [HN.out]; exact (isSz_bounds ht.size).1
  have c0 : w.cell? ⟨bt, 0, none⟩ = some (.slice (some ⟨bc, 0, none⟩) n cap) := by rw [ht.tab.cell, HN.out]; rfl
  have HC := Lib.hid (change_any bt bc cap rest t key num w hv ht hk)
  clear hv ht hk
  obtain ⟨ks, HK⟩ : ∃ ks, Hid (ks = strOf key) := ⟨_, rfl⟩
  rw [← HK.out] at hs HC ⊢
  have hnn : (n : Int) ≠ 0 := by omega
  have hnb : ((n : Int) == 0) = false := by simp; omega
  have hn0 : n ≠ 0 := by omega
  go_enter Tryd.func42, Tryd.ntmps42
  go_wp2_with fail
  refine HC.out.mono ?_
  rintro e w1 ⟨rfl, hf1, ht1⟩
  go_wp2_with fail
  go_ret
  exact ⟨rfl, hf1, ht1⟩

set_option maxRecDepth 100000 in
theorem enter_bad (bt : Nat) (key : List UInt8) (num : Int) (w : World) (hk : key.length ≠ 32) :
    Calls Tryd.prog 42 #[Value.pointer (some ⟨bt, 0, none⟩), .string (strOf key), Value.int .i64 num] w fun e w' => e = .returned (Value.int .i64 1) ∧ w = w' := by
  have hs : ((strOf key).size : Int) ≠ 32 := by simp [strOf, ByteArray.size]; omega
  have hs2 : (((strOf key).size : Int) != 32) = true := by simp; omega
  obtain ⟨ks, HK⟩ : ∃ ks, Hid (ks = strOf key) := ⟨_, rfl⟩
  rw [← HK.out] at hs hs2 ⊢
  clear hk
  go_enter Tryd.func42, Tryd.ntmps42
  go_wp2_with fail
  go_ret
  exact ⟨rfl, rfl⟩

set_option maxRecDepth 100000 in
theorem insert_any (bt bc cap : Nat) (rest : List Value) (t : BT) (key : List UInt8) (w : World) (hv : Vars w) (ht : TabAt w bt bc cap rest t) (hk : key.length = 32) :
    Calls Tryd.prog 22 #[Value.pointer (some ⟨bt, 0, none⟩), .string (strOf key)] w fun e w' => e = .returned (Value.int .i64 0) ∧ Fr [bc] w w' ∧ TabAt w' bt bc cap rest (t.change key (1)) := by
  have HC := Lib.hid (enter_any bt bc cap rest t key (1) w hv ht hk)
  clear hv ht hk
  go_enter Tryd.func22, Tryd.ntmps22
  go_wp2_with fail
  refine HC.out.mono ?_
  rintro e w1 ⟨rfl, hf1, ht1⟩
  go_wp2_with fail
  go_ret
  exact ⟨rfl, hf1, ht1⟩
set_option maxRecDepth 100000 in
theorem insert_bad (bt : Nat) (key : List UInt8) (w : World) (hk : key.length ≠ 32) :
    Calls Tryd.prog 22 #[Value.pointer (some ⟨bt, 0, none⟩), .string (strOf key)] w fun e w' => e = .returned (Value.int .i64 1) ∧ w = w' := by
  have HC := Lib.hid (enter_bad bt key (1) w hk)
  clear hk
  go_enter Tryd.func22, Tryd.ntmps22
  go_wp2_with fail
  refine HC.out.mono ?_
  rintro e w1 ⟨rfl, rfl⟩
  go_wp2_with fail
  go_ret
  exact ⟨rfl, rfl⟩

set_option maxRecDepth 100000 in
theorem delete_any (bt bc cap : Nat) (rest : List Value) (t : BT) (key : List UInt8) (w : World) (hv : Vars w) (ht : TabAt w bt bc cap rest t) (hk : key.length = 32) :
    Calls Tryd.prog 33 #[Value.pointer (some ⟨bt, 0, none⟩), .string (strOf key)] w fun e w' => e = .returned (Value.int .i64 0) ∧ Fr [bc] w w' ∧ TabAt w' bt bc cap rest (t.change key (-1)) := by
  have HC := Lib.hid (enter_any bt bc cap rest t key (-1) w hv ht hk)
  clear hv ht hk
  go_enter Tryd.func33, Tryd.ntmps33
  go_wp2_with fail
  refine HC.out.mono ?_
  rintro e w1 ⟨rfl, hf1, ht1⟩
  go_wp2_with fail
  go_ret
  exact ⟨rfl, hf1, ht1⟩
set_option maxRecDepth 100000 in
theorem delete_bad (bt : Nat) (key : List UInt8) (w : World) (hk : key.length ≠ 32) :
    Calls Tryd.prog 33 #[Value.pointer (some ⟨bt, 0, none⟩), .string (strOf key)] w fun e w' => e = .returned (Value.int .i64 1) ∧ w = w' := by
  have HC := Lib.hid (enter_bad bt key (-1) w hk)
  clear hk
  go_enter Tryd.func33, Tryd.ntmps33
  go_wp2_with fail
  refine HC.out.mono ?_
  rintro e w1 ⟨rfl, rfl⟩
  go_wp2_with fail
  go_ret
  exact ⟨rfl, rfl⟩


end Go.Proofs.YtnhagokkamobaaaDoor
