/- Contracts of bloomtable: isSize, hash, check. -/
import Derived.Test.YtnhagokkamobaaaDoorRefSha3
import Derived.Test.YtnhagokkamobaaaDoorBlPlain
namespace Go.Proofs.YtnhagokkamobaaaDoor
open Go.RowKit

set_option maxRecDepth 100000 in
theorem isSize_any (n : Int) (w : World) : Calls Tryd.prog 39 #[Value.int .i64 n] w fun e w' => e = .returned (.bool (isSz n)) ∧ w = w' := by
  unfold isSz
  by_cases h1 : 3 ≤ n
  · by_cases h2 : n ≤ 3072
    · by_cases h3 : n % 3 = 0
      · have q : (n % 3 == 0) = true := by simpa using h3
        have e : (decide (3 ≤ n) && decide (n ≤ 3072) && decide (n % 3 = 0)) = true := by simp [h1, h2, h3]
        rw [e]
        clear e h3
        go_enter Tryd.func39, Tryd.ntmps39
        go_wp2_with fail
        go_ret
        exact ⟨rfl, rfl⟩
      · have q : (n % 3 == 0) = false := by simpa using h3
        have e : (decide (3 ≤ n) && decide (n ≤ 3072) && decide (n % 3 = 0)) = false := by simp [h3]
        rw [e]
        clear e h3
        go_enter Tryd.func39, Tryd.ntmps39
        go_wp2_with fail
        go_ret
        exact ⟨rfl, rfl⟩
    · have e : (decide (3 ≤ n) && decide (n ≤ 3072) && decide (n % 3 = 0)) = false := by simp [h2]
      rw [e]
      have d : decide (n ≤ 3072) = false := by simpa using h2
      clear e
      go_enter Tryd.func39, Tryd.ntmps39
      go_wp2_with fail
      go_ret
      exact ⟨rfl, rfl⟩
  · have e : (decide (3 ≤ n) && decide (n ≤ 3072) && decide (n % 3 = 0)) = false := by simp [h1]
    rw [e]
    have d : decide (3 ≤ n) = false := by simpa using h1
    clear e
    go_enter Tryd.func39, Tryd.ntmps39
    go_wp2_with fail
    go_ret
    exact ⟨rfl, rfl⟩

/-- An index into a string. -/
theorem run_index_s (l : List UInt8) (i : Nat) (y : UInt8) (h : l[i]? = some y) (w : World) : (Instr.index 9 (.string (strOf l)) (.int .i64 (i : Int))).run Tryd.prog w = .ok (.int .u8 (y.toNat : Int)) w := by
  obtain ⟨h1, h2⟩ := List.getElem?_eq_some_iff.1 h
  have hs : (strOf l).size = l.length := by simp [strOf, ByteArray.size]
  rw [run_index_string w 9 (strOf l) .i64 (i : Int) Tryd.underlying9, dif_pos (by rw [hs]; omega)]
  have : (strOf l)[((i : Int)).toNat]'(by rw [hs]; omega) = y := by
    rw [← h2]
    rfl
  rw [this]

def headTo (seed k : Nat) : List UInt8 := (seed8 seed).take k ++ List.replicate (9 - k) 0
theorem seed8_get (seed k : Nat) (h : k < 8) : (seed8 seed)[k]? = some (byteAt seed (7 - k)) := by
  match k, h with
  | 0, _ => rfl
  | 1, _ => rfl
  | 2, _ => rfl
  | 3, _ => rfl
  | 4, _ => rfl
  | 5, _ => rfl
  | 6, _ => rfl
  | 7, _ => rfl
theorem headTo_set (seed k : Nat) (h : k < 8) : (B8 (headTo seed k)).set k (.int .u8 ((byteAt seed (7 - k)).toNat : Int)) = B8 (headTo seed (k + 1)) := by
  match k, h with
  | 0, _ => rfl
  | 1, _ => rfl
  | 2, _ => rfl
  | 3, _ => rfl
  | 4, _ => rfl
  | 5, _ => rfl
  | 6, _ => rfl
  | 7, _ => rfl
theorem headTo_get (seed k : Nat) (h : k < 8) : (B8 (headTo seed k))[k]? = some (.int .u8 0) := by
  match k, h with
  | 0, _ => rfl
  | 1, _ => rfl
  | 2, _ => rfl
  | 3, _ => rfl
  | 4, _ => rfl
  | 5, _ => rfl
  | 6, _ => rfl
  | 7, _ => rfl

theorem or_byte (v : Nat) (y : UInt8) (h : v * 256 < 18446744073709551616) : bits BinOp.or IntKind.u64 ((v * 256 : Nat) : Int) (y.toNat : Int) = ((v * 256 + y.toNat : Nat) : Int) := by
  have hy := UInt8.toNat_lt y
  rw [u64_or_nat _ _ h (by omega)]
  have := Nat.two_pow_add_eq_or_of_lt (i := 8) (b := y.toNat) (by omega) v
  rw [show v * 256 = 2 ^ 8 * v by omega, this]

set_option maxRecDepth 100000 in
set_option maxHeartbeats 1000000 in
theorem hash_any (seed i : Nat) (key : List UInt8) (w : World) (hv : Vars w) (hs : U64 seed) (hi : i ≤ 3) (hk : key.length ≤ 274877906944) :
    Calls Tryd.prog 66 #[.int .u64 (seed : Int), Value.int .i64 (i : Int), .string (strOf key)] w fun e w' => e = .returned (.int .u64 (bhash seed i key : Int)) ∧ Fr [] w w' := by
  have H := Lib.hid (And.intro hv (And.intro hs hk))
  clear hv hs hk
  obtain ⟨bh, hbh⟩ : ∃ bh, bh = w.heap.size := ⟨_, rfl⟩
  go_enter Tryd.func66, Tryd.ntmps66
  go_wp2_with fail
  change Code.wp _ _ _ _ (w.alloc (.cells (B8 (headTo seed 0)).toArray 131))
  rw [← hbh]
  have HW0 : Hid (Fr [] w (w.alloc (.cells (B8 (headTo seed 0)).toArray 131)) ∧ At (w.alloc (.cells (B8 (headTo seed 0)).toArray 131)) bh 131 (B8 (headTo seed 0))) := ⟨(Fr.refl _ _).alloc _, by rw [hbh]; exact At.new _ _ _⟩
  generalize w.alloc (.cells (B8 (headTo seed 0)).toArray 131) = W0 at HW0 ⊢
  have HBH := Lib.hid hbh
  clear hbh
  go_loopw [12] (fun s wx => ∃ k : Nat, k ≤ 8 ∧ s = .int .i64 k ∧ Hid (Fr [] w wx ∧ At wx bh 131 (B8 (headTo seed k)))) (fun s _ => 8 - (intOf s).toNat)
  case atStart => exact ⟨0, by omega, rfl, HW0⟩
  case round =>
    obtain ⟨k, hk, rfl, HR⟩ := hrel
    by_cases hlt : k < 8
    · obtain ⟨sh, hsh⟩ : ∃ sh : Nat, sh = 56 - 8 * k := ⟨_, rfl⟩
      obtain ⟨y, HY⟩ : ∃ y : UInt8, Hid (y = byteAt seed (7 - k)) := ⟨_, rfl⟩
      have hy : IntKind.u8.wrap ((seed : Int) / 2 ^ sh) = (y.toNat : Int) := by
        rw [HY.out, show sh = 8 * (7 - k) by omega]
        exact byteAt_wrap seed (7 - k)
      have e1 : (56 : Int) - 8 * (k : Int) = (sh : Int) := by omega
      have hshb : sh ≤ 56 := by omega
      have cz : wr.cell? ⟨bh, k, none⟩ = some (.int .u8 0) := by rw [HR.out.2.cell]; exact headTo_get seed k hlt
      have fz := HR.out.2.frozen k
      have hkI : (k : Int) < 9 := by omega
      have hkI8 : (k : Int) < 8 := by omega
      have HN : Hid (Fr [] w (wr.setCell ⟨bh, k, none⟩ (.int .u8 (y.toNat : Int))) ∧ At (wr.setCell ⟨bh, k, none⟩ (.int .u8 (y.toNat : Int))) bh 131 (B8 (headTo seed (k + 1)))) := by
        refine ⟨HR.out.1.setCell (.inr (by have := HBH.out; show w.heap.size ≤ bh; omega)) _, ?_⟩
        rw [← headTo_set seed k hlt, ← HY.out]
        exact HR.out.2.set k _
      clear hsh
      go_wp2_with fail
      go_roundw
      case rel =>
        first
          | exact ⟨k + 1, by omega, by go_num, HN⟩
          | ((repeat apply Exists.intro); exact ⟨⟨k + 1, by omega, by go_num, HN⟩, rfl⟩)
      case measure => simp [intOf] <;> omega
    · obtain rfl : k = 8 := by omega
      have cz : wr.cell? ⟨bh, 8, none⟩ = some (.int .u8 0) := by rw [HR.out.2.cell]; rfl
      have fz := HR.out.2.frozen 8
      have hyi : IntKind.u8.wrap (i : Int) = ((UInt8.ofNat i).toNat : Int) := by
        rw [IntKind.wrap_u8]
        have : (UInt8.ofNat i).toNat = i := by simp; omega
        rw [this]
        omega
      obtain ⟨yi, HYI⟩ : ∃ yi : UInt8, Hid (yi = UInt8.ofNat i) := ⟨_, rfl⟩
      rw [← HYI.out] at hyi
      have H9 : Hid (Fr [] w (wr.setCell ⟨bh, 8, none⟩ (.int .u8 (yi.toNat : Int))) ∧ At (wr.setCell ⟨bh, 8, none⟩ (.int .u8 (yi.toNat : Int))) bh 131 (B8 (seed8 seed ++ [yi]))) := by
        refine ⟨HR.out.1.setCell (.inr (by have := HBH.out; show w.heap.size ≤ bh; omega)) _, ?_⟩
        have := HR.out.2.set 8 (.int .u8 (yi.toNat : Int))
        exact this
      obtain ⟨W9, HW9⟩ : ∃ W9, Hid (W9 = wr.setCell ⟨bh, 8, none⟩ (.int .u8 (yi.toNat : Int))) := ⟨_, rfl⟩
      rw [← HW9.out] at H9
      have hst := run_str (P := Tryd.prog) (src := 34) (dst := 9) Tryd.underlying34 Tryd.underlying5 Tryd.underlying9 W9 (some ⟨bh, 0, none⟩) 9 (seed8 seed ++ [yi]) (fun j v hj => ⟨bh, 0, rfl, H9.out.2.lt, by rw [Nat.zero_add, H9.out.2.cell]; exact hj⟩)
      rw [show (seed8 seed ++ [yi]).length = 9 from rfl] at hst
      have hsl : ∀ W : World, (Instr.sliceAt 131 (.pointer (some ⟨bh, 0, none⟩)) none none none).run Tryd.prog W = .ok (.slice (some ⟨bh, 0, none⟩) 9 9) W := fun W => by kernel_rfl
      obtain ⟨hd, HHD⟩ : ∃ hd, Hid (hd = seed8 seed ++ [yi]) := ⟨_, rfl⟩
      rw [← HHD.out] at hst
      rw [HW9.out] at hst
      go_wp2_with fail
      have hsz : wr.heap.size = W9.heap.size := by rw [HW9.out]; simp [World.setCell]
      rw [← HW9.out, hsz]
      have HJ := Lib.hid (shaJoin_any (some ⟨W9.heap.size, 0, none⟩) 2 [hd, key] (W9.alloc (.cells #[.string (strOf hd), .string (strOf key)] 9)) (H.out.1.fr (H9.out.1.alloc _) (by simp) (by simp))
        (fun j v hj => ⟨W9.heap.size, 0, rfl, by simp, by rw [Nat.zero_add, (At.new W9 9 [.string (strOf hd), .string (strOf key)]).cell]; exact hj⟩)
        (by have := H.out.2.2; rw [HHD.out]; simp [seed8]; omega) (by simp))
      refine HJ.out.mono ?_
      rintro e w3 ⟨rfl, hf3⟩
      obtain ⟨sm, HSM⟩ : ∃ sm, Hid (sm = sha [hd, key].flatten) := ⟨_, rfl⟩
      rw [← HSM.out]
      have HF : Hid (Fr [] w w3) := (H9.out.1.alloc _).trans hf3
      have HS32 : Hid (sm.length = 32) := by show sm.length = 32; rw [HSM.out]; exact sha_len _
      clear hf3 HJ hst hsl hsz cz fz
      go_wp2_with fail
      go_loop [10, 32] (fun v s => ∃ k m : Nat, k ≤ 8 ∧ s = .int .i64 k ∧ v = .int .u64 (m : Int) ∧ Hid (m = beNum sm k)) (fun _ s => 8 - (intOf s).toNat)
      case atStart => exact ⟨0, 0, by omega, rfl, rfl, rfl⟩
      case round =>
        obtain ⟨k, m, hk, rfl, rfl, HM⟩ := hrel
        by_cases hlt : k < 8
        · obtain ⟨y, hy⟩ : ∃ y, sm[k]? = some y := ⟨_, List.getElem?_eq_getElem (by rw [HS32.out]; omega)⟩
          have hix := run_index_s sm k y hy
          have hmb : m * 256 < 18446744073709551616 := by
            rw [HM.out]
            have h1 := beNum_lt sm k
            have h2 : 256 ^ k ≤ 256 ^ 7 := Nat.pow_le_pow_right (by decide) (by omega)
            omega
          obtain ⟨m8, q1, HM8⟩ : ∃ m8 : Nat, IntKind.u64.wrap ((m : Int) * 256) = (m8 : Int) ∧ Hid (m8 = m * 256) := ⟨m * 256, by rw [IntKind.wrap_u64]; omega, rfl⟩
          have qy : IntKind.u64.wrap (y.toNat : Int) = (y.toNat : Int) := by rw [IntKind.wrap_u64]; have := UInt8.toNat_lt y; omega
          obtain ⟨mn, q2, HMN⟩ : ∃ mn : Nat, bits BinOp.or IntKind.u64 (m8 : Int) (y.toNat : Int) = (mn : Int) ∧ Hid (mn = beNum sm (k + 1)) := by
            refine ⟨m * 256 + y.toNat, by rw [HM8.out]; exact or_byte m y hmb, ?_⟩
            show _ = beNum sm k * 256 + (sm.getD k 0).toNat
            rw [← HM.out, List.getD_eq_getElem?_getD, hy]
            rfl
          have hkI : (k : Int) < 8 := by omega
          clear hy hmb
          go_wp2_with fail
          go_round
          case rel => exact ⟨k + 1, mn, by omega, by go_num, rfl, HMN⟩
          case measure => simp [intOf] <;> omega
        · obtain rfl : k = 8 := by omega
          go_wp2_with fail
          go_ret
          refine ⟨ret_int ?_, HF.out⟩
          rw [HM.out, HSM.out, HHD.out, HYI.out]
          simp [bhash]

set_option maxRecDepth 100000 in
theorem check_any (seed : Nat) (key : List UInt8) (w : World) (hv : Vars w) (hs : U64 seed) (hk : key.length ≤ 274877906944) :
    Calls Tryd.prog 70 #[.int .u64 (seed : Int), .string (strOf key)] w fun e w' => e = .returned (.int .u64 (bhash seed 3 key : Int)) ∧ Fr [] w w' := by
  have H := Lib.hid (hash_any seed 3 key w hv hs (by omega) hk)
  clear hv hs hk
  go_enter Tryd.func70, Tryd.ntmps70
  go_wp2_with fail
  refine H.out.mono ?_
  rintro e w1 ⟨rfl, hf1⟩
  go_wp2_with fail
  go_ret
  exact ⟨rfl, hf1⟩

/-- The array of the places while it is filled. -/
def plTo (n seed : Nat) (key : List UInt8) (k : Nat) : List Value := (List.range k).map (fun j => Value.int .i64 (bplace n seed key j : Int)) ++ List.replicate (3 - k) (Value.int .i64 0)
def pl3 (n seed : Nat) (key : List UInt8) : List Value := [Value.int .i64 (bplace n seed key 0 : Int), Value.int .i64 (bplace n seed key 1 : Int), Value.int .i64 (bplace n seed key 2 : Int)]
theorem plTo_set (n seed : Nat) (key : List UInt8) (k : Nat) (h : k < 3) : (plTo n seed key k).set k (Value.int .i64 (bplace n seed key k : Int)) = plTo n seed key (k + 1) := by
  match k, h with
  | 0, _ => rfl
  | 1, _ => rfl
  | 2, _ => rfl
theorem plTo_get (n seed : Nat) (key : List UInt8) (k : Nat) (h : k < 3) : (plTo n seed key k)[k]? = some (Value.int .i64 0) := by
  match k, h with
  | 0, _ => rfl
  | 1, _ => rfl
  | 2, _ => rfl

set_option maxRecDepth 100000 in
set_option maxHeartbeats 1000000 in
theorem places_any (n seed : Nat) (key : List UInt8) (w : World) (hv : Vars w) (hs : U64 seed) (hk : key.length ≤ 274877906944) (hn : 3 ≤ n) (hn2 : n ≤ 3072) :
    Calls Tryd.prog 40 #[Value.int .i64 (n : Int), .int .u64 (seed : Int), .string (strOf key)] w fun e w' => e = .returned (.agg (pl3 n seed key).toArray) ∧ Fr [] w w' := by
  have H := Lib.hid (And.intro hv (And.intro hs hk))
  clear hv hs hk
  obtain ⟨th, hth⟩ : ∃ th, th = n / 3 := ⟨_, rfl⟩
  have eth : (n : Int) / 3 = (th : Int) := by omega
  have th1 : 1 ≤ th := by omega
  have th2 : th ≤ 1024 := by omega
  have HTH := Lib.hid hth
  clear hth
  obtain ⟨br, hbr⟩ : ∃ br, br = w.heap.size := ⟨_, rfl⟩
  obtain ⟨ba, hba⟩ : ∃ ba, ba = w.heap.size + 1 := ⟨_, rfl⟩
  go_enter Tryd.func40, Tryd.ntmps40
  go_wp2_with fail
  rw [← hba, ← hbr]
  have HW0 : Hid (Fr [] w ((w.alloc (.cells #[Value.int .i64 0, Value.int .i64 0, Value.int .i64 0] 70)).alloc (.cells #[Value.int .i64 0, Value.int .i64 0, Value.int .i64 0] 70)) ∧ At ((w.alloc (.cells #[Value.int .i64 0, Value.int .i64 0, Value.int .i64 0] 70)).alloc (.cells #[Value.int .i64 0, Value.int .i64 0, Value.int .i64 0] 70)) br 70 [Value.int .i64 0, Value.int .i64 0, Value.int .i64 0] ∧ At ((w.alloc (.cells #[Value.int .i64 0, Value.int .i64 0, Value.int .i64 0] 70)).alloc (.cells #[Value.int .i64 0, Value.int .i64 0, Value.int .i64 0] 70)) ba 70 (plTo n seed key 0)) := by
    refine ⟨((Fr.refl _ _).alloc _).alloc _, ?_, ?_⟩
    · rw [hbr]
      exact (At.new w 70 [Value.int .i64 0, Value.int .i64 0, Value.int .i64 0]).alloc _
    · have := At.new (w.alloc (.cells #[Value.int .i64 0, Value.int .i64 0, Value.int .i64 0] 70)) 70 [Value.int .i64 0, Value.int .i64 0, Value.int .i64 0]
      rw [show ba = (w.alloc (.cells #[Value.int .i64 0, Value.int .i64 0, Value.int .i64 0] 70)).heap.size by rw [hba]; simp]
      exact this
  generalize (w.alloc (.cells #[Value.int .i64 0, Value.int .i64 0, Value.int .i64 0] 70)).alloc (.cells #[Value.int .i64 0, Value.int .i64 0, Value.int .i64 0] 70) = W0 at HW0 ⊢
  have hlo : w.heap.size ≤ br := by omega
  have hlt0 : br < ba := by omega
  clear hbr hba
  go_loopw [12] (fun s wx => ∃ k : Nat, k ≤ 3 ∧ s = .int .i64 k ∧ Hid (Fr [] w wx ∧ At wx br 70 [Value.int .i64 0, Value.int .i64 0, Value.int .i64 0] ∧ At wx ba 70 (plTo n seed key k))) (fun s _ => 3 - (intOf s).toNat)
  case atStart => exact ⟨0, by omega, rfl, HW0⟩
  case round =>
    obtain ⟨k, hk, rfl, HR⟩ := hrel
    by_cases hlt : k < 3
    · obtain ⟨hv, HHV⟩ : ∃ hv, Hid (hv = bhash seed k key) := ⟨_, rfl⟩
      have hvu : Hid (U64 hv) := by show U64 hv; rw [HHV.out]; exact bhash_u64 _ _ _
      have HC := Lib.hid (hash_any seed k key wr (H.out.1.fr HR.out.1 (by simp) (by simp)) H.out.2.1 (by omega) H.out.2.2)
      rw [← HHV.out] at HC
      have hkt : k * th ≤ 2 * 1024 := Nat.mul_le_mul (by omega) th2
      obtain ⟨kt, q1, HKT⟩ : ∃ kt : Nat, IntKind.i64.wrap ((k : Int) * (th : Int)) = (kt : Int) ∧ Hid (kt = k * th) := ⟨k * th, by rw [← Int.natCast_mul, IntKind.wrap_i64]; omega, rfl⟩
      have hktb : kt ≤ 2048 := by rw [HKT.out]; exact hkt
      have qth : IntKind.u64.wrap (th : Int) = (th : Int) := by rw [IntKind.wrap_u64]; omega
      obtain ⟨hm, q2, q3, HHM⟩ : ∃ hm : Nat, (hv : Int) % (th : Int) = (hm : Int) ∧ (hv : Int).tmod (th : Int) = (hm : Int) ∧ Hid (hm = hv % th) := ⟨hv % th, by rw [Int.natCast_emod], by rw [Int.ofNat_tmod], rfl⟩
      have hmb : hm < th := by rw [HHM.out]; exact Nat.mod_lt _ (by omega)
      have qi : IntKind.i64.wrap (hm : Int) = (hm : Int) := by rw [IntKind.wrap_i64]; omega
      obtain ⟨p, q4, HP⟩ : ∃ p : Nat, (kt : Int) + (hm : Int) = (p : Int) ∧ Hid (p = bplace n seed key k) := ⟨kt + hm, by omega, by show _ = _; unfold bplace; rw [← HTH.out, ← HHV.out, ← HHM.out, ← HKT.out]⟩
      have thI : (th : Int) ≠ 0 := by omega
      have thB : ((th : Int) == 0) = false := by simp; omega
      have hkI : (k : Int) < 3 := by omega
      clear hkt
      go_wp2_with fail
      refine HC.out.mono ?_
      rintro e w1 ⟨rfl, hf1⟩
      have HR1 : Hid (Fr [] w w1 ∧ At w1 br 70 [Value.int .i64 0, Value.int .i64 0, Value.int .i64 0] ∧ At w1 ba 70 (plTo n seed key k)) := ⟨HR.out.1.trans hf1, HR.out.2.1.fr hf1 (by simp), HR.out.2.2.fr hf1 (by simp)⟩
      have cz : w1.cell? ⟨ba, k, none⟩ = some (Value.int .i64 0) := by rw [HR1.out.2.2.cell]; exact plTo_get n seed key k hlt
      have fz := HR1.out.2.2.frozen k
      have HN : Hid (Fr [] w (w1.setCell ⟨ba, k, none⟩ (Value.int .i64 (p : Int))) ∧ At (w1.setCell ⟨ba, k, none⟩ (Value.int .i64 (p : Int))) br 70 [Value.int .i64 0, Value.int .i64 0, Value.int .i64 0] ∧ At (w1.setCell ⟨ba, k, none⟩ (Value.int .i64 (p : Int))) ba 70 (plTo n seed key (k + 1))) := by
        refine ⟨HR1.out.1.setCell (.inr (by show w.heap.size ≤ ba; omega)) _, HR1.out.2.1.far (by show br ≠ ba; omega) _, ?_⟩
        rw [← plTo_set n seed key k hlt, ← HP.out]
        exact HR1.out.2.2.set k _
      clear hf1 HC
      go_wp2_with fail
      go_roundw
      case rel =>
        first
          | exact ⟨k + 1, by omega, by go_num, HN⟩
          | ((repeat apply Exists.intro); exact ⟨⟨k + 1, by omega, by go_num, HN⟩, rfl⟩)
      case measure => simp [intOf] <;> omega
    · obtain rfl : k = 3 := by omega
      obtain ⟨L, HL⟩ : ∃ L, Hid (L = pl3 n seed key) := ⟨_, rfl⟩
      have HLX : Hid (L.length = 3 ∧ (∀ v ∈ L, v.oneCell' = true) ∧ At wr ba 70 L) := by
        show _ ∧ _ ∧ _
        rw [HL.out]
        refine ⟨rfl, ?_, HR.out.2.2⟩
        intro v hv
        simp only [pl3, List.mem_cons, List.not_mem_nil, or_false] at hv
        rcases hv with rfl | rfl | rfl <;> rfl
      go_wp2_with (first
        | (refine wpList_load_at rfl 70 (.tmp 7) rfl ba 0 rfl L _ (fun j v hj => (by rw [Nat.zero_add, HLX.out.2.2.cell]; exact hj)) Tryd.underlying70 rfl (by rw [HLX.out.1]; kernel_rfl) ?_)
        | (refine wpList_store_at rfl 70 (.tmp 6) (.tmp 30) rfl br 0 rfl 70 [Value.int .i64 0, Value.int .i64 0, Value.int .i64 0] L rfl HR.out.2.1 (by rw [HLX.out.1]; exact Nat.le_refl _) (by rw [HLX.out.1]; kernel_rfl) HLX.out.2.1 L (by rw [HLX.out.1]; simp) ?_; intro w9 hf9 ha9))
      refine bodyPost_ret (results_at (t := 70) rfl _ _ br L _ rfl ha9 Tryd.underlying70 rfl (by rw [HLX.out.1]; kernel_rfl)) rfl ⟨by rw [HL.out], ?_⟩
      exact HR.out.1.trans' hf9 (by simp; omega)

end Go.Proofs.YtnhagokkamobaaaDoor
