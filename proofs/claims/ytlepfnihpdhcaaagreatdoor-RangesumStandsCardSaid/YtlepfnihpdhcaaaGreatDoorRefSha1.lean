/- Contracts of the reference of layer 3: constants, rotr, Pad. -/
import Derived.Test.YtlepfnihpdhcaaaGreatDoorSha4
namespace Go.Proofs.YtlepfnihpdhcaaaGreatDoor
open Go.RowKit

/-- The one result lies in a block that is known whole. -/
theorem results_at {P : Program} {fn : Func} {p : Tmp} {ty t : TypeId} (h : fn.results = #[.cell p ty]) (tmps : Array Value) (w : World) (g : Nat) (cs : List Value) (d : TypeDesc) (hp : tmps.getD p undef = .pointer (some ⟨g, 0, none⟩)) (hat : At w g t cs)
    (hu : P.underlying ty = some d) (hd : (match d with | .struct _ | .array _ _ => true | _ => false) = true) (hi : (P.info? ty).map (·.size) = some cs.length) : (results fn tmps).run P w = .ok (.agg cs.toArray) w := by
  have hl := run_loadVar_at (P := P) w g 0 ty cs d (fun j v hv => by rw [Nat.zero_add, hat.cell]; exact hv) hu hd hi
  have hp' : tmps[p]?.getD undef = .pointer (some ⟨g, 0, none⟩) := by simpa using hp
  simp [results, h, hp', asAddr, hl]

/-- A composite literal, by the value that it builds. -/
theorem wpList_build_to {P : Program} {ops : Array Oper} {rest : List Oper} {o : Oper} {a : Act} {w : World} {Q : Exit → Act → World → Prop} (hg : o.guard = none) (t : TypeId) (parts : Array (Nat × Operand)) (ho : o.op = .build t parts) (v : Array Value)
    (hv : P.built t (parts.map fun (i, x) => (i, a.eval x)).toList = some v) (h : wpList P ops Q rest (a.put o.dst (.agg v)) w) : wpList P ops Q (o :: rest) a w :=
  wpList_build hg t parts ho (by rw [hv]; rfl) (by rw [hv]; exact h)

def kvals : List Value := [.int .u32 1116352408, .int .u32 1899447441, .int .u32 3049323471, .int .u32 3921009573, .int .u32 961987163, .int .u32 1508970993, .int .u32 2453635748, .int .u32 2870763221, .int .u32 3624381080, .int .u32 310598401, .int .u32 607225278, .int .u32 1426881987, .int .u32 1925078388, .int .u32 2162078206, .int .u32 2614888103, .int .u32 3248222580, .int .u32 3835390401, .int .u32 4022224774, .int .u32 264347078, .int .u32 604807628, .int .u32 770255983, .int .u32 1249150122, .int .u32 1555081692, .int .u32 1996064986, .int .u32 2554220882, .int .u32 2821834349, .int .u32 2952996808, .int .u32 3210313671, .int .u32 3336571891, .int .u32 3584528711, .int .u32 113926993, .int .u32 338241895, .int .u32 666307205, .int .u32 773529912, .int .u32 1294757372, .int .u32 1396182291, .int .u32 1695183700, .int .u32 1986661051, .int .u32 2177026350, .int .u32 2456956037, .int .u32 2730485921, .int .u32 2820302411, .int .u32 3259730800, .int .u32 3345764771, .int .u32 3516065817, .int .u32 3600352804, .int .u32 4094571909, .int .u32 275423344, .int .u32 430227734, .int .u32 506948616, .int .u32 659060556, .int .u32 883997877, .int .u32 958139571, .int .u32 1322822218, .int .u32 1537002063, .int .u32 1747873779, .int .u32 1955562222, .int .u32 2024104815, .int .u32 2227730452, .int .u32 2361852424, .int .u32 2428436474, .int .u32 2756734187, .int .u32 3204031479, .int .u32 3329325298]
theorem kvals_eq : kvals = U4 shaK := by kernel_rfl
theorem kvals_one : ∀ v ∈ kvals, v.oneCell' = true := by
  intro v hv
  rw [kvals_eq] at hv
  obtain ⟨x, _, rfl⟩ := List.mem_map.1 hv
  rfl

set_option maxRecDepth 100000 in
theorem refK_any (w : World) : Calls Tryz.prog 98 #[] w fun e w' => e = .returned (.agg (U4 shaK).toArray) ∧ Fr [] w w' := by
  go_enter Tryz.func98, Tryz.ntmps98
  rw [← kvals_eq]
  go_wp2_with (first
    | (refine wpList_build_to rfl 158 _ rfl kvals.toArray ?hv ?_)
    | (refine wpList_store_new rfl 158 (.tmp 0) (.tmp 1) rfl rfl 158 _ kvals rfl rfl ?h1 kvals_one ?_))
  case hv => kernel_rfl
  case h1 => kernel_rfl
  intro w1 hf1 ha1
  go_wp2_with fail
  exact bodyPost_ret (results_at (t := 158) rfl _ _ w.heap.size kvals _ rfl ha1 Tryz.underlying158 rfl (by kernel_rfl)) rfl ⟨rfl, hf1⟩

set_option maxRecDepth 100000 in
theorem refRotr_any (x n : Nat) (k : Int) (w : World) (hk : k = (n : Int)) (hx : W32 x) (h1 : 1 ≤ n) (h2 : n ≤ 31) :
    Calls Tryz.prog 99 #[.int .u32 (x : Int), Value.int .i64 k] w fun e w' => e = .returned (.int .u32 (rotr n x : Int)) ∧ ∃ m, w' = w.drewN m := by
  subst hk
  have HX := Lib.hid hx
  clear hx
  have hs : IntKind.i64.wrap (32 - (n : Int)) = 32 - (n : Int) := IntWalk.i64_in _ (by omega)
  have hn0 : (0 : Int) ≤ 32 - (n : Int) := by omega
  have hnn : (32 - (n : Int)).toNat = 32 - n := by omega
  go_enter Tryz.func99, Tryz.ntmps99
  go_wp2_with fail
  go_quiet (fail)
  go_wp2_with fail
  go_ret
  refine ⟨ret_int ?_, _, rfl⟩
  rw [cast_shl, cast_shr, u32_or_nat _ _ (HX.out.div _) (Nat.mod_lt _ (by decide))]
  rfl

set_option maxRecDepth 100000 in
set_option maxHeartbeats 1000000 in
theorem refPad_any (A : Option Addr) (cp : Nat) (xs : List UInt8) (w : World) (hrow : RowIn w A (B8 xs)) (hlen : xs.length ≤ 68719476736) :
    Calls Tryz.prog 76 #[.slice A xs.length cp] w (NewRow (xs ++ shaPad xs.length) w) := by
  obtain ⟨n, hn⟩ : ∃ n, n = xs.length := ⟨_, rfl⟩
  rw [← hn] at hlen ⊢
  have H := Lib.hid (And.intro hrow hn)
  obtain ⟨z, hz⟩ : ∃ z, z = (119 - n % 64) % 64 := ⟨_, rfl⟩
  have hz64 : z < 64 := by omega
  have hzz : (n + 1 + z) % 64 = 56 := by omega
  have hzu : ∀ j, j < z → (n + 1 + j) % 64 ≠ 56 := by omega
  have HZ := Lib.hid (And.intro hz (And.intro hzz hzu))
  clear hz hzz hzu hrow hn
  go_enter Tryz.func76, Tryz.ntmps76
  go_wp2_with (first
    | (at_builtin; refine wpList_app el_u8 rfl (.tmp 6) (.tmp 7) rfl w.heap.size _ _ (B8 []) rfl (World.ownsRow_made _ #[] 0 (Nat.le_refl _) (Nat.zero_le _) rfl) A n cp (B8 xs) rfl (by rw [B8_length, ← H.out.2, Nat.mul_one]) (CellsAt.of_row (H.out.1.fr0 ((Fr.refl _ _).alloc _))) (B8_one _) (by omega) (by simp) ?_; intro v1 w1 hown1 hg1 hb1; rw [H.out.2] at hown1; obtain ⟨A1, c1, cs1, HC1, hc1, rfl, HB1⟩ := BR.push (cs := []) (xs := xs) ⟨(Fr.refl [] w).alloc _, World.ownsRow_made _ #[] 0 (Nat.le_refl _) (Nat.zero_le _) rfl⟩ hown1 hg1; have hsz1 := HB1.out.size; have hl1 : cs1.length ≤ n := (by rw [HC1.out, List.nil_append, ← H.out.2]; exact Nat.le_refl _); clear hown1 hg1 hb1)
    | (at_builtin; refine wpList_push el_u8 rfl (.tmp 8) (.tmp 9) rfl w.heap.size _ _ (B8 cs1) (.int .u8 128) rfl HB1.out.own rfl rfl (by omega) (by omega) 5 ?_; intro v2 w2 hown2 hg2 hb2; obtain ⟨A2, c2, cs2, HC2, hc2, rfl, HB2⟩ := BR.push (xs := [128]) HB1.out hown2 hg2; clear hown2 hg2 hb2))
  have HC2' : Hid (cs2 = xs ++ 128 :: List.replicate 0 0) := by show cs2 = _; rw [HC2.out, HC1.out]; rfl
  have hcl2 : cs2.length ≤ n + 0 + 1 ∧ n + 0 + 1 ≤ cs2.length := by rw [HC2'.out, H.out.2]; simp
  clear HC2 HC1 HB1 hc1 hl1
  go_loopw [3] (fun v wx => ∃ (j : Nat) (A' : Option Addr) (c' : Nat) (cs : List UInt8), j ≤ z ∧ v = .slice A' cs.length c' ∧ cs.length ≤ n + j + 1 ∧ n + j + 1 ≤ cs.length ∧ Hid (cs = xs ++ 128 :: List.replicate j 0) ∧ Hid (BR w wx v cs)) (fun v _ => match v with | .slice _ k _ => n + 65 - k | _ => 0)
  case atStart => exact ⟨0, _, _, cs2, by omega, rfl, hcl2.1, hcl2.2, HC2', HB2⟩
  case round =>
    obtain ⟨j, A', c', cs, hj, rfl, hcl, hcl', HC, HB⟩ := hrel
    have hsz := HB.out.size
    obtain ⟨r, hr⟩ : ∃ r, r = cs.length % 64 := ⟨_, rfl⟩
    have er : (cs.length : Int) % 64 = (r : Int) := by omega
    by_cases hlt : j < z
    · have hr56 : r ≠ 56 := by have := HZ.out.2.2 j hlt; rw [hr]; intro e; apply this; rw [← e]; congr 1; omega
      have hrb : ((r : Int) != 56) = true := by simp; omega
      clear hr hr56
      go_wp2_with (at_builtin; refine wpList_push el_u8 rfl (.tmp 15) (.tmp 16) rfl w.heap.size _ _ (B8 cs) (.int .u8 0) rfl HB.out.own rfl rfl (by omega) (by omega) 5 ?_; intro v2 w2 hown2 hg2 hb2; obtain ⟨A3, c3, cs3, HC3, hc3, rfl, HB3⟩ := BR.push (xs := [0]) HB.out hown2 hg2; clear hown2 hg2 hb2)
      have h3 : cs3.length = cs.length + 1 := by rw [HC3.out]; simp
      have HC4 : Hid (cs3 = xs ++ 128 :: List.replicate (j + 1) 0) := by
        show cs3 = _
        rw [HC3.out, HC.out, List.replicate_succ', List.append_assoc, List.cons_append]
      go_roundw
      case rel => exact ⟨j + 1, A3, c3, cs3, by omega, rfl, by omega, by omega, HC4, HB3⟩
      case measure => show n + 65 - cs3.length < n + 65 - cs.length; omega
    · obtain rfl : j = z := by omega
      have hr56 : r = 56 := by have := HZ.out.2.1; rw [hr]; rw [← this]; congr 1; omega
      have hrb : ((r : Int) != 56) = false := by rw [hr56]; rfl
      clear hr hr56
      obtain ⟨m8, hm8⟩ : ∃ m8, m8 = n * 8 := ⟨_, rfl⟩
      have em8 : IntKind.u64.wrap ((n : Int) * 8) = (m8 : Int) := by rw [IntKind.wrap_u64, hm8]; omega
      have en : IntKind.u64.wrap (n : Int) = (n : Int) := by rw [IntKind.wrap_u64]; omega
      have HM8 := Lib.hid hm8
      have hm8b : m8 ≤ 4398046511104 := by omega
      clear hm8
      go_wp2_with fail
      clear em8 en er hrb
      go_loopw [3, 5] (fun v s wx => ∃ (i : Nat) (t : Int) (A' : Option Addr) (c' : Nat) (ds : List UInt8), i ≤ 8 ∧ s = Value.int .i64 t ∧ t + (i : Int) ≤ 7 ∧ 7 ≤ t + (i : Int) ∧ v = .slice A' ds.length c' ∧ ds.length ≤ n + 65 + i ∧ Hid (ds = cs ++ (List.range i).map fun q => byteAt m8 (7 - q)) ∧ Hid (BR w wx v ds)) (fun _ s _ => (intOf s + 1).toNat)
      case atStart => exact ⟨0, 7, _, _, cs, by omega, rfl, by omega, by omega, rfl, by omega, by simp [Hid], HB⟩
      case round =>
        obtain ⟨i, t, A1, c1, ds, hi, rfl, ht1, ht2, rfl, hdl, HD, HB1⟩ := hrel
        have hsz1 := HB1.out.size
        by_cases hlt2 : i < 8
        · obtain ⟨sh, rfl⟩ : ∃ sh : Nat, t = (sh : Int) := ⟨t.toNat, by omega⟩
          obtain ⟨y, HY⟩ : ∃ y : UInt8, Hid (y = byteAt m8 (7 - i)) := ⟨_, rfl⟩
          have hsh : sh ≤ 7 := by omega
          obtain ⟨s8, hs8⟩ : ∃ s8 : Nat, s8 = 8 * sh := ⟨_, rfl⟩
          have e8 : (8 : Int) * (sh : Int) = (s8 : Int) := by omega
          have hy : IntKind.u8.wrap ((m8 : Int) / 2 ^ s8) = (y.toNat : Int) := by
            rw [HY.out, hs8, show sh = 7 - i by omega]
            exact byteAt_wrap m8 (7 - i)
          have HS8 := Lib.hid hs8
          have hs8b : s8 ≤ 56 := by omega
          clear hs8
          go_wp2_with (at_builtin; refine wpList_push el_u8 rfl (.tmp 26) (.tmp 32) rfl w.heap.size _ _ (B8 ds) (.int .u8 (y.toNat : Int)) rfl HB1.out.own rfl rfl (by omega) (by omega) 5 ?_; intro v2 w2 hown2 hg2 hb2; obtain ⟨A3, c3, cs3, HC3, hc3, rfl, HB3⟩ := BR.push (xs := [y]) HB1.out hown2 hg2; clear hown2 hg2 hb2)
          have h3 : cs3.length = ds.length + 1 := by rw [HC3.out]; simp
          have HC4 : Hid (cs3 = cs ++ (List.range (i + 1)).map fun q => byteAt m8 (7 - q)) := by
            show cs3 = _
            rw [HC3.out, HD.out, List.range_succ, List.map_append, List.append_assoc, HY.out]
            rfl
          go_roundw
          case rel => exact ⟨i + 1, (sh : Int) - 1, A3, c3, cs3, by omega, by go_num, by omega, by omega, rfl, by omega, HC4, HB3⟩
          case measure => simp [intOf] <;> omega
        · obtain rfl : i = 8 := by omega
          obtain rfl : t = -1 := by omega
          have HPAD : Hid (xs ++ shaPad n = ds) := by
            show _ = ds
            rw [HD.out, HC.out, HM8.out, HZ.out.1, List.append_assoc]
            rfl
          go_wp2_with fail
          go_ret
          exact newRow_of ds HPAD.out ⟨_, _, rfl, HB1.out.fr, HB1.out.own⟩

end Go.Proofs.YtlepfnihpdhcaaaGreatDoor
