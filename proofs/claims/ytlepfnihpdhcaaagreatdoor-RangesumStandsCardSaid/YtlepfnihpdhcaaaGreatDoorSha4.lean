/- Contract of sha256's (*State).Sum. -/
import Derived.Test.YtlepfnihpdhcaaaGreatDoorSha3
import Derived.Test.YtlepfnihpdhcaaaGreatDoorBase
import Derived.Outline
namespace Go.Proofs.YtlepfnihpdhcaaaGreatDoor
open Go.RowKit

theorem byteAt_wrap (m k : Nat) : IntKind.u8.wrap ((m : Int) / 2 ^ (8 * k)) = ((byteAt m k).toNat : Int) := by
  have e : (m : Int) / 2 ^ (8 * k) = ((m / 2 ^ (8 * k) : Nat) : Int) := cast_shr m (8 * k)
  rw [e, IntKind.wrap_u8]
  unfold byteAt
  generalize m / 2 ^ (8 * k) = q
  have : (UInt8.ofNat (q % 256)).toNat = q % 256 := by simp
  rw [this]
  omega

set_option maxRecDepth 100000 in
set_option maxHeartbeats 1000000 in
theorem shaSum_any (b : Nat) (xs : List UInt8) (w : World) (hv : Vars w) (hs : ShaAt w b xs) (hlen : xs.length ≤ 549755813888) :
    Calls Tryz.prog 75 #[Value.pointer (some ⟨b, 0, none⟩)] w fun e w' => e = .returned (.string (strOf (sha xs))) ∧ Fr [] w w' := by
  obtain ⟨buf, hb1, hb2, hat⟩ := hs
  have hw8 := (shaWords_ok xs).1
  obtain ⟨n, hn⟩ : ∃ n, n = xs.length := ⟨_, rfl⟩
  rw [← hn] at hlen hat
  obtain ⟨L, HL⟩ : ∃ L, Hid (L = U4 (shaWords xs) ++ (B8 buf ++ [Value.int .i64 (n : Int)])) := ⟨_, rfl⟩
  have HLL : Hid (L.length = 73) := by show L.length = 73; rw [HL.out]; exact st_len hw8 hb1
  have HL1 : Hid (∀ v ∈ L, v.oneCell' = true) := by
    show ∀ v ∈ L, v.oneCell' = true
    rw [HL.out]
    intro v hv
    simp only [List.mem_append, U4, B8, List.mem_map, List.mem_singleton] at hv
    rcases hv with ⟨_, _, rfl⟩ | ⟨_, _, rfl⟩ | rfl <;> rfl
  have HA : Hid (Vars w ∧ buf.length = 64 ∧ buf.take (n % 64) = shaRem xs ∧ At w b 157 L ∧ n = xs.length) := ⟨hv, hb1, by rw [hn]; exact hb2, by rw [HL.out]; exact hat, hn⟩
  have c72 : w.cell? ⟨b, 72, none⟩ = some (Value.int .i64 (n : Int)) := by rw [hat.cell]; exact st_get72 hw8 hb1
  have hbw := hat.lt
  clear hv hb1 hb2 hat hw8 hn
  go_enter Tryz.func75, Tryz.ntmps75
  go_wp2_with (first
    | (refine wpList_load_at rfl 157 (.tmp 11) rfl b 0 rfl L _ ?hc Tryz.underlying157 rfl ?hi ?_)
    | (refine wpList_store_new rfl 157 (.tmp 3) (.tmp 12) rfl rfl 157 _ L rfl ?hz ?hi2 ?h1 ?_))
  case hc => exact fun j v hj => by rw [Nat.zero_add, HA.out.2.2.2.1.cell]; exact hj
  case hi => rw [HLL.out]; kernel_rfl
  case hz => rw [HLL.out]; rfl
  case hi2 => rw [HLL.out]; kernel_rfl
  case h1 => exact HL1.out
  intro w1 hf1 ha1
  obtain ⟨bp, hbp⟩ : ∃ bp, bp = w.heap.size := ⟨_, rfl⟩
  rw [← hbp] at ha1 ⊢
  have HP : Hid (Fr [] w w1 ∧ At w1 bp 157 L ∧ bp = w.heap.size) := ⟨hf1, ha1, hbp⟩
  have c72' : w1.cell? ⟨b, 72, none⟩ = some (Value.int .i64 (n : Int)) := by rw [hf1.cell (p := ⟨b, 72, none⟩) hbw (by simp)]; exact c72
  have hbp1 : bp < w1.heap.size := ha1.lt
  clear hf1 ha1 hbp c72
  obtain ⟨z, hz⟩ : ∃ z, z = (119 - n % 64) % 64 := ⟨_, rfl⟩
  have hz64 : z < 64 := by omega
  have hzz : (n + 1 + z) % 64 = 56 := by omega
  have hzu : ∀ j, j < z → (n + 1 + j) % 64 ≠ 56 := by omega
  have HZ := Lib.hid (And.intro hz (And.intro hzz hzu))
  clear hz hzz hzu
  go_wp2_with fail
  go_loopw [4] (fun v wx => ∃ (j : Nat) (A' : Option Addr) (c' : Nat) (cs : List UInt8), j ≤ z ∧ v = .slice A' cs.length c' ∧ cs.length ≤ j + 1 ∧ j + 1 ≤ cs.length ∧ Hid (cs = 128 :: List.replicate j 0) ∧ Hid (BR w1 wx v cs)) (fun v _ => match v with | .slice _ k _ => 65 - k | _ => 0)
  case atStart => exact ⟨0, _, _, [128], by omega, rfl, by simp, by simp, rfl, BR.lit w1 [128] (by simp [maxLen])⟩
  case round =>
    obtain ⟨j, A', c', cs, hj, rfl, hcl, hcl', HC, HB⟩ := hrel
    have hsz := HB.out.size
    have c72r : wr.cell? ⟨b, 72, none⟩ = some (Value.int .i64 (n : Int)) := by rw [HB.out.fr.cell (p := ⟨b, 72, none⟩) (Nat.lt_of_lt_of_le hbw HP.out.1.size) (by simp)]; exact c72'
    obtain ⟨r, hr⟩ : ∃ r, r = (n + cs.length) % 64 := ⟨_, rfl⟩
    have er : ((n : Int) + (cs.length : Int)) % 64 = (r : Int) := by omega
    by_cases hlt : j < z
    · have hr56 : r ≠ 56 := by have := HZ.out.2.2 j hlt; rw [hr]; intro e; apply this; omega
      have hrb : ((r : Int) != 56) = true := by simp; omega
      clear hr hr56
      go_wp2_with (at_builtin; refine wpList_push el_u8 rfl (.tmp 23) (.tmp 24) rfl w1.heap.size _ _ (B8 cs) (.int .u8 0) rfl HB.out.own rfl rfl (by omega) (by omega) 5 ?_; intro v2 w2 hown2 hg2 hb2; obtain ⟨A3, c3, cs3, HC3, hc3, rfl, HB3⟩ := BR.push (xs := [0]) HB.out hown2 hg2; clear hown2 hg2 hb2)
      have h3 : cs3.length = cs.length + 1 := by rw [HC3.out]; simp
      have HC4 : Hid (cs3 = 128 :: List.replicate (j + 1) 0) := by
        show cs3 = _
        rw [HC3.out, HC.out, List.replicate_succ', List.cons_append]
      go_roundw
      case rel => exact ⟨j + 1, A3, c3, cs3, by omega, rfl, by omega, by omega, HC4, HB3⟩
      case measure => show 65 - cs3.length < 65 - cs.length; omega
    · obtain rfl : j = z := by omega
      have hr56 : r = 56 := by have := HZ.out.2.1; rw [hr]; rw [← this]; congr 1; omega
      have hrb : ((r : Int) != 56) = false := by rw [hr56]; rfl
      clear hr hr56
      obtain ⟨m8, hm8⟩ : ∃ m8, m8 = n * 8 := ⟨_, rfl⟩
      have em8 : IntKind.u64.wrap ((n : Int) * 8) = (m8 : Int) := by rw [IntKind.wrap_u64, hm8]; omega
      have en : IntKind.u64.wrap (n : Int) = (n : Int) := by rw [IntKind.wrap_u64]; omega
      have HM8 := Lib.hid hm8
      have hm8b : m8 ≤ 4398046511104 := by omega
      clear hm8
      go_wp2_with fail
      clear em8 en er hrb
      go_loopw [4, 6] (fun v s wx => ∃ (i : Nat) (t : Int) (A' : Option Addr) (c' : Nat) (ds : List UInt8), i ≤ 8 ∧ s = Value.int .i64 t ∧ t + 8 * (i : Int) ≤ 56 ∧ 56 ≤ t + 8 * (i : Int) ∧ v = .slice A' ds.length c' ∧ ds.length ≤ 65 + i ∧ Hid (ds = cs ++ (List.range i).map fun q => byteAt m8 (7 - q)) ∧ Hid (BR w1 wx v ds)) (fun _ s _ => (intOf s + 8).toNat)
      case atStart => exact ⟨0, 56, _, _, cs, by omega, rfl, by omega, by omega, rfl, by omega, by simp [Hid], HB⟩
      case round =>
        obtain ⟨i, t, A1, c1, ds, hi, rfl, ht1, ht2, rfl, hdl, HD, HB1⟩ := hrel
        have hsz1 := HB1.out.size
        by_cases hlt2 : i < 8
        · obtain ⟨sh, rfl⟩ : ∃ sh : Nat, t = (sh : Int) := ⟨t.toNat, by omega⟩
          obtain ⟨y, HY⟩ : ∃ y : UInt8, Hid (y = byteAt m8 (7 - i)) := ⟨_, rfl⟩
          have hsh : sh ≤ 56 := by omega
          have hy : IntKind.u8.wrap ((m8 : Int) / 2 ^ sh) = (y.toNat : Int) := by
            rw [HY.out, show sh = 8 * (7 - i) by omega]
            exact byteAt_wrap m8 (7 - i)
          go_wp2_with (at_builtin; refine wpList_push el_u8 rfl (.tmp 36) (.tmp 41) rfl w1.heap.size _ _ (B8 ds) (.int .u8 (y.toNat : Int)) rfl HB1.out.own rfl rfl (by omega) (by omega) 5 ?_; intro v2 w2 hown2 hg2 hb2; obtain ⟨A3, c3, cs3, HC3, hc3, rfl, HB3⟩ := BR.push (xs := [y]) HB1.out hown2 hg2; clear hown2 hg2 hb2)
          have h3 : cs3.length = ds.length + 1 := by rw [HC3.out]; simp
          have HC4 : Hid (cs3 = cs ++ (List.range (i + 1)).map fun q => byteAt m8 (7 - q)) := by
            show cs3 = _
            rw [HC3.out, HD.out, List.range_succ, List.map_append, List.append_assoc, HY.out]
            rfl
          go_roundw
          case rel => exact ⟨i + 1, (sh : Int) - 8, A3, c3, cs3, by omega, rfl, by omega, by omega, rfl, by omega, HC4, HB3⟩
          case measure => simp [intOf]; omega
        · obtain rfl : i = 8 := by omega
          obtain rfl : t = -8 := by omega
          have HPAD : Hid (ds = shaPad xs.length) := by
            show ds = _
            rw [HD.out, HC.out, HM8.out, HZ.out.1, HA.out.2.2.2.2]
            rfl
          have hbp2 : 2 ≤ bp := by rw [HP.out.2.2]; exact HA.out.1.lt
          have HW := Lib.hid (shaWrite_any bp xs ds A1 c1 wr (HA.out.1.fr (HP.out.1.trans HB1.out.fr) (by simp) (by simp)) hbp2 ⟨buf, HA.out.2.1, by rw [← HA.out.2.2.2.2]; exact HA.out.2.2.1, by rw [← HA.out.2.2.2.2, ← HL.out]; exact HP.out.2.1.fr HB1.out.fr (by simp)⟩ HB1.out.row HB1.out.cap (fun g o e => by have := HB1.out.far g o e; omega) (by rw [← HA.out.2.2.2.2]; omega))
          clear c72r
          go_wp2_with fail
          refine HW.out.mono ?_
          rintro e w3 ⟨rfl, hf3, hs3⟩
          have HF3 : Hid (Fr [] w w3) := ((HP.out.1.trans HB1.out.fr).mono (by simp)).trans' hf3 (by have := HP.out.2.2; simp; omega)
          obtain ⟨H, HHH⟩ : ∃ H, Hid (H = shaWords (xs ++ ds)) := ⟨_, rfl⟩
          obtain ⟨buf3, hb3, _, hat3⟩ := hs3
          rw [← HHH.out] at hat3
          have HH8 : Hid (H.length = 8) := by show H.length = 8; rw [HHH.out]; exact (shaWords_ok _).1
          obtain ⟨UH, HUH⟩ : ∃ UH, Hid (UH = U4 H) := ⟨_, rfl⟩
          have HUL : Hid (UH.length = 8) := by show UH.length = 8; rw [HUH.out, U4_len]; exact HH8.out
          have HC3 : Hid (bp < w3.heap.size ∧ ∀ j v, UH[j]? = some v → w3.cell? ⟨bp, j, none⟩ = some v) := by
            refine ⟨hat3.lt, fun j v hj => ?_⟩
            rw [hat3.cell, List.getElem?_append_left (by rw [← HUH.out]; exact (List.getElem?_eq_some_iff.1 hj).1), ← HUH.out]
            exact hj
          clear hf3 hat3 hb3 HW
          have hbw3 := HC3.out.1
          have hmk : ∀ w : World, (Instr.makeSlice 37 (.int .i64 0) (.int .i64 32)).run Tryz.prog w = .ok (.slice (some ⟨w.heap.size, 0, none⟩) 0 32) (w.alloc (.cells (List.replicate 32 (.int .u8 0)).toArray 5)) := fun w => by kernel_rfl
          go_wp2_with (refine wpList_load_at rfl 133 (.tmp 46) rfl bp 0 rfl UH _ ?hc5 Tryz.underlying133 rfl ?hi5 ?_)
          case hc5 => exact fun j v hj => by rw [Nat.zero_add]; exact (((Fr.refl [] w3).alloc _).cell (p := ⟨bp, j, none⟩) hbw3 (by simp)).trans (HC3.out.2 j v hj)
          case hi5 => rw [HUL.out]; kernel_rfl
          go_wp2_with fail
          clear hmk
          go_loopw [7, 48] (fun v s wx => ∃ (i : Nat) (A' : Option Addr) (c' : Nat) (es : List UInt8), i ≤ 8 ∧ s = .int .i64 i ∧ v = .slice A' es.length c' ∧ es.length ≤ 4 * i ∧ Hid (es = digest (H.take i)) ∧ Hid (BR w3 wx v es)) (fun _ s _ => 8 - (intOf s).toNat)
          case atStart => exact ⟨0, _, _, [], by omega, rfl, rfl, by simp, rfl, (Fr.refl _ _).alloc _, World.ownsRow_made w3 _ 32 (Nat.le_refl _) (by unfold maxLen; omega) rfl⟩
          case round =>
            obtain ⟨i, A4, c4, es, hi, rfl, rfl, hel, HE, HB4⟩ := hrel
            have hsz4 := HB4.out.size
            by_cases hlt3 : i < 8
            · obtain ⟨x, hx⟩ : ∃ x, H[i]? = some x := ⟨_, List.getElem?_eq_getElem (by rw [HH8.out]; exact hlt3)⟩
              have hix : ∀ w : World, (Instr.index 133 (.agg UH.toArray) (.int .i64 (i : Int))).run Tryz.prog w = .ok (.int .u32 (x : Int)) w := run_index_agg (P := Tryz.prog) 133 132 8 UH (.int .u32 (x : Int)) .i64 i Tryz.underlying133 (by kernel_rfl) (fun _ => by kernel_rfl) hlt3 (by rw [HUH.out]; exact U4_get _ _ _ hx)
              obtain ⟨y3, HY3⟩ : ∃ y : UInt8, Hid (y = byteAt x 3) := ⟨_, rfl⟩
              obtain ⟨y2, HY2⟩ : ∃ y : UInt8, Hid (y = byteAt x 2) := ⟨_, rfl⟩
              obtain ⟨y1, HY1⟩ : ∃ y : UInt8, Hid (y = byteAt x 1) := ⟨_, rfl⟩
              obtain ⟨y0, HY0⟩ : ∃ y : UInt8, Hid (y = byteAt x 0) := ⟨_, rfl⟩
              have k3 : IntKind.u8.wrap ((x : Int) / 16777216) = (y3.toNat : Int) := by rw [HY3.out]; exact byteAt_wrap x 3
              have k2 : IntKind.u8.wrap ((x : Int) / 65536) = (y2.toNat : Int) := by rw [HY2.out]; exact byteAt_wrap x 2
              have k1 : IntKind.u8.wrap ((x : Int) / 256) = (y1.toNat : Int) := by rw [HY1.out]; exact byteAt_wrap x 1
              have k0 : IntKind.u8.wrap (x : Int) = (y0.toNat : Int) := by rw [HY0.out]; have := byteAt_wrap x 0; simpa using this
              have HX : Hid (digest (H.take (i + 1)) = digest (H.take i) ++ [y3, y2, y1, y0]) := by
                obtain ⟨h1, e1⟩ := List.getElem?_eq_some_iff.1 hx
                show digest _ = _
                rw [List.take_succ_eq_append_getElem h1, e1, digest, List.flatMap_append, HY3.out, HY2.out, HY1.out, HY0.out]
                simp [digest]
              have hiI : (i : Int) < 8 := by omega
              have HXX : Hid (W32 x) := by
                show W32 x
                refine (shaWords_ok (xs ++ ds)).2 x ?_
                rw [← HHH.out]
                exact List.mem_of_getElem? hx
              clear hx
              go_wp2_with (at_builtin; refine wpList_app el_u8 rfl (.tmp 51) (.tmp 63) rfl w3.heap.size _ _ (B8 es) rfl (HB4.out.own.alloc _) (some ⟨wr.heap.size, 0, none⟩) 4 4 (B8 [y3, y2, y1, y0]) rfl rfl (CellsAt.new _ _ (B8 [y3, y2, y1, y0])) (B8_one _) (by omega) (by simp; omega) ?_; intro v2 w2 hown2 hg2 hb2; obtain ⟨A3, c3, cs3, HC3, hc3, rfl, HB3⟩ := BR.push (xs := [y3, y2, y1, y0]) (HB4.out.alloc _) hown2 hg2; clear hown2 hg2 hb2)
              have h3 : cs3.length = es.length + 4 := by rw [HC3.out]; simp
              go_roundw
              case rel => exact ⟨i + 1, A3, c3, cs3, by omega, by go_num, rfl, by omega, by show cs3 = _; rw [HC3.out, HX.out, HE.out], HB3⟩
              case measure => simp [intOf]; omega
            · obtain rfl : i = 8 := by omega
              have hst := run_str (P := Tryz.prog) (src := 37) (dst := 9) Tryz.underlying37 Tryz.underlying5 Tryz.underlying9 wr A4 c4 es HB4.out.row
              go_wp2_with fail
              go_ret
              refine ⟨?_, HF3.out.trans HB4.out.fr⟩
              rw [HE.out, List.take_of_length_le (by rw [HH8.out]; exact Nat.le_refl _), HHH.out, HPAD.out]
              rfl

end Go.Proofs.YtlepfnihpdhcaaaGreatDoor
namespace Go.Proofs.YtlepfnihpdhcaaaGreatDoor
open Go.RowKit

/-- A string as a value. -/
def S8v (p : List UInt8) : Value := .string (strOf p)

/-- '[]byte(s)'. -/
theorem run_bytes (w : World) (p : List UInt8) : ∃ cap W, (convert 9 37 (.string (strOf p))).run Tryz.prog w = .ok (.slice (some ⟨w.heap.size, 0, none⟩) p.length cap) W ∧ p.length ≤ cap ∧ Fr [] w W ∧ RowIn W (some ⟨w.heap.size, 0, none⟩) (B8 p) := by
  have h := run_bytes_of_string (P := Tryz.prog) w 9 37 5 (strOf p) Tryz.underlying9 Tryz.underlying37 Tryz.underlying5
  have hs : (strOf p).size = p.length := by simp [strOf, ByteArray.size]
  rw [hs] at h
  refine ⟨_, _, h, grownCap_ge _ _ _ _, ((Fr.refl [] w).drew.alloc _), fun i u hu => ⟨_, _, rfl, ?_, ?_⟩⟩
  · show w.heap.size < (w.heap.push _).size
    simp
  · have hi := (List.getElem?_eq_some_iff.1 hu).1
    rw [B8_length] at hi
    have e : (w.drew.alloc (.cells (bytesRow (strOf p) (grownCap w p.length 0 5)) 5 ((bytesRow (strOf p) (grownCap w p.length 0 5)).size, (bytesRow (strOf p) (grownCap w p.length 0 5)).size + 1))).heap[w.heap.size]? = some (.cells (bytesRow (strOf p) (grownCap w p.length 0 5)) 5 ((bytesRow (strOf p) (grownCap w p.length 0 5)).size, (bytesRow (strOf p) (grownCap w p.length 0 5)).size + 1)) := heap_alloc_new w.drew _
    have e2 : (bytesRow (strOf p) (grownCap w p.length 0 5))[i]? = some u := by
      unfold bytesRow strOf
      rw [Array.getElem?_append_left (by simpa using hi)]
      simpa [B8] using hu
    unfold World.cell?
    rw [e]
    simp [e2]

set_option maxRecDepth 100000 in
set_option maxHeartbeats 1000000 in
theorem shaJoin_any (A : Option Addr) (c : Nat) (ps : List (List UInt8)) (w : World) (hv : Vars w) (hrow : RowIn w A (ps.map S8v)) (hl : ps.flatten.length ≤ 549755813888) (hn : ps.length ≤ 1000) :
    Calls Tryz.prog 51 #[.slice A ps.length c] w fun e w' => e = .returned (.string (strOf (sha ps.flatten))) ∧ Fr [] w w' := by
  have H := Lib.hid (And.intro hv (And.intro hrow hl))
  clear hv hrow hl
  obtain ⟨m, HM⟩ : ∃ m, Hid (m = ps.length) := ⟨_, rfl⟩
  rw [← HM.out] at hn ⊢
  go_enter Tryz.func51, Tryz.ntmps51
  go_wp2_with fail
  refine (shaNew_any w H.out.1).mono ?_
  rintro e w1 ⟨rfl, hf1, hs1⟩
  obtain ⟨bs, hbs⟩ : ∃ bs, bs = w.heap.size := ⟨_, rfl⟩
  rw [← hbs] at hs1 ⊢
  have hb2 : 2 ≤ bs := by rw [hbs]; exact H.out.1.lt
  have HB := Lib.hid hbs
  have H1 := Lib.hid (And.intro hf1 hs1)
  clear hf1 hs1 hbs
  go_wp2_with fail
  go_loopw [9] (fun i wx => ∃ k : Nat, k ≤ m ∧ i = .int .i64 k ∧ Hid (Fr [] w wx ∧ ShaAt wx bs (ps.take k).flatten)) (fun i _ => m - (intOf i).toNat)
  case atStart => exact ⟨0, by omega, rfl, H1⟩
  case round =>
    obtain ⟨k, hk, rfl, HR⟩ := hrel
    by_cases hlt : k < m
    · obtain ⟨p, hp⟩ : ∃ p, ps[k]? = some p := ⟨_, List.getElem?_eq_getElem (by rw [← HM.out]; exact hlt)⟩
      obtain ⟨g, o, rfl, hg, hc⟩ := H.out.2.1 k (S8v p) (by rw [List.getElem?_map, hp]; rfl)
      have hc' : wr.cell? ⟨g, o + k, none⟩ = some (.string (strOf p)) := by rw [HR.out.1.cell (p := ⟨g, o + k, none⟩) hg (by simp)]; exact hc
      have HT : Hid ((ps.take (k + 1)).flatten = (ps.take k).flatten ++ p ∧ ((ps.take k).flatten ++ p).length ≤ 549755813888) := by
        obtain ⟨h1, e1⟩ := List.getElem?_eq_some_iff.1 hp
        have e : (ps.take (k + 1)).flatten = (ps.take k).flatten ++ p := by rw [List.take_succ_eq_append_getElem h1, e1, List.flatten_append]; simp
        refine ⟨e, ?_⟩
        rw [← e]
        refine Nat.le_trans ?_ H.out.2.2
        have : ps.flatten = (ps.take (k + 1)).flatten ++ (ps.drop (k + 1)).flatten := by rw [← List.flatten_append, List.take_append_drop]
        rw [this, List.length_append]
        omega
      obtain ⟨cap, W, hcv, hcap, hfW, hrW⟩ := run_bytes wr p
      have HW : Hid (p.length ≤ cap ∧ Fr [] wr W ∧ RowIn W (some ⟨wr.heap.size, 0, none⟩) (B8 p)) := ⟨hcap, hfW, hrW⟩
      clear hcap hfW hrW hp hc
      have HWR := Lib.hid (shaWrite_any bs (ps.take k).flatten p (some ⟨wr.heap.size, 0, none⟩) cap W (H.out.1.fr (HR.out.1.trans HW.out.2.1) (by simp) (by simp)) hb2 (HR.out.2.fr HW.out.2.1 (by simp)) HW.out.2.2 HW.out.1 (fun g o e => by
        injection e with e
        injection e with e1 e2
        have := HR.out.2.lt
        omega) (by have := HT.out.2; rw [List.length_append] at this; omega))
      have hkI : (k : Int) < (m : Int) := by omega
      go_wp2_with fail
      refine HWR.out.mono ?_
      rintro e w3 ⟨rfl, hf3, hs3⟩
      have HN : Hid (Fr [] w w3 ∧ ShaAt w3 bs (ps.take (k + 1)).flatten) := ⟨((HR.out.1.trans HW.out.2.1).mono (by simp)).trans' hf3 (by have := HB.out; simp; omega), by rw [HT.out.1]; exact hs3⟩
      clear hf3 hs3 HWR HW hcv hc'
      go_wp2_with fail
      go_roundw
      case rel => exact ⟨k + 1, by omega, by go_num, HN⟩
      case measure => simp [intOf]; omega
    · obtain rfl : k = m := by omega
      have HS := Lib.hid (shaSum_any bs (ps.take k).flatten wr (H.out.1.fr HR.out.1 (by simp) (by simp)) HR.out.2 (by rw [HM.out, List.take_length]; exact H.out.2.2))
      go_wp2_with fail
      refine HS.out.mono ?_
      rintro e w3 ⟨rfl, hf3⟩
      go_wp2_with fail
      go_ret
      refine ⟨?_, HR.out.1.trans hf3⟩
      rw [HM.out, List.take_length]
      rfl

end Go.Proofs.YtlepfnihpdhcaaaGreatDoor
