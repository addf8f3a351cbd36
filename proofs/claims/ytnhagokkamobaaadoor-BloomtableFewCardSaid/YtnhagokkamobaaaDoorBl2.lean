/- Contract of bloomtable's (*Table).change. -/
import Derived.Test.YtnhagokkamobaaaDoorBl1
import Derived.Test.YtnhagokkamobaaaDoorBlPlain
import Derived.StillTailTactics
import Derived.Outline
namespace Go.Proofs.YtnhagokkamobaaaDoor
open Go.RowKit

/-- Block bt is a table whose cells lie in block bc. -/
structure TabAt (w : World) (bt bc cap : Nat) (rest : List Value) (t : BT) : Prop where
  tab : At w bt 75 [.slice (some ⟨bc, 0, none⟩) t.cells.length cap, .int .u64 (t.seed : Int)]
  cells : At w bc 85 (tcells t.cells ++ rest)
  ok : t.Ok
  size : isSz (t.cells.length : Int) = true
  cap : t.cells.length ≤ cap

theorem TabAt.ne {w : World} {bt bc cap : Nat} {rest : List Value} {t : BT} (h : TabAt w bt bc cap rest t) : bt ≠ bc := h.tab.ne h.cells (by decide)
theorem TabAt.fr {w w' : World} {bt bc cap : Nat} {rest : List Value} {t : BT} {S : List Nat} (h : TabAt w bt bc cap rest t) (hf : Fr S w w') (h1 : bt ∉ S) (h2 : bc ∉ S) : TabAt w' bt bc cap rest t :=
  ⟨h.tab.fr hf h1, h.cells.fr hf h2, h.ok, h.size, h.cap⟩
theorem isSz_bounds {n : Nat} (h : isSz (n : Int) = true) : 3 ≤ n ∧ n ≤ 3072 ∧ n % 3 = 0 := by
  unfold isSz at h
  simp at h
  omega

theorem pl3_get (n seed : Nat) (key : List UInt8) (k : Nat) (h : k < 3) : (pl3 n seed key)[k]? = some (Value.int .i64 (bplace n seed key k : Int)) := by
  match k, h with
  | 0, _ => rfl
  | 1, _ => rfl
  | 2, _ => rfl

set_option maxRecDepth 100000 in
set_option maxHeartbeats 4000000 in
theorem change_any (bt bc cap : Nat) (rest : List Value) (t : BT) (key : List UInt8) (num : Int) (w : World) (hv : Vars w) (ht : TabAt w bt bc cap rest t) (hk : key.length = 32) :
    Calls Tryd.prog 48 #[Value.pointer (some ⟨bt, 0, none⟩), .string (strOf key), Value.int .i64 num] w fun e w' => e = .returned (.tuple #[]) ∧ Fr [bc] w w' ∧ TabAt w' bt bc cap rest (t.change key num) := by
  obtain ⟨n, HN⟩ : ∃ n, Hid (n = t.cells.length) := ⟨_, rfl⟩
  obtain ⟨seed, HS⟩ : ∃ seed, Hid (seed = t.seed) := ⟨_, rfl⟩
  obtain ⟨n3, n4, n5⟩ := isSz_bounds ht.size
  rw [← HN.out] at n3 n4
  clear n5
  have H := Lib.hid (And.intro hv (And.intro ht hk))
  have hne : bt ≠ bc := ht.ne
  have hbtl := ht.tab.lt
  have HT : Hid (∀ W, At W bt 75 [.slice (some ⟨bc, 0, none⟩) t.cells.length cap, .int .u64 (t.seed : Int)] → W.cell? ⟨bt, 0, none⟩ = some (.slice (some ⟨bc, 0, none⟩) n cap) ∧ W.cell? ⟨bt, 1, none⟩ = some (.int .u64 (seed : Int))) := fun W hW =>
    ⟨by rw [hW.cell, HN.out]; rfl, by rw [hW.cell, HS.out]; rfl⟩
  obtain ⟨q0, q1⟩ := HT.out w ht.tab
  clear hv ht hk
  obtain ⟨ck, HCK⟩ : ∃ ck, Hid (ck = bhash seed 3 key) := ⟨_, rfl⟩
  have HC := Lib.hid (check_any seed key w H.out.1 (by rw [HS.out]; exact H.out.2.1.ok.seed) (by rw [H.out.2.2]; omega))
  rw [← HCK.out] at HC
  go_enter Tryd.func48, Tryd.ntmps48
  go_wp2_with fail
  refine HC.out.mono ?_
  rintro e w1 ⟨rfl, hf1⟩
  have H1 : Hid (Fr [] w w1 ∧ At w1 bt 75 [.slice (some ⟨bc, 0, none⟩) t.cells.length cap, .int .u64 (t.seed : Int)]) := ⟨hf1, H.out.2.1.tab.fr hf1 (by simp)⟩
  clear q0 q1 hf1 HC
  obtain ⟨q0, q1⟩ := HT.out w1 H1.out.2
  have hbt1 : bt < w1.heap.size := H1.out.2.lt
  obtain ⟨L, HL⟩ : ∃ L, Hid (L = pl3 n seed key) := ⟨_, rfl⟩
  have HPL := Lib.hid (places_any n seed key w1.drew (H.out.1.fr H1.out.1.drew (by simp) (by simp)) (by rw [HS.out]; exact H.out.2.1.ok.seed) (by rw [H.out.2.2]; omega) n3 n4)
  rw [← HL.out] at HPL
  go_wp2_with fail
  go_region_held3 (fun w' => w'.cell? ⟨bt, 0, none⟩ = some (.slice (some ⟨bc, 0, none⟩) n cap) ∧ w'.cell? ⟨bt, 1, none⟩ = some (.int .u64 (seed : Int))) (first | go_keep | (exact HT.out _ H2.out.2))
    (first | (go_at_call 40; ((with_reducible refine HPL.out.mono ?_)); rintro e w2 ⟨rfl, hf2⟩; have H2 : Hid (Fr [] w w2 ∧ At w2 bt 75 [.slice (some ⟨bc, 0, none⟩) t.cells.length cap, .int .u64 (t.seed : Int)]) := ⟨H1.out.1.drew.trans hf2, H1.out.2.drew.fr hf2 (by simp)⟩; clear hf2))
  rename_i hHeld
  have HT0 : Hid (Fr [bc] w w2 ∧ TabAt w2 bt bc cap rest (t.atN key num 0)) := ⟨H2.out.1.mono (by simp), H2.out.2, H.out.2.1.cells.fr H2.out.1 (by simp), H.out.2.1.ok, H.out.2.1.size, H.out.2.1.cap⟩
  clear hHeld HPL H1 H2 q0 q1 hbt1
  go_wp2_with fail
  go_loopw [28] (fun s wx => ∃ k : Nat, k ≤ 3 ∧ s = .int .i64 k ∧ Hid (Fr [bc] w wx ∧ TabAt wx bt bc cap rest (t.atN key num k))) (fun s _ => 3 - (intOf s).toNat)
  case atStart => exact ⟨0, by omega, rfl, HT0⟩
  case round =>
    obtain ⟨k, hk, rfl, HR⟩ := hrel
    obtain ⟨wo, HWO⟩ : ∃ wo, Hid (wo = wr) := ⟨_, rfl⟩
    rw [← HWO.out] at HR ⊢
    clear HWO
    by_cases hlt : k < 3
    · obtain ⟨p, HP⟩ : ∃ p, Hid (p = bplace n seed key k) := ⟨_, rfl⟩
      have hpn : p < n := by rw [HP.out]; exact bplace_lt n seed key k n3 hlt
      have hix : ∀ W : World, (Instr.index 70 (.agg L.toArray) (.int .i64 (k : Int))).run Tryd.prog W = .ok (Value.int .i64 (p : Int)) W := run_index_agg (P := Tryd.prog) 70 3 3 L (Value.int .i64 (p : Int)) .i64 k Tryd.underlying70 (by kernel_rfl) (fun _ => by kernel_rfl) hlt (by rw [HL.out, HP.out]; exact pl3_get n seed key k hlt)
      obtain ⟨cl, HCL⟩ : ∃ cl, Hid (cl = (t.atN key num k).cells) := ⟨_, rfl⟩
      have hlen : Hid (cl.length = n) := by show cl.length = n; rw [HCL.out, BT.atN_len, HN.out]
      have hok : Hid (Ok34 cl) := by show Ok34 cl; rw [HCL.out]; exact HR.out.2.ok.cells
      obtain ⟨c, hc⟩ : ∃ c, cl[p]? = some c := ⟨_, List.getElem?_eq_getElem (by rw [hlen.out]; exact hpn)⟩
      have hcok : Hid c.Ok := hok.out c (List.mem_of_getElem? hc)
      have HTB : Hid (At wo bt 75 [.slice (some ⟨bc, 0, none⟩) t.cells.length cap, .int .u64 (t.seed : Int)] ∧ At wo bc 85 (tcells cl ++ rest)) := by
        have h1 := HR.out.2.tab
        rw [BT.atN_len, BT.atN_seed] at h1
        exact ⟨h1, by rw [HCL.out]; exact HR.out.2.cells⟩
      obtain ⟨q0, q1⟩ := HT.out wo HTB.out.1
      obtain ⟨cnt, HCN⟩ : ∃ cnt, Hid (cnt = c.count) := ⟨_, rfl⟩
      obtain ⟨chk, HCH⟩ : ∃ chk, Hid (chk = c.checks) := ⟨_, rfl⟩
      have r0 : wo.cell? ⟨bc, p * 34, none⟩ = some (Value.int .i64 cnt) := by
        have := tcells_get hok.out rest p c hc 0 (by omega)
        rw [Nat.add_zero] at this
        rw [HTB.out.2.cell, this, HCN.out]
        rfl
      have r33 : wo.cell? ⟨bc, p * 34 + 33, none⟩ = some (.int .u64 (chk : Int)) := by
        rw [HTB.out.2.cell, tcells_get hok.out rest p c hc 33 (by omega), HCH.out]
        exact cells_get33 hcok.out.keys
      have f0 := HTB.out.2.frozen (p * 34)
      have f33 := HTB.out.2.frozen (p * 34 + 33)
      obtain ⟨nc, e1, HNC⟩ : ∃ nc : Int, IntKind.i64.wrap (cnt + num) = nc ∧ Hid (nc = IntKind.i64.wrap (c.count + num)) := ⟨_, rfl, by rw [HCN.out]; rfl⟩
      have hcku : Hid (U64 ck) := by show U64 ck; rw [HCK.out]; exact bhash_u64 _ _ _
      obtain ⟨nk, e2, HNK⟩ : ∃ nk : Nat, bits BinOp.xor IntKind.u64 (chk : Int) (ck : Int) = (nk : Int) ∧ Hid (nk = c.checks ^^^ ck) := ⟨_, u64_xor_nat _ _ (by rw [HCH.out]; exact hcok.out.checks) hcku.out, by rw [HCH.out]; rfl⟩
      have HN0 : Hid (At ((wo.setCell ⟨bc, p * 34, none⟩ (Value.int .i64 nc)).setCell ⟨bc, p * 34 + 33, none⟩ (.int .u64 (nk : Int))) bc 85 (tcells (cl.set p (c.part key num ck 0)) ++ rest)) := by
        have a1 := (HTB.out.2.set (p * 34) (Value.int .i64 nc)).set (p * 34 + 33) (.int .u64 (nk : Int))
        have e0 := tcells_set hok.out rest p c hc 0 (by omega) (Value.int .i64 nc) ⟨nc, c.keys, c.checks⟩ (cells_set0 c nc)
        rw [Nat.add_zero] at e0
        have hp' : p < cl.length := by rw [hlen.out]; exact hpn
        have ok1 : Ok34 (cl.set p ⟨nc, c.keys, c.checks⟩) := by
          intro d hd
          rcases List.mem_or_eq_of_mem_set hd with h | h
          · exact hok.out d h
          · rw [h]
            exact ⟨by rw [HNC.out]; exact wrap_fit _, hcok.out.keys, hcok.out.checks⟩
        have e3 := tcells_set ok1 rest p ⟨nc, c.keys, c.checks⟩ (by rw [List.getElem?_set_self hp']) 33 (by omega) (.int .u64 (nk : Int)) ⟨nc, c.keys, nk⟩ (cells_set33 (c := ⟨nc, c.keys, c.checks⟩) hcok.out.keys nk)
        rw [e0, e3, List.set_set] at a1
        rw [part_zero, ← HNC.out, ← HNK.out]
        exact a1
      have hpI : (p : Int) < (n : Int) := by omega
      have hkI : (k : Int) < 3 := by omega
      have hbcl := HTB.out.2.lt
      have HC2 := Lib.hid hc
      clear hc
      go_wp2_with fail
      have HW0 : Hid (Fr [bc] w ((wo.setCell ⟨bc, p * 34, none⟩ (Value.int .i64 nc)).setCell ⟨bc, p * 34 + 33, none⟩ (.int .u64 (nk : Int))) ∧ At ((wo.setCell ⟨bc, p * 34, none⟩ (Value.int .i64 nc)).setCell ⟨bc, p * 34 + 33, none⟩ (.int .u64 (nk : Int))) bt 75 [.slice (some ⟨bc, 0, none⟩) t.cells.length cap, .int .u64 (t.seed : Int)]) :=
        ⟨(HR.out.1.setCell (by simp) _).setCell (by simp) _, (HTB.out.1.far hne _).far hne _⟩
      generalize (wo.setCell ⟨bc, p * 34, none⟩ (Value.int .i64 nc)).setCell ⟨bc, p * 34 + 33, none⟩ (.int .u64 (nk : Int)) = W0 at HN0 HW0 ⊢
      clear q0 q1 r0 r33 f0 f33 e1 e2 hix HTB
      go_loopw [53] (fun s wx => ∃ i : Nat, i ≤ 32 ∧ s = .int .i64 i ∧ Hid (Fr [bc] w wx ∧ At wx bt 75 [.slice (some ⟨bc, 0, none⟩) t.cells.length cap, .int .u64 (t.seed : Int)] ∧ At wx bc 85 (tcells (cl.set p (c.part key num ck i)) ++ rest))) (fun s _ => 32 - (intOf s).toNat)
      case atStart => exact ⟨0, by omega, rfl, HW0.out.1, HW0.out.2, HN0.out⟩
      case round =>
        obtain ⟨i, hi, rfl, HI⟩ := hrel
        have hp' : Hid (p < cl.length) := by show p < cl.length; rw [hlen.out]; exact hpn
        have oki : Hid (Ok34 (cl.set p (c.part key num ck i))) := by
          intro d hd
          rcases List.mem_or_eq_of_mem_set hd with h | h
          · exact hok.out d h
          · rw [h]
            exact part_ok hcok.out H.out.2.2 num hcku.out i
        by_cases hlt2 : i < 32
        · obtain ⟨x, hx⟩ : ∃ x, c.keys[i]? = some x := ⟨_, List.getElem?_eq_getElem (by rw [hcok.out.keys]; exact hlt2)⟩
          obtain ⟨y, hy⟩ : ∃ y, key[i]? = some y := ⟨_, List.getElem?_eq_getElem (by rw [H.out.2.2]; exact hlt2)⟩
          have hiy := run_index_s key i y hy
          have hself : (cl.set p (c.part key num ck i))[p]? = some (c.part key num ck i) := List.getElem?_set_self hp'.out
          have rk : wr.cell? ⟨bc, p * 34 + 1 + i, none⟩ = some (.int .u8 (x.toNat : Int)) := by
            rw [HI.out.2.2.cell, Nat.add_assoc, tcells_get oki.out rest p _ hself (1 + i) (by omega)]
            exact cells_getK i x (part_get key num ck i x hx H.out.2.2 hcok.out.keys)
          have fk := HI.out.2.2.frozen (p * 34 + 1 + i)
          obtain ⟨z, ez, HZ⟩ : ∃ z : UInt8, bits BinOp.xor IntKind.u8 (x.toNat : Int) (y.toNat : Int) = (z.toNat : Int) ∧ Hid (z = x ^^^ y) := ⟨_, u8_xor_u x y, rfl⟩
          have HNN : Hid (Fr [bc] w (wr.setCell ⟨bc, p * 34 + 1 + i, none⟩ (.int .u8 (z.toNat : Int))).drew ∧ At (wr.setCell ⟨bc, p * 34 + 1 + i, none⟩ (.int .u8 (z.toNat : Int))).drew bt 75 [.slice (some ⟨bc, 0, none⟩) t.cells.length cap, .int .u64 (t.seed : Int)] ∧ At (wr.setCell ⟨bc, p * 34 + 1 + i, none⟩ (.int .u8 (z.toNat : Int))).drew bc 85 (tcells (cl.set p (c.part key num ck (i + 1))) ++ rest)) := by
            refine ⟨(HI.out.1.setCell (by simp) _).drew, (HI.out.2.1.far hne _).drew, ?_⟩
            have a1 := (HI.out.2.2.set (p * 34 + 1 + i) (.int .u8 (z.toNat : Int))).drew
            rw [Nat.add_assoc, tcells_set oki.out rest p _ hself (1 + i) (by omega) (.int .u8 (z.toNat : Int)) (c.part key num ck (i + 1)) (by rw [HZ.out]; exact part_succ key num ck i x y hx hy hcok.out.keys H.out.2.2), List.set_set] at a1
            rw [Nat.add_assoc]
            exact a1
          have hiI : (i : Int) < 32 := by omega
          clear hx hy hself
          go_wp2_with fail
          go_still_tail 13, (by kernel_rfl)
          change wpList _ _ _ _ _ wr.drew
          go_wp2_with fail
          generalize (wr.setCell ⟨bc, p * 34 + 1 + i, none⟩ (.int .u8 (z.toNat : Int))).drew = W1 at HNN ⊢
          clear rk fk ez hiy
          (try go_wp2_with fail)
          go_roundw
          case rel =>
            first
              | exact ⟨i + 1, by omega, by go_num, HNN⟩
              | ((repeat apply Exists.intro); exact ⟨⟨i + 1, by omega, by go_num, HNN⟩, rfl⟩)
          case measure => simp [intOf] <;> omega
        · obtain rfl : i = 32 := by omega
          have HEND : Hid (Fr [bc] w wr ∧ TabAt wr bt bc cap rest (t.atN key num (k + 1))) := by
            have hlen2 : (t.atN key num (k + 1)).cells.length = t.cells.length := BT.atN_len _ _ _ _
            have hseed2 : (t.atN key num (k + 1)).seed = t.seed := BT.atN_seed _ _ _ _
            have hplace : p = bplace (t.atN key num k).cells.length (t.atN key num k).seed key k := by rw [HP.out, BT.atN_len, BT.atN_seed, HN.out, HS.out]
            have hcells : (t.atN key num (k + 1)).cells = cl.set p (c.part key num ck 32) := by
              show ((t.atN key num k).at1 key num k).cells = _
              rw [BT.at1_cells _ key num k c (by rw [← hplace, ← HCL.out]; exact HC2.out), ← hplace, ← HCL.out, part_all c key num ck hcok.out.keys H.out.2.2, BT.atN_seed, HCK.out, HS.out]
            refine ⟨HI.out.1, ?_, ?_, BT.Ok.atN H.out.2.1.ok H.out.2.2 num (k + 1), ?_, ?_⟩
            · rw [hlen2, hseed2]
              exact HI.out.2.1
            · rw [hcells]
              exact HI.out.2.2
            · rw [hlen2]
              exact H.out.2.1.size
            · rw [hlen2]
              exact H.out.2.1.cap
          go_wp2_with fail
          go_roundw
          case rel =>
            first
              | exact ⟨k + 1, by omega, by go_num, HEND⟩
              | ((repeat apply Exists.intro); exact ⟨⟨k + 1, by omega, by go_num, HEND⟩, rfl⟩)
          case measure => simp [intOf] <;> omega
    · obtain rfl : k = 3 := by omega
      go_wp2_with fail
      go_end0
      exact ⟨rfl, HR.out.1, HR.out.2⟩

end Go.Proofs.YtnhagokkamobaaaDoor
