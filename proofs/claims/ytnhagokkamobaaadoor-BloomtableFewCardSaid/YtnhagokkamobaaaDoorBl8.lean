/- Contract of bloomtable's (*Table).Encode. -/
import Derived.Test.YtnhagokkamobaaaDoorBl7
import Derived.Test.YtnhagokkamobaaaDoorWire1
namespace Go.Proofs.YtnhagokkamobaaaDoor
open Go.RowKit

def BC.enc (c : BC) : List UInt8 := num (zig c.count) ++ c.keys ++ num c.checks
def encTo (t : BT) (i : Nat) : List UInt8 := num t.cells.length ++ num t.seed ++ (t.cells.take i).flatMap BC.enc
def BT.enc (t : BT) : List UInt8 := encTo t t.cells.length

theorem BC.enc_len {c : BC} (h : c.Ok) : c.enc.length ≤ 52 := by
  have h1 := num_length (zig c.count) (zig_lt c.count h.count.1 h.count.2)
  have h2 := num_length c.checks h.checks
  have h3 := h.keys
  simp only [BC.enc, List.length_append]
  omega
theorem encTo_succ {t : BT} {i : Nat} {c : BC} (h : t.cells[i]? = some c) : encTo t (i + 1) = encTo t i ++ num (zig c.count) ++ c.keys ++ num c.checks := by
  obtain ⟨h1, e1⟩ := List.getElem?_eq_some_iff.1 h
  unfold encTo
  rw [List.take_succ_eq_append_getElem h1, e1, List.flatMap_append]
  simp [BC.enc, List.append_assoc]
theorem flat_len {l : List BC} (h : Ok34 l) : (l.flatMap BC.enc).length ≤ l.length * 52 := by
  induction l with
  | nil => simp
  | cons c l ih =>
    have h1 := BC.enc_len (h c (by simp))
    have h2 := ih (fun x hx => h x (by simp [hx]))
    rw [List.flatMap_cons, List.length_append, List.length_cons]
    omega
theorem encTo_len {t : BT} (h : t.Ok) (hn : t.cells.length ≤ 3072) (i : Nat) : (encTo t i).length ≤ 200000 := by
  have h1 := num_length t.cells.length (by omega)
  have h2 := num_length t.seed h.seed
  have h3 := flat_len (l := t.cells.take i) (fun c hc => h.cells c (List.mem_of_mem_take hc))
  rw [List.length_take] at h3
  simp only [encTo, List.length_append]
  omega

set_option maxRecDepth 100000 in
set_option maxHeartbeats 2000000 in
theorem encode_any (bt bc cap : Nat) (rest : List Value) (t : BT) (w : World) (ht : TabAt w bt bc cap rest t) :
    Calls Tryd.prog 31 #[Value.pointer (some ⟨bt, 0, none⟩)] w fun e w' => ∃ v, e = .returned v ∧ NewBytes t.enc w v w' := by
  obtain ⟨n, HN⟩ : ∃ n, Hid (n = t.cells.length) := ⟨_, rfl⟩
  obtain ⟨seed, HS⟩ : ∃ seed, Hid (seed = t.seed) := ⟨_, rfl⟩
  have hb := isSz_bounds ht.size
  have n4 : n ≤ 3072 := by rw [HN.out]; exact hb.2.1
  have HTC : Hid (∀ W, Fr [] w W → W.cell? ⟨bt, 0, none⟩ = some (.slice (some ⟨bc, 0, none⟩) n cap) ∧ W.cell? ⟨bt, 1, none⟩ = some (.int .u64 (seed : Int))) := fun W hW =>
    ⟨by rw [(ht.tab.fr hW (by simp)).cell, HN.out]; rfl, by rw [(ht.tab.fr hW (by simp)).cell, HS.out]; rfl⟩
  have H := Lib.hid ht
  have hbt := ht.tab.lt
  have hbc := ht.cells.lt
  clear ht hb
  obtain ⟨bw, HBW⟩ : ∃ bw, Hid (bw = w.heap.size) := ⟨_, rfl⟩
  have HNW := Lib.hid (newWriter_any w)
  rw [← HBW.out] at HNW
  have hen : IntKind.u64.wrap (n : Int) = (n : Int) := by rw [IntKind.wrap_u64]; omega
  have HEL : Hid (∀ i, (encTo t i).length ≤ 200000) := fun i => encTo_len H.out.ok (by rw [← HN.out]; exact n4) i
  go_enter Tryd.func31, Tryd.ntmps31
  go_wp2_with fail
  refine HNW.out.mono ?_
  rintro e w1 ⟨rfl, hf1, ha1⟩
  have H1 : Hid (Fr [] w w1 ∧ WriterAt w1 w.heap.size bw []) := ⟨hf1, WriterAt.new ha1⟩
  have hz1 := hf1.size
  obtain ⟨q0, q1⟩ := HTC.out w1 hf1
  clear hf1 ha1 HNW
  go_wp2_with fail
  refine (wUint w.heap.size bw n [] w1 H1.out.2 hz1 (by unfold U64; omega) (by simp)).mono ?_
  rintro e w2 ⟨rfl, hb2, ha2, _⟩
  have H2 : Hid (Fr [] w w2 ∧ WriterAt w2 w.heap.size bw (num n)) := ⟨H1.out.1.thenBel hb2 (Nat.le_refl _) (by have := HBW.out; simp; omega), by simpa using ha2⟩
  clear q0 q1 hb2 ha2 H1
  obtain ⟨q0, q1⟩ := HTC.out w2 H2.out.1
  have hz2 := H2.out.1.size
  go_wp2_with fail
  refine (wUint w.heap.size bw seed (num n) w2 H2.out.2 hz2 (by rw [HS.out]; exact H.out.ok.seed) (by have := num_length n (by omega); omega)).mono ?_
  rintro e w3 ⟨rfl, hb3, ha3, _⟩
  have H3 : Hid (Fr [] w w3 ∧ WriterAt w3 w.heap.size bw (encTo t 0)) := ⟨H2.out.1.thenBel hb3 (Nat.le_refl _) (by have := HBW.out; simp; omega), by
    have e : encTo t 0 = num n ++ num seed := by unfold encTo; rw [← HN.out, ← HS.out]; simp
    rw [e]
    exact ha3⟩
  clear q0 q1 hb3 ha3 H2
  obtain ⟨q0, q1⟩ := HTC.out w3 H3.out.1
  go_wp2_with fail
  clear q0 q1 hen
  go_loopw [28] (fun s wx => ∃ i : Nat, i ≤ n ∧ s = .int .i64 i ∧ Hid (Fr [] w wx ∧ WriterAt wx w.heap.size bw (encTo t i))) (fun s _ => n - (intOf s).toNat)
  case atStart => exact ⟨0, by omega, rfl, H3⟩
  case round =>
    obtain ⟨i, hi, rfl, HR⟩ := hrel
    by_cases hlt : i < n
    · obtain ⟨c, hc⟩ : ∃ c, t.cells[i]? = some c := ⟨_, List.getElem?_eq_getElem (by rw [← HN.out]; exact hlt)⟩
      have hcok := H.out.ok.cells c (List.mem_of_getElem? hc)
      obtain ⟨L, HL⟩ : ∃ L, Hid (L = c.cells) := ⟨_, rfl⟩
      obtain ⟨key, HKEY⟩ : ∃ key, Hid (key = c.keys) := ⟨_, rfl⟩
      obtain ⟨cnt, HCN⟩ : ∃ cnt, Hid (cnt = c.count) := ⟨_, rfl⟩
      obtain ⟨chk, HCH⟩ : ∃ chk, Hid (chk = c.checks) := ⟨_, rfl⟩
      have HKL : Hid (key.length = 32) := by show key.length = 32; rw [HKEY.out]; exact hcok.keys
      have HLX : Hid (L.length = 34 ∧ (∀ v ∈ L, v.oneCell' = true) ∧ ∀ j v, L[j]? = some v → wr.cell? ⟨bc, i * 34 + j, none⟩ = some v) := by
        show _ ∧ _ ∧ _
        rw [HL.out]
        refine ⟨BC.cells_len hcok, fun v hv => tcells_one (l := [c]) v (by simpa [tcells] using hv), fun j v hj => ?_⟩
        have hj34 := (List.getElem?_eq_some_iff.1 hj).1
        rw [BC.cells_len hcok] at hj34
        rw [HR.out.1.cell (p := ⟨bc, i * 34 + j, none⟩) hbc (by simp), H.out.cells.cell, tcells_get H.out.ok.cells rest i c hc j hj34]
        exact hj
      have HSU := Lib.hid (encTo_succ hc)
      rw [← HCN.out, ← HKEY.out, ← HCH.out] at HSU
      have HOK := Lib.hid hcok
      have hiI : (i : Int) < (n : Int) := by omega
      have hzr := HR.out.1.size
      have hwl : bw < wr.heap.size := by obtain ⟨v, ha, _⟩ := HR.out.2; exact ha.lt
      clear hc hcok
      go_upto_region 7 with (first
        | (refine wpList_load_at rfl 85 (.tmp 30) rfl bc (i * 34) rfl L _ (fun j v hj => HLX.out.2.2 j v hj) Tryd.underlying85 rfl (by rw [HLX.out.1]; kernel_rfl) ?_)
        | (refine wpList_store_new rfl 85 (.tmp 5) (.tmp 31) rfl rfl 85 _ L rfl (by rw [HLX.out.1]; rfl) (by rw [HLX.out.1]; kernel_rfl) HLX.out.2.1 ?_; intro w4 hf4 ha4))
      obtain ⟨bx, hbx⟩ : ∃ bx, bx = wr.heap.size := ⟨_, rfl⟩
      rw [← hbx] at ha4 ⊢
      have hxw : bx ≠ bw := by omega
      have H4 : Hid (Fr [] w w4 ∧ WriterAt w4 w.heap.size bw (encTo t i) ∧ At w4 bx 85 c.cells) := ⟨HR.out.1.trans hf4, HR.out.2.bel hf4, by rw [← HL.out]; exact ha4⟩
      clear hf4 ha4 hbx
      have hz4 := H4.out.1.size
      have c0 : w4.cell? ⟨bx, 0, none⟩ = some (Value.int .i64 cnt) := by rw [H4.out.2.2.cell, cells_get0, HCN.out]
      go_wp2_with fail
      refine (wInt w.heap.size bw cnt (encTo t i) w4 H4.out.2.1 hz4 (by rw [HCN.out]; exact HOK.out.count.1) (by rw [HCN.out]; exact HOK.out.count.2) (by have := HEL.out i; omega)).mono ?_
      rintro e w5 ⟨rfl, hb5, ha5, ho5⟩
      have H5 : Hid (Fr [] w w5 ∧ WriterAt w5 w.heap.size bw (encTo t i ++ num (zig cnt)) ∧ At w5 bx 85 c.cells) := ⟨H4.out.1.thenBel hb5 (Nat.le_refl _) (by have := HBW.out; simp; omega), ha5, ho5 bx _ _ H4.out.2.2 (by decide) hxw⟩
      clear c0 hb5 ha5 ho5 H4
      have hz5 := H5.out.1.size
      have hsl : ∀ W : World, (Instr.sliceAt 83 (.pointer (some ⟨bx, 1, none⟩)) none none none).run Tryd.prog W = .ok (.slice (some ⟨bx, 1, none⟩) 32 32) W := fun W => by kernel_rfl
      have hst : (convert 34 9 (.slice (some ⟨bx, 1, none⟩) 32 32)).run Tryd.prog w5 = .ok (.string (strOf key)) w5 := by
        have h1 := run_str (P := Tryd.prog) (src := 34) (dst := 9) Tryd.underlying34 Tryd.underlying5 Tryd.underlying9 w5 (some ⟨bx, 1, none⟩) 32 key (fun j v hj => ⟨bx, 1, rfl, H5.out.2.2.lt, by
          rw [H5.out.2.2.cell, Nat.add_comm 1 j, BC.cells, List.getElem?_cons_succ, List.getElem?_append_left (by rw [← HKEY.out]; exact (List.getElem?_eq_some_iff.1 hj).1), ← HKEY.out]
          exact hj⟩)
        rw [HKL.out] at h1
        exact h1
      have HL5 : Hid ((encTo t i ++ num (zig cnt)).length ≤ 200010) := by
        show _ ≤ _
        have h1 := HEL.out i
        have h2 := num_length (zig cnt) (by rw [HCN.out]; exact zig_lt c.count HOK.out.count.1 HOK.out.count.2)
        rw [List.length_append]
        omega
      go_wp2_with fail
      refine (wSum w.heap.size bw key (encTo t i ++ num (zig cnt)) w5 H5.out.2.1 hz5 HKL.out (by have := HL5.out; omega)).mono ?_
      rintro e w6 ⟨rfl, hb6, ha6, ho6⟩
      have H6 : Hid (Fr [] w w6 ∧ WriterAt w6 w.heap.size bw (encTo t i ++ num (zig cnt) ++ key) ∧ At w6 bx 85 c.cells) := ⟨H5.out.1.thenBel hb6 (Nat.le_refl _) (by have := HBW.out; simp; omega), ha6, ho6 bx _ _ H5.out.2.2 (by decide) hxw⟩
      clear hsl hst hb6 ha6 ho6 H5
      have hz6 := H6.out.1.size
      have c33 : w6.cell? ⟨bx, 33, none⟩ = some (.int .u64 (chk : Int)) := by rw [H6.out.2.2.cell, cells_get33 HOK.out.keys, HCH.out]
      go_wp2_with fail
      refine (wUint w.heap.size bw chk (encTo t i ++ num (zig cnt) ++ key) w6 H6.out.2.1 hz6 (by rw [HCH.out]; exact HOK.out.checks) (by have := HL5.out; rw [List.length_append, HKL.out]; omega)).mono ?_
      rintro e w7 ⟨rfl, hb7, ha7, _⟩
      have H7 : Hid (Fr [] w w7 ∧ WriterAt w7 w.heap.size bw (encTo t (i + 1))) := ⟨H6.out.1.thenBel hb7 (Nat.le_refl _) (by have := HBW.out; simp; omega), by rw [HSU.out]; exact ha7⟩
      clear c33 hb7 ha7 H6
      go_wp2_with fail
      go_roundw
      case rel =>
        first
          | exact ⟨i + 1, by omega, by go_num, H7⟩
          | ((repeat apply Exists.intro); exact ⟨⟨i + 1, by omega, by go_num, H7⟩, rfl⟩)
      case measure => simp [intOf] <;> omega
    · obtain rfl : i = n := by omega
      go_wp2_with fail
      refine (wDone w.heap.size bw (encTo t i) wr HR.out.2 (by have := HEL.out i; omega)).mono ?_
      rintro e w8 ⟨v, rfl, ho8⟩
      have H8 := Lib.hid ho8
      obtain ⟨A8, c8, rfl⟩ := ownsRow_form ho8.own
      clear ho8
      go_wp2_with fail
      go_ret
      refine ⟨_, rfl, ?_, HR.out.1.trans H8.out.fr⟩
      have h1 := H8.out.own
      unfold BT.enc
      rw [← HN.out]
      exact ownsRow_base h1 HR.out.1.size

end Go.Proofs.YtnhagokkamobaaaDoor
