/- Contract of sha256.Join. -/
import Derived.Test.YtnhagokkamobaaaDoorSha4
namespace Go.Proofs.YtnhagokkamobaaaDoor
open Go.RowKit

/-- A string as a value. -/
def S8v (p : List UInt8) : Value := .string (strOf p)

/-- '[]byte(s)'. -/
theorem run_bytes (w : World) (p : List UInt8) : ∃ cap W, (convert 9 34 (.string (strOf p))).run Tryd.prog w = .ok (.slice (some ⟨w.heap.size, 0, none⟩) p.length cap) W ∧ p.length ≤ cap ∧ Fr [] w W ∧ RowIn W (some ⟨w.heap.size, 0, none⟩) (B8 p) := by
  have h := run_bytes_of_string (P := Tryd.prog) w 9 34 5 (strOf p) Tryd.underlying9 Tryd.underlying34 Tryd.underlying5
  have hs : (strOf p).size = p.length := by simp [strOf, ByteArray.size]
  rw [hs] at h
  refine ⟨_, _, h, grownCap_ge _ _ _ _, ((Fr.refl [] w).drew.alloc _), fun i u hu => ⟨_, _, rfl, ?_, ?_⟩⟩
  · show w.heap.size < (w.heap.push _).size
    simp
  · have hi := (List.getElem?_eq_some_iff.1 hu).1
    rw [B8_length] at hi
    have e : (w.drew.alloc (.cells (bytesRow (strOf p) (grownCap w p.length 0 5)) 5 ((bytesRow (strOf p) (grownCap w p.length 0 5)).size, (bytesRow (strOf p) (grownCap w p.length 0 5)).size + 1))).heap[w.heap.size]? = some (.cells (bytesRow (strOf p) (grownCap w p.length 0 5)) 5 ((bytesRow (strOf p) (grownCap w p.length 0 5)).size, (bytesRow (strOf p) (grownCap w p.length 0 5)).size + 1)) := heap_alloc_new w.drew _
    have e2 : (bytesRow (strOf p) (grownCap w p.length 0 5))[i]? = some u := by
      unfold bytesRow strOf
      rw [Array.getElem?_append_left (by simpa using hi)]
      simpa [B8] using hu
    unfold World.cell?
    rw [e]
    simp [e2]

set_option maxRecDepth 100000 in
set_option maxHeartbeats 1000000 in
theorem shaJoin_any (A : Option Addr) (c : Nat) (ps : List (List UInt8)) (w : World) (hv : Vars w) (hrow : RowIn w A (ps.map S8v)) (hl : ps.flatten.length ≤ 549755813888) (hn : ps.length ≤ 1000) :
    Calls Tryd.prog 81 #[.slice A ps.length c] w fun e w' => e = .returned (.string (strOf (sha ps.flatten))) ∧ Fr [] w w' := by
  have H := Lib.hid (And.intro hv (And.intro hrow hl))
  clear hv hrow hl
  obtain ⟨m, HM⟩ : ∃ m, Hid (m = ps.length) := ⟨_, rfl⟩
  rw [← HM.out] at hn ⊢
  go_enter Tryd.func81, Tryd.ntmps81
  go_wp2_with fail
  refine (shaNew_any w H.out.1).mono ?_
  rintro e w1 ⟨rfl, hf1, hs1⟩
  obtain ⟨bs, hbs⟩ : ∃ bs, bs = w.heap.size := ⟨_, rfl⟩
  rw [← hbs] at hs1 ⊢
  have hb2 : 2 ≤ bs := by rw [hbs]; exact H.out.1.lt
  have HB := Lib.hid hbs
  have H1 := Lib.hid (And.intro hf1 hs1)
  clear hf1 hs1 hbs
  go_wp2_with fail
  go_loopw [9] (fun i wx => ∃ k : Nat, k ≤ m ∧ i = .int .i64 k ∧ Hid (Fr [] w wx ∧ ShaAt wx bs (ps.take k).flatten)) (fun i _ => m - (intOf i).toNat)
  case atStart => exact ⟨0, by omega, rfl, H1⟩
  case round =>
    obtain ⟨k, hk, rfl, HR⟩ := hrel
    by_cases hlt : k < m
    · obtain ⟨p, hp⟩ : ∃ p, ps[k]? = some p := ⟨_, List.getElem?_eq_getElem (by rw [← HM.out]; exact hlt)⟩
      obtain ⟨g, o, rfl, hg, hc⟩ := H.out.2.1 k (S8v p) (by rw [List.getElem?_map, hp]; rfl)
      have hc' : wr.cell? ⟨g, o + k, none⟩ = some (.string (strOf p)) := by rw [HR.out.1.cell (p := ⟨g, o + k, none⟩) hg (by simp)]; exact hc
      have HT : Hid ((ps.take (k + 1)).flatten = (ps.take k).flatten ++ p ∧ ((ps.take k).flatten ++ p).length ≤ 549755813888) := by
        obtain ⟨h1, e1⟩ := List.getElem?_eq_some_iff.1 hp
        have e : (ps.take (k + 1)).flatten = (ps.take k).flatten ++ p := by rw [List.take_succ_eq_append_getElem h1, e1, List.flatten_append]; simp
        refine ⟨e, ?_⟩
        rw [← e]
        refine Nat.le_trans ?_ H.out.2.2
        have : ps.flatten = (ps.take (k + 1)).flatten ++ (ps.drop (k + 1)).flatten := by rw [← List.flatten_append, List.take_append_drop]
        rw [this, List.length_append]
        omega
      obtain ⟨cap, W, hcv, hcap, hfW, hrW⟩ := run_bytes wr p
      have HW : Hid (p.length ≤ cap ∧ Fr [] wr W ∧ RowIn W (some ⟨wr.heap.size, 0, none⟩) (B8 p)) := ⟨hcap, hfW, hrW⟩
      clear hcap hfW hrW hp hc
      have HWR := Lib.hid (shaWrite_any bs (ps.take k).flatten p (some ⟨wr.heap.size, 0, none⟩) cap W (H.out.1.fr (HR.out.1.trans HW.out.2.1) (by simp) (by simp)) hb2 (HR.out.2.fr HW.out.2.1 (by simp)) HW.out.2.2 HW.out.1 (fun g o e => by
        injection e with e
        injection e with e1 e2
        have := HR.out.2.lt
        omega) (by have := HT.out.2; rw [List.length_append] at this; omega))
      have hkI : (k : Int) < (m : Int) := by omega
      go_wp2_with fail
      refine HWR.out.mono ?_
      rintro e w3 ⟨rfl, hf3, hs3⟩
      have HN : Hid (Fr [] w w3 ∧ ShaAt w3 bs (ps.take (k + 1)).flatten) := ⟨((HR.out.1.trans HW.out.2.1).mono (by simp)).trans' hf3 (by have := HB.out; simp; omega), by rw [HT.out.1]; exact hs3⟩
      clear hf3 hs3 HWR HW hcv hc'
      go_wp2_with fail
      go_roundw
      case rel => exact ⟨k + 1, by omega, by go_num, HN⟩
      case measure => simp [intOf]; omega
    · obtain rfl : k = m := by omega
      have HS := Lib.hid (shaSum_any bs (ps.take k).flatten wr (H.out.1.fr HR.out.1 (by simp) (by simp)) HR.out.2 (by rw [HM.out, List.take_length]; exact H.out.2.2))
      go_wp2_with fail
      refine HS.out.mono ?_
      rintro e w3 ⟨rfl, hf3⟩
      go_wp2_with fail
      go_ret
      refine ⟨?_, HR.out.1.trans hf3⟩
      rw [HM.out, List.take_length]
      rfl

end Go.Proofs.YtnhagokkamobaaaDoor
