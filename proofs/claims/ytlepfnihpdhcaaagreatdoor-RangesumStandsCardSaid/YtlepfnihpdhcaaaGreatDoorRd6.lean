/- Contracts of the reader's take and Sum. -/
import Derived.Test.YtlepfnihpdhcaaaGreatDoorRd5
import Derived.Test.YtlepfnihpdhcaaaGreatDoorHoare
namespace Go.Proofs.YtlepfnihpdhcaaaGreatDoor
open Go.RowKit
variable {X : Option Addr × Nat}

theorem Mm.one {w : World} {b : Nat} {t : TypeId} {l : List Value} (h : At w b t l) : Mm w [b] [cAt b t l] w :=
  ⟨Fr.refl _ _, fun c hc => by rw [List.mem_singleton] at hc; subst hc; exact h, by simp [cAt], fun x hx => .inl (by simpa [cAt] using hx)⟩
theorem own_at_ne {w : World} {base : Nat} {e t : TypeId} {sz n : Nat} {v : Value} {xs l : List Value} {b : Nat} (h : w.ownsRow base e sz v n xs) (ha : At w b t l) (hne : e ≠ t) : some b ≠ v.ownBlock := by
  intro hb
  rcases h.2 with ⟨rfl, _⟩ | ⟨g, cap, cur, rfl, _, hg, _⟩
  · simp [Value.ownBlock] at hb
  · have : some b = some g := hb
    injection this with this
    subst this
    unfold At at ha
    rw [hg] at ha
    simp only [Option.some.injEq, Obj.cells.injEq] at ha
    exact hne ha.2.1
theorem ownCap {w : World} {base : Nat} {e : TypeId} {sz : Nat} {A : Option Addr} {m c : Nat} {xs : List Value} (ho : w.ownsRow base e sz (.slice A m c) m xs) : m ≤ c := by
  rcases ho.2 with ⟨hv, h0⟩ | ⟨g, cap, cur, hv, _, _, hnc, _⟩
  · omega
  · simp only [Value.slice.injEq] at hv
    omega
theorem rowPart {w : World} {A : Option Addr} {xs : List UInt8} {c k N : Nat} (h : RowIn w A (B8 xs)) (hc : (B8 xs).length ≤ c) : RowIn w (if c = k then A else A.map (·.add (k * 1))) (B8 ((xs.drop k).take N)) := by
  intro j u hu
  have hj : (B8 xs)[k + j]? = some u := by
    simp only [B8, List.getElem?_map, List.getElem?_take, List.getElem?_drop] at hu ⊢
    split at hu
    · exact hu
    · cases hu
  have hlt := (List.getElem?_eq_some_iff.1 hj).1
  obtain ⟨b, o, hA, hb, hcell⟩ := h _ _ hj
  refine ⟨b, o + k, ?_, hb, by rw [Nat.add_assoc]; exact hcell⟩
  rw [if_neg (by omega), hA]
  show some ((⟨b, o, none⟩ : Addr).add (k * 1)) = _
  rw [add_none, Nat.mul_one]

set_option maxRecDepth 100000 in
theorem take_few (br : Nat) (D : List UInt8) (off last N : Nat) (err : Int) (w : World) (A : Option Addr) (c : Nat) (ha : At w br 146 [.slice A D.length c, Value.int .i64 (off : Int), Value.int .i64 (last : Int), Value.int .i64 err]) (_hl : D.length ≤ 4294967296) (ho : off ≤ D.length) (hN : N ≤ 4294967296) (_hc : D.length ≤ c) (hf : D.length < off + N) :
    Calls Tryz.prog 107 #[Value.pointer (some ⟨br, 0, none⟩), Value.int .i64 (N : Int)] w fun e w' => e = .returned (.tuple #[.slice none 0 0, Value.int .i64 3]) ∧ Fr [br] w w' ∧ At w' br 146 [.slice A D.length c, Value.int .i64 (off : Int), Value.int .i64 (last : Int), Value.int .i64 err] := by
  have HA := Lib.hid ha
  clear ha
  refine stEnter (args := [Value.pointer (some ⟨br, 0, none⟩), Value.int .i64 (N : Int)]) [br] Tryz.func107 rfl 43 rfl [(0, Value.pointer (some ⟨br, 0, none⟩)), (1, Value.int .i64 (N : Int))] ⟨rfl, rfl, trivial⟩ [cAt br 146 [(.slice A (D.length) (c)), (.int .i64 ((off : Nat) : Int)), (.int .i64 ((last : Nat) : Int)), (.int .i64 err)]] (Mm.one HA.out) ?_
  refine stSeq ?_
  refine reg ?_
  refine li rfl (opVal (.slice none 0 0) rfl (by kernel_rfl) (rAssign rfl rfl) ?_)
  refine li rfl (opVal (.int .i64 0) rfl (by kernel_rfl) (rAssign rfl rfl) ?_)
  refine liNil ?_
  refine qThen ?_
  refine stSeq ?_
  refine stSeq ?_
  refine anyBegin [cAt br 146 [(.slice A (D.length) (c)), (.int .i64 ((off : Nat) : Int)), (.int .i64 ((last : Nat) : Int)), (.int .i64 err)]] 12 (by kernel_rfl) (fun _ h => h) ?_
  refine anyVal (i := 0) (.int .i64 ((N : Nat) : Int)) rfl rfl rfl (by kernel_rfl) (by kernel_rfl) (fun _ _ _ h => h) (rMove rfl rfl) ?_
  refine anyVal (i := 1) (.pointer (some ⟨br, 0, none⟩)) rfl rfl rfl (by kernel_rfl) (by kernel_rfl) (fun _ _ _ h => h) (rMove rfl rfl) ?_
  refine anyVal (i := 2) (.pointer (some ⟨br, 0, none⟩)) rfl rfl rfl (by kernel_rfl) (by kernel_rfl) (fun _ _ _ h => h) (rClosed fun _ => by kernel_rfl) ?_
  refine anyVal (i := 3) (.pointer (some ⟨br, 0, none⟩)) rfl rfl rfl (by kernel_rfl) (by kernel_rfl) (fun _ _ _ h => h) (rClosed fun _ => by kernel_rfl) ?_
  refine anyVal (i := 4) (.slice A (D.length) (c)) rfl rfl rfl (by kernel_rfl) (by kernel_rfl) (fun _ _ _ h => h) (rLoad 0 rfl rfl (by kernel_rfl) rfl rfl) ?_
  refine anyVal (i := 5) (.int .i64 ((D.length : Nat) : Int)) rfl rfl rfl (by kernel_rfl) (by kernel_rfl) (fun _ _ _ h => h) (rClosed fun _ => by kernel_rfl) ?_
  refine anyVal (i := 6) (.pointer (some ⟨br, 0, none⟩)) rfl rfl rfl (by kernel_rfl) (by kernel_rfl) (fun _ _ _ h => h) (rMove rfl rfl) ?_
  refine anyVal (i := 7) (.pointer (some ⟨br, 0, none⟩)) rfl rfl rfl (by kernel_rfl) (by kernel_rfl) (fun _ _ _ h => h) (rClosed fun _ => by kernel_rfl) ?_
  refine anyVal (i := 8) (.pointer (some ⟨br, 1, none⟩)) rfl rfl rfl (by kernel_rfl) (by kernel_rfl) (fun _ _ _ h => h) (rClosed fun _ => by kernel_rfl) ?_
  refine anyVal (i := 9) (.int .i64 ((off : Nat) : Int)) rfl rfl rfl (by kernel_rfl) (by kernel_rfl) (fun _ _ _ h => h) (rLoad 0 rfl rfl (by kernel_rfl) rfl rfl) ?_
  refine anyVal (i := 10) (.int .i64 (((D.length : Nat) : Int) - ((off : Nat) : Int))) rfl rfl rfl (by kernel_rfl) (by kernel_rfl) (fun _ _ _ h => h) (rSub _ rfl rfl rfl rfl (by omega) (by omega)) ?_
  refine anyVal (i := 11) (.bool (decide (((N : Nat) : Int) > (((D.length : Nat) : Int) - ((off : Nat) : Int))))) rfl rfl rfl (by kernel_rfl) (by kernel_rfl) (fun _ _ _ h => h) (rClosed fun _ => by kernel_rfl) ?_
  refine anyDone (by kernel_rfl) ?_
  refine qThen ?_
  refine stTrueK rfl (by simp; omega) ?_
  refine stSeq ?_
  refine reg ?_
  refine li rfl (opVal (.slice none 0 0) rfl (by kernel_rfl) (rAssign rfl rfl) ?_)
  refine li rfl (opVal (.int .i64 3) rfl (by kernel_rfl) (rAssign rfl rfl) ?_)
  refine liNil ?_
  refine qThen ?_
  refine stRet ?_
  refine qThenR ?_
  refine stEnd [(.slice none 0 0), (.int .i64 3)] rfl ⟨rfl, rfl, trivial⟩ (fun w hM => ?_)
  exact ⟨rfl, hM.fr, hM.at (i := 0) rfl⟩

set_option maxRecDepth 100000 in
theorem take_ok (br : Nat) (D : List UInt8) (off last N : Nat) (err : Int) (w : World) (A : Option Addr) (c : Nat) (ha : At w br 146 [.slice A D.length c, Value.int .i64 (off : Int), Value.int .i64 (last : Int), Value.int .i64 err]) (hl : D.length ≤ 4294967296) (ho : off ≤ D.length) (hN : N ≤ 4294967296) (hc : D.length ≤ c) (hf : off + N ≤ D.length) :
    Calls Tryz.prog 107 #[Value.pointer (some ⟨br, 0, none⟩), Value.int .i64 (N : Int)] w fun e w' => e = .returned (.tuple #[.slice (if c = off then A else A.map (·.add (off * 1))) N (c - off), Value.int .i64 0]) ∧ Fr [br] w w' ∧ At w' br 146 [.slice A D.length c, Value.int .i64 ((off + N : Nat) : Int), Value.int .i64 (last : Int), Value.int .i64 err] := by
  have HA := Lib.hid ha
  clear ha
  refine stEnter (args := [Value.pointer (some ⟨br, 0, none⟩), Value.int .i64 (N : Int)]) [br] Tryz.func107 rfl 43 rfl [(0, Value.pointer (some ⟨br, 0, none⟩)), (1, Value.int .i64 (N : Int))] ⟨rfl, rfl, trivial⟩ [cAt br 146 [(.slice A (D.length) (c)), (.int .i64 ((off : Nat) : Int)), (.int .i64 ((last : Nat) : Int)), (.int .i64 err)]] (Mm.one HA.out) ?_
  refine stSeq ?_
  refine reg ?_
  refine li rfl (opVal (.slice none 0 0) rfl (by kernel_rfl) (rAssign rfl rfl) ?_)
  refine li rfl (opVal (.int .i64 0) rfl (by kernel_rfl) (rAssign rfl rfl) ?_)
  refine liNil ?_
  refine qThen ?_
  refine stSeq ?_
  refine stSeq ?_
  refine anyBegin [cAt br 146 [(.slice A (D.length) (c)), (.int .i64 ((off : Nat) : Int)), (.int .i64 ((last : Nat) : Int)), (.int .i64 err)]] 12 (by kernel_rfl) (fun _ h => h) ?_
  refine anyVal (i := 0) (.int .i64 ((N : Nat) : Int)) rfl rfl rfl (by kernel_rfl) (by kernel_rfl) (fun _ _ _ h => h) (rMove rfl rfl) ?_
  refine anyVal (i := 1) (.pointer (some ⟨br, 0, none⟩)) rfl rfl rfl (by kernel_rfl) (by kernel_rfl) (fun _ _ _ h => h) (rMove rfl rfl) ?_
  refine anyVal (i := 2) (.pointer (some ⟨br, 0, none⟩)) rfl rfl rfl (by kernel_rfl) (by kernel_rfl) (fun _ _ _ h => h) (rClosed fun _ => by kernel_rfl) ?_
  refine anyVal (i := 3) (.pointer (some ⟨br, 0, none⟩)) rfl rfl rfl (by kernel_rfl) (by kernel_rfl) (fun _ _ _ h => h) (rClosed fun _ => by kernel_rfl) ?_
  refine anyVal (i := 4) (.slice A (D.length) (c)) rfl rfl rfl (by kernel_rfl) (by kernel_rfl) (fun _ _ _ h => h) (rLoad 0 rfl rfl (by kernel_rfl) rfl rfl) ?_
  refine anyVal (i := 5) (.int .i64 ((D.length : Nat) : Int)) rfl rfl rfl (by kernel_rfl) (by kernel_rfl) (fun _ _ _ h => h) (rClosed fun _ => by kernel_rfl) ?_
  refine anyVal (i := 6) (.pointer (some ⟨br, 0, none⟩)) rfl rfl rfl (by kernel_rfl) (by kernel_rfl) (fun _ _ _ h => h) (rMove rfl rfl) ?_
  refine anyVal (i := 7) (.pointer (some ⟨br, 0, none⟩)) rfl rfl rfl (by kernel_rfl) (by kernel_rfl) (fun _ _ _ h => h) (rClosed fun _ => by kernel_rfl) ?_
  refine anyVal (i := 8) (.pointer (some ⟨br, 1, none⟩)) rfl rfl rfl (by kernel_rfl) (by kernel_rfl) (fun _ _ _ h => h) (rClosed fun _ => by kernel_rfl) ?_
  refine anyVal (i := 9) (.int .i64 ((off : Nat) : Int)) rfl rfl rfl (by kernel_rfl) (by kernel_rfl) (fun _ _ _ h => h) (rLoad 0 rfl rfl (by kernel_rfl) rfl rfl) ?_
  refine anyVal (i := 10) (.int .i64 (((D.length : Nat) : Int) - ((off : Nat) : Int))) rfl rfl rfl (by kernel_rfl) (by kernel_rfl) (fun _ _ _ h => h) (rSub _ rfl rfl rfl rfl (by omega) (by omega)) ?_
  refine anyVal (i := 11) (.bool (decide (((N : Nat) : Int) > (((D.length : Nat) : Int) - ((off : Nat) : Int))))) rfl rfl rfl (by kernel_rfl) (by kernel_rfl) (fun _ _ _ h => h) (rClosed fun _ => by kernel_rfl) ?_
  refine anyDone (by kernel_rfl) ?_
  refine qThen ?_
  refine stFalseK rfl (by simp; omega) ?_
  refine stSkip ?_
  refine qThen ?_
  refine stSeq ?_
  refine anyBegin [cAt br 146 [(.slice A (D.length) (c)), (.int .i64 ((off : Nat) : Int)), (.int .i64 ((last : Nat) : Int)), (.int .i64 err)]] 16 (by kernel_rfl) (fun _ h => h) ?_
  refine anyVal (i := 0) (.pointer (some ⟨br, 0, none⟩)) rfl rfl rfl (by kernel_rfl) (by kernel_rfl) (fun _ _ _ h => h) (rMove rfl rfl) ?_
  refine anyVal (i := 1) (.pointer (some ⟨br, 0, none⟩)) rfl rfl rfl (by kernel_rfl) (by kernel_rfl) (fun _ _ _ h => h) (rClosed fun _ => by kernel_rfl) ?_
  refine anyVal (i := 2) (.pointer (some ⟨br, 0, none⟩)) rfl rfl rfl (by kernel_rfl) (by kernel_rfl) (fun _ _ _ h => h) (rClosed fun _ => by kernel_rfl) ?_
  refine anyVal (i := 3) (.slice A (D.length) (c)) rfl rfl rfl (by kernel_rfl) (by kernel_rfl) (fun _ _ _ h => h) (rLoad 0 rfl rfl (by kernel_rfl) rfl rfl) ?_
  refine anyVal (i := 4) (.pointer (some ⟨br, 0, none⟩)) rfl rfl rfl (by kernel_rfl) (by kernel_rfl) (fun _ _ _ h => h) (rMove rfl rfl) ?_
  refine anyVal (i := 5) (.pointer (some ⟨br, 0, none⟩)) rfl rfl rfl (by kernel_rfl) (by kernel_rfl) (fun _ _ _ h => h) (rClosed fun _ => by kernel_rfl) ?_
  refine anyVal (i := 6) (.pointer (some ⟨br, 1, none⟩)) rfl rfl rfl (by kernel_rfl) (by kernel_rfl) (fun _ _ _ h => h) (rClosed fun _ => by kernel_rfl) ?_
  refine anyVal (i := 7) (.int .i64 ((off : Nat) : Int)) rfl rfl rfl (by kernel_rfl) (by kernel_rfl) (fun _ _ _ h => h) (rLoad 0 rfl rfl (by kernel_rfl) rfl rfl) ?_
  refine anyVal (i := 8) (.pointer (some ⟨br, 0, none⟩)) rfl rfl rfl (by kernel_rfl) (by kernel_rfl) (fun _ _ _ h => h) (rMove rfl rfl) ?_
  refine anyVal (i := 9) (.pointer (some ⟨br, 0, none⟩)) rfl rfl rfl (by kernel_rfl) (by kernel_rfl) (fun _ _ _ h => h) (rClosed fun _ => by kernel_rfl) ?_
  refine anyVal (i := 10) (.pointer (some ⟨br, 1, none⟩)) rfl rfl rfl (by kernel_rfl) (by kernel_rfl) (fun _ _ _ h => h) (rClosed fun _ => by kernel_rfl) ?_
  refine anyVal (i := 11) (.int .i64 ((off : Nat) : Int)) rfl rfl rfl (by kernel_rfl) (by kernel_rfl) (fun _ _ _ h => h) (rLoad 0 rfl rfl (by kernel_rfl) rfl rfl) ?_
  refine anyVal (i := 12) (.int .i64 ((N : Nat) : Int)) rfl rfl rfl (by kernel_rfl) (by kernel_rfl) (fun _ _ _ h => h) (rMove rfl rfl) ?_
  refine anyVal (i := 13) (.int .i64 ((off + N : Nat) : Int)) rfl rfl rfl (by kernel_rfl) (by kernel_rfl) (fun _ _ _ h => h) (rAdd _ rfl rfl rfl (by omega) (by omega) (by omega)) ?_
  refine anyVal (i := 14) (.slice (if c = off then A else A.map (·.add (off * 1))) (off + N - off) (c - off)) rfl rfl rfl (by kernel_rfl) (by kernel_rfl) (fun _ _ _ h => h) (rSliceLH (e := 5) (sz := 1) rfl (by kernel_rfl) (by kernel_rfl) rfl rfl rfl (by omega) (by omega)) ?_
  refine anyVal (i := 15) (.slice (if c = off then A else A.map (·.add (off * 1))) (off + N - off) (c - off)) rfl rfl rfl (by kernel_rfl) (by kernel_rfl) (fun _ _ _ h => h) (rAssign rfl rfl) ?_
  refine anyDone (by kernel_rfl) ?_
  refine qThen ?_
  refine stSeq ?_
  refine reg ?_
  refine li rfl (opVal (.pointer (some ⟨br, 0, none⟩)) rfl (by kernel_rfl) (rMove rfl rfl) ?_)
  refine li rfl (opVal (.pointer (some ⟨br, 0, none⟩)) rfl (by kernel_rfl) (rClosed fun _ => by kernel_rfl) ?_)
  refine li rfl (opVal (.pointer (some ⟨br, 1, none⟩)) rfl (by kernel_rfl) (rClosed fun _ => by kernel_rfl) ?_)
  refine li rfl (opVal (.int .i64 ((off : Nat) : Int)) rfl (by kernel_rfl) (rLoad 0 rfl rfl (by kernel_rfl) rfl rfl) ?_)
  refine li rfl (opVal (.int .i64 ((N : Nat) : Int)) rfl (by kernel_rfl) (rMove rfl rfl) ?_)
  refine li rfl (opVal (.int .i64 ((off + N : Nat) : Int)) rfl (by kernel_rfl) (rAdd _ rfl rfl rfl (by omega) (by omega) (by omega)) ?_)
  refine li rfl (opVal (.pointer (some ⟨br, 0, none⟩)) rfl (by kernel_rfl) (rClosed fun _ => by kernel_rfl) ?_)
  refine li rfl (opVal (.pointer (some ⟨br, 1, none⟩)) rfl (by kernel_rfl) (rClosed fun _ => by kernel_rfl) ?_)
  refine li rfl ?_
  refine opStore1 0 rfl rfl (by kernel_rfl) rfl rfl rfl (by kernel_rfl) rfl (by simp) ?_
  refine liNil ?_
  refine qThen ?_
  refine stSeq ?_
  refine reg ?_
  refine li rfl (opVal (.slice (if c = off then A else A.map (·.add (off * 1))) (off + N - off) (c - off)) rfl (by kernel_rfl) (rMove rfl rfl) ?_)
  refine li rfl (opVal (.slice (if c = off then A else A.map (·.add (off * 1))) (off + N - off) (c - off)) rfl (by kernel_rfl) (rAssign rfl rfl) ?_)
  refine li rfl (opVal (.int .i64 0) rfl (by kernel_rfl) (rAssign rfl rfl) ?_)
  refine liNil ?_
  refine qThen ?_
  refine stRet ?_
  refine stEnd [(.slice (if c = off then A else A.map (·.add (off * 1))) (off + N - off) (c - off)), (.int .i64 0)] rfl ⟨rfl, rfl, trivial⟩ (fun w hM => ?_)
  exact ⟨by rw [show off + N - off = N by omega]; rfl, hM.fr, hM.at (i := 0) rfl⟩

set_option maxRecDepth 100000 in
theorem sumc_ok (bx br : Nat) (D : List UInt8) (off last : Nat) (err : Int) (w : World) (hx0 : At w bx 114 [Value.pointer (some ⟨br, 0, none⟩)]) (hr : ReaderAt X w br D off last err) (hl : D.length ≤ 4294967296) (ho : off ≤ D.length) (hf : off + 32 ≤ D.length) :
    Calls Tryz.prog 106 #[Value.pointer (some ⟨bx, 0, none⟩)] w fun e w' => e = .returned (.tuple #[.string (strOf ((D.drop off).take 32)), Value.int .i64 0]) ∧ Fr [br] w w' ∧ ReaderAt X w' br D (off + 32) last err := by
  obtain ⟨A, c, hX, ha, hown⟩ := hr
  have hx : w.cell? ⟨bx, 0, none⟩ = some (Value.pointer (some ⟨br, 0, none⟩)) := by rw [hx0.cell]; rfl
  have hxb : bx ≠ br := hx0.ne ha (by decide)
  have HA := Lib.hid ha
  have HO := Lib.hid hown
  have HR : Hid (RowIn w A (B8 D)) := RowIn.of_own hown
  have hc : D.length ≤ c := ownCap hown
  have HNB : Hid (∀ g, (Value.slice A D.length c).ownBlock = some g → g ∉ [br]) := fun g hg => by
    have h1 := own_at_ne hown ha (by decide)
    simp only [List.mem_singleton]
    rintro rfl
    exact h1 hg.symm
  have HNE : Hid (∀ b o, A = some ⟨b, o, none⟩ → b ∉ [br]) := fun b o hA => HNB.out b (by rw [hA]; rfl)
  clear ha hown hx0
  refine stEnter (args := [Value.pointer (some ⟨bx, 0, none⟩)]) [br] Tryz.func106 rfl 13 rfl [(0, Value.pointer (some ⟨bx, 0, none⟩))] ⟨rfl, trivial⟩ [cAt br 146 [(.slice A (D.length) (c)), (.int .i64 ((off : Nat) : Int)), (.int .i64 ((last : Nat) : Int)), (.int .i64 err)]] (Mm.one HA.out) ?_
  refine stSeq ?_
  refine reg ?_
  refine li rfl (opVal (.string ⟨#[]⟩) rfl (by kernel_rfl) (rAssign rfl rfl) ?_)
  refine li rfl (opVal (.int .i64 0) rfl (by kernel_rfl) (rAssign rfl rfl) ?_)
  refine liNil ?_
  refine qThen ?_
  refine stSeq ?_
  refine reg ?_
  refine li rfl (opVal (.pointer (some ⟨br, 0, none⟩)) rfl (by kernel_rfl) (rLoadW rfl rfl (by kernel_rfl) (fun w hM => hM.old hx (by simpa using hxb))) ?_)
  refine li rfl ?_
  refine opCall 107 #[(.pointer (some ⟨br, 0, none⟩)), (.int .i64 32)] rfl (by kernel_rfl) (fun _ => by kernel_rfl) (fun w hM => ?_)
  refine (take_ok br D off last 32 err w A c (hM.at (i := 0) rfl) hl ho (by omega) hc hf).mono ?_
  rintro e w' ⟨rfl, hf2, ha2⟩
  have hM' := hM.swap 0 (c' := cAt br 146 [(.slice A (D.length) (c)), (.int .i64 ((off + 32 : Nat) : Int)), (.int .i64 ((last : Nat) : Int)), (.int .i64 err)]) rfl hf2 ha2 (fun b hb => .inl hb) (by simp [cAt])
  refine ⟨_, _, rfl, hM', ?_⟩
  clear hM hM' hf2 ha2
  refine li rfl (opVal (.tuple #[(.slice (if c = off then A else A.map (·.add (off * 1))) (32) (c - off)), (.int .i64 0)]) rfl (by kernel_rfl) (rMove rfl rfl) ?_)
  refine li rfl (opVal (.slice (if c = off then A else A.map (·.add (off * 1))) (32) (c - off)) rfl (by kernel_rfl) (rClosed fun _ => by kernel_rfl) ?_)
  refine li rfl (opVal (.int .i64 0) rfl (by kernel_rfl) (rClosed fun _ => by kernel_rfl) ?_)
  refine li rfl (opVal (.slice (if c = off then A else A.map (·.add (off * 1))) (32) (c - off)) rfl (by kernel_rfl) (rAssign rfl rfl) ?_)
  refine li rfl (opVal (.int .i64 0) rfl (by kernel_rfl) (rAssign rfl rfl) ?_)
  refine liNil ?_
  refine qThen ?_
  refine stSeq ?_
  refine reg ?_
  refine li rfl (opVal (.slice (if c = off then A else A.map (·.add (off * 1))) (32) (c - off)) rfl (by kernel_rfl) (rMove rfl rfl) ?_)
  refine li rfl (opVal (.string (strOf ((D.drop off).take 32))) rfl (by kernel_rfl) (rStr (e := 5) ((D.drop off).take 32) rfl (by kernel_rfl) (by kernel_rfl) (by kernel_rfl) rfl (by rw [List.length_take, List.length_drop]; omega) (fun w hM => rowPart (HR.out.fr hM.fr HNE.out) (by rw [B8_length]; exact hc))) ?_)
  refine li rfl (opVal (.int .i64 0) rfl (by kernel_rfl) (rMove rfl rfl) ?_)
  refine li rfl (opVal (.string (strOf ((D.drop off).take 32))) rfl (by kernel_rfl) (rAssign rfl rfl) ?_)
  refine li rfl (opVal (.int .i64 0) rfl (by kernel_rfl) (rAssign rfl rfl) ?_)
  refine liNil ?_
  refine qThen ?_
  refine stRet ?_
  refine stEnd [(.string (strOf ((D.drop off).take 32))), (.int .i64 0)] rfl ⟨rfl, rfl, trivial⟩ (fun w hM => ?_)
  exact ⟨rfl, hM.fr, A, c, hX, hM.at (i := 0) rfl, ownsRow_fr HO.out hM.fr HNB.out⟩

set_option maxRecDepth 100000 in
theorem sumc_few (bx br : Nat) (D : List UInt8) (off last : Nat) (err : Int) (w : World) (hx0 : At w bx 114 [Value.pointer (some ⟨br, 0, none⟩)]) (hr : ReaderAt X w br D off last err) (hl : D.length ≤ 4294967296) (ho : off ≤ D.length) (hf : D.length < off + 32) :
    Calls Tryz.prog 106 #[Value.pointer (some ⟨bx, 0, none⟩)] w fun e w' => e = .returned (.tuple #[.string (strOf []), Value.int .i64 3]) ∧ Fr [br] w w' ∧ ReaderAt X w' br D off last err := by
  obtain ⟨A, c, hX, ha, hown⟩ := hr
  have hx : w.cell? ⟨bx, 0, none⟩ = some (Value.pointer (some ⟨br, 0, none⟩)) := by rw [hx0.cell]; rfl
  have hxb : bx ≠ br := hx0.ne ha (by decide)
  have HA := Lib.hid ha
  have HO := Lib.hid hown
  have HR : Hid (RowIn w A (B8 D)) := RowIn.of_own hown
  have hc : D.length ≤ c := ownCap hown
  have HNB : Hid (∀ g, (Value.slice A D.length c).ownBlock = some g → g ∉ [br]) := fun g hg => by
    have h1 := own_at_ne hown ha (by decide)
    simp only [List.mem_singleton]
    rintro rfl
    exact h1 hg.symm
  have HNE : Hid (∀ b o, A = some ⟨b, o, none⟩ → b ∉ [br]) := fun b o hA => HNB.out b (by rw [hA]; rfl)
  clear ha hown hx0
  refine stEnter (args := [Value.pointer (some ⟨bx, 0, none⟩)]) [br] Tryz.func106 rfl 13 rfl [(0, Value.pointer (some ⟨bx, 0, none⟩))] ⟨rfl, trivial⟩ [cAt br 146 [(.slice A (D.length) (c)), (.int .i64 ((off : Nat) : Int)), (.int .i64 ((last : Nat) : Int)), (.int .i64 err)]] (Mm.one HA.out) ?_
  refine stSeq ?_
  refine reg ?_
  refine li rfl (opVal (.string ⟨#[]⟩) rfl (by kernel_rfl) (rAssign rfl rfl) ?_)
  refine li rfl (opVal (.int .i64 0) rfl (by kernel_rfl) (rAssign rfl rfl) ?_)
  refine liNil ?_
  refine qThen ?_
  refine stSeq ?_
  refine reg ?_
  refine li rfl (opVal (.pointer (some ⟨br, 0, none⟩)) rfl (by kernel_rfl) (rLoadW rfl rfl (by kernel_rfl) (fun w hM => hM.old hx (by simpa using hxb))) ?_)
  refine li rfl ?_
  refine opCall 107 #[(.pointer (some ⟨br, 0, none⟩)), (.int .i64 32)] rfl (by kernel_rfl) (fun _ => by kernel_rfl) (fun w hM => ?_)
  refine (take_few br D off last 32 err w A c (hM.at (i := 0) rfl) hl ho (by omega) hc hf).mono ?_
  rintro e w' ⟨rfl, hf2, ha2⟩
  have hM' := hM.swap 0 (c' := cAt br 146 [(.slice A (D.length) (c)), (.int .i64 ((off : Nat) : Int)), (.int .i64 ((last : Nat) : Int)), (.int .i64 err)]) rfl hf2 ha2 (fun b hb => .inl hb) (by simp [cAt])
  refine ⟨_, _, rfl, hM', ?_⟩
  clear hM hM' hf2 ha2
  refine li rfl (opVal (.tuple #[(.slice none 0 0), (.int .i64 3)]) rfl (by kernel_rfl) (rMove rfl rfl) ?_)
  refine li rfl (opVal (.slice none 0 0) rfl (by kernel_rfl) (rClosed fun _ => by kernel_rfl) ?_)
  refine li rfl (opVal (.int .i64 3) rfl (by kernel_rfl) (rClosed fun _ => by kernel_rfl) ?_)
  refine li rfl (opVal (.slice none 0 0) rfl (by kernel_rfl) (rAssign rfl rfl) ?_)
  refine li rfl (opVal (.int .i64 3) rfl (by kernel_rfl) (rAssign rfl rfl) ?_)
  refine liNil ?_
  refine qThen ?_
  refine stSeq ?_
  refine reg ?_
  refine li rfl (opVal (.slice none 0 0) rfl (by kernel_rfl) (rMove rfl rfl) ?_)
  refine li rfl (opVal (.string (strOf [])) rfl (by kernel_rfl) (rStr (e := 5) [] rfl (by kernel_rfl) (by kernel_rfl) (by kernel_rfl) rfl rfl (fun w hM j v hj => by simp [B8] at hj)) ?_)
  refine li rfl (opVal (.int .i64 3) rfl (by kernel_rfl) (rMove rfl rfl) ?_)
  refine li rfl (opVal (.string (strOf [])) rfl (by kernel_rfl) (rAssign rfl rfl) ?_)
  refine li rfl (opVal (.int .i64 3) rfl (by kernel_rfl) (rAssign rfl rfl) ?_)
  refine liNil ?_
  refine qThen ?_
  refine stRet ?_
  refine stEnd [(.string (strOf [])), (.int .i64 3)] rfl ⟨rfl, rfl, trivial⟩ (fun w hM => ?_)
  exact ⟨rfl, hM.fr, A, c, hX, hM.at (i := 0) rfl, ownsRow_fr HO.out hM.fr HNB.out⟩
/-- The deferred closure of readValue[string]: the reader's last offset is set. -/
theorem rvClose_ok_Sum (b0 b1 b2 br : Nat) (A : Option Addr) (n c : Nat) (off last start : Int) (w : World) (h0 : At w b0 3 [Value.int .i64 start]) (h1 : At w b1 114 [Value.pointer (some ⟨br, 0, none⟩)]) (hr : At w br 146 [.slice A n c, Value.int .i64 off, Value.int .i64 last, Value.int .i64 0]) :
    CallsD Tryz.prog 121 #[Value.pointer (some ⟨b0, 0, none⟩), Value.pointer (some ⟨b1, 0, none⟩), Value.pointer (some ⟨b2, 0, none⟩)] .returning w fun e u' w' => u' = .returning ∧ e = .returned (.tuple #[]) ∧ w' = w.setCell ⟨br, 2, none⟩ (Value.int .i64 start) := by
  have c0 : w.cell? ⟨b0, 0, none⟩ = some (Value.int .i64 start) := by rw [h0.cell]; rfl
  have c1 : w.cell? ⟨b1, 0, none⟩ = some (Value.pointer (some ⟨br, 0, none⟩)) := by rw [h1.cell]; rfl
  have c2 : w.cell? ⟨br, 2, none⟩ = some (Value.int .i64 last) := by rw [hr.cell]; rfl
  have c3 : w.cell? ⟨br, 3, none⟩ = some (Value.int .i64 0) := by rw [hr.cell]; rfl
  have z2 := hr.frozen 2
  have hne : b1 ≠ br := h1.ne hr (by decide)
  clear h0 h1 hr
  go_enter_d Tryz.func121, Tryz.ntmps121
  go_wp2_with fail
  go_end0
  exact ⟨rfl, rfl⟩

/-- .. where there is an error, the offset and the value are set back. -/
theorem rvClose_err_Sum (b0 b1 b2 br : Nat) (A : Option Addr) (n c : Nat) (off last start err : Int) (v : Value) (w : World) (h0 : At w b0 3 [Value.int .i64 start]) (h1 : At w b1 114 [Value.pointer (some ⟨br, 0, none⟩)]) (h2 : At w b2 9 [v]) (hr : At w br 146 [.slice A n c, Value.int .i64 off, Value.int .i64 last, Value.int .i64 err]) (he : err ≠ 0) (hb : b2 ≠ b0 ∧ b2 ≠ br) :
    CallsD Tryz.prog 121 #[Value.pointer (some ⟨b0, 0, none⟩), Value.pointer (some ⟨b1, 0, none⟩), Value.pointer (some ⟨b2, 0, none⟩)] .returning w fun e u' w' => u' = .returning ∧ e = .returned (.tuple #[]) ∧ w' = ((w.setCell ⟨br, 2, none⟩ (Value.int .i64 start)).setCell ⟨br, 1, none⟩ (Value.int .i64 start)).setCell ⟨b2, 0, none⟩ (Value.string ⟨#[]⟩) := by
  have c0 : w.cell? ⟨b0, 0, none⟩ = some (Value.int .i64 start) := by rw [h0.cell]; rfl
  have c1 : w.cell? ⟨b1, 0, none⟩ = some (Value.pointer (some ⟨br, 0, none⟩)) := by rw [h1.cell]; rfl
  have cr1 : w.cell? ⟨br, 1, none⟩ = some (Value.int .i64 off) := by rw [hr.cell]; rfl
  have c2 : w.cell? ⟨br, 2, none⟩ = some (Value.int .i64 last) := by rw [hr.cell]; rfl
  have c3 : w.cell? ⟨br, 3, none⟩ = some (Value.int .i64 err) := by rw [hr.cell]; rfl
  have c4 : w.cell? ⟨b2, 0, none⟩ = some v := by rw [h2.cell]; rfl
  have z2 := hr.frozen 2
  have z1 := hr.frozen 1
  have z4 := h2.frozen 0
  have hne : b1 ≠ br := h1.ne hr (by decide)
  have hne2 : b2 ≠ br := hb.2
  have hne0 : b0 ≠ br := h0.ne hr (by decide)
  have heb : (err != 0) = true := by simpa using he
  clear h0 h1 hr h2 he hb
  go_enter_d Tryz.func121, Tryz.ntmps121
  go_wp2_with fail
  go_end0
  exact ⟨rfl, rfl⟩

set_option maxRecDepth 100000 in
set_option maxHeartbeats 4000000 in
theorem readSum_some (br : Nat) (D : List UInt8) (off last m : Nat) (x : List UInt8) (bx : Nat) (w : World) (hr : ReaderAt X w br D off last 0)
    (hdec : ∀ W, Fr [] w W → ReaderAt X W br D off last 0 → Calls Tryz.prog 106 #[Value.pointer (some ⟨bx, 0, none⟩)] W fun e w' => e = .returned (.tuple #[Value.string (strOf x), Value.int .i64 0]) ∧ Fr [br] W w' ∧ ReaderAt X w' br D m last 0) :
    Calls Tryz.prog 102 #[Value.pointer (some ⟨br, 0, none⟩), .func (.func 106) #[] #[Value.pointer (some ⟨bx, 0, none⟩)]] w fun e w' => e = .returned (Value.string (strOf x)) ∧ Fr [br] w w' ∧ ReaderAt X w' br D m off 0 := by
  obtain ⟨A, c, hX, ha, hrow⟩ := hr
  have c1 : w.cell? ⟨br, 1, none⟩ = some (Value.int .i64 (off : Int)) := by rw [ha.cell]; rfl
  have c3 : w.cell? ⟨br, 3, none⟩ = some (Value.int .i64 0) := by rw [ha.cell]; rfl
  have hlt := ha.lt
  have HR := Lib.hid (And.intro ha hrow)
  have HD := Lib.hid hdec
  clear ha hrow hdec
  have hmf : ∀ (fn : Fn) (first cap : Array Value) (w : World), (Instr.makeFunc fn first cap).run Tryz.prog w = .ok (.func fn first cap) w := fun _ _ _ _ => rfl
  go_enter_defers Tryz.func102, Tryz.ntmps102
  go_wp2_with fail
  obtain ⟨W, hW⟩ : ∃ W, W = ((w.alloc (Obj.cells #[Value.pointer (some ⟨br, 0, none⟩)] 114)).alloc (Obj.cells #[Value.string ⟨#[]⟩] 9)).alloc (Obj.cells #[Value.int .i64 (off : Int)] 3) := ⟨_, rfl⟩
  rw [← hW]
  have HW : Hid (At W w.heap.size 114 [Value.pointer (some ⟨br, 0, none⟩)] ∧ At W (w.heap.size + 1) 9 [Value.string ⟨#[]⟩] ∧ At W (w.heap.size + 1 + 1) 3 [Value.int .i64 (off : Int)] ∧ Fr [] w W ∧ ReaderAt X W br D off last 0) := by
    rw [hW]
    refine ⟨((At.new w 114 [Value.pointer (some ⟨br, 0, none⟩)]).alloc _).alloc _, ?_, ?_, (((Fr.refl _ _).alloc _).alloc _).alloc _, A, c, hX, ((HR.out.1.alloc _).alloc _).alloc _, ((HR.out.2.alloc _).alloc _).alloc _⟩
    · have := (At.new (w.alloc (Obj.cells #[Value.pointer (some ⟨br, 0, none⟩)] 114)) 9 [Value.string ⟨#[]⟩]).alloc (Obj.cells #[Value.int .i64 (off : Int)] 3)
      simpa using this
    · have := At.new ((w.alloc (Obj.cells #[Value.pointer (some ⟨br, 0, none⟩)] 114)).alloc (Obj.cells #[Value.string ⟨#[]⟩] 9)) 3 [Value.int .i64 (off : Int)]
      simpa using this
  clear hW c1 c3
  have d0 : W.cell? ⟨w.heap.size, 0, none⟩ = some (Value.pointer (some ⟨br, 0, none⟩)) := by rw [HW.out.1.cell]; rfl
  have nb1 : w.heap.size ≠ br := by omega
  have nb2 : br ≠ w.heap.size := by omega
  go_region_held3 (fun w' => w'.cell? ⟨w.heap.size, 0, none⟩ = some (Value.pointer (some ⟨br, 0, none⟩))) (go_keep) (first | (go_at_call 106; refine (HD.out W.drew (by exact HW.out.2.2.2.1.drew) (by exact HW.out.2.2.2.2)).mono ?_; rintro e w1 ⟨rfl, hf1, hr1⟩; obtain ⟨e0, e1, z1, e3, z3⟩ := rv_cells (W := W) HW.out.1 HW.out.2.1 HW.out.2.2.2.2 hf1 hr1; have H1 := Lib.hid (And.intro hf1 hr1); clear hf1 hr1))
  go_wp2_with fail
  obtain ⟨k0, k1, k2, k3, kf⟩ := rv_end HW.out.1 HW.out.2.1 HW.out.2.2.1 HW.out.2.2.2.2 H1.out.1 H1.out.2 (Value.string (strOf x)) (Value.int .i64 0) (by omega) (by decide)
  refine leaves_cons (f := 121) (args := #[Value.pointer (some ⟨w.heap.size + 1 + 1, 0, none⟩), Value.pointer (some ⟨w.heap.size, 0, none⟩), Value.pointer (some ⟨w.heap.size + 1, 0, none⟩)]) (by simp) (by simp [go_sem]) ?_
  obtain ⟨A', c', hX', k3'⟩ := k3
  refine (rvClose_ok_Sum _ _ _ br A' _ c' _ _ _ _ k2 k0 k3'.1).mono ?_
  rintro e u' w'' ⟨rfl, rfl, rfl⟩
  obtain ⟨g1, g2, g3⟩ := rv_done (off := off) HW.out.2.2.2.1 kf (by omega) k1 (by decide) k3'.1 k3'.2 hX'
  exact ⟨Value.string (strOf x), by simp [results, Tryz.results102, go_sem, g1], rfl, g2, g3⟩

set_option maxRecDepth 100000 in
set_option maxHeartbeats 4000000 in
theorem readSum_none (br : Nat) (D : List UInt8) (off last : Nat) (er : Int) (x : List UInt8) (bx : Nat) (w : World) (hr : ReaderAt X w br D off last 0) (he : er ≠ 0)
    (hdec : ∀ W, Fr [] w W → ReaderAt X W br D off last 0 → Calls Tryz.prog 106 #[Value.pointer (some ⟨bx, 0, none⟩)] W fun e w' => e = .returned (.tuple #[Value.string (strOf x), Value.int .i64 er]) ∧ Fr [br] W w' ∧ ∃ off' : Nat, ReaderAt X w' br D off' last 0) :
    Calls Tryz.prog 102 #[Value.pointer (some ⟨br, 0, none⟩), .func (.func 106) #[] #[Value.pointer (some ⟨bx, 0, none⟩)]] w fun e w' => e = .returned (Value.string ⟨#[]⟩) ∧ Fr [br] w w' ∧ ReaderAt X w' br D off off er := by
  have HE := Lib.hid he
  clear he
  obtain ⟨A, c, hX, ha, hrow⟩ := hr
  have c1 : w.cell? ⟨br, 1, none⟩ = some (Value.int .i64 (off : Int)) := by rw [ha.cell]; rfl
  have c3 : w.cell? ⟨br, 3, none⟩ = some (Value.int .i64 0) := by rw [ha.cell]; rfl
  have hlt := ha.lt
  have HR := Lib.hid (And.intro ha hrow)
  have HD := Lib.hid hdec
  clear ha hrow hdec
  have hmf : ∀ (fn : Fn) (first cap : Array Value) (w : World), (Instr.makeFunc fn first cap).run Tryz.prog w = .ok (.func fn first cap) w := fun _ _ _ _ => rfl
  go_enter_defers Tryz.func102, Tryz.ntmps102
  go_wp2_with fail
  obtain ⟨W, hW⟩ : ∃ W, W = ((w.alloc (Obj.cells #[Value.pointer (some ⟨br, 0, none⟩)] 114)).alloc (Obj.cells #[Value.string ⟨#[]⟩] 9)).alloc (Obj.cells #[Value.int .i64 (off : Int)] 3) := ⟨_, rfl⟩
  rw [← hW]
  have HW : Hid (At W w.heap.size 114 [Value.pointer (some ⟨br, 0, none⟩)] ∧ At W (w.heap.size + 1) 9 [Value.string ⟨#[]⟩] ∧ At W (w.heap.size + 1 + 1) 3 [Value.int .i64 (off : Int)] ∧ Fr [] w W ∧ ReaderAt X W br D off last 0) := by
    rw [hW]
    refine ⟨((At.new w 114 [Value.pointer (some ⟨br, 0, none⟩)]).alloc _).alloc _, ?_, ?_, (((Fr.refl _ _).alloc _).alloc _).alloc _, A, c, hX, ((HR.out.1.alloc _).alloc _).alloc _, ((HR.out.2.alloc _).alloc _).alloc _⟩
    · have := (At.new (w.alloc (Obj.cells #[Value.pointer (some ⟨br, 0, none⟩)] 114)) 9 [Value.string ⟨#[]⟩]).alloc (Obj.cells #[Value.int .i64 (off : Int)] 3)
      simpa using this
    · have := At.new ((w.alloc (Obj.cells #[Value.pointer (some ⟨br, 0, none⟩)] 114)).alloc (Obj.cells #[Value.string ⟨#[]⟩] 9)) 3 [Value.int .i64 (off : Int)]
      simpa using this
  clear hW c1 c3
  have d0 : W.cell? ⟨w.heap.size, 0, none⟩ = some (Value.pointer (some ⟨br, 0, none⟩)) := by rw [HW.out.1.cell]; rfl
  have nb1 : w.heap.size ≠ br := by omega
  have nb2 : br ≠ w.heap.size := by omega
  go_region_held3 (fun w' => w'.cell? ⟨w.heap.size, 0, none⟩ = some (Value.pointer (some ⟨br, 0, none⟩))) (go_keep) (first | (go_at_call 106; refine (HD.out W.drew (by exact HW.out.2.2.2.1.drew) (by exact HW.out.2.2.2.2)).mono ?_; rintro e w1 ⟨rfl, hf1, off', hr1⟩; obtain ⟨e0, e1, z1, e3, z3⟩ := rv_cells (W := W) HW.out.1 HW.out.2.1 HW.out.2.2.2.2 hf1 hr1; have H1 := Lib.hid (And.intro hf1 hr1); clear hf1 hr1))
  go_wp2_with fail
  obtain ⟨k0, k1, k2, k3, kf⟩ := rv_end HW.out.1 HW.out.2.1 HW.out.2.2.1 HW.out.2.2.2.2 H1.out.1 H1.out.2 (Value.string (strOf x)) (Value.int .i64 er) (by omega) (by decide)
  refine leaves_cons (f := 121) (args := #[Value.pointer (some ⟨w.heap.size + 1 + 1, 0, none⟩), Value.pointer (some ⟨w.heap.size, 0, none⟩), Value.pointer (some ⟨w.heap.size + 1, 0, none⟩)]) (by simp) (by simp [go_sem]) ?_
  obtain ⟨A', c', hX', k3'⟩ := k3
  refine (rvClose_err_Sum _ _ _ br A' _ c' _ _ _ er (Value.string (strOf x)) _ k2 k0 k1 k3'.1 HE.out (by omega)).mono ?_
  rintro e u' w'' ⟨rfl, rfl, rfl⟩
  obtain ⟨g1, g2, g3⟩ := rv_failed (off := off) (z := Value.string ⟨#[]⟩) HW.out.2.2.2.1 kf (by omega) k1 (by decide) (by decide) k3'.1 k3'.2 hX'
  exact ⟨Value.string ⟨#[]⟩, by simp [results, Tryz.results102, go_sem, g1], rfl, g2, g3⟩

set_option maxRecDepth 100000 in
theorem readSum_err (br : Nat) (r : Rd) (fv : Value) (w : World) (hr : RdAt X w br r) (h0 : r.err ≠ 0) :
    Calls Tryz.prog 102 #[Value.pointer (some ⟨br, 0, none⟩), fv] w fun e w' => e = .returned (Value.string ⟨#[]⟩) ∧ Fr [] w w' ∧ RdAt X w' br r := by
  have hr0 := hr
  obtain ⟨A, c, hX, ha, hrow⟩ := hr
  have c3 : w.cell? ⟨br, 3, none⟩ = some (Value.int .i64 r.err) := by rw [ha.cell]; rfl
  have hb : (r.err != 0) = true := by simpa using h0
  have hlt := ha.lt
  have HR := Lib.hid hr0
  clear ha hrow hr0 h0
  go_enter_defers Tryz.func102, Tryz.ntmps102
  go_wp2_with fail
  have hf : Fr [] w ((w.alloc (Obj.cells #[Value.pointer (some ⟨br, 0, none⟩)] 114)).alloc (Obj.cells #[Value.string ⟨#[]⟩] 9)) := ((Fr.refl _ _).alloc _).alloc _
  exact ⟨Value.string ⟨#[]⟩, by simp [results, Tryz.results102, go_sem], rfl, hf, ReaderAt.fr HR.out hf⟩



/-- The reader's Sum. -/
def Rd.sum (r : Rd) : List UInt8 × Rd := if r.err = 0 then (if r.off + 32 ≤ r.D.length then ((r.D.drop r.off).take 32, r.done (r.off + 32)) else ([], r.fail 3)) else ([], r)

set_option maxRecDepth 100000 in
theorem rSum_err (br : Nat) (r : Rd) (w : World) (hr : RdAt X w br r) (hk : r.Ok) (h0 : r.err ≠ 0) :
    Calls Tryz.prog 91 #[Value.pointer (some ⟨br, 0, none⟩)] w fun e w' => e = .returned (.string (strOf r.sum.1)) ∧ Fr [br] w w' ∧ RdAt X w' br r.sum.2 := by
  have HR := Lib.hid hr
  have HK := Lib.hid hk
  clear hr hk
  refine stEnter (args := [Value.pointer (some ⟨br, 0, none⟩)]) [] Tryz.func91 rfl 6 rfl [(0, Value.pointer (some ⟨br, 0, none⟩))] ⟨rfl, trivial⟩ [] (Mm.start w []) ?_
  refine stSeq ?_
  refine reg ?_
  refine li rfl ?_
  refine opBox [(.pointer (some ⟨br, 0, none⟩))] rfl rfl (by kernel_rfl) rfl rfl (fun b1 => ?_)
  refine li rfl (opVal (.string ⟨#[]⟩) rfl (by kernel_rfl) (rAssign rfl rfl) ?_)
  refine liNil ?_
  refine qThen ?_
  refine stSeq ?_
  refine reg ?_
  refine li rfl (opVal (.pointer (some ⟨br, 0, none⟩)) rfl (by kernel_rfl) (rLoad 0 rfl rfl (by kernel_rfl) rfl rfl) ?_)
  refine li rfl (opVal (.func (.func 106) #[] #[(.pointer (some ⟨b1, 0, none⟩))]) rfl (by kernel_rfl) (rClosed fun _ => by kernel_rfl) ?_)
  refine li rfl ?_
  refine opCallB 102 #[(.pointer (some ⟨br, 0, none⟩)), (.func (.func 106) #[] #[(.pointer (some ⟨b1, 0, none⟩))])] rfl (by kernel_rfl) (fun _ => by kernel_rfl) (fun w1 hM => ?_)
  have HR1 : Hid (RdAt X w1 br r) := ReaderAt.fr HR.out hM.fr
  have HB1 : Hid (At w1 b1 114 [Value.pointer (some ⟨br, 0, none⟩)]) := hM.at (i := 0) rfl
  have HF1 := Lib.hid hM.fr
  refine (readSum_err br r _ w1 HR1.out h0).mono ?_
  rintro e w2 ⟨rfl, hf, hr2⟩
  refine ⟨_, w2, [], [], rfl, Mm.start w2 [], ?_⟩
  clear hM
  refine li rfl (opVal (.string ⟨#[]⟩) rfl (by kernel_rfl) (rAssign rfl rfl) ?_)
  refine liNil ?_
  refine qThen ?_
  refine stRet ?_
  refine stEnd [(.string ⟨#[]⟩)] rfl ⟨rfl, trivial⟩ (fun w hM => ?_)
  exact ⟨by unfold Rd.sum; rw [if_neg h0]; rfl, ((HF1.out.trans hf).trans hM.fr).mono (by simp), by unfold Rd.sum; rw [if_neg h0]; exact ReaderAt.fr hr2 hM.fr⟩

set_option maxRecDepth 100000 in
theorem rSum_ok (br : Nat) (r : Rd) (w : World) (hr : RdAt X w br r) (hk : r.Ok) (h0 : r.err = 0) (hf32 : r.off + 32 ≤ r.D.length) :
    Calls Tryz.prog 91 #[Value.pointer (some ⟨br, 0, none⟩)] w fun e w' => e = .returned (.string (strOf r.sum.1)) ∧ Fr [br] w w' ∧ RdAt X w' br r.sum.2 := by
  have HR := Lib.hid hr
  have HK := Lib.hid hk
  clear hr hk
  refine stEnter (args := [Value.pointer (some ⟨br, 0, none⟩)]) [] Tryz.func91 rfl 6 rfl [(0, Value.pointer (some ⟨br, 0, none⟩))] ⟨rfl, trivial⟩ [] (Mm.start w []) ?_
  refine stSeq ?_
  refine reg ?_
  refine li rfl ?_
  refine opBox [(.pointer (some ⟨br, 0, none⟩))] rfl rfl (by kernel_rfl) rfl rfl (fun b1 => ?_)
  refine li rfl (opVal (.string ⟨#[]⟩) rfl (by kernel_rfl) (rAssign rfl rfl) ?_)
  refine liNil ?_
  refine qThen ?_
  refine stSeq ?_
  refine reg ?_
  refine li rfl (opVal (.pointer (some ⟨br, 0, none⟩)) rfl (by kernel_rfl) (rLoad 0 rfl rfl (by kernel_rfl) rfl rfl) ?_)
  refine li rfl (opVal (.func (.func 106) #[] #[(.pointer (some ⟨b1, 0, none⟩))]) rfl (by kernel_rfl) (rClosed fun _ => by kernel_rfl) ?_)
  refine li rfl ?_
  refine opCallB 102 #[(.pointer (some ⟨br, 0, none⟩)), (.func (.func 106) #[] #[(.pointer (some ⟨b1, 0, none⟩))])] rfl (by kernel_rfl) (fun _ => by kernel_rfl) (fun w1 hM => ?_)
  have HR1 : Hid (RdAt X w1 br r) := ReaderAt.fr HR.out hM.fr
  have HB1 : Hid (At w1 b1 114 [Value.pointer (some ⟨br, 0, none⟩)]) := hM.at (i := 0) rfl
  have HF1 := Lib.hid hM.fr
  refine (readSum_some br r.D r.off r.last (r.off + 32) ((r.D.drop r.off).take 32) b1 w1 (by have h := HR1.out; unfold RdAt at h; rw [h0] at h; exact h) (fun W hf hr => (sumc_ok b1 br r.D r.off r.last 0 W (HB1.out.fr hf (by simp)) hr HK.out.len HK.out.off hf32))).mono ?_
  rintro e w2 ⟨rfl, hf, hr2⟩
  refine ⟨_, w2, [], [], rfl, Mm.start w2 [], ?_⟩
  clear hM
  refine li rfl (opVal (.string (strOf ((r.D.drop r.off).take 32))) rfl (by kernel_rfl) (rAssign rfl rfl) ?_)
  refine liNil ?_
  refine qThen ?_
  refine stRet ?_
  refine stEnd [(.string (strOf ((r.D.drop r.off).take 32)))] rfl ⟨rfl, trivial⟩ (fun w hM => ?_)
  exact ⟨by unfold Rd.sum; rw [if_pos h0, if_pos hf32]; rfl, ((HF1.out.mono (by simp)).trans hf).trans (hM.fr.mono (by simp)), by unfold Rd.sum Rd.done RdAt; rw [if_pos h0, if_pos hf32]; have h := ReaderAt.fr hr2 hM.fr; rw [← h0] at h; exact h⟩

set_option maxRecDepth 100000 in
theorem rSum_few (br : Nat) (r : Rd) (w : World) (hr : RdAt X w br r) (hk : r.Ok) (h0 : r.err = 0) (hf32 : ¬ r.off + 32 ≤ r.D.length) :
    Calls Tryz.prog 91 #[Value.pointer (some ⟨br, 0, none⟩)] w fun e w' => e = .returned (.string (strOf r.sum.1)) ∧ Fr [br] w w' ∧ RdAt X w' br r.sum.2 := by
  have HR := Lib.hid hr
  have HK := Lib.hid hk
  clear hr hk
  refine stEnter (args := [Value.pointer (some ⟨br, 0, none⟩)]) [] Tryz.func91 rfl 6 rfl [(0, Value.pointer (some ⟨br, 0, none⟩))] ⟨rfl, trivial⟩ [] (Mm.start w []) ?_
  refine stSeq ?_
  refine reg ?_
  refine li rfl ?_
  refine opBox [(.pointer (some ⟨br, 0, none⟩))] rfl rfl (by kernel_rfl) rfl rfl (fun b1 => ?_)
  refine li rfl (opVal (.string ⟨#[]⟩) rfl (by kernel_rfl) (rAssign rfl rfl) ?_)
  refine liNil ?_
  refine qThen ?_
  refine stSeq ?_
  refine reg ?_
  refine li rfl (opVal (.pointer (some ⟨br, 0, none⟩)) rfl (by kernel_rfl) (rLoad 0 rfl rfl (by kernel_rfl) rfl rfl) ?_)
  refine li rfl (opVal (.func (.func 106) #[] #[(.pointer (some ⟨b1, 0, none⟩))]) rfl (by kernel_rfl) (rClosed fun _ => by kernel_rfl) ?_)
  refine li rfl ?_
  refine opCallB 102 #[(.pointer (some ⟨br, 0, none⟩)), (.func (.func 106) #[] #[(.pointer (some ⟨b1, 0, none⟩))])] rfl (by kernel_rfl) (fun _ => by kernel_rfl) (fun w1 hM => ?_)
  have HR1 : Hid (RdAt X w1 br r) := ReaderAt.fr HR.out hM.fr
  have HB1 : Hid (At w1 b1 114 [Value.pointer (some ⟨br, 0, none⟩)]) := hM.at (i := 0) rfl
  have HF1 := Lib.hid hM.fr
  refine (readSum_none br r.D r.off r.last 3 [] b1 w1 (by have h := HR1.out; unfold RdAt at h; rw [h0] at h; exact h) (by decide) (fun W hf hr => ((sumc_few b1 br r.D r.off r.last 0 W (HB1.out.fr hf (by simp)) hr HK.out.len HK.out.off (by omega)).mono (fun e w' h => ⟨h.1, h.2.1, r.off, h.2.2⟩)))).mono ?_
  rintro e w2 ⟨rfl, hf, hr2⟩
  refine ⟨_, w2, [], [], rfl, Mm.start w2 [], ?_⟩
  clear hM
  refine li rfl (opVal (.string ⟨#[]⟩) rfl (by kernel_rfl) (rAssign rfl rfl) ?_)
  refine liNil ?_
  refine qThen ?_
  refine stRet ?_
  refine stEnd [(.string ⟨#[]⟩)] rfl ⟨rfl, trivial⟩ (fun w hM => ?_)
  exact ⟨by unfold Rd.sum; rw [if_pos h0, if_neg hf32]; rfl, ((HF1.out.mono (by simp)).trans hf).trans (hM.fr.mono (by simp)), by unfold Rd.sum Rd.fail RdAt; rw [if_pos h0, if_neg hf32]; exact ReaderAt.fr hr2 hM.fr⟩

theorem rSum (br : Nat) (r : Rd) (w : World) (hr : RdAt X w br r) (hk : r.Ok) : Calls Tryz.prog 91 #[Value.pointer (some ⟨br, 0, none⟩)] w fun e w' => e = .returned (.string (strOf r.sum.1)) ∧ Fr [br] w w' ∧ RdAt X w' br r.sum.2 := by
  by_cases h0 : r.err = 0
  · by_cases hf : r.off + 32 ≤ r.D.length
    · exact rSum_ok br r w hr hk h0 hf
    · exact rSum_few br r w hr hk h0 hf
  · exact rSum_err br r w hr hk h0
end Go.Proofs.YtlepfnihpdhcaaaGreatDoor
