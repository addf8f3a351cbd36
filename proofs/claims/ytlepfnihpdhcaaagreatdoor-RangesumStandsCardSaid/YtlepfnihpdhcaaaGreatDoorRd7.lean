/- Contracts of the reader's block and Text. -/
import Derived.Test.YtlepfnihpdhcaaaGreatDoorRd6
namespace Go.Proofs.YtlepfnihpdhcaaaGreatDoor
open Go.RowKit
variable {X : Option Addr × Nat}

set_option maxRecDepth 100000 in
theorem blk_ok (br : Nat) (D : List UInt8) (off last most : Nat) (w : World) (A : Option Addr) (c : Nat) (ha : At w br 146 [.slice A D.length c, Value.int .i64 ((off : Nat) : Int), Value.int .i64 (last : Int), Value.int .i64 0]) (hown : w.ownsRow 0 5 1 (.slice A D.length c) D.length (B8 D)) (hl : D.length ≤ 4294967296) (ho : off ≤ D.length) (hm : most ≤ 4294967296) (n m : Nat) (hd : rdNum D off = some (n, m)) (hn : n ≤ most) (hf : m + n ≤ D.length) :
    Calls Tryz.prog 104 #[Value.pointer (some ⟨br, 0, none⟩), Value.int .i64 (most : Int)] w fun e w' => e = .returned (.tuple #[.slice (if c = m then A else A.map (·.add (m * 1))) n (c - m), Value.int .i64 0]) ∧ Fr [br] w w' ∧ At w' br 146 [.slice A D.length c, Value.int .i64 ((m + n : Nat) : Int), Value.int .i64 (last : Int), Value.int .i64 0] := by
  have HA := Lib.hid ha
  have HO := Lib.hid hown
  have hc : D.length ≤ c := ownCap hown
  have HNB : Hid (∀ g, (Value.slice A D.length c).ownBlock = some g → g ∉ [br]) := fun g hg => by
    have h1 := own_at_ne hown ha (by decide)
    simp only [List.mem_singleton]
    rintro rfl
    exact h1 hg.symm
  clear ha hown
  have hmD := (rdNum_le _ _ _ _ hd).2.1
  refine stEnter (args := [Value.pointer (some ⟨br, 0, none⟩), Value.int .i64 (most : Int)]) [br] Tryz.func104 rfl 22 rfl [(0, Value.pointer (some ⟨br, 0, none⟩)), (1, Value.int .i64 (most : Int))] ⟨rfl, rfl, trivial⟩ [cAt br 146 [(.slice A (D.length) (c)), (.int .i64 ((off : Nat) : Int)), (.int .i64 ((last : Nat) : Int)), (.int .i64 0)]] (Mm.one HA.out) ?_
  refine stSeq ?_
  refine reg ?_
  refine li rfl (opVal (.slice none 0 0) rfl (by kernel_rfl) (rAssign rfl rfl) ?_)
  refine li rfl (opVal (.int .i64 0) rfl (by kernel_rfl) (rAssign rfl rfl) ?_)
  refine liNil ?_
  refine qThen ?_
  refine stSeq ?_
  refine reg ?_
  refine li rfl (opVal (.pointer (some ⟨br, 0, none⟩)) rfl (by kernel_rfl) (rMove rfl rfl) ?_)
  refine li rfl (opVal (.int .i64 ((most : Nat) : Int)) rfl (by kernel_rfl) (rMove rfl rfl) ?_)
  refine li rfl ?_
  refine opCall 86 #[(.pointer (some ⟨br, 0, none⟩)), (.int .i64 ((most : Nat) : Int))] rfl (by kernel_rfl) (fun _ => by kernel_rfl) (fun w hM => ?_)
  refine (limited_any (X := (A, c)) br D off last (most : Int) w ⟨A, c, rfl, hM.at (i := 0) rfl, ownsRow_fr HO.out hM.fr HNB.out⟩ ho hl ⟨by omega, by omega⟩).mono ?_
  intro e w' h
  unfold LimRes at h; rw [hd] at h; dsimp only at h
  rw [if_neg (by omega)] at h
  obtain ⟨hf2, rfl, A', c', hX', ha2, _⟩ := h
  obtain ⟨rfl, rfl⟩ : A = A' ∧ c = c' := by simpa using hX'
  have hM' := hM.swap 0 (c' := cAt br 146 [(.slice A (D.length) (c)), (.int .i64 ((m : Nat) : Int)), (.int .i64 ((last : Nat) : Int)), (.int .i64 0)]) rfl hf2 ha2 (fun b hb => .inl hb) (by simp [cAt])
  refine ⟨_, _, rfl, hM', ?_⟩
  refine li rfl (opVal (.tuple #[(.int .i64 ((n : Nat) : Int)), (.int .i64 0)]) rfl (by kernel_rfl) (rMove rfl rfl) ?_)
  refine li rfl (opVal (.int .i64 ((n : Nat) : Int)) rfl (by kernel_rfl) (rClosed fun _ => by kernel_rfl) ?_)
  refine li rfl (opVal (.int .i64 0) rfl (by kernel_rfl) (rClosed fun _ => by kernel_rfl) ?_)
  refine li rfl (opVal (.int .i64 ((n : Nat) : Int)) rfl (by kernel_rfl) (rAssign rfl rfl) ?_)
  refine li rfl (opVal (.int .i64 0) rfl (by kernel_rfl) (rAssign rfl rfl) ?_)
  refine liNil ?_
  refine qThen ?_
  refine stSeq ?_
  refine stSeq ?_
  refine reg ?_
  refine li rfl (opVal (.int .i64 0) rfl (by kernel_rfl) (rMove rfl rfl) ?_)
  refine li rfl (opVal (.bool false) rfl (by kernel_rfl) (rClosed fun _ => by kernel_rfl) ?_)
  refine liNil ?_
  refine qThen ?_
  refine stFalse rfl ?_
  refine stSkip ?_
  refine qThen ?_
  refine stSeq ?_
  refine reg ?_
  refine li rfl (opVal (.pointer (some ⟨br, 0, none⟩)) rfl (by kernel_rfl) (rMove rfl rfl) ?_)
  refine li rfl (opVal (.int .i64 ((n : Nat) : Int)) rfl (by kernel_rfl) (rMove rfl rfl) ?_)
  refine li rfl ?_
  refine opCall 107 #[(.pointer (some ⟨br, 0, none⟩)), (.int .i64 ((n : Nat) : Int))] rfl (by kernel_rfl) (fun _ => by kernel_rfl) (fun w hM => ?_)
  refine (take_ok br D m last n 0 w A c (hM.at (i := 0) rfl) hl (by omega) (by omega) hc hf).mono ?_
  rintro e w' ⟨rfl, hf2, ha2⟩
  have hM' := hM.swap 0 (c' := cAt br 146 [(.slice A (D.length) (c)), (.int .i64 ((m + n : Nat) : Int)), (.int .i64 ((last : Nat) : Int)), (.int .i64 0)]) rfl hf2 ha2 (fun b hb => .inl hb) (by simp [cAt])
  refine ⟨_, _, rfl, hM', ?_⟩
  refine li rfl (opVal (.slice (if c = m then A else A.map (·.add (m * 1))) (n) (c - m)) rfl (by kernel_rfl) (rClosed fun _ => by kernel_rfl) ?_)
  refine li rfl (opVal (.int .i64 0) rfl (by kernel_rfl) (rClosed fun _ => by kernel_rfl) ?_)
  refine li rfl (opVal (.slice (if c = m then A else A.map (·.add (m * 1))) (n) (c - m)) rfl (by kernel_rfl) (rAssign rfl rfl) ?_)
  refine li rfl (opVal (.int .i64 0) rfl (by kernel_rfl) (rAssign rfl rfl) ?_)
  refine liNil ?_
  refine qThen ?_
  refine stRet ?_
  refine stEnd [(.slice (if c = m then A else A.map (·.add (m * 1))) (n) (c - m)), (.int .i64 0)] rfl ⟨rfl, rfl, trivial⟩ (fun w hM => ?_)
  exact ⟨rfl, hM.fr, hM.at (i := 0) rfl⟩

set_option maxRecDepth 100000 in
theorem blk_few (br : Nat) (D : List UInt8) (off last most : Nat) (w : World) (A : Option Addr) (c : Nat) (ha : At w br 146 [.slice A D.length c, Value.int .i64 ((off : Nat) : Int), Value.int .i64 (last : Int), Value.int .i64 0]) (hown : w.ownsRow 0 5 1 (.slice A D.length c) D.length (B8 D)) (hl : D.length ≤ 4294967296) (ho : off ≤ D.length) (hm : most ≤ 4294967296) (n m : Nat) (hd : rdNum D off = some (n, m)) (hn : n ≤ most) (hf : D.length < m + n) :
    Calls Tryz.prog 104 #[Value.pointer (some ⟨br, 0, none⟩), Value.int .i64 (most : Int)] w fun e w' => e = .returned (.tuple #[.slice none 0 0, Value.int .i64 3]) ∧ Fr [br] w w' ∧ ∃ off' : Nat, At w' br 146 [.slice A D.length c, Value.int .i64 ((off' : Nat) : Int), Value.int .i64 (last : Int), Value.int .i64 0] := by
  have HA := Lib.hid ha
  have HO := Lib.hid hown
  have hc : D.length ≤ c := ownCap hown
  have HNB : Hid (∀ g, (Value.slice A D.length c).ownBlock = some g → g ∉ [br]) := fun g hg => by
    have h1 := own_at_ne hown ha (by decide)
    simp only [List.mem_singleton]
    rintro rfl
    exact h1 hg.symm
  clear ha hown
  have hmD := (rdNum_le _ _ _ _ hd).2.1
  refine stEnter (args := [Value.pointer (some ⟨br, 0, none⟩), Value.int .i64 (most : Int)]) [br] Tryz.func104 rfl 22 rfl [(0, Value.pointer (some ⟨br, 0, none⟩)), (1, Value.int .i64 (most : Int))] ⟨rfl, rfl, trivial⟩ [cAt br 146 [(.slice A (D.length) (c)), (.int .i64 ((off : Nat) : Int)), (.int .i64 ((last : Nat) : Int)), (.int .i64 0)]] (Mm.one HA.out) ?_
  refine stSeq ?_
  refine reg ?_
  refine li rfl (opVal (.slice none 0 0) rfl (by kernel_rfl) (rAssign rfl rfl) ?_)
  refine li rfl (opVal (.int .i64 0) rfl (by kernel_rfl) (rAssign rfl rfl) ?_)
  refine liNil ?_
  refine qThen ?_
  refine stSeq ?_
  refine reg ?_
  refine li rfl (opVal (.pointer (some ⟨br, 0, none⟩)) rfl (by kernel_rfl) (rMove rfl rfl) ?_)
  refine li rfl (opVal (.int .i64 ((most : Nat) : Int)) rfl (by kernel_rfl) (rMove rfl rfl) ?_)
  refine li rfl ?_
  refine opCall 86 #[(.pointer (some ⟨br, 0, none⟩)), (.int .i64 ((most : Nat) : Int))] rfl (by kernel_rfl) (fun _ => by kernel_rfl) (fun w hM => ?_)
  refine (limited_any (X := (A, c)) br D off last (most : Int) w ⟨A, c, rfl, hM.at (i := 0) rfl, ownsRow_fr HO.out hM.fr HNB.out⟩ ho hl ⟨by omega, by omega⟩).mono ?_
  intro e w' h
  unfold LimRes at h; rw [hd] at h; dsimp only at h
  rw [if_neg (by omega)] at h
  obtain ⟨hf2, rfl, A', c', hX', ha2, _⟩ := h
  obtain ⟨rfl, rfl⟩ : A = A' ∧ c = c' := by simpa using hX'
  have hM' := hM.swap 0 (c' := cAt br 146 [(.slice A (D.length) (c)), (.int .i64 ((m : Nat) : Int)), (.int .i64 ((last : Nat) : Int)), (.int .i64 0)]) rfl hf2 ha2 (fun b hb => .inl hb) (by simp [cAt])
  refine ⟨_, _, rfl, hM', ?_⟩
  refine li rfl (opVal (.tuple #[(.int .i64 ((n : Nat) : Int)), (.int .i64 0)]) rfl (by kernel_rfl) (rMove rfl rfl) ?_)
  refine li rfl (opVal (.int .i64 ((n : Nat) : Int)) rfl (by kernel_rfl) (rClosed fun _ => by kernel_rfl) ?_)
  refine li rfl (opVal (.int .i64 0) rfl (by kernel_rfl) (rClosed fun _ => by kernel_rfl) ?_)
  refine li rfl (opVal (.int .i64 ((n : Nat) : Int)) rfl (by kernel_rfl) (rAssign rfl rfl) ?_)
  refine li rfl (opVal (.int .i64 0) rfl (by kernel_rfl) (rAssign rfl rfl) ?_)
  refine liNil ?_
  refine qThen ?_
  refine stSeq ?_
  refine stSeq ?_
  refine reg ?_
  refine li rfl (opVal (.int .i64 0) rfl (by kernel_rfl) (rMove rfl rfl) ?_)
  refine li rfl (opVal (.bool false) rfl (by kernel_rfl) (rClosed fun _ => by kernel_rfl) ?_)
  refine liNil ?_
  refine qThen ?_
  refine stFalse rfl ?_
  refine stSkip ?_
  refine qThen ?_
  refine stSeq ?_
  refine reg ?_
  refine li rfl (opVal (.pointer (some ⟨br, 0, none⟩)) rfl (by kernel_rfl) (rMove rfl rfl) ?_)
  refine li rfl (opVal (.int .i64 ((n : Nat) : Int)) rfl (by kernel_rfl) (rMove rfl rfl) ?_)
  refine li rfl ?_
  refine opCall 107 #[(.pointer (some ⟨br, 0, none⟩)), (.int .i64 ((n : Nat) : Int))] rfl (by kernel_rfl) (fun _ => by kernel_rfl) (fun w hM => ?_)
  refine (take_few br D m last n 0 w A c (hM.at (i := 0) rfl) hl (by omega) (by omega) hc hf).mono ?_
  rintro e w' ⟨rfl, hf2, ha2⟩
  have hM' := hM.swap 0 (c' := cAt br 146 [(.slice A (D.length) (c)), (.int .i64 ((m : Nat) : Int)), (.int .i64 ((last : Nat) : Int)), (.int .i64 0)]) rfl hf2 ha2 (fun b hb => .inl hb) (by simp [cAt])
  refine ⟨_, _, rfl, hM', ?_⟩
  refine li rfl (opVal (.slice none 0 0) rfl (by kernel_rfl) (rClosed fun _ => by kernel_rfl) ?_)
  refine li rfl (opVal (.int .i64 3) rfl (by kernel_rfl) (rClosed fun _ => by kernel_rfl) ?_)
  refine li rfl (opVal (.slice none 0 0) rfl (by kernel_rfl) (rAssign rfl rfl) ?_)
  refine li rfl (opVal (.int .i64 3) rfl (by kernel_rfl) (rAssign rfl rfl) ?_)
  refine liNil ?_
  refine qThen ?_
  refine stRet ?_
  refine stEnd [(.slice none 0 0), (.int .i64 3)] rfl ⟨rfl, rfl, trivial⟩ (fun w hM => ?_)
  exact ⟨rfl, hM.fr, ⟨_, hM.at (i := 0) rfl⟩⟩

set_option maxRecDepth 100000 in
theorem blk_big (br : Nat) (D : List UInt8) (off last most : Nat) (w : World) (A : Option Addr) (c : Nat) (ha : At w br 146 [.slice A D.length c, Value.int .i64 ((off : Nat) : Int), Value.int .i64 (last : Int), Value.int .i64 0]) (hown : w.ownsRow 0 5 1 (.slice A D.length c) D.length (B8 D)) (hl : D.length ≤ 4294967296) (ho : off ≤ D.length) (hm : most ≤ 4294967296) (n m : Nat) (hd : rdNum D off = some (n, m)) (hn : most < n) :
    Calls Tryz.prog 104 #[Value.pointer (some ⟨br, 0, none⟩), Value.int .i64 (most : Int)] w fun e w' => e = .returned (.tuple #[.slice none 0 0, Value.int .i64 2]) ∧ Fr [br] w w' ∧ ∃ off' : Nat, At w' br 146 [.slice A D.length c, Value.int .i64 ((off' : Nat) : Int), Value.int .i64 (last : Int), Value.int .i64 0] := by
  have HA := Lib.hid ha
  have HO := Lib.hid hown
  have hc : D.length ≤ c := ownCap hown
  have HNB : Hid (∀ g, (Value.slice A D.length c).ownBlock = some g → g ∉ [br]) := fun g hg => by
    have h1 := own_at_ne hown ha (by decide)
    simp only [List.mem_singleton]
    rintro rfl
    exact h1 hg.symm
  clear ha hown
  refine stEnter (args := [Value.pointer (some ⟨br, 0, none⟩), Value.int .i64 (most : Int)]) [br] Tryz.func104 rfl 22 rfl [(0, Value.pointer (some ⟨br, 0, none⟩)), (1, Value.int .i64 (most : Int))] ⟨rfl, rfl, trivial⟩ [cAt br 146 [(.slice A (D.length) (c)), (.int .i64 ((off : Nat) : Int)), (.int .i64 ((last : Nat) : Int)), (.int .i64 0)]] (Mm.one HA.out) ?_
  refine stSeq ?_
  refine reg ?_
  refine li rfl (opVal (.slice none 0 0) rfl (by kernel_rfl) (rAssign rfl rfl) ?_)
  refine li rfl (opVal (.int .i64 0) rfl (by kernel_rfl) (rAssign rfl rfl) ?_)
  refine liNil ?_
  refine qThen ?_
  refine stSeq ?_
  refine reg ?_
  refine li rfl (opVal (.pointer (some ⟨br, 0, none⟩)) rfl (by kernel_rfl) (rMove rfl rfl) ?_)
  refine li rfl (opVal (.int .i64 ((most : Nat) : Int)) rfl (by kernel_rfl) (rMove rfl rfl) ?_)
  refine li rfl ?_
  refine opCall 86 #[(.pointer (some ⟨br, 0, none⟩)), (.int .i64 ((most : Nat) : Int))] rfl (by kernel_rfl) (fun _ => by kernel_rfl) (fun w hM => ?_)
  refine (limited_any (X := (A, c)) br D off last (most : Int) w ⟨A, c, rfl, hM.at (i := 0) rfl, ownsRow_fr HO.out hM.fr HNB.out⟩ ho hl ⟨by omega, by omega⟩).mono ?_
  intro e w' h
  unfold LimRes at h; rw [hd] at h; dsimp only at h
  rw [if_pos (by omega)] at h
  obtain ⟨hf2, rfl, off', A', c', hX', ha2, _⟩ := h
  obtain ⟨rfl, rfl⟩ : A = A' ∧ c = c' := by simpa using hX'
  have hM' := hM.swap 0 (c' := cAt br 146 [(.slice A (D.length) (c)), (.int .i64 ((off' : Nat) : Int)), (.int .i64 ((last : Nat) : Int)), (.int .i64 0)]) rfl hf2 ha2 (fun b hb => .inl hb) (by simp [cAt])
  refine ⟨_, _, rfl, hM', ?_⟩
  refine li rfl (opVal (.tuple #[(.int .i64 0), (.int .i64 2)]) rfl (by kernel_rfl) (rMove rfl rfl) ?_)
  refine li rfl (opVal (.int .i64 0) rfl (by kernel_rfl) (rClosed fun _ => by kernel_rfl) ?_)
  refine li rfl (opVal (.int .i64 2) rfl (by kernel_rfl) (rClosed fun _ => by kernel_rfl) ?_)
  refine li rfl (opVal (.int .i64 0) rfl (by kernel_rfl) (rAssign rfl rfl) ?_)
  refine li rfl (opVal (.int .i64 2) rfl (by kernel_rfl) (rAssign rfl rfl) ?_)
  refine liNil ?_
  refine qThen ?_
  refine stSeq ?_
  refine stSeq ?_
  refine reg ?_
  refine li rfl (opVal (.int .i64 2) rfl (by kernel_rfl) (rMove rfl rfl) ?_)
  refine li rfl (opVal (.bool true) rfl (by kernel_rfl) (rClosed fun _ => by kernel_rfl) ?_)
  refine liNil ?_
  refine qThen ?_
  refine stTrue rfl ?_
  refine stSeq ?_
  refine reg ?_
  refine li rfl (opVal (.int .i64 2) rfl (by kernel_rfl) (rMove rfl rfl) ?_)
  refine li rfl (opVal (.slice none 0 0) rfl (by kernel_rfl) (rAssign rfl rfl) ?_)
  refine li rfl (opVal (.int .i64 2) rfl (by kernel_rfl) (rAssign rfl rfl) ?_)
  refine liNil ?_
  refine qThen ?_
  refine stRet ?_
  refine qThenR ?_
  refine stEnd [(.slice none 0 0), (.int .i64 2)] rfl ⟨rfl, rfl, trivial⟩ (fun w hM => ?_)
  exact ⟨rfl, hM.fr, ⟨_, hM.at (i := 0) rfl⟩⟩

set_option maxRecDepth 100000 in
theorem blk_none (br : Nat) (D : List UInt8) (off last most : Nat) (w : World) (A : Option Addr) (c : Nat) (ha : At w br 146 [.slice A D.length c, Value.int .i64 ((off : Nat) : Int), Value.int .i64 (last : Int), Value.int .i64 0]) (hown : w.ownsRow 0 5 1 (.slice A D.length c) D.length (B8 D)) (hl : D.length ≤ 4294967296) (ho : off ≤ D.length) (hm : most ≤ 4294967296) (hd : rdNum D off = none) :
    Calls Tryz.prog 104 #[Value.pointer (some ⟨br, 0, none⟩), Value.int .i64 (most : Int)] w fun e w' => e = .returned (.tuple #[.slice none 0 0, Value.int .i64 3]) ∧ Fr [br] w w' ∧ ∃ off' : Nat, At w' br 146 [.slice A D.length c, Value.int .i64 ((off' : Nat) : Int), Value.int .i64 (last : Int), Value.int .i64 0] := by
  have HA := Lib.hid ha
  have HO := Lib.hid hown
  have hc : D.length ≤ c := ownCap hown
  have HNB : Hid (∀ g, (Value.slice A D.length c).ownBlock = some g → g ∉ [br]) := fun g hg => by
    have h1 := own_at_ne hown ha (by decide)
    simp only [List.mem_singleton]
    rintro rfl
    exact h1 hg.symm
  clear ha hown
  refine stEnter (args := [Value.pointer (some ⟨br, 0, none⟩), Value.int .i64 (most : Int)]) [br] Tryz.func104 rfl 22 rfl [(0, Value.pointer (some ⟨br, 0, none⟩)), (1, Value.int .i64 (most : Int))] ⟨rfl, rfl, trivial⟩ [cAt br 146 [(.slice A (D.length) (c)), (.int .i64 ((off : Nat) : Int)), (.int .i64 ((last : Nat) : Int)), (.int .i64 0)]] (Mm.one HA.out) ?_
  refine stSeq ?_
  refine reg ?_
  refine li rfl (opVal (.slice none 0 0) rfl (by kernel_rfl) (rAssign rfl rfl) ?_)
  refine li rfl (opVal (.int .i64 0) rfl (by kernel_rfl) (rAssign rfl rfl) ?_)
  refine liNil ?_
  refine qThen ?_
  refine stSeq ?_
  refine reg ?_
  refine li rfl (opVal (.pointer (some ⟨br, 0, none⟩)) rfl (by kernel_rfl) (rMove rfl rfl) ?_)
  refine li rfl (opVal (.int .i64 ((most : Nat) : Int)) rfl (by kernel_rfl) (rMove rfl rfl) ?_)
  refine li rfl ?_
  refine opCall 86 #[(.pointer (some ⟨br, 0, none⟩)), (.int .i64 ((most : Nat) : Int))] rfl (by kernel_rfl) (fun _ => by kernel_rfl) (fun w hM => ?_)
  refine (limited_any (X := (A, c)) br D off last (most : Int) w ⟨A, c, rfl, hM.at (i := 0) rfl, ownsRow_fr HO.out hM.fr HNB.out⟩ ho hl ⟨by omega, by omega⟩).mono ?_
  intro e w' h
  unfold LimRes at h; rw [hd] at h; dsimp only at h
  obtain ⟨hf2, rfl, off', A', c', hX', ha2, _⟩ := h
  obtain ⟨rfl, rfl⟩ : A = A' ∧ c = c' := by simpa using hX'
  have hM' := hM.swap 0 (c' := cAt br 146 [(.slice A (D.length) (c)), (.int .i64 ((off' : Nat) : Int)), (.int .i64 ((last : Nat) : Int)), (.int .i64 0)]) rfl hf2 ha2 (fun b hb => .inl hb) (by simp [cAt])
  refine ⟨_, _, rfl, hM', ?_⟩
  refine li rfl (opVal (.tuple #[(.int .i64 0), (.int .i64 3)]) rfl (by kernel_rfl) (rMove rfl rfl) ?_)
  refine li rfl (opVal (.int .i64 0) rfl (by kernel_rfl) (rClosed fun _ => by kernel_rfl) ?_)
  refine li rfl (opVal (.int .i64 3) rfl (by kernel_rfl) (rClosed fun _ => by kernel_rfl) ?_)
  refine li rfl (opVal (.int .i64 0) rfl (by kernel_rfl) (rAssign rfl rfl) ?_)
  refine li rfl (opVal (.int .i64 3) rfl (by kernel_rfl) (rAssign rfl rfl) ?_)
  refine liNil ?_
  refine qThen ?_
  refine stSeq ?_
  refine stSeq ?_
  refine reg ?_
  refine li rfl (opVal (.int .i64 3) rfl (by kernel_rfl) (rMove rfl rfl) ?_)
  refine li rfl (opVal (.bool true) rfl (by kernel_rfl) (rClosed fun _ => by kernel_rfl) ?_)
  refine liNil ?_
  refine qThen ?_
  refine stTrue rfl ?_
  refine stSeq ?_
  refine reg ?_
  refine li rfl (opVal (.int .i64 3) rfl (by kernel_rfl) (rMove rfl rfl) ?_)
  refine li rfl (opVal (.slice none 0 0) rfl (by kernel_rfl) (rAssign rfl rfl) ?_)
  refine li rfl (opVal (.int .i64 3) rfl (by kernel_rfl) (rAssign rfl rfl) ?_)
  refine liNil ?_
  refine qThen ?_
  refine stRet ?_
  refine qThenR ?_
  refine stEnd [(.slice none 0 0), (.int .i64 3)] rfl ⟨rfl, rfl, trivial⟩ (fun w hM => ?_)
  exact ⟨rfl, hM.fr, ⟨_, hM.at (i := 0) rfl⟩⟩

set_option maxRecDepth 100000 in
theorem txtc_ok (bx by_ br : Nat) (D : List UInt8) (off last most : Nat) (w : World) (hx0 : At w bx 114 [Value.pointer (some ⟨br, 0, none⟩)]) (hy0 : At w by_ 3 [Value.int .i64 (most : Int)]) (hr : ReaderAt X w br D off last 0) (hl : D.length ≤ 4294967296) (ho : off ≤ D.length) (hm : most ≤ 4294967296) (n m : Nat) (hd : rdNum D off = some (n, m)) (hn : n ≤ most) (hf : m + n ≤ D.length) :
    Calls Tryz.prog 103 #[Value.pointer (some ⟨bx, 0, none⟩), Value.pointer (some ⟨by_, 0, none⟩)] w fun e w' => e = .returned (.tuple #[.string (strOf ((D.drop m).take n)), Value.int .i64 0]) ∧ Fr [br] w w' ∧ ReaderAt X w' br D (m + n) last 0 := by
  obtain ⟨A, c, hX, ha, hown⟩ := hr
  have hx : w.cell? ⟨bx, 0, none⟩ = some (Value.pointer (some ⟨br, 0, none⟩)) := by rw [hx0.cell]; rfl
  have hxb : bx ≠ br := hx0.ne ha (by decide)
  have hy : w.cell? ⟨by_, 0, none⟩ = some (Value.int .i64 (most : Int)) := by rw [hy0.cell]; rfl
  have hyb : by_ ≠ br := hy0.ne ha (by decide)
  have HA := Lib.hid ha
  have HO := Lib.hid hown
  have HR : Hid (RowIn w A (B8 D)) := RowIn.of_own hown
  have hc : D.length ≤ c := ownCap hown
  have HNB : Hid (∀ g, (Value.slice A D.length c).ownBlock = some g → g ∉ [br]) := fun g hg => by
    have h1 := own_at_ne hown ha (by decide)
    simp only [List.mem_singleton]
    rintro rfl
    exact h1 hg.symm
  have HNE : Hid (∀ b o, A = some ⟨b, o, none⟩ → b ∉ [br]) := fun b o hA => HNB.out b (by rw [hA]; rfl)
  clear ha hown hx0 hy0
  refine stEnter (args := [Value.pointer (some ⟨bx, 0, none⟩), Value.pointer (some ⟨by_, 0, none⟩)]) [br] Tryz.func103 rfl 15 rfl [(0, Value.pointer (some ⟨bx, 0, none⟩)), (1, Value.pointer (some ⟨by_, 0, none⟩))] ⟨rfl, rfl, trivial⟩ [cAt br 146 [(.slice A (D.length) (c)), (.int .i64 ((off : Nat) : Int)), (.int .i64 ((last : Nat) : Int)), (.int .i64 0)]] (Mm.one HA.out) ?_
  refine stSeq ?_
  refine reg ?_
  refine li rfl (opVal (.string ⟨#[]⟩) rfl (by kernel_rfl) (rAssign rfl rfl) ?_)
  refine li rfl (opVal (.int .i64 0) rfl (by kernel_rfl) (rAssign rfl rfl) ?_)
  refine liNil ?_
  refine qThen ?_
  refine stSeq ?_
  refine reg ?_
  refine li rfl (opVal (.pointer (some ⟨br, 0, none⟩)) rfl (by kernel_rfl) (rLoadW rfl rfl (by kernel_rfl) (fun w hM => hM.old hx (by simpa using hxb))) ?_)
  refine li rfl (opVal (.int .i64 ((most : Nat) : Int)) rfl (by kernel_rfl) (rLoadW rfl rfl (by kernel_rfl) (fun w hM => hM.old hy (by simpa using hyb))) ?_)
  refine li rfl ?_
  refine opCall 104 #[(.pointer (some ⟨br, 0, none⟩)), (.int .i64 ((most : Nat) : Int))] rfl (by kernel_rfl) (fun _ => by kernel_rfl) (fun w hM => ?_)
  refine (blk_ok br D off last most w A c (hM.at (i := 0) rfl) (ownsRow_fr HO.out hM.fr HNB.out) hl ho hm n m hd hn hf).mono ?_
  rintro e w' ⟨rfl, hf2, ha2⟩
  have hM' := hM.swap 0 (c' := cAt br 146 [(.slice A (D.length) (c)), (.int .i64 ((m + n : Nat) : Int)), (.int .i64 ((last : Nat) : Int)), (.int .i64 0)]) rfl hf2 ha2 (fun b hb => .inl hb) (by simp [cAt])
  refine ⟨_, _, rfl, hM', ?_⟩
  refine li rfl (opVal (.tuple #[(.slice (if c = m then A else A.map (·.add (m * 1))) (n) (c - m)), (.int .i64 0)]) rfl (by kernel_rfl) (rMove rfl rfl) ?_)
  refine li rfl (opVal (.slice (if c = m then A else A.map (·.add (m * 1))) (n) (c - m)) rfl (by kernel_rfl) (rClosed fun _ => by kernel_rfl) ?_)
  refine li rfl (opVal (.int .i64 0) rfl (by kernel_rfl) (rClosed fun _ => by kernel_rfl) ?_)
  refine li rfl (opVal (.slice (if c = m then A else A.map (·.add (m * 1))) (n) (c - m)) rfl (by kernel_rfl) (rAssign rfl rfl) ?_)
  refine li rfl (opVal (.int .i64 0) rfl (by kernel_rfl) (rAssign rfl rfl) ?_)
  refine liNil ?_
  refine qThen ?_
  refine stSeq ?_
  refine reg ?_
  refine li rfl (opVal (.slice (if c = m then A else A.map (·.add (m * 1))) (n) (c - m)) rfl (by kernel_rfl) (rMove rfl rfl) ?_)
  refine li rfl (opVal (.string (strOf ((D.drop m).take n))) rfl (by kernel_rfl) (rStr (e := 5) ((D.drop m).take n) rfl (by kernel_rfl) (by kernel_rfl) (by kernel_rfl) rfl (by rw [List.length_take, List.length_drop, Nat.min_eq_left (by omega)]) (fun w hM => rowPart (HR.out.fr hM.fr HNE.out) (by rw [B8_length]; exact hc))) ?_)
  refine li rfl (opVal (.int .i64 0) rfl (by kernel_rfl) (rMove rfl rfl) ?_)
  refine li rfl (opVal (.string (strOf ((D.drop m).take n))) rfl (by kernel_rfl) (rAssign rfl rfl) ?_)
  refine li rfl (opVal (.int .i64 0) rfl (by kernel_rfl) (rAssign rfl rfl) ?_)
  refine liNil ?_
  refine qThen ?_
  refine stRet ?_
  refine stEnd [(.string (strOf ((D.drop m).take n))), (.int .i64 0)] rfl ⟨rfl, rfl, trivial⟩ (fun w hM => ?_)
  exact ⟨rfl, hM.fr, A, c, hX, hM.at (i := 0) rfl, ownsRow_fr HO.out hM.fr HNB.out⟩

set_option maxRecDepth 100000 in
theorem txtc_few (bx by_ br : Nat) (D : List UInt8) (off last most : Nat) (w : World) (hx0 : At w bx 114 [Value.pointer (some ⟨br, 0, none⟩)]) (hy0 : At w by_ 3 [Value.int .i64 (most : Int)]) (hr : ReaderAt X w br D off last 0) (hl : D.length ≤ 4294967296) (ho : off ≤ D.length) (hm : most ≤ 4294967296) (n m : Nat) (hd : rdNum D off = some (n, m)) (hn : n ≤ most) (hf : D.length < m + n) :
    Calls Tryz.prog 103 #[Value.pointer (some ⟨bx, 0, none⟩), Value.pointer (some ⟨by_, 0, none⟩)] w fun e w' => e = .returned (.tuple #[.string (strOf []), Value.int .i64 3]) ∧ Fr [br] w w' ∧ ∃ off' : Nat, ReaderAt X w' br D off' last 0 := by
  obtain ⟨A, c, hX, ha, hown⟩ := hr
  have hx : w.cell? ⟨bx, 0, none⟩ = some (Value.pointer (some ⟨br, 0, none⟩)) := by rw [hx0.cell]; rfl
  have hxb : bx ≠ br := hx0.ne ha (by decide)
  have hy : w.cell? ⟨by_, 0, none⟩ = some (Value.int .i64 (most : Int)) := by rw [hy0.cell]; rfl
  have hyb : by_ ≠ br := hy0.ne ha (by decide)
  have HA := Lib.hid ha
  have HO := Lib.hid hown
  have HR : Hid (RowIn w A (B8 D)) := RowIn.of_own hown
  have hc : D.length ≤ c := ownCap hown
  have HNB : Hid (∀ g, (Value.slice A D.length c).ownBlock = some g → g ∉ [br]) := fun g hg => by
    have h1 := own_at_ne hown ha (by decide)
    simp only [List.mem_singleton]
    rintro rfl
    exact h1 hg.symm
  have HNE : Hid (∀ b o, A = some ⟨b, o, none⟩ → b ∉ [br]) := fun b o hA => HNB.out b (by rw [hA]; rfl)
  clear ha hown hx0 hy0
  refine stEnter (args := [Value.pointer (some ⟨bx, 0, none⟩), Value.pointer (some ⟨by_, 0, none⟩)]) [br] Tryz.func103 rfl 15 rfl [(0, Value.pointer (some ⟨bx, 0, none⟩)), (1, Value.pointer (some ⟨by_, 0, none⟩))] ⟨rfl, rfl, trivial⟩ [cAt br 146 [(.slice A (D.length) (c)), (.int .i64 ((off : Nat) : Int)), (.int .i64 ((last : Nat) : Int)), (.int .i64 0)]] (Mm.one HA.out) ?_
  refine stSeq ?_
  refine reg ?_
  refine li rfl (opVal (.string ⟨#[]⟩) rfl (by kernel_rfl) (rAssign rfl rfl) ?_)
  refine li rfl (opVal (.int .i64 0) rfl (by kernel_rfl) (rAssign rfl rfl) ?_)
  refine liNil ?_
  refine qThen ?_
  refine stSeq ?_
  refine reg ?_
  refine li rfl (opVal (.pointer (some ⟨br, 0, none⟩)) rfl (by kernel_rfl) (rLoadW rfl rfl (by kernel_rfl) (fun w hM => hM.old hx (by simpa using hxb))) ?_)
  refine li rfl (opVal (.int .i64 ((most : Nat) : Int)) rfl (by kernel_rfl) (rLoadW rfl rfl (by kernel_rfl) (fun w hM => hM.old hy (by simpa using hyb))) ?_)
  refine li rfl ?_
  refine opCall 104 #[(.pointer (some ⟨br, 0, none⟩)), (.int .i64 ((most : Nat) : Int))] rfl (by kernel_rfl) (fun _ => by kernel_rfl) (fun w hM => ?_)
  refine (blk_few br D off last most w A c (hM.at (i := 0) rfl) (ownsRow_fr HO.out hM.fr HNB.out) hl ho hm n m hd hn hf).mono ?_
  rintro e w' ⟨rfl, hf2, off', ha2⟩
  have hM' := hM.swap 0 (c' := cAt br 146 [(.slice A (D.length) (c)), (.int .i64 ((off' : Nat) : Int)), (.int .i64 ((last : Nat) : Int)), (.int .i64 0)]) rfl hf2 ha2 (fun b hb => .inl hb) (by simp [cAt])
  refine ⟨_, _, rfl, hM', ?_⟩
  refine li rfl (opVal (.tuple #[(.slice none 0 0), (.int .i64 3)]) rfl (by kernel_rfl) (rMove rfl rfl) ?_)
  refine li rfl (opVal (.slice none 0 0) rfl (by kernel_rfl) (rClosed fun _ => by kernel_rfl) ?_)
  refine li rfl (opVal (.int .i64 3) rfl (by kernel_rfl) (rClosed fun _ => by kernel_rfl) ?_)
  refine li rfl (opVal (.slice none 0 0) rfl (by kernel_rfl) (rAssign rfl rfl) ?_)
  refine li rfl (opVal (.int .i64 3) rfl (by kernel_rfl) (rAssign rfl rfl) ?_)
  refine liNil ?_
  refine qThen ?_
  refine stSeq ?_
  refine reg ?_
  refine li rfl (opVal (.slice none 0 0) rfl (by kernel_rfl) (rMove rfl rfl) ?_)
  refine li rfl (opVal (.string (strOf [])) rfl (by kernel_rfl) (rStr (e := 5) [] rfl (by kernel_rfl) (by kernel_rfl) (by kernel_rfl) rfl rfl (fun w hM j v hj => by simp [B8] at hj)) ?_)
  refine li rfl (opVal (.int .i64 3) rfl (by kernel_rfl) (rMove rfl rfl) ?_)
  refine li rfl (opVal (.string (strOf [])) rfl (by kernel_rfl) (rAssign rfl rfl) ?_)
  refine li rfl (opVal (.int .i64 3) rfl (by kernel_rfl) (rAssign rfl rfl) ?_)
  refine liNil ?_
  refine qThen ?_
  refine stRet ?_
  refine stEnd [(.string (strOf [])), (.int .i64 3)] rfl ⟨rfl, rfl, trivial⟩ (fun w hM => ?_)
  exact ⟨rfl, hM.fr, _, A, c, hX, hM.at (i := 0) rfl, ownsRow_fr HO.out hM.fr HNB.out⟩

set_option maxRecDepth 100000 in
theorem txtc_big (bx by_ br : Nat) (D : List UInt8) (off last most : Nat) (w : World) (hx0 : At w bx 114 [Value.pointer (some ⟨br, 0, none⟩)]) (hy0 : At w by_ 3 [Value.int .i64 (most : Int)]) (hr : ReaderAt X w br D off last 0) (hl : D.length ≤ 4294967296) (ho : off ≤ D.length) (hm : most ≤ 4294967296) (n m : Nat) (hd : rdNum D off = some (n, m)) (hn : most < n) :
    Calls Tryz.prog 103 #[Value.pointer (some ⟨bx, 0, none⟩), Value.pointer (some ⟨by_, 0, none⟩)] w fun e w' => e = .returned (.tuple #[.string (strOf []), Value.int .i64 2]) ∧ Fr [br] w w' ∧ ∃ off' : Nat, ReaderAt X w' br D off' last 0 := by
  obtain ⟨A, c, hX, ha, hown⟩ := hr
  have hx : w.cell? ⟨bx, 0, none⟩ = some (Value.pointer (some ⟨br, 0, none⟩)) := by rw [hx0.cell]; rfl
  have hxb : bx ≠ br := hx0.ne ha (by decide)
  have hy : w.cell? ⟨by_, 0, none⟩ = some (Value.int .i64 (most : Int)) := by rw [hy0.cell]; rfl
  have hyb : by_ ≠ br := hy0.ne ha (by decide)
  have HA := Lib.hid ha
  have HO := Lib.hid hown
  have HR : Hid (RowIn w A (B8 D)) := RowIn.of_own hown
  have hc : D.length ≤ c := ownCap hown
  have HNB : Hid (∀ g, (Value.slice A D.length c).ownBlock = some g → g ∉ [br]) := fun g hg => by
    have h1 := own_at_ne hown ha (by decide)
    simp only [List.mem_singleton]
    rintro rfl
    exact h1 hg.symm
  have HNE : Hid (∀ b o, A = some ⟨b, o, none⟩ → b ∉ [br]) := fun b o hA => HNB.out b (by rw [hA]; rfl)
  clear ha hown hx0 hy0
  refine stEnter (args := [Value.pointer (some ⟨bx, 0, none⟩), Value.pointer (some ⟨by_, 0, none⟩)]) [br] Tryz.func103 rfl 15 rfl [(0, Value.pointer (some ⟨bx, 0, none⟩)), (1, Value.pointer (some ⟨by_, 0, none⟩))] ⟨rfl, rfl, trivial⟩ [cAt br 146 [(.slice A (D.length) (c)), (.int .i64 ((off : Nat) : Int)), (.int .i64 ((last : Nat) : Int)), (.int .i64 0)]] (Mm.one HA.out) ?_
  refine stSeq ?_
  refine reg ?_
  refine li rfl (opVal (.string ⟨#[]⟩) rfl (by kernel_rfl) (rAssign rfl rfl) ?_)
  refine li rfl (opVal (.int .i64 0) rfl (by kernel_rfl) (rAssign rfl rfl) ?_)
  refine liNil ?_
  refine qThen ?_
  refine stSeq ?_
  refine reg ?_
  refine li rfl (opVal (.pointer (some ⟨br, 0, none⟩)) rfl (by kernel_rfl) (rLoadW rfl rfl (by kernel_rfl) (fun w hM => hM.old hx (by simpa using hxb))) ?_)
  refine li rfl (opVal (.int .i64 ((most : Nat) : Int)) rfl (by kernel_rfl) (rLoadW rfl rfl (by kernel_rfl) (fun w hM => hM.old hy (by simpa using hyb))) ?_)
  refine li rfl ?_
  refine opCall 104 #[(.pointer (some ⟨br, 0, none⟩)), (.int .i64 ((most : Nat) : Int))] rfl (by kernel_rfl) (fun _ => by kernel_rfl) (fun w hM => ?_)
  refine (blk_big br D off last most w A c (hM.at (i := 0) rfl) (ownsRow_fr HO.out hM.fr HNB.out) hl ho hm n m hd hn).mono ?_
  rintro e w' ⟨rfl, hf2, off', ha2⟩
  have hM' := hM.swap 0 (c' := cAt br 146 [(.slice A (D.length) (c)), (.int .i64 ((off' : Nat) : Int)), (.int .i64 ((last : Nat) : Int)), (.int .i64 0)]) rfl hf2 ha2 (fun b hb => .inl hb) (by simp [cAt])
  refine ⟨_, _, rfl, hM', ?_⟩
  refine li rfl (opVal (.tuple #[(.slice none 0 0), (.int .i64 2)]) rfl (by kernel_rfl) (rMove rfl rfl) ?_)
  refine li rfl (opVal (.slice none 0 0) rfl (by kernel_rfl) (rClosed fun _ => by kernel_rfl) ?_)
  refine li rfl (opVal (.int .i64 2) rfl (by kernel_rfl) (rClosed fun _ => by kernel_rfl) ?_)
  refine li rfl (opVal (.slice none 0 0) rfl (by kernel_rfl) (rAssign rfl rfl) ?_)
  refine li rfl (opVal (.int .i64 2) rfl (by kernel_rfl) (rAssign rfl rfl) ?_)
  refine liNil ?_
  refine qThen ?_
  refine stSeq ?_
  refine reg ?_
  refine li rfl (opVal (.slice none 0 0) rfl (by kernel_rfl) (rMove rfl rfl) ?_)
  refine li rfl (opVal (.string (strOf [])) rfl (by kernel_rfl) (rStr (e := 5) [] rfl (by kernel_rfl) (by kernel_rfl) (by kernel_rfl) rfl rfl (fun w hM j v hj => by simp [B8] at hj)) ?_)
  refine li rfl (opVal (.int .i64 2) rfl (by kernel_rfl) (rMove rfl rfl) ?_)
  refine li rfl (opVal (.string (strOf [])) rfl (by kernel_rfl) (rAssign rfl rfl) ?_)
  refine li rfl (opVal (.int .i64 2) rfl (by kernel_rfl) (rAssign rfl rfl) ?_)
  refine liNil ?_
  refine qThen ?_
  refine stRet ?_
  refine stEnd [(.string (strOf [])), (.int .i64 2)] rfl ⟨rfl, rfl, trivial⟩ (fun w hM => ?_)
  exact ⟨rfl, hM.fr, _, A, c, hX, hM.at (i := 0) rfl, ownsRow_fr HO.out hM.fr HNB.out⟩

set_option maxRecDepth 100000 in
theorem txtc_none (bx by_ br : Nat) (D : List UInt8) (off last most : Nat) (w : World) (hx0 : At w bx 114 [Value.pointer (some ⟨br, 0, none⟩)]) (hy0 : At w by_ 3 [Value.int .i64 (most : Int)]) (hr : ReaderAt X w br D off last 0) (hl : D.length ≤ 4294967296) (ho : off ≤ D.length) (hm : most ≤ 4294967296) (hd : rdNum D off = none) :
    Calls Tryz.prog 103 #[Value.pointer (some ⟨bx, 0, none⟩), Value.pointer (some ⟨by_, 0, none⟩)] w fun e w' => e = .returned (.tuple #[.string (strOf []), Value.int .i64 3]) ∧ Fr [br] w w' ∧ ∃ off' : Nat, ReaderAt X w' br D off' last 0 := by
  obtain ⟨A, c, hX, ha, hown⟩ := hr
  have hx : w.cell? ⟨bx, 0, none⟩ = some (Value.pointer (some ⟨br, 0, none⟩)) := by rw [hx0.cell]; rfl
  have hxb : bx ≠ br := hx0.ne ha (by decide)
  have hy : w.cell? ⟨by_, 0, none⟩ = some (Value.int .i64 (most : Int)) := by rw [hy0.cell]; rfl
  have hyb : by_ ≠ br := hy0.ne ha (by decide)
  have HA := Lib.hid ha
  have HO := Lib.hid hown
  have HR : Hid (RowIn w A (B8 D)) := RowIn.of_own hown
  have hc : D.length ≤ c := ownCap hown
  have HNB : Hid (∀ g, (Value.slice A D.length c).ownBlock = some g → g ∉ [br]) := fun g hg => by
    have h1 := own_at_ne hown ha (by decide)
    simp only [List.mem_singleton]
    rintro rfl
    exact h1 hg.symm
  have HNE : Hid (∀ b o, A = some ⟨b, o, none⟩ → b ∉ [br]) := fun b o hA => HNB.out b (by rw [hA]; rfl)
  clear ha hown hx0 hy0
  refine stEnter (args := [Value.pointer (some ⟨bx, 0, none⟩), Value.pointer (some ⟨by_, 0, none⟩)]) [br] Tryz.func103 rfl 15 rfl [(0, Value.pointer (some ⟨bx, 0, none⟩)), (1, Value.pointer (some ⟨by_, 0, none⟩))] ⟨rfl, rfl, trivial⟩ [cAt br 146 [(.slice A (D.length) (c)), (.int .i64 ((off : Nat) : Int)), (.int .i64 ((last : Nat) : Int)), (.int .i64 0)]] (Mm.one HA.out) ?_
  refine stSeq ?_
  refine reg ?_
  refine li rfl (opVal (.string ⟨#[]⟩) rfl (by kernel_rfl) (rAssign rfl rfl) ?_)
  refine li rfl (opVal (.int .i64 0) rfl (by kernel_rfl) (rAssign rfl rfl) ?_)
  refine liNil ?_
  refine qThen ?_
  refine stSeq ?_
  refine reg ?_
  refine li rfl (opVal (.pointer (some ⟨br, 0, none⟩)) rfl (by kernel_rfl) (rLoadW rfl rfl (by kernel_rfl) (fun w hM => hM.old hx (by simpa using hxb))) ?_)
  refine li rfl (opVal (.int .i64 ((most : Nat) : Int)) rfl (by kernel_rfl) (rLoadW rfl rfl (by kernel_rfl) (fun w hM => hM.old hy (by simpa using hyb))) ?_)
  refine li rfl ?_
  refine opCall 104 #[(.pointer (some ⟨br, 0, none⟩)), (.int .i64 ((most : Nat) : Int))] rfl (by kernel_rfl) (fun _ => by kernel_rfl) (fun w hM => ?_)
  refine (blk_none br D off last most w A c (hM.at (i := 0) rfl) (ownsRow_fr HO.out hM.fr HNB.out) hl ho hm hd).mono ?_
  rintro e w' ⟨rfl, hf2, off', ha2⟩
  have hM' := hM.swap 0 (c' := cAt br 146 [(.slice A (D.length) (c)), (.int .i64 ((off' : Nat) : Int)), (.int .i64 ((last : Nat) : Int)), (.int .i64 0)]) rfl hf2 ha2 (fun b hb => .inl hb) (by simp [cAt])
  refine ⟨_, _, rfl, hM', ?_⟩
  refine li rfl (opVal (.tuple #[(.slice none 0 0), (.int .i64 3)]) rfl (by kernel_rfl) (rMove rfl rfl) ?_)
  refine li rfl (opVal (.slice none 0 0) rfl (by kernel_rfl) (rClosed fun _ => by kernel_rfl) ?_)
  refine li rfl (opVal (.int .i64 3) rfl (by kernel_rfl) (rClosed fun _ => by kernel_rfl) ?_)
  refine li rfl (opVal (.slice none 0 0) rfl (by kernel_rfl) (rAssign rfl rfl) ?_)
  refine li rfl (opVal (.int .i64 3) rfl (by kernel_rfl) (rAssign rfl rfl) ?_)
  refine liNil ?_
  refine qThen ?_
  refine stSeq ?_
  refine reg ?_
  refine li rfl (opVal (.slice none 0 0) rfl (by kernel_rfl) (rMove rfl rfl) ?_)
  refine li rfl (opVal (.string (strOf [])) rfl (by kernel_rfl) (rStr (e := 5) [] rfl (by kernel_rfl) (by kernel_rfl) (by kernel_rfl) rfl rfl (fun w hM j v hj => by simp [B8] at hj)) ?_)
  refine li rfl (opVal (.int .i64 3) rfl (by kernel_rfl) (rMove rfl rfl) ?_)
  refine li rfl (opVal (.string (strOf [])) rfl (by kernel_rfl) (rAssign rfl rfl) ?_)
  refine li rfl (opVal (.int .i64 3) rfl (by kernel_rfl) (rAssign rfl rfl) ?_)
  refine liNil ?_
  refine qThen ?_
  refine stRet ?_
  refine stEnd [(.string (strOf [])), (.int .i64 3)] rfl ⟨rfl, rfl, trivial⟩ (fun w hM => ?_)
  exact ⟨rfl, hM.fr, _, A, c, hX, hM.at (i := 0) rfl, ownsRow_fr HO.out hM.fr HNB.out⟩
/-- The deferred closure of readValue[string]: the reader's last offset is set. -/
theorem rvClose_ok_Txt (b0 b1 b2 br : Nat) (A : Option Addr) (n c : Nat) (off last start : Int) (w : World) (h0 : At w b0 3 [Value.int .i64 start]) (h1 : At w b1 114 [Value.pointer (some ⟨br, 0, none⟩)]) (hr : At w br 146 [.slice A n c, Value.int .i64 off, Value.int .i64 last, Value.int .i64 0]) :
    CallsD Tryz.prog 121 #[Value.pointer (some ⟨b0, 0, none⟩), Value.pointer (some ⟨b1, 0, none⟩), Value.pointer (some ⟨b2, 0, none⟩)] .returning w fun e u' w' => u' = .returning ∧ e = .returned (.tuple #[]) ∧ w' = w.setCell ⟨br, 2, none⟩ (Value.int .i64 start) := by
  have c0 : w.cell? ⟨b0, 0, none⟩ = some (Value.int .i64 start) := by rw [h0.cell]; rfl
  have c1 : w.cell? ⟨b1, 0, none⟩ = some (Value.pointer (some ⟨br, 0, none⟩)) := by rw [h1.cell]; rfl
  have c2 : w.cell? ⟨br, 2, none⟩ = some (Value.int .i64 last) := by rw [hr.cell]; rfl
  have c3 : w.cell? ⟨br, 3, none⟩ = some (Value.int .i64 0) := by rw [hr.cell]; rfl
  have z2 := hr.frozen 2
  have hne : b1 ≠ br := h1.ne hr (by decide)
  clear h0 h1 hr
  go_enter_d Tryz.func121, Tryz.ntmps121
  go_wp2_with fail
  go_end0
  exact ⟨rfl, rfl⟩

/-- .. where there is an error, the offset and the value are set back. -/
theorem rvClose_err_Txt (b0 b1 b2 br : Nat) (A : Option Addr) (n c : Nat) (off last start err : Int) (v : Value) (w : World) (h0 : At w b0 3 [Value.int .i64 start]) (h1 : At w b1 114 [Value.pointer (some ⟨br, 0, none⟩)]) (h2 : At w b2 9 [v]) (hr : At w br 146 [.slice A n c, Value.int .i64 off, Value.int .i64 last, Value.int .i64 err]) (he : err ≠ 0) (hb : b2 ≠ b0 ∧ b2 ≠ br) :
    CallsD Tryz.prog 121 #[Value.pointer (some ⟨b0, 0, none⟩), Value.pointer (some ⟨b1, 0, none⟩), Value.pointer (some ⟨b2, 0, none⟩)] .returning w fun e u' w' => u' = .returning ∧ e = .returned (.tuple #[]) ∧ w' = ((w.setCell ⟨br, 2, none⟩ (Value.int .i64 start)).setCell ⟨br, 1, none⟩ (Value.int .i64 start)).setCell ⟨b2, 0, none⟩ (Value.string ⟨#[]⟩) := by
  have c0 : w.cell? ⟨b0, 0, none⟩ = some (Value.int .i64 start) := by rw [h0.cell]; rfl
  have c1 : w.cell? ⟨b1, 0, none⟩ = some (Value.pointer (some ⟨br, 0, none⟩)) := by rw [h1.cell]; rfl
  have cr1 : w.cell? ⟨br, 1, none⟩ = some (Value.int .i64 off) := by rw [hr.cell]; rfl
  have c2 : w.cell? ⟨br, 2, none⟩ = some (Value.int .i64 last) := by rw [hr.cell]; rfl
  have c3 : w.cell? ⟨br, 3, none⟩ = some (Value.int .i64 err) := by rw [hr.cell]; rfl
  have c4 : w.cell? ⟨b2, 0, none⟩ = some v := by rw [h2.cell]; rfl
  have z2 := hr.frozen 2
  have z1 := hr.frozen 1
  have z4 := h2.frozen 0
  have hne : b1 ≠ br := h1.ne hr (by decide)
  have hne2 : b2 ≠ br := hb.2
  have hne0 : b0 ≠ br := h0.ne hr (by decide)
  have heb : (err != 0) = true := by simpa using he
  clear h0 h1 hr h2 he hb
  go_enter_d Tryz.func121, Tryz.ntmps121
  go_wp2_with fail
  go_end0
  exact ⟨rfl, rfl⟩

set_option maxRecDepth 100000 in
set_option maxHeartbeats 4000000 in
theorem readTxt_some (br : Nat) (D : List UInt8) (off last m : Nat) (x : List UInt8) (bx by_ : Nat) (w : World) (hr : ReaderAt X w br D off last 0)
    (hdec : ∀ W, Fr [] w W → ReaderAt X W br D off last 0 → Calls Tryz.prog 103 #[Value.pointer (some ⟨bx, 0, none⟩), Value.pointer (some ⟨by_, 0, none⟩)] W fun e w' => e = .returned (.tuple #[Value.string (strOf x), Value.int .i64 0]) ∧ Fr [br] W w' ∧ ReaderAt X w' br D m last 0) :
    Calls Tryz.prog 102 #[Value.pointer (some ⟨br, 0, none⟩), .func (.func 103) #[] #[Value.pointer (some ⟨bx, 0, none⟩), Value.pointer (some ⟨by_, 0, none⟩)]] w fun e w' => e = .returned (Value.string (strOf x)) ∧ Fr [br] w w' ∧ ReaderAt X w' br D m off 0 := by
  obtain ⟨A, c, hX, ha, hrow⟩ := hr
  have c1 : w.cell? ⟨br, 1, none⟩ = some (Value.int .i64 (off : Int)) := by rw [ha.cell]; rfl
  have c3 : w.cell? ⟨br, 3, none⟩ = some (Value.int .i64 0) := by rw [ha.cell]; rfl
  have hlt := ha.lt
  have HR := Lib.hid (And.intro ha hrow)
  have HD := Lib.hid hdec
  clear ha hrow hdec
  have hmf : ∀ (fn : Fn) (first cap : Array Value) (w : World), (Instr.makeFunc fn first cap).run Tryz.prog w = .ok (.func fn first cap) w := fun _ _ _ _ => rfl
  go_enter_defers Tryz.func102, Tryz.ntmps102
  go_wp2_with fail
  obtain ⟨W, hW⟩ : ∃ W, W = ((w.alloc (Obj.cells #[Value.pointer (some ⟨br, 0, none⟩)] 114)).alloc (Obj.cells #[Value.string ⟨#[]⟩] 9)).alloc (Obj.cells #[Value.int .i64 (off : Int)] 3) := ⟨_, rfl⟩
  rw [← hW]
  have HW : Hid (At W w.heap.size 114 [Value.pointer (some ⟨br, 0, none⟩)] ∧ At W (w.heap.size + 1) 9 [Value.string ⟨#[]⟩] ∧ At W (w.heap.size + 1 + 1) 3 [Value.int .i64 (off : Int)] ∧ Fr [] w W ∧ ReaderAt X W br D off last 0) := by
    rw [hW]
    refine ⟨((At.new w 114 [Value.pointer (some ⟨br, 0, none⟩)]).alloc _).alloc _, ?_, ?_, (((Fr.refl _ _).alloc _).alloc _).alloc _, A, c, hX, ((HR.out.1.alloc _).alloc _).alloc _, ((HR.out.2.alloc _).alloc _).alloc _⟩
    · have := (At.new (w.alloc (Obj.cells #[Value.pointer (some ⟨br, 0, none⟩)] 114)) 9 [Value.string ⟨#[]⟩]).alloc (Obj.cells #[Value.int .i64 (off : Int)] 3)
      simpa using this
    · have := At.new ((w.alloc (Obj.cells #[Value.pointer (some ⟨br, 0, none⟩)] 114)).alloc (Obj.cells #[Value.string ⟨#[]⟩] 9)) 3 [Value.int .i64 (off : Int)]
      simpa using this
  clear hW c1 c3
  have d0 : W.cell? ⟨w.heap.size, 0, none⟩ = some (Value.pointer (some ⟨br, 0, none⟩)) := by rw [HW.out.1.cell]; rfl
  have nb1 : w.heap.size ≠ br := by omega
  have nb2 : br ≠ w.heap.size := by omega
  go_region_held3 (fun w' => w'.cell? ⟨w.heap.size, 0, none⟩ = some (Value.pointer (some ⟨br, 0, none⟩))) (go_keep) (first | (go_at_call 103; refine (HD.out W.drew (by exact HW.out.2.2.2.1.drew) (by exact HW.out.2.2.2.2)).mono ?_; rintro e w1 ⟨rfl, hf1, hr1⟩; obtain ⟨e0, e1, z1, e3, z3⟩ := rv_cells (W := W) HW.out.1 HW.out.2.1 HW.out.2.2.2.2 hf1 hr1; have H1 := Lib.hid (And.intro hf1 hr1); clear hf1 hr1))
  go_wp2_with fail
  obtain ⟨k0, k1, k2, k3, kf⟩ := rv_end HW.out.1 HW.out.2.1 HW.out.2.2.1 HW.out.2.2.2.2 H1.out.1 H1.out.2 (Value.string (strOf x)) (Value.int .i64 0) (by omega) (by decide)
  refine leaves_cons (f := 121) (args := #[Value.pointer (some ⟨w.heap.size + 1 + 1, 0, none⟩), Value.pointer (some ⟨w.heap.size, 0, none⟩), Value.pointer (some ⟨w.heap.size + 1, 0, none⟩)]) (by simp) (by simp [go_sem]) ?_
  obtain ⟨A', c', hX', k3'⟩ := k3
  refine (rvClose_ok_Txt _ _ _ br A' _ c' _ _ _ _ k2 k0 k3'.1).mono ?_
  rintro e u' w'' ⟨rfl, rfl, rfl⟩
  obtain ⟨g1, g2, g3⟩ := rv_done (off := off) HW.out.2.2.2.1 kf (by omega) k1 (by decide) k3'.1 k3'.2 hX'
  exact ⟨Value.string (strOf x), by simp [results, Tryz.results102, go_sem, g1], rfl, g2, g3⟩

set_option maxRecDepth 100000 in
set_option maxHeartbeats 4000000 in
theorem readTxt_none (br : Nat) (D : List UInt8) (off last : Nat) (er : Int) (x : List UInt8) (bx by_ : Nat) (w : World) (hr : ReaderAt X w br D off last 0) (he : er ≠ 0)
    (hdec : ∀ W, Fr [] w W → ReaderAt X W br D off last 0 → Calls Tryz.prog 103 #[Value.pointer (some ⟨bx, 0, none⟩), Value.pointer (some ⟨by_, 0, none⟩)] W fun e w' => e = .returned (.tuple #[Value.string (strOf x), Value.int .i64 er]) ∧ Fr [br] W w' ∧ ∃ off' : Nat, ReaderAt X w' br D off' last 0) :
    Calls Tryz.prog 102 #[Value.pointer (some ⟨br, 0, none⟩), .func (.func 103) #[] #[Value.pointer (some ⟨bx, 0, none⟩), Value.pointer (some ⟨by_, 0, none⟩)]] w fun e w' => e = .returned (Value.string ⟨#[]⟩) ∧ Fr [br] w w' ∧ ReaderAt X w' br D off off er := by
  have HE := Lib.hid he
  clear he
  obtain ⟨A, c, hX, ha, hrow⟩ := hr
  have c1 : w.cell? ⟨br, 1, none⟩ = some (Value.int .i64 (off : Int)) := by rw [ha.cell]; rfl
  have c3 : w.cell? ⟨br, 3, none⟩ = some (Value.int .i64 0) := by rw [ha.cell]; rfl
  have hlt := ha.lt
  have HR := Lib.hid (And.intro ha hrow)
  have HD := Lib.hid hdec
  clear ha hrow hdec
  have hmf : ∀ (fn : Fn) (first cap : Array Value) (w : World), (Instr.makeFunc fn first cap).run Tryz.prog w = .ok (.func fn first cap) w := fun _ _ _ _ => rfl
  go_enter_defers Tryz.func102, Tryz.ntmps102
  go_wp2_with fail
  obtain ⟨W, hW⟩ : ∃ W, W = ((w.alloc (Obj.cells #[Value.pointer (some ⟨br, 0, none⟩)] 114)).alloc (Obj.cells #[Value.string ⟨#[]⟩] 9)).alloc (Obj.cells #[Value.int .i64 (off : Int)] 3) := ⟨_, rfl⟩
  rw [← hW]
  have HW : Hid (At W w.heap.size 114 [Value.pointer (some ⟨br, 0, none⟩)] ∧ At W (w.heap.size + 1) 9 [Value.string ⟨#[]⟩] ∧ At W (w.heap.size + 1 + 1) 3 [Value.int .i64 (off : Int)] ∧ Fr [] w W ∧ ReaderAt X W br D off last 0) := by
    rw [hW]
    refine ⟨((At.new w 114 [Value.pointer (some ⟨br, 0, none⟩)]).alloc _).alloc _, ?_, ?_, (((Fr.refl _ _).alloc _).alloc _).alloc _, A, c, hX, ((HR.out.1.alloc _).alloc _).alloc _, ((HR.out.2.alloc _).alloc _).alloc _⟩
    · have := (At.new (w.alloc (Obj.cells #[Value.pointer (some ⟨br, 0, none⟩)] 114)) 9 [Value.string ⟨#[]⟩]).alloc (Obj.cells #[Value.int .i64 (off : Int)] 3)
      simpa using this
    · have := At.new ((w.alloc (Obj.cells #[Value.pointer (some ⟨br, 0, none⟩)] 114)).alloc (Obj.cells #[Value.string ⟨#[]⟩] 9)) 3 [Value.int .i64 (off : Int)]
      simpa using this
  clear hW c1 c3
  have d0 : W.cell? ⟨w.heap.size, 0, none⟩ = some (Value.pointer (some ⟨br, 0, none⟩)) := by rw [HW.out.1.cell]; rfl
  have nb1 : w.heap.size ≠ br := by omega
  have nb2 : br ≠ w.heap.size := by omega
  go_region_held3 (fun w' => w'.cell? ⟨w.heap.size, 0, none⟩ = some (Value.pointer (some ⟨br, 0, none⟩))) (go_keep) (first | (go_at_call 103; refine (HD.out W.drew (by exact HW.out.2.2.2.1.drew) (by exact HW.out.2.2.2.2)).mono ?_; rintro e w1 ⟨rfl, hf1, off', hr1⟩; obtain ⟨e0, e1, z1, e3, z3⟩ := rv_cells (W := W) HW.out.1 HW.out.2.1 HW.out.2.2.2.2 hf1 hr1; have H1 := Lib.hid (And.intro hf1 hr1); clear hf1 hr1))
  go_wp2_with fail
  obtain ⟨k0, k1, k2, k3, kf⟩ := rv_end HW.out.1 HW.out.2.1 HW.out.2.2.1 HW.out.2.2.2.2 H1.out.1 H1.out.2 (Value.string (strOf x)) (Value.int .i64 er) (by omega) (by decide)
  refine leaves_cons (f := 121) (args := #[Value.pointer (some ⟨w.heap.size + 1 + 1, 0, none⟩), Value.pointer (some ⟨w.heap.size, 0, none⟩), Value.pointer (some ⟨w.heap.size + 1, 0, none⟩)]) (by simp) (by simp [go_sem]) ?_
  obtain ⟨A', c', hX', k3'⟩ := k3
  refine (rvClose_err_Txt _ _ _ br A' _ c' _ _ _ er (Value.string (strOf x)) _ k2 k0 k1 k3'.1 HE.out (by omega)).mono ?_
  rintro e u' w'' ⟨rfl, rfl, rfl⟩
  obtain ⟨g1, g2, g3⟩ := rv_failed (off := off) (z := Value.string ⟨#[]⟩) HW.out.2.2.2.1 kf (by omega) k1 (by decide) (by decide) k3'.1 k3'.2 hX'
  exact ⟨Value.string ⟨#[]⟩, by simp [results, Tryz.results102, go_sem, g1], rfl, g2, g3⟩

set_option maxRecDepth 100000 in
theorem readTxt_err (br : Nat) (r : Rd) (fv : Value) (w : World) (hr : RdAt X w br r) (h0 : r.err ≠ 0) :
    Calls Tryz.prog 102 #[Value.pointer (some ⟨br, 0, none⟩), fv] w fun e w' => e = .returned (Value.string ⟨#[]⟩) ∧ Fr [] w w' ∧ RdAt X w' br r := by
  have hr0 := hr
  obtain ⟨A, c, hX, ha, hrow⟩ := hr
  have c3 : w.cell? ⟨br, 3, none⟩ = some (Value.int .i64 r.err) := by rw [ha.cell]; rfl
  have hb : (r.err != 0) = true := by simpa using h0
  have hlt := ha.lt
  have HR := Lib.hid hr0
  clear ha hrow hr0 h0
  go_enter_defers Tryz.func102, Tryz.ntmps102
  go_wp2_with fail
  have hf : Fr [] w ((w.alloc (Obj.cells #[Value.pointer (some ⟨br, 0, none⟩)] 114)).alloc (Obj.cells #[Value.string ⟨#[]⟩] 9)) := ((Fr.refl _ _).alloc _).alloc _
  exact ⟨Value.string ⟨#[]⟩, by simp [results, Tryz.results102, go_sem], rfl, hf, ReaderAt.fr HR.out hf⟩



/-- The reader's Text. -/
def Rd.text (r : Rd) (most : Nat) : List UInt8 × Rd := if r.err = 0 then (match rdNum r.D r.off with
  | none => ([], r.fail 3)
  | some (n, m) => if most < n then ([], r.fail 2) else if m + n ≤ r.D.length then ((r.D.drop m).take n, r.done (m + n)) else ([], r.fail 3)) else ([], r)

set_option maxRecDepth 100000 in
theorem rText_err (br : Nat) (r : Rd) (most : Nat) (w : World) (hr : RdAt X w br r) (_hk : r.Ok) (_hm : most ≤ 4294967296) (h0 : r.err ≠ 0) :
    Calls Tryz.prog 87 #[Value.pointer (some ⟨br, 0, none⟩), Value.int .i64 (most : Int)] w fun e w' => e = .returned (.string (strOf (r.text most).1)) ∧ Fr [br] w w' ∧ RdAt X w' br (r.text most).2 := by
  have HR := Lib.hid hr
  clear hr
  refine stEnter (args := [Value.pointer (some ⟨br, 0, none⟩), Value.int .i64 (most : Int)]) [] Tryz.func87 rfl 8 rfl [(0, Value.pointer (some ⟨br, 0, none⟩)), (1, Value.int .i64 (most : Int))] ⟨rfl, rfl, trivial⟩ [] (Mm.start w []) ?_
  refine stSeq ?_
  refine reg ?_
  refine li rfl ?_
  refine opBox [(.pointer (some ⟨br, 0, none⟩))] rfl rfl (by kernel_rfl) rfl rfl (fun b2 => ?_)
  refine li rfl ?_
  refine opBox [(.int .i64 ((most : Nat) : Int))] rfl rfl (by kernel_rfl) rfl rfl (fun b3 => ?_)
  refine li rfl (opVal (.string ⟨#[]⟩) rfl (by kernel_rfl) (rAssign rfl rfl) ?_)
  refine liNil ?_
  refine qThen ?_
  refine stSeq ?_
  refine reg ?_
  refine li rfl (opVal (.pointer (some ⟨br, 0, none⟩)) rfl (by kernel_rfl) (rLoad 0 rfl rfl (by kernel_rfl) rfl rfl) ?_)
  refine li rfl (opVal (.func (.func 103) #[] #[(.pointer (some ⟨b2, 0, none⟩)), (.pointer (some ⟨b3, 0, none⟩))]) rfl (by kernel_rfl) (rClosed fun _ => by kernel_rfl) ?_)
  refine li rfl ?_
  refine opCallB 102 #[(.pointer (some ⟨br, 0, none⟩)), (.func (.func 103) #[] #[(.pointer (some ⟨b2, 0, none⟩)), (.pointer (some ⟨b3, 0, none⟩))])] rfl (by kernel_rfl) (fun _ => by kernel_rfl) (fun w1 hM => ?_)
  have HR1 : Hid (RdAt X w1 br r) := ReaderAt.fr HR.out hM.fr
  have HB1 : Hid (At w1 b2 114 [Value.pointer (some ⟨br, 0, none⟩)]) := hM.at (i := 0) rfl
  have HB2 : Hid (At w1 b3 3 [Value.int .i64 (most : Int)]) := hM.at (i := 1) rfl
  have HF1 := Lib.hid hM.fr
  refine (readTxt_err br r _ w1 HR1.out h0).mono ?_
  rintro e w2 ⟨rfl, hf, hr2⟩
  refine ⟨_, w2, [], [], rfl, Mm.start w2 [], ?_⟩
  clear hM
  refine li rfl (opVal (.string ⟨#[]⟩) rfl (by kernel_rfl) (rAssign rfl rfl) ?_)
  refine liNil ?_
  refine qThen ?_
  refine stRet ?_
  refine stEnd [(.string ⟨#[]⟩)] rfl ⟨rfl, trivial⟩ (fun w hM => ?_)
  exact ⟨by unfold Rd.text; rw [if_neg h0]; rfl, ((HF1.out.trans hf).trans hM.fr).mono (by simp), by unfold Rd.text; rw [if_neg h0]; exact ReaderAt.fr hr2 hM.fr⟩

set_option maxRecDepth 100000 in
theorem rText_ok (br : Nat) (r : Rd) (most : Nat) (w : World) (hr : RdAt X w br r) (hk : r.Ok) (hm : most ≤ 4294967296) (h0 : r.err = 0) (n m : Nat) (hd : rdNum r.D r.off = some (n, m)) (hn : n ≤ most) (hf' : m + n ≤ r.D.length) :
    Calls Tryz.prog 87 #[Value.pointer (some ⟨br, 0, none⟩), Value.int .i64 (most : Int)] w fun e w' => e = .returned (.string (strOf (r.text most).1)) ∧ Fr [br] w w' ∧ RdAt X w' br (r.text most).2 := by
  have HR := Lib.hid hr
  clear hr
  refine stEnter (args := [Value.pointer (some ⟨br, 0, none⟩), Value.int .i64 (most : Int)]) [] Tryz.func87 rfl 8 rfl [(0, Value.pointer (some ⟨br, 0, none⟩)), (1, Value.int .i64 (most : Int))] ⟨rfl, rfl, trivial⟩ [] (Mm.start w []) ?_
  refine stSeq ?_
  refine reg ?_
  refine li rfl ?_
  refine opBox [(.pointer (some ⟨br, 0, none⟩))] rfl rfl (by kernel_rfl) rfl rfl (fun b2 => ?_)
  refine li rfl ?_
  refine opBox [(.int .i64 ((most : Nat) : Int))] rfl rfl (by kernel_rfl) rfl rfl (fun b3 => ?_)
  refine li rfl (opVal (.string ⟨#[]⟩) rfl (by kernel_rfl) (rAssign rfl rfl) ?_)
  refine liNil ?_
  refine qThen ?_
  refine stSeq ?_
  refine reg ?_
  refine li rfl (opVal (.pointer (some ⟨br, 0, none⟩)) rfl (by kernel_rfl) (rLoad 0 rfl rfl (by kernel_rfl) rfl rfl) ?_)
  refine li rfl (opVal (.func (.func 103) #[] #[(.pointer (some ⟨b2, 0, none⟩)), (.pointer (some ⟨b3, 0, none⟩))]) rfl (by kernel_rfl) (rClosed fun _ => by kernel_rfl) ?_)
  refine li rfl ?_
  refine opCallB 102 #[(.pointer (some ⟨br, 0, none⟩)), (.func (.func 103) #[] #[(.pointer (some ⟨b2, 0, none⟩)), (.pointer (some ⟨b3, 0, none⟩))])] rfl (by kernel_rfl) (fun _ => by kernel_rfl) (fun w1 hM => ?_)
  have HR1 : Hid (RdAt X w1 br r) := ReaderAt.fr HR.out hM.fr
  have HB1 : Hid (At w1 b2 114 [Value.pointer (some ⟨br, 0, none⟩)]) := hM.at (i := 0) rfl
  have HB2 : Hid (At w1 b3 3 [Value.int .i64 (most : Int)]) := hM.at (i := 1) rfl
  have HF1 := Lib.hid hM.fr
  refine (readTxt_some br r.D r.off r.last (m + n) ((r.D.drop m).take n) b2 b3 w1 (by have h := HR1.out; unfold RdAt at h; rw [h0] at h; exact h) (fun W hf hr => txtc_ok b2 b3 br r.D r.off r.last most W (HB1.out.fr hf (by simp)) (HB2.out.fr hf (by simp)) hr hk.len hk.off hm n m hd hn hf')).mono ?_
  rintro e w2 ⟨rfl, hf, hr2⟩
  refine ⟨_, w2, [], [], rfl, Mm.start w2 [], ?_⟩
  clear hM
  refine li rfl (opVal (.string (strOf ((r.D.drop m).take n))) rfl (by kernel_rfl) (rAssign rfl rfl) ?_)
  refine liNil ?_
  refine qThen ?_
  refine stRet ?_
  refine stEnd [(.string (strOf ((r.D.drop m).take n)))] rfl ⟨rfl, trivial⟩ (fun w hM => ?_)
  exact ⟨by unfold Rd.text; rw [if_pos h0, hd]; dsimp only; rw [if_neg (by omega), if_pos hf']; rfl, ((HF1.out.mono (by simp)).trans hf).trans (hM.fr.mono (by simp)), by unfold Rd.text; rw [if_pos h0, hd]; dsimp only; rw [if_neg (by omega), if_pos hf']; unfold Rd.done RdAt; have h := ReaderAt.fr hr2 hM.fr; rw [← h0] at h; exact h⟩

set_option maxRecDepth 100000 in
theorem rText_few (br : Nat) (r : Rd) (most : Nat) (w : World) (hr : RdAt X w br r) (hk : r.Ok) (hm : most ≤ 4294967296) (h0 : r.err = 0) (n m : Nat) (hd : rdNum r.D r.off = some (n, m)) (hn : n ≤ most) (hf' : r.D.length < m + n) :
    Calls Tryz.prog 87 #[Value.pointer (some ⟨br, 0, none⟩), Value.int .i64 (most : Int)] w fun e w' => e = .returned (.string (strOf (r.text most).1)) ∧ Fr [br] w w' ∧ RdAt X w' br (r.text most).2 := by
  have HR := Lib.hid hr
  clear hr
  refine stEnter (args := [Value.pointer (some ⟨br, 0, none⟩), Value.int .i64 (most : Int)]) [] Tryz.func87 rfl 8 rfl [(0, Value.pointer (some ⟨br, 0, none⟩)), (1, Value.int .i64 (most : Int))] ⟨rfl, rfl, trivial⟩ [] (Mm.start w []) ?_
  refine stSeq ?_
  refine reg ?_
  refine li rfl ?_
  refine opBox [(.pointer (some ⟨br, 0, none⟩))] rfl rfl (by kernel_rfl) rfl rfl (fun b2 => ?_)
  refine li rfl ?_
  refine opBox [(.int .i64 ((most : Nat) : Int))] rfl rfl (by kernel_rfl) rfl rfl (fun b3 => ?_)
  refine li rfl (opVal (.string ⟨#[]⟩) rfl (by kernel_rfl) (rAssign rfl rfl) ?_)
  refine liNil ?_
  refine qThen ?_
  refine stSeq ?_
  refine reg ?_
  refine li rfl (opVal (.pointer (some ⟨br, 0, none⟩)) rfl (by kernel_rfl) (rLoad 0 rfl rfl (by kernel_rfl) rfl rfl) ?_)
  refine li rfl (opVal (.func (.func 103) #[] #[(.pointer (some ⟨b2, 0, none⟩)), (.pointer (some ⟨b3, 0, none⟩))]) rfl (by kernel_rfl) (rClosed fun _ => by kernel_rfl) ?_)
  refine li rfl ?_
  refine opCallB 102 #[(.pointer (some ⟨br, 0, none⟩)), (.func (.func 103) #[] #[(.pointer (some ⟨b2, 0, none⟩)), (.pointer (some ⟨b3, 0, none⟩))])] rfl (by kernel_rfl) (fun _ => by kernel_rfl) (fun w1 hM => ?_)
  have HR1 : Hid (RdAt X w1 br r) := ReaderAt.fr HR.out hM.fr
  have HB1 : Hid (At w1 b2 114 [Value.pointer (some ⟨br, 0, none⟩)]) := hM.at (i := 0) rfl
  have HB2 : Hid (At w1 b3 3 [Value.int .i64 (most : Int)]) := hM.at (i := 1) rfl
  have HF1 := Lib.hid hM.fr
  refine (readTxt_none br r.D r.off r.last 3 [] b2 b3 w1 (by have h := HR1.out; unfold RdAt at h; rw [h0] at h; exact h) (by decide) (fun W hf hr => txtc_few b2 b3 br r.D r.off r.last most W (HB1.out.fr hf (by simp)) (HB2.out.fr hf (by simp)) hr hk.len hk.off hm n m hd hn hf')).mono ?_
  rintro e w2 ⟨rfl, hf, hr2⟩
  refine ⟨_, w2, [], [], rfl, Mm.start w2 [], ?_⟩
  clear hM
  refine li rfl (opVal (.string ⟨#[]⟩) rfl (by kernel_rfl) (rAssign rfl rfl) ?_)
  refine liNil ?_
  refine qThen ?_
  refine stRet ?_
  refine stEnd [(.string ⟨#[]⟩)] rfl ⟨rfl, trivial⟩ (fun w hM => ?_)
  exact ⟨by unfold Rd.text; rw [if_pos h0, hd]; dsimp only; rw [if_neg (by omega), if_neg (by omega)]; rfl, ((HF1.out.mono (by simp)).trans hf).trans (hM.fr.mono (by simp)), by unfold Rd.text; rw [if_pos h0, hd]; dsimp only; rw [if_neg (by omega), if_neg (by omega)]; unfold Rd.fail RdAt; exact ReaderAt.fr hr2 hM.fr⟩

set_option maxRecDepth 100000 in
theorem rText_big (br : Nat) (r : Rd) (most : Nat) (w : World) (hr : RdAt X w br r) (hk : r.Ok) (hm : most ≤ 4294967296) (h0 : r.err = 0) (n m : Nat) (hd : rdNum r.D r.off = some (n, m)) (hn : most < n) :
    Calls Tryz.prog 87 #[Value.pointer (some ⟨br, 0, none⟩), Value.int .i64 (most : Int)] w fun e w' => e = .returned (.string (strOf (r.text most).1)) ∧ Fr [br] w w' ∧ RdAt X w' br (r.text most).2 := by
  have HR := Lib.hid hr
  clear hr
  refine stEnter (args := [Value.pointer (some ⟨br, 0, none⟩), Value.int .i64 (most : Int)]) [] Tryz.func87 rfl 8 rfl [(0, Value.pointer (some ⟨br, 0, none⟩)), (1, Value.int .i64 (most : Int))] ⟨rfl, rfl, trivial⟩ [] (Mm.start w []) ?_
  refine stSeq ?_
  refine reg ?_
  refine li rfl ?_
  refine opBox [(.pointer (some ⟨br, 0, none⟩))] rfl rfl (by kernel_rfl) rfl rfl (fun b2 => ?_)
  refine li rfl ?_
  refine opBox [(.int .i64 ((most : Nat) : Int))] rfl rfl (by kernel_rfl) rfl rfl (fun b3 => ?_)
  refine li rfl (opVal (.string ⟨#[]⟩) rfl (by kernel_rfl) (rAssign rfl rfl) ?_)
  refine liNil ?_
  refine qThen ?_
  refine stSeq ?_
  refine reg ?_
  refine li rfl (opVal (.pointer (some ⟨br, 0, none⟩)) rfl (by kernel_rfl) (rLoad 0 rfl rfl (by kernel_rfl) rfl rfl) ?_)
  refine li rfl (opVal (.func (.func 103) #[] #[(.pointer (some ⟨b2, 0, none⟩)), (.pointer (some ⟨b3, 0, none⟩))]) rfl (by kernel_rfl) (rClosed fun _ => by kernel_rfl) ?_)
  refine li rfl ?_
  refine opCallB 102 #[(.pointer (some ⟨br, 0, none⟩)), (.func (.func 103) #[] #[(.pointer (some ⟨b2, 0, none⟩)), (.pointer (some ⟨b3, 0, none⟩))])] rfl (by kernel_rfl) (fun _ => by kernel_rfl) (fun w1 hM => ?_)
  have HR1 : Hid (RdAt X w1 br r) := ReaderAt.fr HR.out hM.fr
  have HB1 : Hid (At w1 b2 114 [Value.pointer (some ⟨br, 0, none⟩)]) := hM.at (i := 0) rfl
  have HB2 : Hid (At w1 b3 3 [Value.int .i64 (most : Int)]) := hM.at (i := 1) rfl
  have HF1 := Lib.hid hM.fr
  refine (readTxt_none br r.D r.off r.last 2 [] b2 b3 w1 (by have h := HR1.out; unfold RdAt at h; rw [h0] at h; exact h) (by decide) (fun W hf hr => txtc_big b2 b3 br r.D r.off r.last most W (HB1.out.fr hf (by simp)) (HB2.out.fr hf (by simp)) hr hk.len hk.off hm n m hd hn)).mono ?_
  rintro e w2 ⟨rfl, hf, hr2⟩
  refine ⟨_, w2, [], [], rfl, Mm.start w2 [], ?_⟩
  clear hM
  refine li rfl (opVal (.string ⟨#[]⟩) rfl (by kernel_rfl) (rAssign rfl rfl) ?_)
  refine liNil ?_
  refine qThen ?_
  refine stRet ?_
  refine stEnd [(.string ⟨#[]⟩)] rfl ⟨rfl, trivial⟩ (fun w hM => ?_)
  exact ⟨by unfold Rd.text; rw [if_pos h0, hd]; dsimp only; rw [if_pos hn]; rfl, ((HF1.out.mono (by simp)).trans hf).trans (hM.fr.mono (by simp)), by unfold Rd.text; rw [if_pos h0, hd]; dsimp only; rw [if_pos hn]; unfold Rd.fail RdAt; exact ReaderAt.fr hr2 hM.fr⟩

set_option maxRecDepth 100000 in
theorem rText_none (br : Nat) (r : Rd) (most : Nat) (w : World) (hr : RdAt X w br r) (hk : r.Ok) (hm : most ≤ 4294967296) (h0 : r.err = 0) (hd : rdNum r.D r.off = none) :
    Calls Tryz.prog 87 #[Value.pointer (some ⟨br, 0, none⟩), Value.int .i64 (most : Int)] w fun e w' => e = .returned (.string (strOf (r.text most).1)) ∧ Fr [br] w w' ∧ RdAt X w' br (r.text most).2 := by
  have HR := Lib.hid hr
  clear hr
  refine stEnter (args := [Value.pointer (some ⟨br, 0, none⟩), Value.int .i64 (most : Int)]) [] Tryz.func87 rfl 8 rfl [(0, Value.pointer (some ⟨br, 0, none⟩)), (1, Value.int .i64 (most : Int))] ⟨rfl, rfl, trivial⟩ [] (Mm.start w []) ?_
  refine stSeq ?_
  refine reg ?_
  refine li rfl ?_
  refine opBox [(.pointer (some ⟨br, 0, none⟩))] rfl rfl (by kernel_rfl) rfl rfl (fun b2 => ?_)
  refine li rfl ?_
  refine opBox [(.int .i64 ((most : Nat) : Int))] rfl rfl (by kernel_rfl) rfl rfl (fun b3 => ?_)
  refine li rfl (opVal (.string ⟨#[]⟩) rfl (by kernel_rfl) (rAssign rfl rfl) ?_)
  refine liNil ?_
  refine qThen ?_
  refine stSeq ?_
  refine reg ?_
  refine li rfl (opVal (.pointer (some ⟨br, 0, none⟩)) rfl (by kernel_rfl) (rLoad 0 rfl rfl (by kernel_rfl) rfl rfl) ?_)
  refine li rfl (opVal (.func (.func 103) #[] #[(.pointer (some ⟨b2, 0, none⟩)), (.pointer (some ⟨b3, 0, none⟩))]) rfl (by kernel_rfl) (rClosed fun _ => by kernel_rfl) ?_)
  refine li rfl ?_
  refine opCallB 102 #[(.pointer (some ⟨br, 0, none⟩)), (.func (.func 103) #[] #[(.pointer (some ⟨b2, 0, none⟩)), (.pointer (some ⟨b3, 0, none⟩))])] rfl (by kernel_rfl) (fun _ => by kernel_rfl) (fun w1 hM => ?_)
  have HR1 : Hid (RdAt X w1 br r) := ReaderAt.fr HR.out hM.fr
  have HB1 : Hid (At w1 b2 114 [Value.pointer (some ⟨br, 0, none⟩)]) := hM.at (i := 0) rfl
  have HB2 : Hid (At w1 b3 3 [Value.int .i64 (most : Int)]) := hM.at (i := 1) rfl
  have HF1 := Lib.hid hM.fr
  refine (readTxt_none br r.D r.off r.last 3 [] b2 b3 w1 (by have h := HR1.out; unfold RdAt at h; rw [h0] at h; exact h) (by decide) (fun W hf hr => txtc_none b2 b3 br r.D r.off r.last most W (HB1.out.fr hf (by simp)) (HB2.out.fr hf (by simp)) hr hk.len hk.off hm hd)).mono ?_
  rintro e w2 ⟨rfl, hf, hr2⟩
  refine ⟨_, w2, [], [], rfl, Mm.start w2 [], ?_⟩
  clear hM
  refine li rfl (opVal (.string ⟨#[]⟩) rfl (by kernel_rfl) (rAssign rfl rfl) ?_)
  refine liNil ?_
  refine qThen ?_
  refine stRet ?_
  refine stEnd [(.string ⟨#[]⟩)] rfl ⟨rfl, trivial⟩ (fun w hM => ?_)
  exact ⟨by unfold Rd.text; rw [if_pos h0, hd]; dsimp only; rfl, ((HF1.out.mono (by simp)).trans hf).trans (hM.fr.mono (by simp)), by unfold Rd.text; rw [if_pos h0, hd]; dsimp only; unfold Rd.fail RdAt; exact ReaderAt.fr hr2 hM.fr⟩

theorem rText (br : Nat) (r : Rd) (most : Nat) (w : World) (hr : RdAt X w br r) (hk : r.Ok) (hm : most ≤ 4294967296) : Calls Tryz.prog 87 #[Value.pointer (some ⟨br, 0, none⟩), Value.int .i64 (most : Int)] w fun e w' => e = .returned (.string (strOf (r.text most).1)) ∧ Fr [br] w w' ∧ RdAt X w' br (r.text most).2 := by
  by_cases h0 : r.err = 0
  · cases hd : rdNum r.D r.off with
    | none => exact rText_none br r most w hr hk hm h0 hd
    | some p =>
      obtain ⟨n, m⟩ := p
      by_cases hn : n ≤ most
      · by_cases hf : m + n ≤ r.D.length
        · exact rText_ok br r most w hr hk hm h0 n m hd hn hf
        · exact rText_few br r most w hr hk hm h0 n m hd hn (by omega)
      · exact rText_big br r most w hr hk hm h0 n m hd (by omega)
  · exact rText_err br r most w hr hk hm h0
end Go.Proofs.YtlepfnihpdhcaaaGreatDoor
