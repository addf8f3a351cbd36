/- The reader as one piece of memory, and its contracts in one form. -/
import Derived.Test.YtlepfnihpdhcaaaGreatDoorRdTook
import Derived.Test.YtlepfnihpdhcaaaGreatDoorRd7
import Derived.Test.YtlepfnihpdhcaaaGreatDoorCon
namespace Go.Proofs.YtlepfnihpdhcaaaGreatDoor
open Go.RowKit

def cRd (X : Option Addr × Nat) (br : Nat) (r : Rd) : Ch where
  fp := br :: ownFp X.1
  holds w := RdAt X w br r ∧ r.Ok
  ok w w' hb h := by
    obtain ⟨⟨A, c, hX, h1, h2⟩, hk⟩ := h
    subst hX
    refine ⟨⟨A, c, rfl, ?_, ?_⟩, hk⟩
    · exact (cAt br 146 _).ok w w' (fun b hb1 => hb b (by rw [show b = br from List.mem_singleton.1 hb1]; exact List.mem_cons_self)) h1
    · exact (cOwn 5 1 A r.D.length c (B8 r.D)).ok w w' (fun b hb1 => hb b (List.mem_cons_of_mem _ hb1)) h2
  lt w h b hb := by
    obtain ⟨⟨A, c, hX, h1, h2⟩, hk⟩ := h
    subst hX
    rcases List.mem_cons.1 hb with rfl | hb
    · exact h1.lt
    · exact (cOwn 5 1 A r.D.length c (B8 r.D)).lt w h2 b hb
theorem rd_nodup {X : Option Addr × Nat} {w : World} {br : Nat} {r : Rd} (h : RdAt X w br r) : (br :: ownFp X.1).Nodup := by
  obtain ⟨A, c, hX, h1, h2⟩ := h
  subst hX
  refine List.nodup_cons.2 ⟨fun hb => ?_, ownFp_nodup A⟩
  have h3 := own_at_ne h2 h1 (by decide)
  cases A with
  | none => simp [ownFp] at hb
  | some a =>
    have : br = a.block := by simpa [ownFp] using hb
    exact h3 (by rw [this]; rfl)
theorem rd_back {X : Option Addr × Nat} {w w' : World} {br : Nat} {r r' : Rd} (hO : Own [cRd X br r] w) (hf : Fr [br] w w') (hr : RdAt X w' br r') (hk : r'.Ok) : Back [cRd X br r] w [cRd X br r'] w' :=
  hO.swap 0 (c' := cRd X br r') rfl (hf.mono (S' := br :: ownFp X.1) (by simp)) ⟨hr, hk⟩ (fun b hb => .inl hb) (rd_nodup hr)
theorem rd_new {w w' : World} {br : Nat} {A : Option Addr} {c : Nat} {r : Rd} (hf : Fr [] w w') (hr : RdAt (A, c) w' br r) (hk : r.Ok) (hb : w.heap.size ≤ br) (ho : w'.ownsRow w.heap.size 5 1 (.slice A r.D.length c) r.D.length (B8 r.D)) : Back [] w [cRd (A, c) br r] w' :=
  (Mm.start w []).push (c := cRd (A, c) br r) hf ⟨hr, hk⟩ (fun b hb1 => by
    rcases List.mem_cons.1 hb1 with rfl | hb1
    · exact hb
    · rcases ho.2 with ⟨hv, _⟩ | ⟨g, cap, cur, hv, hge, _⟩
      · simp only [Value.slice.injEq] at hv
        obtain ⟨rfl, _, rfl⟩ := hv
        simp [ownFp] at hb1
      · simp only [Value.slice.injEq] at hv
        obtain ⟨rfl, _, rfl⟩ := hv
        have : b = g := by simpa [ownFp] using hb1
        rw [this]
        exact hge) (rd_nodup hr)
/-- The reader's Count. -/
def Rd.cnt (r : Rd) (m : Nat) : Nat × Rd := r.count (m : Int)
theorem Rd.Ok.cnt {r : Rd} (h : r.Ok) (most : Nat) : (r.cnt most).2.Ok := by
  unfold Rd.cnt Rd.count
  split
  · cases hd : rdNum r.D r.off with
    | none => exact ⟨h.off, h.len⟩
    | some p =>
      simp only
      split
      · exact ⟨h.off, h.len⟩
      · exact ⟨(rdNum_le _ _ p.1 p.2 hd).2.1, h.len⟩
  · exact h
theorem Rd.Ok.text {r : Rd} (h : r.Ok) (most : Nat) : (r.text most).2.Ok := by
  unfold Rd.text
  split
  · cases hd : rdNum r.D r.off with
    | none => exact ⟨h.off, h.len⟩
    | some p =>
      obtain ⟨n, m⟩ := p
      dsimp only
      split
      · exact ⟨h.off, h.len⟩
      · split
        · exact ⟨by assumption, h.len⟩
        · exact ⟨h.off, h.len⟩
  · exact h

theorem rsRUint_any (X : Option Addr × Nat) (br : Nat) (r : Rd) (w : World) (hO : Own [cRd X br (r)] w) :
    Calls Tryz.prog 90 #[(.pointer (some ⟨br, 0, none⟩))] w fun e w' => e = .returned (.int .u64 ((r.uint.1 : Nat) : Int)) ∧ Back [cRd X br (r)] w [cRd X br (r.uint.2)] w' := by
  have h := hO.at (i := 0) rfl; obtain ⟨hr, hk⟩ : RdAt X w br r ∧ r.Ok := h
  refine (rUint br r w hr hk).mono ?_
  rintro e w' ⟨rfl, hf, hr2⟩
  exact ⟨rfl, rd_back hO hf hr2 hk.uint'⟩

theorem rsRCount_any (X : Option Addr × Nat) (br : Nat) (r : Rd) (most : Nat) (w : World) (hO : Own [cRd X br (r)] w) (hm : most ≤ 4294967296) :
    Calls Tryz.prog 61 #[(.pointer (some ⟨br, 0, none⟩)), (.int .i64 ((most : Nat) : Int))] w fun e w' => e = .returned (.int .i64 (((r.cnt most).1 : Nat) : Int)) ∧ Back [cRd X br (r)] w [cRd X br ((r.cnt most).2)] w' := by
  have h := hO.at (i := 0) rfl; obtain ⟨hr, hk⟩ : RdAt X w br r ∧ r.Ok := h
  refine (rCount br r (most : Int) w hr hk ⟨by omega, by omega⟩).mono ?_
  rintro e w' ⟨rfl, hf, hr2⟩
  exact ⟨rfl, rd_back hO hf hr2 (hk.cnt most)⟩

theorem rsRText_any (X : Option Addr × Nat) (br : Nat) (r : Rd) (most : Nat) (w : World) (hO : Own [cRd X br (r)] w) (hm : most ≤ 4294967296) :
    Calls Tryz.prog 87 #[(.pointer (some ⟨br, 0, none⟩)), (.int .i64 ((most : Nat) : Int))] w fun e w' => e = .returned (.string (strOf (r.text most).1)) ∧ Back [cRd X br (r)] w [cRd X br ((r.text most).2)] w' := by
  have h := hO.at (i := 0) rfl; obtain ⟨hr, hk⟩ : RdAt X w br r ∧ r.Ok := h
  refine (rText br r most w hr hk hm).mono ?_
  rintro e w' ⟨rfl, hf, hr2⟩
  exact ⟨rfl, rd_back hO hf hr2 (hk.text most)⟩

theorem rsRSum_any (X : Option Addr × Nat) (br : Nat) (r : Rd) (w : World) (hO : Own [cRd X br (r)] w) :
    Calls Tryz.prog 91 #[(.pointer (some ⟨br, 0, none⟩))] w fun e w' => e = .returned (.string (strOf r.sum.1)) ∧ Back [cRd X br (r)] w [cRd X br (r.sum.2)] w' := by
  have h := hO.at (i := 0) rfl; obtain ⟨hr, hk⟩ : RdAt X w br r ∧ r.Ok := h
  refine (rSum br r w hr hk).mono ?_
  rintro e w' ⟨rfl, hf, hr2⟩
  exact ⟨rfl, rd_back hO hf hr2 hk.sum⟩

theorem rsREnd_any (X : Option Addr × Nat) (br : Nat) (r : Rd) (w : World) (hO : Own [cRd X br (r)] w) :
    Calls Tryz.prog 63 #[(.pointer (some ⟨br, 0, none⟩))] w fun e w' => e = .returned (.tuple #[(.int .i64 ((r.off : Nat) : Int)), (.int .i64 r.end_)]) ∧ Back [cRd X br (r)] w [cRd X br (r)] w' := by
  have h := hO.at (i := 0) rfl; obtain ⟨hr, hk⟩ : RdAt X w br r ∧ r.Ok := h
  refine (rEnd br r w hr hk).mono ?_
  rintro e w' ⟨rfl, hf⟩
  exact ⟨rfl, rd_back hO (hf.mono (by simp)) (ReaderAt.fr hr hf) hk⟩

theorem rsRNew_any (A : Option Addr) (c : Nat) (D : List UInt8) (w : World) (r0 : Rf [] w (fun w => RowIn w A (B8 D))) (hD : D.length ≤ 4294967296) :
    Calls Tryz.prog 60 #[(.slice A (D.length) (c))] w fun e w' => ∃ (X : Option Addr × Nat) (br : Nat), e = .returned (.pointer (some ⟨br, 0, none⟩)) ∧ Back [] w [cRd X br (Rd.mk D 0 0 0)] w' := by
  refine (newReader_any A c D w hD r0.here).mono ?_
  rintro e w' ⟨br, A2, c2, rfl, hb, hf, hr, ho⟩
  exact ⟨(A2, c2), br, rfl, rd_new hf hr ⟨Nat.zero_le _, hD⟩ hb ho⟩

set_option maxRecDepth 100000 in
theorem rsRLeft_any (X : Option Addr × Nat) (br : Nat) (r : Rd) (w : World) (hO : Own [cRd X br (r)] w) :
    Calls Tryz.prog 108 #[(.pointer (some ⟨br, 0, none⟩))] w fun e w' => e = .returned (.int .i64 (((r.D.length - r.off) : Nat) : Int)) ∧ Back [cRd X br (r)] w [cRd X br (r)] w' := by
  have h := hO.at (i := 0) rfl; obtain ⟨hr, hk⟩ : RdAt X w br r ∧ r.Ok := h
  obtain ⟨A, c, hX, ha, hown⟩ := hr
  have hkl := hk.len; have hko := hk.off
  have hnb : ∀ g, (Value.slice A r.D.length c).ownBlock = some g → g ∉ [br] := fun g hg => by
    have h1 := own_at_ne hown ha (by decide)
    simp only [List.mem_singleton]
    rintro rfl
    exact h1 hg.symm
  refine stEnter (args := [Value.pointer (some ⟨br, 0, none⟩)]) [br] Tryz.func108 rfl 13 rfl [(0, Value.pointer (some ⟨br, 0, none⟩))] ⟨rfl, trivial⟩ [cAt br 146 [(.slice A (r.D.length) (c)), (.int .i64 ((r.off : Nat) : Int)), (.int .i64 ((r.last : Nat) : Int)), (.int .i64 r.err)]] (Mm.one ha) ?_
  refine stSeq ?_
  refine reg ?_
  refine li rfl (opVal (.int .i64 0) rfl (by kernel_rfl) (rAssign rfl rfl) ?_)
  refine liNil ?_
  refine qThen ?_
  refine stSeq ?_
  refine anyBegin [cAt br 146 [(.slice A (r.D.length) (c)), (.int .i64 ((r.off : Nat) : Int)), (.int .i64 ((r.last : Nat) : Int)), (.int .i64 r.err)]] 11 (by kernel_rfl) (fun _ h => h) ?_
  refine anyVal (i := 0) (.pointer (some ⟨br, 0, none⟩)) rfl rfl rfl (by kernel_rfl) (by kernel_rfl) (fun _ _ _ h => h) (rMove rfl rfl) ?_
  refine anyVal (i := 1) (.pointer (some ⟨br, 0, none⟩)) rfl rfl rfl (by kernel_rfl) (by kernel_rfl) (fun _ _ _ h => h) (rClosed fun _ => by kernel_rfl) ?_
  refine anyVal (i := 2) (.pointer (some ⟨br, 0, none⟩)) rfl rfl rfl (by kernel_rfl) (by kernel_rfl) (fun _ _ _ h => h) (rClosed fun _ => by kernel_rfl) ?_
  refine anyVal (i := 3) (.slice A (r.D.length) (c)) rfl rfl rfl (by kernel_rfl) (by kernel_rfl) (fun _ _ _ h => h) (rLoad 0 rfl rfl (by kernel_rfl) rfl rfl) ?_
  refine anyVal (i := 4) (.int .i64 ((r.D.length : Nat) : Int)) rfl rfl rfl (by kernel_rfl) (by kernel_rfl) (fun _ _ _ h => h) (rClosed fun _ => by kernel_rfl) ?_
  refine anyVal (i := 5) (.pointer (some ⟨br, 0, none⟩)) rfl rfl rfl (by kernel_rfl) (by kernel_rfl) (fun _ _ _ h => h) (rMove rfl rfl) ?_
  refine anyVal (i := 6) (.pointer (some ⟨br, 0, none⟩)) rfl rfl rfl (by kernel_rfl) (by kernel_rfl) (fun _ _ _ h => h) (rClosed fun _ => by kernel_rfl) ?_
  refine anyVal (i := 7) (.pointer (some ⟨br, 1, none⟩)) rfl rfl rfl (by kernel_rfl) (by kernel_rfl) (fun _ _ _ h => h) (rClosed fun _ => by kernel_rfl) ?_
  refine anyVal (i := 8) (.int .i64 ((r.off : Nat) : Int)) rfl rfl rfl (by kernel_rfl) (by kernel_rfl) (fun _ _ _ h => h) (rLoad 0 rfl rfl (by kernel_rfl) rfl rfl) ?_
  refine anyVal (i := 9) (.int .i64 (((r.D.length - r.off) : Nat) : Int)) rfl rfl rfl (by kernel_rfl) (by kernel_rfl) (fun _ _ _ h => h) (rConv (rSub _ rfl rfl rfl rfl (by omega) (by omega)) (by rw [Int.ofNat_sub hk.off])) ?_
  refine anyVal (i := 10) (.int .i64 (((r.D.length - r.off) : Nat) : Int)) rfl rfl rfl (by kernel_rfl) (by kernel_rfl) (fun _ _ _ h => h) (rAssign rfl rfl) ?_
  refine anyDone (by kernel_rfl) ?_
  refine qThen ?_
  refine stRet ?_
  refine stEnd [(.int .i64 (((r.D.length - r.off) : Nat) : Int))] rfl ⟨rfl, trivial⟩ (fun w hM => ?_)
  exact ⟨rfl, rd_back hO (hM.fr.mono (by simp)) ⟨A, c, hX, hM.at (i := 0) rfl, ownsRow_fr hown hM.fr hnb⟩ hk⟩

end Go.Proofs.YtlepfnihpdhcaaaGreatDoor
