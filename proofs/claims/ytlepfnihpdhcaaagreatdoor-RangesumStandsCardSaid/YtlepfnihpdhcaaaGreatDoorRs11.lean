/- rangesum: a message taken. -/
import Derived.Test.YtlepfnihpdhcaaaGreatDoorRs10
import Derived.Test.YtlepfnihpdhcaaaGreatDoorRs5
import Derived.Test.YtlepfnihpdhcaaaGreatDoorRs6
import Derived.Test.YtlepfnihpdhcaaaGreatDoorRs7
import Derived.Test.YtlepfnihpdhcaaaGreatDoorRsRun
namespace Go.Proofs.YtlepfnihpdhcaaaGreatDoor
open Go.RowKit
abbrev noB2 : List Bs := []
/-- What holds behind the first i parts of a message. -/
structure StepInv (its : List Bs) (fan leaf : Nat) (A : Option Addr) (pvs : List PV) (i : Nat) (rp : List PV) (nl ol : List Bs) (L : List (Option Addr × List Bs)) : Prop where
  le : i ≤ pvs.length
  rep : rp.map PV.abs = (pvs.take i).flatMap fun p => repA its fan leaf p.abs
  need : nl = (pvs.take i).flatMap fun p => needA its p.abs
  off : ol = (pvs.take i).flatMap fun p => offA its p.abs
  src : SrcOk L A its rp
  len1 : rp.length ≤ i * 17
  len2 : nl.length ≤ i * 16384
  len3 : ol.length ≤ i * 16384
section
variable {its : List Bs} {fan leaf : Nat} {A : Option Addr} {pvs rp ps2 : List PV} {i : Nat} {nl ol : List Bs} {L M : List (Option Addr × List Bs)} {lo hi : Bs}
theorem StepInv.zero : StepInv its fan leaf A pvs 0 [] [] [] [] := ⟨Nat.zero_le _, rfl, rfl, rfl, SrcOk.nil, by rw [Nat.zero_mul]; exact Nat.le_refl 0, by rw [Nat.zero_mul]; exact Nat.le_refl 0, by rw [Nat.zero_mul]; exact Nat.le_refl 0⟩
theorem lt_at {α : Type} {l : List α} {i : Nat} {x : α} (h : l[i]? = some x) : i + 1 ≤ l.length := (List.getElem?_eq_some_iff.1 h).1
theorem SrcOk.app0 (h : SrcOk L A its rp) (k : SrcOk [] A its ps2) : SrcOk L A its (rp ++ ps2) := by have := h.append k; rwa [List.append_nil] at this
theorem rep_len {c : CV} (h : ps2.map PV.abs = repA its fan leaf (PV.abs ⟨lo, hi, c⟩)) (hr : RepOk (repA its fan leaf (PV.abs ⟨lo, hi, c⟩))) : ps2.length ≤ 17 := by rw [← List.length_map (f := PV.abs), h]; exact hr.cnt
theorem StepInv.sum (h : StepInv its fan leaf A pvs i rp nl ol L) {n : Nat} {f : Bs} (hx : pvs[i]? = some ⟨lo, hi, .sum n f⟩) (he : ps2.map PV.abs = cmpA its fan leaf lo hi n f) (hs : SrcOk [] A its ps2) (hr : RepOk (repA its fan leaf (PV.abs ⟨lo, hi, .sum n f⟩))) : StepInv its fan leaf A pvs (i + 1) (rp ++ ps2) nl ol L := by
  have hl := rep_len (c := .sum n f) he hr
  have h1 := h.len1
  have h2 := h.len2
  have h3 := h.len3
  refine ⟨lt_at hx, ?_, h.need.trans (flat_step0 hx rfl), h.off.trans (flat_step0 hx rfl), h.src.app0 hs, ?_, Nat.le_trans h2 (Nat.mul_le_mul_right _ (Nat.le_succ i)), Nat.le_trans h3 (Nat.mul_le_mul_right _ (Nat.le_succ i))⟩
  · rw [List.map_append, h.rep, he]; exact flat_step (g := fun p => repA its fan leaf p.abs) hx
  · rw [List.length_append]; omega
theorem StepInv.list (h : StepInv its fan leaf A pvs i rp nl ol L) {B : Option Addr} {c : Nat} {xs : List Bs} (hx : pvs[i]? = some ⟨lo, hi, .list B c xs⟩) (he : ps2.map PV.abs = ansA its lo hi xs) (hs : SrcOk M A its ps2) (hr : RepOk (repA its fan leaf (PV.abs ⟨lo, hi, .list B c xs⟩))) (hn : (needA its (PV.abs ⟨lo, hi, .list B c xs⟩)).length ≤ 16384 ∧ all32 (needA its (PV.abs ⟨lo, hi, .list B c xs⟩))) (ho : (offA its (PV.abs ⟨lo, hi, .list B c xs⟩)).length ≤ 16384 ∧ all32 (offA its (PV.abs ⟨lo, hi, .list B c xs⟩))) :
    StepInv its fan leaf A pvs (i + 1) (rp ++ ps2) (nl ++ without xs its) (ol ++ without (inL its lo hi) xs) (L ++ M) := by
  have hl := rep_len (c := .list B c xs) he hr
  have h1 := h.len1
  have h2 := h.len2
  have h3 := h.len3
  have h4 : (without xs its).length ≤ 16384 := hn.1
  have h5 : (without (inL its lo hi) xs).length ≤ 16384 := ho.1
  refine ⟨lt_at hx, ?_, ?_, ?_, h.src.append hs, ?_, ?_, ?_⟩
  · rw [List.map_append, h.rep, he]; exact flat_step (g := fun p => repA its fan leaf p.abs) hx
  · rw [h.need]; exact flat_step (g := fun p => needA its p.abs) hx
  · rw [h.off]; exact flat_step (g := fun p => offA its p.abs) hx
  all_goals rw [List.length_append]; omega
theorem StepInv.ans (h : StepInv its fan leaf A pvs i rp nl ol L) {B B2 : Option Addr} {c c2 : Nat} {xs ms : List Bs} (hx : pvs[i]? = some ⟨lo, hi, .ans B c xs B2 c2 ms⟩) (hn : (needA its (PV.abs ⟨lo, hi, .ans B c xs B2 c2 ms⟩)).length ≤ 16384 ∧ all32 (needA its (PV.abs ⟨lo, hi, .ans B c xs B2 c2 ms⟩))) (ho : (offA its (PV.abs ⟨lo, hi, .ans B c xs B2 c2 ms⟩)).length ≤ 16384 ∧ all32 (offA its (PV.abs ⟨lo, hi, .ans B c xs B2 c2 ms⟩))) :
    StepInv its fan leaf A pvs (i + 1) rp (nl ++ without xs its) (ol ++ keepIn ms its) L := by
  have h1 := h.len1
  have h2 := h.len2
  have h3 := h.len3
  have h4 : (without xs its).length ≤ 16384 := hn.1
  have h5 : (keepIn ms its).length ≤ 16384 := ho.1
  refine ⟨lt_at hx, h.rep.trans (flat_step0 hx rfl), ?_, ?_, h.src, by omega, ?_, ?_⟩
  · rw [h.need]; exact flat_step (g := fun p => needA its p.abs) hx
  · rw [h.off]; exact flat_step (g := fun p => offA its p.abs) hx
  all_goals rw [List.length_append]; omega
theorem flat_abs {β : Type} (g : AP → List β) {ps : List AP} (h : pvs.map PV.abs = ps) : (pvs.take pvs.length).flatMap (fun p => g p.abs) = ps.flatMap g := by rw [← h, List.take_length, List.flatMap_map]
theorem StepInv.endR (h : StepInv its fan leaf A pvs pvs.length rp nl ol L) {ps : List AP} (he : pvs.map PV.abs = ps) : rp.map PV.abs = replyA its fan leaf ps := h.rep.trans (flat_abs _ he)
theorem StepInv.endN (h : StepInv its fan leaf A pvs pvs.length rp nl ol L) {ps : List AP} (he : pvs.map PV.abs = ps) : nl = ps.flatMap (needA its) := h.need.trans (flat_abs _ he)
theorem StepInv.endO (h : StepInv its fan leaf A pvs pvs.length rp nl ol L) {ps : List AP} (he : pvs.map PV.abs = ps) : ol = ps.flatMap (offA its) := h.off.trans (flat_abs _ he)
end

abbrev noPV : List PV := []
theorem rsEncode_any (A1 : Option Addr) (c1 : Nat) (ps : List PV) (w : World) (r0 : Rf [] w (fun w => RowIn w A1 (PS ps))) (r1 : Rf [] w (PsOk ps)) (hfit : ∀ p ∈ ps.map PV.abs, p.fit) (hsz : (encA (ps.map PV.abs)).length ≤ 1048576) :
    Calls Tryz.prog 37 #[(.slice A1 (ps.length) (c1))] w fun e w' => ∃ (B : Option Addr) (cb : Nat), e = .returned (.tuple #[(.slice B ((encA (ps.map PV.abs)).length) (cb)), (.int .i64 0)]) ∧ Back [] w [cOwn 5 1 B ((encA (ps.map PV.abs)).length) (cb) (B8 (encA (ps.map PV.abs)))] w' := by
  by_cases h0 : ps.length = 0
  · refine (rsEncode_nil A1 c1 ps w h0).mono ?_
    rintro e w' ⟨rfl, hB⟩
    have e0 : encA (ps.map PV.abs) = [] := by rw [encA, if_pos (by rw [List.length_map]; exact h0)]
    rw [e0]
    exact ⟨none, 0, rfl, hB.nilOwn 5 1⟩
  · exact rsEncode_ok A1 c1 ps w r0 r1 hfit h0 hsz

set_option maxRecDepth 100000 in
set_option maxHeartbeats 1000000 in
theorem rsStep_nil (bs : Nat) (A : Option Addr) (c : Nat) (its : List (List UInt8)) (fan : Nat) (leaf : Nat) (nm : Nat) (om : Nat) (A1 : Option Addr) (c1 : Nat) (D : List UInt8) (S : List (List UInt8)) (S2 : List (List UInt8)) (w : World) (hO : Own [cSet nm (S), cSet om (S2)] w) (r0 : Rf [cSet nm (S), cSet om (S2)] w (Vars)) (r1 : Rf [cSet nm (S), cSet om (S2)] w (SessAt bs A c its fan leaf nm om)) (r2 : Rf [cSet nm (S), cSet om (S2)] w (fun w => RowIn w A1 (B8 D))) (hs : okSet its) (hn : its.length ≤ 1000) (hcap : its.length ≤ c) (h40 : its.length ≤ 40) (hf : 2 ≤ fan) (hf2 : fan ≤ 16) (hl1 : 1 ≤ leaf) (hl2 : leaf ≤ 64) (hD : D.length ≤ 1048576) (hS : S.length ≤ 549755813888) (hT : S2.length ≤ 549755813888) (h0 : D.length = 0) :
    Calls Tryz.prog 17 #[(.pointer (some ⟨bs, 0, none⟩)), (.slice A1 (D.length) (c1))] w fun e w' => e = .returned (.tuple #[(.slice none 0 0), (.int .i64 0)]) ∧ Back [cSet nm (S), cSet om (S2)] w [cSet nm (S), cSet om (S2)] w' := by
  have ra := r1.imp (fun _ h => h.1)
  have rb := r1.imp (fun _ h => h.2)
  have _u0 := r0
  have _u1 := r1
  have _u2 := r2
  have _u3 := hs
  have _u4 := hn
  have _u5 := hcap
  have _u6 := h40
  have _u7 := hf
  have _u8 := hf2
  have _u9 := hl1
  have _u10 := hl2
  have _u11 := hD
  have _u12 := hS
  have _u13 := hT
  have _u14 := h0
  clear _u0 _u1 _u2 _u3 _u4 _u5 _u6 _u7 _u8 _u9 _u10 _u11 _u12 _u13 _u14
  refine stEnter (args := [(.pointer (some ⟨bs, 0, none⟩)), (.slice A1 (D.length) (c1))]) (fps [cSet nm (S), cSet om (S2)]) Tryz.func17 rfl 110 rfl [(0, (.pointer (some ⟨bs, 0, none⟩))), (1, (.slice A1 (D.length) (c1)))] ⟨rfl, rfl, trivial⟩ [cSet nm (S), cSet om (S2)] (hO) ?_
  refine stSeq (reg ?_)
  refine la ?_
  refine la ?_
  refine liNil (qThen (stSeq (stSeq (reg ?_))))
  refine lm ?_
  refine lc (.int .i64 ((D.length : Nat) : Int)) ?_
  refine lc (.bool ((((D.length : Nat) : Int) : Int) == 0)) ?_
  refine liNil (qThen ?_)
  refine stTrueK rfl (by simp [h0]) ?_
  refine stSeq (reg ?_)
  refine la ?_
  refine la ?_
  refine liNil (qThen (stRet (qThenR ?_)))
  refine stEnd [(.slice none 0 0), (.int .i64 0)] rfl ⟨rfl, rfl, trivial⟩ (fun w hM => ?_)
  exact ⟨rfl, hM⟩

set_option maxRecDepth 100000 in
set_option maxHeartbeats 1000000 in
theorem rsStep_bad (bs : Nat) (A : Option Addr) (c : Nat) (its : List (List UInt8)) (fan : Nat) (leaf : Nat) (nm : Nat) (om : Nat) (A1 : Option Addr) (c1 : Nat) (D : List UInt8) (S : List (List UInt8)) (S2 : List (List UInt8)) (w : World) (hO : Own [cSet nm (S), cSet om (S2)] w) (r0 : Rf [cSet nm (S), cSet om (S2)] w (Vars)) (r1 : Rf [cSet nm (S), cSet om (S2)] w (SessAt bs A c its fan leaf nm om)) (r2 : Rf [cSet nm (S), cSet om (S2)] w (fun w => RowIn w A1 (B8 D))) (hs : okSet its) (hn : its.length ≤ 1000) (hcap : its.length ≤ c) (h40 : its.length ≤ 40) (hf : 2 ≤ fan) (hf2 : fan ≤ 16) (hl1 : 1 ≤ leaf) (hl2 : leaf ≤ 64) (hD : D.length ≤ 1048576) (hS : S.length ≤ 549755813888) (hT : S2.length ≤ 549755813888) (hne : ¬ D.length = 0) (hd : decA D = none) :
    Calls Tryz.prog 17 #[(.pointer (some ⟨bs, 0, none⟩)), (.slice A1 (D.length) (c1))] w fun e w' => e = .returned (.tuple #[(.slice none 0 0), (.int .i64 3)]) ∧ Back [cSet nm (S), cSet om (S2)] w [cSet nm (S), cSet om (S2)] w' := by
  have ra := r1.imp (fun _ h => h.1)
  have rb := r1.imp (fun _ h => h.2)
  have _u0 := r0
  have _u1 := r1
  have _u2 := r2
  have _u3 := hs
  have _u4 := hn
  have _u5 := hcap
  have _u6 := h40
  have _u7 := hf
  have _u8 := hf2
  have _u9 := hl1
  have _u10 := hl2
  have _u11 := hD
  have _u12 := hS
  have _u13 := hT
  have _u14 := hne
  have _u15 := hd
  clear _u0 _u1 _u2 _u3 _u4 _u5 _u6 _u7 _u8 _u9 _u10 _u11 _u12 _u13 _u14 _u15
  refine stEnter (args := [(.pointer (some ⟨bs, 0, none⟩)), (.slice A1 (D.length) (c1))]) (fps [cSet nm (S), cSet om (S2)]) Tryz.func17 rfl 110 rfl [(0, (.pointer (some ⟨bs, 0, none⟩))), (1, (.slice A1 (D.length) (c1)))] ⟨rfl, rfl, trivial⟩ [cSet nm (S), cSet om (S2)] (hO) ?_
  refine stSeq (reg ?_)
  refine la ?_
  refine la ?_
  refine liNil (qThen (stSeq (stSeq (reg ?_))))
  refine lm ?_
  refine lc (.int .i64 ((D.length : Nat) : Int)) ?_
  refine lc (.bool ((((D.length : Nat) : Int) : Int) == 0)) ?_
  refine liNil (qThen ?_)
  refine stFalseK rfl (by simpa using hne) ?_
  refine stSkip (qThen (stSeq (reg ?_)))
  refine lm ?_
  refine li rfl ?_
  refine opK0 (fun w hM => (rsDecode_bad A1 c1 D w (r2.go0 hM) (by assumption) (by assumption)).mono ?_)
  rintro e w' ⟨rfl, hP⟩
  refine ⟨_, _, rfl, hP, ?_⟩; clear hP hM
  refine lm ?_
  refine lc (.slice none 0 0) ?_
  refine lc (.int .i64 3) ?_
  refine la ?_
  refine la ?_
  refine liNil (qThen (stSeq (stSeq (reg ?_))))
  refine lm ?_
  refine lc (.bool true) ?_
  refine liNil (qThen (stTrue rfl (stSeq (reg ?_))))
  refine lm ?_
  refine la ?_
  refine la ?_
  refine liNil (qThen (stRet (qThenR ?_)))
  refine stEnd [(.slice none 0 0), (.int .i64 3)] rfl ⟨rfl, rfl, trivial⟩ (fun w hM => ?_)
  exact ⟨rfl, hM⟩

set_option maxRecDepth 100000 in
set_option maxHeartbeats 1000000 in
theorem rsStep_big (bs : Nat) (A : Option Addr) (c : Nat) (its : List (List UInt8)) (fan : Nat) (leaf : Nat) (nm : Nat) (om : Nat) (A1 : Option Addr) (c1 : Nat) (D : List UInt8) (S : List (List UInt8)) (S2 : List (List UInt8)) (ps : List AP) (w : World) (hO : Own [cSet nm (S), cSet om (S2)] w) (r0 : Rf [cSet nm (S), cSet om (S2)] w (Vars)) (r1 : Rf [cSet nm (S), cSet om (S2)] w (SessAt bs A c its fan leaf nm om)) (r2 : Rf [cSet nm (S), cSet om (S2)] w (fun w => RowIn w A1 (B8 D))) (hs : okSet its) (hn : its.length ≤ 1000) (hcap : its.length ≤ c) (h40 : its.length ≤ 40) (hf : 2 ≤ fan) (hf2 : fan ≤ 16) (hl1 : 1 ≤ leaf) (hl2 : leaf ≤ 64) (hD : D.length ≤ 1048576) (hS : S.length ≤ 549755813888) (hT : S2.length ≤ 549755813888) (hne : ¬ D.length = 0) (hd : decA D = some ps) (hsz : 1048576 < (encA (replyA its fan leaf ps)).length) :
    Calls Tryz.prog 17 #[(.pointer (some ⟨bs, 0, none⟩)), (.slice A1 (D.length) (c1))] w fun e w' => e = .returned (.tuple #[(.slice none 0 0), (.int .i64 2)]) ∧ Back [cSet nm (S), cSet om (S2)] w [cSet nm (S), cSet om (S2)] w' := by
  have ra := r1.imp (fun _ h => h.1)
  have rb := r1.imp (fun _ h => h.2)
  have _u0 := r0
  have _u1 := r1
  have _u2 := r2
  have _u3 := hs
  have _u4 := hn
  have _u5 := hcap
  have _u6 := h40
  have _u7 := hf
  have _u8 := hf2
  have _u9 := hl1
  have _u10 := hl2
  have _u11 := hD
  have _u12 := hS
  have _u13 := hT
  have _u14 := hne
  have _u15 := hd
  have _u16 := hsz
  clear _u0 _u1 _u2 _u3 _u4 _u5 _u6 _u7 _u8 _u9 _u10 _u11 _u12 _u13 _u14 _u15 _u16
  refine stEnter (args := [(.pointer (some ⟨bs, 0, none⟩)), (.slice A1 (D.length) (c1))]) (fps [cSet nm (S), cSet om (S2)]) Tryz.func17 rfl 110 rfl [(0, (.pointer (some ⟨bs, 0, none⟩))), (1, (.slice A1 (D.length) (c1)))] ⟨rfl, rfl, trivial⟩ [cSet nm (S), cSet om (S2)] (hO) ?_
  refine stSeq (reg ?_)
  refine la ?_
  refine la ?_
  refine liNil (qThen (stSeq (stSeq (reg ?_))))
  refine lm ?_
  refine lc (.int .i64 ((D.length : Nat) : Int)) ?_
  refine lc (.bool ((((D.length : Nat) : Int) : Int) == 0)) ?_
  refine liNil (qThen ?_)
  refine stFalseK rfl (by simpa using hne) ?_
  refine stSkip (qThen (stSeq (reg ?_)))
  refine lm ?_
  refine li rfl ?_
  refine opK0 (fun w hM => (rsDecode_ok A1 c1 D ps w (r2.go0 hM) (by assumption) (by assumption)).mono ?_)
  rintro e w' ⟨R24, rc24, pvs24, L24, rfl, hP, heq24, hsrc24⟩
  refine ⟨_, _, rfl, hP, ?_⟩; clear hP hM
  obtain ⟨_, hmsg, hpl⟩ := decA_sound hd
  have hok : ∀ p ∈ ps, p.ok := hmsg.2.1
  have hpl2 : pvs24.length = ps.length := by rw [← heq24, List.length_map]
  refine lm ?_
  refine lc (.slice R24 ((pvs24).length) (rc24)) ?_
  refine lc (.int .i64 0) ?_
  refine la ?_
  refine la ?_
  refine liNil (qThen (stSeq (stSeq (reg ?_))))
  refine lm ?_
  refine lc (.bool false) ?_
  refine liNil (qThen (stFalse rfl (stSkip (qThen (stSeq (reg (li rfl ?_)))))))
  refine opAlloc [(.slice none 0 0), (.slice none 0 0), (.slice none 0 0)] rfl rfl (by kernel_rfl) (by kernel_rfl) (fun b8 => ?_)
  refine liNil (qThen (stSeq (stSeq ?_)))
  refine St.to [cSet nm (S), cSet om (S2), cOwn 76 3 R24 ((pvs24).length) (rc24) (PS (pvs24)), cBag (L24), cAt b8 85 [(.slice none 0 0), (.slice none 0 0), (.slice none 0 0)]] (by kernel_rfl) ?_
  refine reg ?_
  refine lm ?_
  refine lc (.int .i64 (((pvs24).length : Nat) : Int)) ?_
  refine lm ?_
  refine liNil (qThen (stBlock ?_))
  refine St.mem (fun w hM => hM.nilOwn 76 3) ?_
  refine St.mem (fun w hM => hM.nilOwn 9 1) ?_
  refine St.mem (fun w hM => hM.nilOwn 9 1) ?_
  refine St.mem (fun w hM => Mm.noBag hM) ?_
  refine stLoop (ι := Nat × Option Addr × Nat × List PV × Option Addr × Nat × List (List UInt8) × Option Addr × Nat × List (List UInt8) × List (Option Addr × List (List UInt8))) (fun (i, RX, rcX, rp, NX, ncX, nl, OX, ocX, ol, LX) => StepInv its fan leaf A pvs24 i rp nl ol LX) (fun (i, RX, rcX, rp, NX, ncX, nl, OX, ocX, ol, LX) => pvs24.length - i) (fun (i, RX, rcX, rp, NX, ncX, nl, OX, ocX, ol, LX) => [(0, (.pointer (some ⟨bs, 0, none⟩))), (4, (.slice none 0 0)), (5, (.int .i64 0)), (7, (.int .i64 0)), (8, (.pointer (some ⟨b8, 0, none⟩))), (30, (.slice R24 ((pvs24).length) (rc24))), (31, (.int .i64 (((pvs24).length : Nat) : Int))), (32, (.int .i64 ((i : Nat) : Int)))]) (fun (i, RX, rcX, rp, NX, ncX, nl, OX, ocX, ol, LX) => [cSet nm (S), cSet om (S2), cOwn 76 3 R24 ((pvs24).length) (rc24) (PS (pvs24)), cBag (L24), cAt b8 85 [(.slice RX ((rp).length) (rcX)), (.slice NX ((nl).length) (ncX)), (.slice OX ((ol).length) (ocX))], cOwn 76 3 RX ((rp).length) (rcX) (PS (rp)), cOwn 9 1 NX ((nl).length) (ncX) (SS (nl)), cOwn 9 1 OX ((ol).length) (ocX) (SS (ol)), cBag (LX)]) (0, none, 0, noPV, none, 0, noB2, none, 0, noB2, []) StepInv.zero ⟨rfl, rfl, rfl, rfl, rfl, rfl, rfl, rfl, trivial⟩ (fun w hM => by show Mm _ _ [cSet nm (S), cSet om (S2), cOwn 76 3 R24 ((pvs24).length) (rc24) (PS (pvs24)), cBag (L24), cAt b8 85 [(.slice none ((noPV).length) (0)), (.slice none ((noB2).length) (0)), (.slice none ((noB2).length) (0))], cOwn 76 3 none ((noPV).length) (0) (PS (noPV)), cOwn 9 1 none ((noB2).length) (0) (SS (noB2)), cOwn 9 1 none ((noB2).length) (0) (SS (noB2)), cBag ([])] w; exact hM) ?_
  rintro ⟨i, RX, rcX, rp, NX, ncX, nl, OX, ocX, ol, LX⟩ (hinv : StepInv its fan leaf A pvs24 i rp nl ol LX)
  show St _ _ _ [(0, (.pointer (some ⟨bs, 0, none⟩))), (4, (.slice none 0 0)), (5, (.int .i64 0)), (7, (.int .i64 0)), (8, (.pointer (some ⟨b8, 0, none⟩))), (30, (.slice R24 ((pvs24).length) (rc24))), (31, (.int .i64 (((pvs24).length : Nat) : Int))), (32, (.int .i64 ((i : Nat) : Int)))] [cSet nm (S), cSet om (S2), cOwn 76 3 R24 ((pvs24).length) (rc24) (PS (pvs24)), cBag (L24), cAt b8 85 [(.slice RX ((rp).length) (rcX)), (.slice NX ((nl).length) (ncX)), (.slice OX ((ol).length) (ocX))], cOwn 76 3 RX ((rp).length) (rcX) (PS (rp)), cOwn 9 1 NX ((nl).length) (ncX) (SS (nl)), cOwn 9 1 OX ((ol).length) (ocX) (SS (ol)), cBag (LX)] _
  refine stSeq (reg ?_)
  refine lc (.bool (decide (((i : Nat) : Int) < (((pvs24).length : Nat) : Int)))) ?_
  refine liNil (qThen (stSeq ?_))
  refine stCond rfl (fun hc33 => ?_) (fun hc33 => ?_)
  · have hd33 := of_decide_eq_true hc33
    have hil := hinv.le; have hil1 := hinv.len1; have hil2 := hinv.len2; have hil3 := hinv.len3
    refine stSkip (qThen (stSeq (stBlock (stSeq (reg ?_)))))
    obtain ⟨x0, hx0⟩ : ∃ ξ, (pvs24)[i]? = some ξ := ⟨_, List.getElem?_eq_getElem (by omega)⟩
    refine St.partPtr (fun w hM => rowOwn3 (i := 2) rfl w hM) hx0 (fun p34 q34 hA34 hc34 => ?_)
    refine lv (v := (.pointer (some ⟨p34, q34 + i * 3, none⟩))) (rIndexRow3 (e := 76) rfl (by kernel_rfl) (by kernel_rfl) rfl rfl hA34 (by omega)) ?_
    refine lv (v := (.agg #[(.string (strOf x0.lo)), (.string (strOf x0.hi)), x0.c.val])) (rLoadA [(.string (strOf x0.lo)), (.string (strOf x0.hi)), x0.c.val] rfl rfl (by kernel_rfl) (by kernel_rfl) (hc34)) ?_
    refine li rfl ?_
    refine opAlloc [(.string ⟨#[]⟩), (.string ⟨#[]⟩), .nilIface] rfl rfl (by kernel_rfl) (by kernel_rfl) (fun b10 => ?_)
    refine li rfl ?_
    refine opStoreN 9 [(.string (strOf x0.lo)), (.string (strOf x0.hi)), x0.c.val] (vs := [(.string (strOf x0.lo)), (.string (strOf x0.hi)), x0.c.val]) rfl rfl (by kernel_rfl) rfl rfl rfl (by kernel_rfl) rfl (by simp) (PV.one x0) rfl ?_
    refine liNil (qThen (stSeq ?_))
    refine St.to [cSet nm (S), cSet om (S2), cOwn 76 3 R24 ((pvs24).length) (rc24) (PS (pvs24)), cBag (L24), cAt b8 85 [(.slice RX ((rp).length) (rcX)), (.slice NX ((nl).length) (ncX)), (.slice OX ((ol).length) (ocX))], cOwn 76 3 RX ((rp).length) (rcX) (PS (rp)), cOwn 9 1 NX ((nl).length) (ncX) (SS (nl)), cOwn 9 1 OX ((ol).length) (ocX) (SS (ol)), cBag (LX), cAt b10 76 [(.string (strOf x0.lo)), (.string (strOf x0.hi)), x0.c.val]] (by kernel_rfl) ?_
    refine reg ?_
    refine lc (.pointer (some ⟨b10, 2, none⟩)) ?_
    refine lv (v := x0.c.val) (rLoad 9 rfl rfl (by kernel_rfl) rfl rfl) ?_
    refine liNil (qThen (stBlock (stSeq ?_)))
    have hp0 : x0.abs.ok := hok _ (by rw [← heq24]; exact List.mem_map_of_mem (List.mem_of_getElem? hx0))
    obtain ⟨xlo, xhi, xc⟩ := x0
    cases xc with
    | sum xn xf =>
      refine St.to [cSet nm (S), cSet om (S2), cOwn 76 3 R24 ((pvs24).length) (rc24) (PS (pvs24)), cBag (L24), cAt b8 85 [(.slice RX ((rp).length) (rcX)), (.slice NX ((nl).length) (ncX)), (.slice OX ((ol).length) (ocX))], cOwn 76 3 RX ((rp).length) (rcX) (PS (rp)), cOwn 9 1 NX ((nl).length) (ncX) (SS (nl)), cOwn 9 1 OX ((ol).length) (ocX) (SS (ol)), cBag (LX), cAt b10 76 [(.string (strOf xlo)), (.string (strOf xhi)), (.iface 71 (.agg #[(.int .i64 ((xn : Nat) : Int)), (.string (strOf xf))]))]] (by kernel_rfl) ?_
      refine reg ?_
      refine lc (.tuple #[(.agg #[(.int .i64 ((xn : Nat) : Int)), (.string (strOf xf))]), (.bool true)]) ?_
      refine lc (.bool true) ?_
      refine lc (.agg #[(.int .i64 ((xn : Nat) : Int)), (.string (strOf xf))]) ?_
      refine liNil (qThen (stTrue rfl (stSeq (reg (li rfl ?_)))))
      refine opAlloc [(.int .i64 0), (.string ⟨#[]⟩)] rfl rfl (by kernel_rfl) (by kernel_rfl) (fun b11 => ?_)
      refine li rfl ?_
      refine opStoreN 10 [(.int .i64 ((xn : Nat) : Int)), (.string (strOf xf))] (vs := [(.int .i64 ((xn : Nat) : Int)), (.string (strOf xf))]) rfl rfl (by kernel_rfl) rfl rfl rfl (by kernel_rfl) rfl (by simp) (by simp [Value.oneCell']) rfl ?_
      refine liNil (qThen ?_)
      refine St.to [cSet nm (S), cSet om (S2), cOwn 76 3 R24 ((pvs24).length) (rc24) (PS (pvs24)), cBag (L24), cAt b8 85 [(.slice RX ((rp).length) (rcX)), (.slice NX ((nl).length) (ncX)), (.slice OX ((ol).length) (ocX))], cOwn 76 3 RX ((rp).length) (rcX) (PS (rp)), cOwn 9 1 NX ((nl).length) (ncX) (SS (nl)), cOwn 9 1 OX ((ol).length) (ocX) (SS (ol)), cBag (LX), cAt b10 76 [(.string (strOf xlo)), (.string (strOf xhi)), (.iface 71 (.agg #[(.int .i64 ((xn : Nat) : Int)), (.string (strOf xf))]))], cAt b11 71 [(.int .i64 ((xn : Nat) : Int)), (.string (strOf xf))]] (by kernel_rfl) ?_
      refine reg ?_
      refine lm ?_
      refine lc (.pointer (some ⟨b10, 0, none⟩)) ?_
      refine lv (v := (.agg #[(.string (strOf xlo)), (.string (strOf xhi))])) (rLoadA [(.string (strOf xlo)), (.string (strOf xhi))] rfl rfl (by kernel_rfl) (by kernel_rfl) (segAt (i := 9) rfl (by intro j v hj; first | (rw [Nat.zero_add]; exact hj) | (match j, hj with | 0, h => exact h | 1, h => exact h)))) ?_
      refine lv (v := (.agg #[(.int .i64 ((xn : Nat) : Int)), (.string (strOf xf))])) (rLoadA [(.int .i64 ((xn : Nat) : Int)), (.string (strOf xf))] rfl rfl (by kernel_rfl) (by kernel_rfl) (segAt (i := 10) rfl (by intro j v hj; first | (rw [Nat.zero_add]; exact hj) | (match j, hj with | 0, h => exact h | 1, h => exact h)))) ?_
      refine li rfl ?_
      refine opK [4, 5] [cAt b8 85 [(.slice RX ((rp).length) (rcX)), (.slice NX ((nl).length) (ncX)), (.slice OX ((ol).length) (ocX))], cOwn 76 3 RX ((rp).length) (rcX) (PS (rp))] (fun w hM hO => (rsCompare_any bs A c its fan leaf nm om xlo xhi xn xf b8 RX rcX rp (.slice NX ((nl).length) (ncX)) (.slice OX ((ol).length) (ocX)) w hO (r0.goS hM [4, 5]) (r1.goS hM [4, 5]) (by assumption) (by assumption) (by assumption) (by omega) (by omega) (by omega) (by omega) (by omega)).mono ?_)
      rintro e w' ⟨R245, rc245, ps245, rfl, hP, heq45, hsrc45⟩
      refine ⟨_, [cAt b8 85 [(.slice R245 ((rp ++ ps245).length) (rc245)), (.slice NX ((nl).length) (ncX)), (.slice OX ((ol).length) (ocX))], cOwn 76 3 R245 ((rp ++ ps245).length) (rc245) (PS (rp ++ ps245))], _, rfl, hP, rfl, ?_⟩; clear hP hM hO
      refine liNil (qBlock (qBlock (qThen (reg ?_))))
      refine lv (v := (.int .i64 ((i + 1 : Nat) : Int))) (rAdd _ rfl rfl rfl (by omega) (by omega) (by omega)) ?_
      refine lm ?_
      refine liNil (qThen ?_)
      have hnext : StepInv its fan leaf A pvs24 (i + 1) (rp ++ ps245) nl ol LX := hinv.sum hx0 heq45 hsrc45 (repA_ok hs h40 hf hf2 hl1 hp0)
      exact stAgain (i + 1, R245, rc245, rp ++ ps245, NX, ncX, nl, OX, ocX, ol, LX) (hnext) (by show pvs24.length - (i + 1) < pvs24.length - i; omega) ⟨rfl, rfl, rfl, rfl, rfl, rfl, rfl, rfl, trivial⟩ (fun w hM => by show Mm _ _ [cSet nm (S), cSet om (S2), cOwn 76 3 R24 ((pvs24).length) (rc24) (PS (pvs24)), cBag (L24), cAt b8 85 [(.slice R245 (((rp ++ ps245)).length) (rc245)), (.slice NX ((nl).length) (ncX)), (.slice OX ((ol).length) (ocX))], cOwn 76 3 R245 (((rp ++ ps245)).length) (rc245) (PS ((rp ++ ps245))), cOwn 9 1 NX ((nl).length) (ncX) (SS (nl)), cOwn 9 1 OX ((ol).length) (ocX) (SS (ol)), cBag (LX)] w; exact (fun (w : World) (h : Mm _ _ _ w) => Mm.sub h (.cons_cons _ (.cons_cons _ (.cons_cons _ (.cons_cons _ (.cons_cons _ (.cons_cons _ (.cons_cons _ (.cons_cons _ (.cons_cons _ (.cons _ (.cons _ .slnil)))))))))))) w hM)
    | list XA xca xl =>
      refine St.to [cSet nm (S), cSet om (S2), cOwn 76 3 R24 ((pvs24).length) (rc24) (PS (pvs24)), cBag (L24), cAt b8 85 [(.slice RX ((rp).length) (rcX)), (.slice NX ((nl).length) (ncX)), (.slice OX ((ol).length) (ocX))], cOwn 76 3 RX ((rp).length) (rcX) (PS (rp)), cOwn 9 1 NX ((nl).length) (ncX) (SS (nl)), cOwn 9 1 OX ((ol).length) (ocX) (SS (ol)), cBag (LX), cAt b10 76 [(.string (strOf xlo)), (.string (strOf xhi)), (.iface 89 (.agg #[(.slice XA (xl.length) (xca))]))]] (by kernel_rfl) ?_
      have hsx : (XA, xl) ∈ L24 := hsrc24 _ (List.mem_of_getElem? hx0) (XA, xl) (by simp [CV.rows])
      refine reg ?_
      refine lc (.tuple #[(.agg #[(.int .i64 0), (.string ⟨#[]⟩)]), (.bool false)]) ?_
      refine lc (.bool false) ?_
      refine lc (.agg #[(.int .i64 0), (.string ⟨#[]⟩)]) ?_
      refine liNil (qThen (stFalse rfl (stSeq (reg ?_))))
      refine lc (.tuple #[(.agg #[(.slice XA (xl.length) (xca))]), (.bool true)]) ?_
      refine lc (.bool true) ?_
      refine lc (.agg #[(.slice XA (xl.length) (xca))]) ?_
      refine liNil (qThen (stTrue rfl (stSeq (reg (li rfl ?_)))))
      refine opAlloc [(.slice none 0 0)] rfl rfl (by kernel_rfl) (by kernel_rfl) (fun b12 => ?_)
      refine li rfl ?_
      refine opStoreN 10 [(.slice XA (xl.length) (xca))] (vs := [(.slice XA (xl.length) (xca))]) rfl rfl (by kernel_rfl) rfl rfl rfl (by kernel_rfl) rfl (by simp) (by simp [Value.oneCell']) rfl ?_
      refine liNil (qThen ?_)
      refine St.to [cSet nm (S), cSet om (S2), cOwn 76 3 R24 ((pvs24).length) (rc24) (PS (pvs24)), cBag (L24), cAt b8 85 [(.slice RX ((rp).length) (rcX)), (.slice NX ((nl).length) (ncX)), (.slice OX ((ol).length) (ocX))], cOwn 76 3 RX ((rp).length) (rcX) (PS (rp)), cOwn 9 1 NX ((nl).length) (ncX) (SS (nl)), cOwn 9 1 OX ((ol).length) (ocX) (SS (ol)), cBag (LX), cAt b10 76 [(.string (strOf xlo)), (.string (strOf xhi)), (.iface 89 (.agg #[(.slice XA (xl.length) (xca))]))], cAt b12 89 [(.slice XA (xl.length) (xca))]] (by kernel_rfl) ?_
      refine reg ?_
      refine lm ?_
      refine lc (.pointer (some ⟨b10, 0, none⟩)) ?_
      refine lv (v := (.agg #[(.string (strOf xlo)), (.string (strOf xhi))])) (rLoadA [(.string (strOf xlo)), (.string (strOf xhi))] rfl rfl (by kernel_rfl) (by kernel_rfl) (segAt (i := 9) rfl (by intro j v hj; first | (rw [Nat.zero_add]; exact hj) | (match j, hj with | 0, h => exact h | 1, h => exact h)))) ?_
      refine lv (v := (.agg #[(.slice XA (xl.length) (xca))])) (rLoadA [(.slice XA (xl.length) (xca))] rfl rfl (by kernel_rfl) (by kernel_rfl) (segAt (i := 10) rfl (by intro j v hj; first | (rw [Nat.zero_add]; exact hj) | (match j, hj with | 0, h => exact h)))) ?_
      refine li rfl ?_
      refine opK [4, 5, 6, 7] [cAt b8 85 [(.slice RX ((rp).length) (rcX)), (.slice NX ((nl).length) (ncX)), (.slice OX ((ol).length) (ocX))], cOwn 76 3 RX ((rp).length) (rcX) (PS (rp)), cOwn 9 1 NX ((nl).length) (ncX) (SS (nl)), cOwn 9 1 OX ((ol).length) (ocX) (SS (ol))] (fun w hM hO => (rsAnswer_any bs A c its fan leaf nm om xlo xhi XA xca xl b8 RX rcX rp NX ncX nl OX ocX ol w hO (r1.goS hM [4, 5, 6, 7]) (hM.keepS [4, 5, 6, 7] (j := 3) rfl (fun w h => (h (XA, xl) hsx).1)) (by assumption) (by assumption) (by assumption) (by omega) (Nat.le_trans hp0.2.1 (by omega)) (fun x hx => Nat.le_trans (Nat.le_of_eq (hp0.2.2.1 x hx)) (by omega)) (by omega) (by omega)).mono ?_)
      rintro e w' ⟨R253, rc253, ps253, N253, nc253, O253, oc253, L253, rfl, hP, heq53, hsrc53⟩
      refine ⟨_, [cAt b8 85 [(.slice R253 ((rp ++ ps253).length) (rc253)), (.slice N253 ((nl ++ without xl its).length) (nc253)), (.slice O253 ((ol ++ without (inL its xlo xhi) xl).length) (oc253))], cOwn 76 3 R253 ((rp ++ ps253).length) (rc253) (PS (rp ++ ps253)), cOwn 9 1 N253 ((nl ++ without xl its).length) (nc253) (SS (nl ++ without xl its)), cOwn 9 1 O253 ((ol ++ without (inL its xlo xhi) xl).length) (oc253) (SS (ol ++ without (inL its xlo xhi) xl))], _, rfl, hP, rfl, ?_⟩; clear hP hM hO
      refine liNil (qBlock (qBlock (qThen (reg ?_))))
      refine lv (v := (.int .i64 ((i + 1 : Nat) : Int))) (rAdd _ rfl rfl rfl (by omega) (by omega) (by omega)) ?_
      refine lm ?_
      refine liNil (qThen ?_)
      have hnext : StepInv its fan leaf A pvs24 (i + 1) (rp ++ ps253) (nl ++ without xl its) (ol ++ without (inL its xlo xhi) xl) (LX ++ L253) := hinv.list hx0 heq53 hsrc53 (repA_ok hs h40 hf hf2 hl1 hp0) (needA_len hp0) (offA_len hs h40 hp0)
      exact stAgain (i + 1, R253, rc253, rp ++ ps253, N253, nc253, nl ++ without xl its, O253, oc253, ol ++ without (inL its xlo xhi) xl, LX ++ L253) (hnext) (by show pvs24.length - (i + 1) < pvs24.length - i; omega) ⟨rfl, rfl, rfl, rfl, rfl, rfl, rfl, rfl, trivial⟩ (fun w hM => by show Mm _ _ [cSet nm (S), cSet om (S2), cOwn 76 3 R24 ((pvs24).length) (rc24) (PS (pvs24)), cBag (L24), cAt b8 85 [(.slice R253 ((rp ++ ps253).length) (rc253)), (.slice N253 ((nl ++ without xl its).length) (nc253)), (.slice O253 ((ol ++ without (inL its xlo xhi) xl).length) (oc253))], cOwn 76 3 R253 ((rp ++ ps253).length) (rc253) (PS (rp ++ ps253)), cOwn 9 1 N253 ((nl ++ without xl its).length) (nc253) (SS (nl ++ without xl its)), cOwn 9 1 O253 ((ol ++ without (inL its xlo xhi) xl).length) (oc253) (SS (ol ++ without (inL its xlo xhi) xl)), cBag (LX ++ L253)] w; exact Mm.join (cs := [cSet nm (S), cSet om (S2), cOwn 76 3 R24 ((pvs24).length) (rc24) (PS (pvs24)), cBag (L24), cAt b8 85 [(.slice R253 ((rp ++ ps253).length) (rc253)), (.slice N253 ((nl ++ without xl its).length) (nc253)), (.slice O253 ((ol ++ without (inL its xlo xhi) xl).length) (oc253))], cOwn 76 3 R253 ((rp ++ ps253).length) (rc253) (PS (rp ++ ps253)), cOwn 9 1 N253 ((nl ++ without xl its).length) (nc253) (SS (nl ++ without xl its)), cOwn 9 1 O253 ((ol ++ without (inL its xlo xhi) xl).length) (oc253) (SS (ol ++ without (inL its xlo xhi) xl))]) (L := LX) (M := L253) ((fun (w : World) (h : Mm _ _ _ w) => Mm.sub h (.cons_cons _ (.cons_cons _ (.cons_cons _ (.cons_cons _ (.cons_cons _ (.cons_cons _ (.cons_cons _ (.cons_cons _ (.cons_cons _ (.cons _ (.cons _ (.cons_cons _ .slnil))))))))))))) w hM))
    | ans XA xca xl XB xcb xm =>
      refine St.to [cSet nm (S), cSet om (S2), cOwn 76 3 R24 ((pvs24).length) (rc24) (PS (pvs24)), cBag (L24), cAt b8 85 [(.slice RX ((rp).length) (rcX)), (.slice NX ((nl).length) (ncX)), (.slice OX ((ol).length) (ocX))], cOwn 76 3 RX ((rp).length) (rcX) (PS (rp)), cOwn 9 1 NX ((nl).length) (ncX) (SS (nl)), cOwn 9 1 OX ((ol).length) (ocX) (SS (ol)), cBag (LX), cAt b10 76 [(.string (strOf xlo)), (.string (strOf xhi)), (.iface 92 (.agg #[(.slice XA (xl.length) (xca)), (.slice XB (xm.length) (xcb))]))]] (by kernel_rfl) ?_
      have hsx : (XA, xl) ∈ L24 := hsrc24 _ (List.mem_of_getElem? hx0) (XA, xl) (by simp [CV.rows])
      have hsm : (XB, xm) ∈ L24 := hsrc24 _ (List.mem_of_getElem? hx0) (XB, xm) (by simp [CV.rows])
      refine reg ?_
      refine lc (.tuple #[(.agg #[(.int .i64 0), (.string ⟨#[]⟩)]), (.bool false)]) ?_
      refine lc (.bool false) ?_
      refine lc (.agg #[(.int .i64 0), (.string ⟨#[]⟩)]) ?_
      refine liNil (qThen (stFalse rfl (stSeq (reg ?_))))
      refine lc (.tuple #[(.agg #[(.slice none 0 0)]), (.bool false)]) ?_
      refine lc (.bool false) ?_
      refine lc (.agg #[(.slice none 0 0)]) ?_
      refine liNil (qThen (stFalse rfl (stSeq (reg ?_))))
      refine lc (.tuple #[(.agg #[(.slice XA (xl.length) (xca)), (.slice XB (xm.length) (xcb))]), (.bool true)]) ?_
      refine lc (.bool true) ?_
      refine lc (.agg #[(.slice XA (xl.length) (xca)), (.slice XB (xm.length) (xcb))]) ?_
      refine liNil (qThen (stTrue rfl (stSeq (reg (li rfl ?_)))))
      refine opAlloc [(.slice none 0 0), (.slice none 0 0)] rfl rfl (by kernel_rfl) (by kernel_rfl) (fun b13 => ?_)
      refine li rfl ?_
      refine opStoreN 10 [(.slice XA (xl.length) (xca)), (.slice XB (xm.length) (xcb))] (vs := [(.slice XA (xl.length) (xca)), (.slice XB (xm.length) (xcb))]) rfl rfl (by kernel_rfl) rfl rfl rfl (by kernel_rfl) rfl (by simp) (by simp [Value.oneCell']) rfl ?_
      refine liNil (qThen ?_)
      refine St.to [cSet nm (S), cSet om (S2), cOwn 76 3 R24 ((pvs24).length) (rc24) (PS (pvs24)), cBag (L24), cAt b8 85 [(.slice RX ((rp).length) (rcX)), (.slice NX ((nl).length) (ncX)), (.slice OX ((ol).length) (ocX))], cOwn 76 3 RX ((rp).length) (rcX) (PS (rp)), cOwn 9 1 NX ((nl).length) (ncX) (SS (nl)), cOwn 9 1 OX ((ol).length) (ocX) (SS (ol)), cBag (LX), cAt b10 76 [(.string (strOf xlo)), (.string (strOf xhi)), (.iface 92 (.agg #[(.slice XA (xl.length) (xca)), (.slice XB (xm.length) (xcb))]))], cAt b13 92 [(.slice XA (xl.length) (xca)), (.slice XB (xm.length) (xcb))]] (by kernel_rfl) ?_
      refine reg ?_
      refine lm ?_
      refine lv (v := (.agg #[(.slice XA (xl.length) (xca)), (.slice XB (xm.length) (xcb))])) (rLoadA [(.slice XA (xl.length) (xca)), (.slice XB (xm.length) (xcb))] rfl rfl (by kernel_rfl) (by kernel_rfl) (segAt (i := 10) rfl (by intro j v hj; first | (rw [Nat.zero_add]; exact hj) | (match j, hj with | 0, h => exact h | 1, h => exact h)))) ?_
      refine li rfl ?_
      refine opK [4, 6, 7] [cAt b8 85 [(.slice RX ((rp).length) (rcX)), (.slice NX ((nl).length) (ncX)), (.slice OX ((ol).length) (ocX))], cOwn 9 1 NX ((nl).length) (ncX) (SS (nl)), cOwn 9 1 OX ((ol).length) (ocX) (SS (ol))] (fun w hM hO => (rsLearn_any bs A c its fan leaf nm om XA xca xl XB xcb xm b8 (.slice RX ((rp).length) (rcX)) NX ncX nl OX ocX ol w hO (r1.goS hM [4, 6, 7]) (hM.keepS [4, 6, 7] (j := 3) rfl (fun w h => (h (XA, xl) hsx).1)) (hM.keepS [4, 6, 7] (j := 3) rfl (fun w h => (h (XB, xm) hsm).1)) (by assumption) (by assumption) (Nat.le_trans hp0.2.1.1 (by omega)) (Nat.le_trans hp0.2.2.1 (by omega)) (by omega) (by omega) (rfl)).mono ?_)
      rintro e w' ⟨N259, nc259, O259, oc259, rfl, hP⟩
      refine ⟨_, [cAt b8 85 [(.slice RX ((rp).length) (rcX)), (.slice N259 ((nl ++ without xl its).length) (nc259)), (.slice O259 ((ol ++ keepIn xm its).length) (oc259))], cOwn 9 1 N259 ((nl ++ without xl its).length) (nc259) (SS (nl ++ without xl its)), cOwn 9 1 O259 ((ol ++ keepIn xm its).length) (oc259) (SS (ol ++ keepIn xm its))], _, rfl, hP, rfl, ?_⟩; clear hP hM hO
      refine liNil (qBlock (qBlock (qThen (reg ?_))))
      refine lv (v := (.int .i64 ((i + 1 : Nat) : Int))) (rAdd _ rfl rfl rfl (by omega) (by omega) (by omega)) ?_
      refine lm ?_
      refine liNil (qThen ?_)
      have hnext : StepInv its fan leaf A pvs24 (i + 1) rp (nl ++ without xl its) (ol ++ keepIn xm its) LX := hinv.ans hx0 (needA_len hp0) (offA_len hs h40 hp0)
      exact stAgain (i + 1, RX, rcX, rp, N259, nc259, nl ++ without xl its, O259, oc259, ol ++ keepIn xm its, LX) (hnext) (by show pvs24.length - (i + 1) < pvs24.length - i; omega) ⟨rfl, rfl, rfl, rfl, rfl, rfl, rfl, rfl, trivial⟩ (fun w hM => by show Mm _ _ [cSet nm (S), cSet om (S2), cOwn 76 3 R24 ((pvs24).length) (rc24) (PS (pvs24)), cBag (L24), cAt b8 85 [(.slice RX ((rp).length) (rcX)), (.slice N259 (((nl ++ without xl its)).length) (nc259)), (.slice O259 (((ol ++ keepIn xm its)).length) (oc259))], cOwn 76 3 RX ((rp).length) (rcX) (PS (rp)), cOwn 9 1 N259 (((nl ++ without xl its)).length) (nc259) (SS ((nl ++ without xl its))), cOwn 9 1 O259 (((ol ++ keepIn xm its)).length) (oc259) (SS ((ol ++ keepIn xm its))), cBag (LX)] w; exact (fun (w : World) (h : Mm _ _ _ w) => Mm.sub h (.cons_cons _ (.cons_cons _ (.cons_cons _ (.cons_cons _ (.cons_cons _ (.cons_cons _ (.cons_cons _ (.cons_cons _ (.cons_cons _ (.cons _ (.cons _ .slnil)))))))))))) w hM)
  · have hd33 := of_decide_eq_false hc33
    have hil := hinv.le; have hil1 := hinv.len1; have hil2 := hinv.len2; have hil3 := hinv.len3
    obtain rfl : i = pvs24.length := by omega
    have hrp' : rp.map PV.abs = replyA its fan leaf ps := hinv.endR heq24
    have hnl' : nl = ps.flatMap (needA its) := hinv.endN heq24
    have hol' : ol = ps.flatMap (offA its) := hinv.endO heq24
    have hrfit : ∀ p ∈ rp.map PV.abs, p.fit := by rw [hrp']; exact replyA_fit hs h40 hf hf2 hl1 hok
    have hn32 : ∀ x ∈ nl, x.length = 32 := by rw [hnl']; exact flat32m fun p hp => (needA_len (hok p hp)).2
    have ho32 : ∀ x ∈ ol, x.length = 32 := by rw [hol']; exact flat32m fun p hp => (offA_len hs h40 (hok p hp)).2
    have henc := replyA_enc hs h40 hf hf2 hl1 (leaf := leaf) hok
    have hrl : rp.length = (replyA its fan leaf ps).length := by rw [← hrp', List.length_map]
    refine stExit (qThenX (qThenX (qBlockX (qThen (stSeq (reg ?_))))))
    refine lc (.pointer (some ⟨b8, 0, none⟩)) ?_
    refine lv (v := (.slice RX ((rp).length) (rcX))) (rLoad 4 rfl rfl (by kernel_rfl) rfl rfl) ?_
    refine li rfl ?_
    refine opK0 (fun w hM => (rsEncode_big RX rcX rp w (hM.keep0 (j := 5) rfl (fun _ h => own3_row h)) ((Ro.and (hM.keep0 (j := 8) rfl (fun w h => h)) (rb.go0 hM)).imp (fun w h => hinv.src.ok h.1 h.2)) (hrfit) (by intro h0; rw [hrl] at h0; rw [encA, if_pos h0] at hsz; simp at hsz) (by rw [hrp']; exact hsz) (by rw [hrp']; have h := encA_le (replyA its fan leaf ps) (by omega); omega)).mono ?_)
    rintro e w' ⟨rfl, hP⟩
    refine ⟨_, _, rfl, hP, ?_⟩; clear hP hM
    refine lm ?_
    refine lc (.slice none 0 0) ?_
    refine lc (.int .i64 2) ?_
    refine la ?_
    refine la ?_
    refine liNil (qThen (stSeq (stSeq ?_)))
    refine St.to [cSet nm (S), cSet om (S2), cOwn 76 3 R24 ((pvs24).length) (rc24) (PS (pvs24)), cBag (L24), cAt b8 85 [(.slice RX ((rp).length) (rcX)), (.slice NX ((nl).length) (ncX)), (.slice OX ((ol).length) (ocX))], cOwn 76 3 RX ((rp).length) (rcX) (PS (rp)), cOwn 9 1 NX ((nl).length) (ncX) (SS (nl)), cOwn 9 1 OX ((ol).length) (ocX) (SS (ol)), cBag (LX)] (by kernel_rfl) ?_
    refine reg ?_
    refine lm ?_
    refine lc (.bool true) ?_
    refine liNil (qThen (stTrue rfl (stSeq (reg ?_))))
    refine lm ?_
    refine la ?_
    refine la ?_
    refine liNil (qThen (stRet (qThenR ?_)))
    refine stEnd [(.slice none 0 0), (.int .i64 2)] rfl ⟨rfl, rfl, trivial⟩ (fun w hM => ?_)
    exact ⟨rfl, (fun (w : World) (h : Mm _ _ _ w) => Mm.sub h (.cons_cons _ (.cons_cons _ (.cons _ (.cons _ (.cons _ (.cons _ (.cons _ (.cons _ (.cons _ .slnil)))))))))) w hM⟩

set_option maxRecDepth 100000 in
set_option maxHeartbeats 1000000 in
theorem rsStep_ok (bs : Nat) (A : Option Addr) (c : Nat) (its : List (List UInt8)) (fan : Nat) (leaf : Nat) (nm : Nat) (om : Nat) (A1 : Option Addr) (c1 : Nat) (D : List UInt8) (S : List (List UInt8)) (S2 : List (List UInt8)) (ps : List AP) (w : World) (hO : Own [cSet nm (S), cSet om (S2)] w) (r0 : Rf [cSet nm (S), cSet om (S2)] w (Vars)) (r1 : Rf [cSet nm (S), cSet om (S2)] w (SessAt bs A c its fan leaf nm om)) (r2 : Rf [cSet nm (S), cSet om (S2)] w (fun w => RowIn w A1 (B8 D))) (hs : okSet its) (hn : its.length ≤ 1000) (hcap : its.length ≤ c) (h40 : its.length ≤ 40) (hf : 2 ≤ fan) (hf2 : fan ≤ 16) (hl1 : 1 ≤ leaf) (hl2 : leaf ≤ 64) (hD : D.length ≤ 1048576) (hS : S.length ≤ 549755813888) (hT : S2.length ≤ 549755813888) (hne : ¬ D.length = 0) (hd : decA D = some ps) (hsz : (encA (replyA its fan leaf ps)).length ≤ 1048576) :
    Calls Tryz.prog 17 #[(.pointer (some ⟨bs, 0, none⟩)), (.slice A1 (D.length) (c1))] w fun e w' => ∃ (B : Option Addr) (cb : Nat), e = .returned (.tuple #[(.slice B ((encA (replyA its fan leaf ps)).length) (cb)), (.int .i64 0)]) ∧ Back [cSet nm (S), cSet om (S2)] w [cSet nm (S ++ ps.flatMap (needA its)), cSet om (S2 ++ ps.flatMap (offA its)), cOwn 5 1 B ((encA (replyA its fan leaf ps)).length) (cb) (B8 (encA (replyA its fan leaf ps)))] w' := by
  have ra := r1.imp (fun _ h => h.1)
  have rb := r1.imp (fun _ h => h.2)
  have _u0 := r0
  have _u1 := r1
  have _u2 := r2
  have _u3 := hs
  have _u4 := hn
  have _u5 := hcap
  have _u6 := h40
  have _u7 := hf
  have _u8 := hf2
  have _u9 := hl1
  have _u10 := hl2
  have _u11 := hD
  have _u12 := hS
  have _u13 := hT
  have _u14 := hne
  have _u15 := hd
  have _u16 := hsz
  clear _u0 _u1 _u2 _u3 _u4 _u5 _u6 _u7 _u8 _u9 _u10 _u11 _u12 _u13 _u14 _u15 _u16
  refine stEnter (args := [(.pointer (some ⟨bs, 0, none⟩)), (.slice A1 (D.length) (c1))]) (fps [cSet nm (S), cSet om (S2)]) Tryz.func17 rfl 110 rfl [(0, (.pointer (some ⟨bs, 0, none⟩))), (1, (.slice A1 (D.length) (c1)))] ⟨rfl, rfl, trivial⟩ [cSet nm (S), cSet om (S2)] (hO) ?_
  refine stSeq (reg ?_)
  refine la ?_
  refine la ?_
  refine liNil (qThen (stSeq (stSeq (reg ?_))))
  refine lm ?_
  refine lc (.int .i64 ((D.length : Nat) : Int)) ?_
  refine lc (.bool ((((D.length : Nat) : Int) : Int) == 0)) ?_
  refine liNil (qThen ?_)
  refine stFalseK rfl (by simpa using hne) ?_
  refine stSkip (qThen (stSeq (reg ?_)))
  refine lm ?_
  refine li rfl ?_
  refine opK0 (fun w hM => (rsDecode_ok A1 c1 D ps w (r2.go0 hM) (by assumption) (by assumption)).mono ?_)
  rintro e w' ⟨R24, rc24, pvs24, L24, rfl, hP, heq24, hsrc24⟩
  refine ⟨_, _, rfl, hP, ?_⟩; clear hP hM
  obtain ⟨_, hmsg, hpl⟩ := decA_sound hd
  have hok : ∀ p ∈ ps, p.ok := hmsg.2.1
  have hpl2 : pvs24.length = ps.length := by rw [← heq24, List.length_map]
  refine lm ?_
  refine lc (.slice R24 ((pvs24).length) (rc24)) ?_
  refine lc (.int .i64 0) ?_
  refine la ?_
  refine la ?_
  refine liNil (qThen (stSeq (stSeq (reg ?_))))
  refine lm ?_
  refine lc (.bool false) ?_
  refine liNil (qThen (stFalse rfl (stSkip (qThen (stSeq (reg (li rfl ?_)))))))
  refine opAlloc [(.slice none 0 0), (.slice none 0 0), (.slice none 0 0)] rfl rfl (by kernel_rfl) (by kernel_rfl) (fun b8 => ?_)
  refine liNil (qThen (stSeq (stSeq ?_)))
  refine St.to [cSet nm (S), cSet om (S2), cOwn 76 3 R24 ((pvs24).length) (rc24) (PS (pvs24)), cBag (L24), cAt b8 85 [(.slice none 0 0), (.slice none 0 0), (.slice none 0 0)]] (by kernel_rfl) ?_
  refine reg ?_
  refine lm ?_
  refine lc (.int .i64 (((pvs24).length : Nat) : Int)) ?_
  refine lm ?_
  refine liNil (qThen (stBlock ?_))
  refine St.mem (fun w hM => hM.nilOwn 76 3) ?_
  refine St.mem (fun w hM => hM.nilOwn 9 1) ?_
  refine St.mem (fun w hM => hM.nilOwn 9 1) ?_
  refine St.mem (fun w hM => Mm.noBag hM) ?_
  refine stLoop (ι := Nat × Option Addr × Nat × List PV × Option Addr × Nat × List (List UInt8) × Option Addr × Nat × List (List UInt8) × List (Option Addr × List (List UInt8))) (fun (i, RX, rcX, rp, NX, ncX, nl, OX, ocX, ol, LX) => StepInv its fan leaf A pvs24 i rp nl ol LX) (fun (i, RX, rcX, rp, NX, ncX, nl, OX, ocX, ol, LX) => pvs24.length - i) (fun (i, RX, rcX, rp, NX, ncX, nl, OX, ocX, ol, LX) => [(0, (.pointer (some ⟨bs, 0, none⟩))), (4, (.slice none 0 0)), (5, (.int .i64 0)), (7, (.int .i64 0)), (8, (.pointer (some ⟨b8, 0, none⟩))), (30, (.slice R24 ((pvs24).length) (rc24))), (31, (.int .i64 (((pvs24).length : Nat) : Int))), (32, (.int .i64 ((i : Nat) : Int)))]) (fun (i, RX, rcX, rp, NX, ncX, nl, OX, ocX, ol, LX) => [cSet nm (S), cSet om (S2), cOwn 76 3 R24 ((pvs24).length) (rc24) (PS (pvs24)), cBag (L24), cAt b8 85 [(.slice RX ((rp).length) (rcX)), (.slice NX ((nl).length) (ncX)), (.slice OX ((ol).length) (ocX))], cOwn 76 3 RX ((rp).length) (rcX) (PS (rp)), cOwn 9 1 NX ((nl).length) (ncX) (SS (nl)), cOwn 9 1 OX ((ol).length) (ocX) (SS (ol)), cBag (LX)]) (0, none, 0, noPV, none, 0, noB2, none, 0, noB2, []) StepInv.zero ⟨rfl, rfl, rfl, rfl, rfl, rfl, rfl, rfl, trivial⟩ (fun w hM => by show Mm _ _ [cSet nm (S), cSet om (S2), cOwn 76 3 R24 ((pvs24).length) (rc24) (PS (pvs24)), cBag (L24), cAt b8 85 [(.slice none ((noPV).length) (0)), (.slice none ((noB2).length) (0)), (.slice none ((noB2).length) (0))], cOwn 76 3 none ((noPV).length) (0) (PS (noPV)), cOwn 9 1 none ((noB2).length) (0) (SS (noB2)), cOwn 9 1 none ((noB2).length) (0) (SS (noB2)), cBag ([])] w; exact hM) ?_
  rintro ⟨i, RX, rcX, rp, NX, ncX, nl, OX, ocX, ol, LX⟩ (hinv : StepInv its fan leaf A pvs24 i rp nl ol LX)
  show St _ _ _ [(0, (.pointer (some ⟨bs, 0, none⟩))), (4, (.slice none 0 0)), (5, (.int .i64 0)), (7, (.int .i64 0)), (8, (.pointer (some ⟨b8, 0, none⟩))), (30, (.slice R24 ((pvs24).length) (rc24))), (31, (.int .i64 (((pvs24).length : Nat) : Int))), (32, (.int .i64 ((i : Nat) : Int)))] [cSet nm (S), cSet om (S2), cOwn 76 3 R24 ((pvs24).length) (rc24) (PS (pvs24)), cBag (L24), cAt b8 85 [(.slice RX ((rp).length) (rcX)), (.slice NX ((nl).length) (ncX)), (.slice OX ((ol).length) (ocX))], cOwn 76 3 RX ((rp).length) (rcX) (PS (rp)), cOwn 9 1 NX ((nl).length) (ncX) (SS (nl)), cOwn 9 1 OX ((ol).length) (ocX) (SS (ol)), cBag (LX)] _
  refine stSeq (reg ?_)
  refine lc (.bool (decide (((i : Nat) : Int) < (((pvs24).length : Nat) : Int)))) ?_
  refine liNil (qThen (stSeq ?_))
  refine stCond rfl (fun hc33 => ?_) (fun hc33 => ?_)
  · have hd33 := of_decide_eq_true hc33
    have hil := hinv.le; have hil1 := hinv.len1; have hil2 := hinv.len2; have hil3 := hinv.len3
    refine stSkip (qThen (stSeq (stBlock (stSeq (reg ?_)))))
    obtain ⟨x0, hx0⟩ : ∃ ξ, (pvs24)[i]? = some ξ := ⟨_, List.getElem?_eq_getElem (by omega)⟩
    refine St.partPtr (fun w hM => rowOwn3 (i := 2) rfl w hM) hx0 (fun p34 q34 hA34 hc34 => ?_)
    refine lv (v := (.pointer (some ⟨p34, q34 + i * 3, none⟩))) (rIndexRow3 (e := 76) rfl (by kernel_rfl) (by kernel_rfl) rfl rfl hA34 (by omega)) ?_
    refine lv (v := (.agg #[(.string (strOf x0.lo)), (.string (strOf x0.hi)), x0.c.val])) (rLoadA [(.string (strOf x0.lo)), (.string (strOf x0.hi)), x0.c.val] rfl rfl (by kernel_rfl) (by kernel_rfl) (hc34)) ?_
    refine li rfl ?_
    refine opAlloc [(.string ⟨#[]⟩), (.string ⟨#[]⟩), .nilIface] rfl rfl (by kernel_rfl) (by kernel_rfl) (fun b10 => ?_)
    refine li rfl ?_
    refine opStoreN 9 [(.string (strOf x0.lo)), (.string (strOf x0.hi)), x0.c.val] (vs := [(.string (strOf x0.lo)), (.string (strOf x0.hi)), x0.c.val]) rfl rfl (by kernel_rfl) rfl rfl rfl (by kernel_rfl) rfl (by simp) (PV.one x0) rfl ?_
    refine liNil (qThen (stSeq ?_))
    refine St.to [cSet nm (S), cSet om (S2), cOwn 76 3 R24 ((pvs24).length) (rc24) (PS (pvs24)), cBag (L24), cAt b8 85 [(.slice RX ((rp).length) (rcX)), (.slice NX ((nl).length) (ncX)), (.slice OX ((ol).length) (ocX))], cOwn 76 3 RX ((rp).length) (rcX) (PS (rp)), cOwn 9 1 NX ((nl).length) (ncX) (SS (nl)), cOwn 9 1 OX ((ol).length) (ocX) (SS (ol)), cBag (LX), cAt b10 76 [(.string (strOf x0.lo)), (.string (strOf x0.hi)), x0.c.val]] (by kernel_rfl) ?_
    refine reg ?_
    refine lc (.pointer (some ⟨b10, 2, none⟩)) ?_
    refine lv (v := x0.c.val) (rLoad 9 rfl rfl (by kernel_rfl) rfl rfl) ?_
    refine liNil (qThen (stBlock (stSeq ?_)))
    have hp0 : x0.abs.ok := hok _ (by rw [← heq24]; exact List.mem_map_of_mem (List.mem_of_getElem? hx0))
    obtain ⟨xlo, xhi, xc⟩ := x0
    cases xc with
    | sum xn xf =>
      refine St.to [cSet nm (S), cSet om (S2), cOwn 76 3 R24 ((pvs24).length) (rc24) (PS (pvs24)), cBag (L24), cAt b8 85 [(.slice RX ((rp).length) (rcX)), (.slice NX ((nl).length) (ncX)), (.slice OX ((ol).length) (ocX))], cOwn 76 3 RX ((rp).length) (rcX) (PS (rp)), cOwn 9 1 NX ((nl).length) (ncX) (SS (nl)), cOwn 9 1 OX ((ol).length) (ocX) (SS (ol)), cBag (LX), cAt b10 76 [(.string (strOf xlo)), (.string (strOf xhi)), (.iface 71 (.agg #[(.int .i64 ((xn : Nat) : Int)), (.string (strOf xf))]))]] (by kernel_rfl) ?_
      refine reg ?_
      refine lc (.tuple #[(.agg #[(.int .i64 ((xn : Nat) : Int)), (.string (strOf xf))]), (.bool true)]) ?_
      refine lc (.bool true) ?_
      refine lc (.agg #[(.int .i64 ((xn : Nat) : Int)), (.string (strOf xf))]) ?_
      refine liNil (qThen (stTrue rfl (stSeq (reg (li rfl ?_)))))
      refine opAlloc [(.int .i64 0), (.string ⟨#[]⟩)] rfl rfl (by kernel_rfl) (by kernel_rfl) (fun b11 => ?_)
      refine li rfl ?_
      refine opStoreN 10 [(.int .i64 ((xn : Nat) : Int)), (.string (strOf xf))] (vs := [(.int .i64 ((xn : Nat) : Int)), (.string (strOf xf))]) rfl rfl (by kernel_rfl) rfl rfl rfl (by kernel_rfl) rfl (by simp) (by simp [Value.oneCell']) rfl ?_
      refine liNil (qThen ?_)
      refine St.to [cSet nm (S), cSet om (S2), cOwn 76 3 R24 ((pvs24).length) (rc24) (PS (pvs24)), cBag (L24), cAt b8 85 [(.slice RX ((rp).length) (rcX)), (.slice NX ((nl).length) (ncX)), (.slice OX ((ol).length) (ocX))], cOwn 76 3 RX ((rp).length) (rcX) (PS (rp)), cOwn 9 1 NX ((nl).length) (ncX) (SS (nl)), cOwn 9 1 OX ((ol).length) (ocX) (SS (ol)), cBag (LX), cAt b10 76 [(.string (strOf xlo)), (.string (strOf xhi)), (.iface 71 (.agg #[(.int .i64 ((xn : Nat) : Int)), (.string (strOf xf))]))], cAt b11 71 [(.int .i64 ((xn : Nat) : Int)), (.string (strOf xf))]] (by kernel_rfl) ?_
      refine reg ?_
      refine lm ?_
      refine lc (.pointer (some ⟨b10, 0, none⟩)) ?_
      refine lv (v := (.agg #[(.string (strOf xlo)), (.string (strOf xhi))])) (rLoadA [(.string (strOf xlo)), (.string (strOf xhi))] rfl rfl (by kernel_rfl) (by kernel_rfl) (segAt (i := 9) rfl (by intro j v hj; first | (rw [Nat.zero_add]; exact hj) | (match j, hj with | 0, h => exact h | 1, h => exact h)))) ?_
      refine lv (v := (.agg #[(.int .i64 ((xn : Nat) : Int)), (.string (strOf xf))])) (rLoadA [(.int .i64 ((xn : Nat) : Int)), (.string (strOf xf))] rfl rfl (by kernel_rfl) (by kernel_rfl) (segAt (i := 10) rfl (by intro j v hj; first | (rw [Nat.zero_add]; exact hj) | (match j, hj with | 0, h => exact h | 1, h => exact h)))) ?_
      refine li rfl ?_
      refine opK [4, 5] [cAt b8 85 [(.slice RX ((rp).length) (rcX)), (.slice NX ((nl).length) (ncX)), (.slice OX ((ol).length) (ocX))], cOwn 76 3 RX ((rp).length) (rcX) (PS (rp))] (fun w hM hO => (rsCompare_any bs A c its fan leaf nm om xlo xhi xn xf b8 RX rcX rp (.slice NX ((nl).length) (ncX)) (.slice OX ((ol).length) (ocX)) w hO (r0.goS hM [4, 5]) (r1.goS hM [4, 5]) (by assumption) (by assumption) (by assumption) (by omega) (by omega) (by omega) (by omega) (by omega)).mono ?_)
      rintro e w' ⟨R245, rc245, ps245, rfl, hP, heq45, hsrc45⟩
      refine ⟨_, [cAt b8 85 [(.slice R245 ((rp ++ ps245).length) (rc245)), (.slice NX ((nl).length) (ncX)), (.slice OX ((ol).length) (ocX))], cOwn 76 3 R245 ((rp ++ ps245).length) (rc245) (PS (rp ++ ps245))], _, rfl, hP, rfl, ?_⟩; clear hP hM hO
      refine liNil (qBlock (qBlock (qThen (reg ?_))))
      refine lv (v := (.int .i64 ((i + 1 : Nat) : Int))) (rAdd _ rfl rfl rfl (by omega) (by omega) (by omega)) ?_
      refine lm ?_
      refine liNil (qThen ?_)
      have hnext : StepInv its fan leaf A pvs24 (i + 1) (rp ++ ps245) nl ol LX := hinv.sum hx0 heq45 hsrc45 (repA_ok hs h40 hf hf2 hl1 hp0)
      exact stAgain (i + 1, R245, rc245, rp ++ ps245, NX, ncX, nl, OX, ocX, ol, LX) (hnext) (by show pvs24.length - (i + 1) < pvs24.length - i; omega) ⟨rfl, rfl, rfl, rfl, rfl, rfl, rfl, rfl, trivial⟩ (fun w hM => by show Mm _ _ [cSet nm (S), cSet om (S2), cOwn 76 3 R24 ((pvs24).length) (rc24) (PS (pvs24)), cBag (L24), cAt b8 85 [(.slice R245 (((rp ++ ps245)).length) (rc245)), (.slice NX ((nl).length) (ncX)), (.slice OX ((ol).length) (ocX))], cOwn 76 3 R245 (((rp ++ ps245)).length) (rc245) (PS ((rp ++ ps245))), cOwn 9 1 NX ((nl).length) (ncX) (SS (nl)), cOwn 9 1 OX ((ol).length) (ocX) (SS (ol)), cBag (LX)] w; exact (fun (w : World) (h : Mm _ _ _ w) => Mm.sub h (.cons_cons _ (.cons_cons _ (.cons_cons _ (.cons_cons _ (.cons_cons _ (.cons_cons _ (.cons_cons _ (.cons_cons _ (.cons_cons _ (.cons _ (.cons _ .slnil)))))))))))) w hM)
    | list XA xca xl =>
      refine St.to [cSet nm (S), cSet om (S2), cOwn 76 3 R24 ((pvs24).length) (rc24) (PS (pvs24)), cBag (L24), cAt b8 85 [(.slice RX ((rp).length) (rcX)), (.slice NX ((nl).length) (ncX)), (.slice OX ((ol).length) (ocX))], cOwn 76 3 RX ((rp).length) (rcX) (PS (rp)), cOwn 9 1 NX ((nl).length) (ncX) (SS (nl)), cOwn 9 1 OX ((ol).length) (ocX) (SS (ol)), cBag (LX), cAt b10 76 [(.string (strOf xlo)), (.string (strOf xhi)), (.iface 89 (.agg #[(.slice XA (xl.length) (xca))]))]] (by kernel_rfl) ?_
      have hsx : (XA, xl) ∈ L24 := hsrc24 _ (List.mem_of_getElem? hx0) (XA, xl) (by simp [CV.rows])
      refine reg ?_
      refine lc (.tuple #[(.agg #[(.int .i64 0), (.string ⟨#[]⟩)]), (.bool false)]) ?_
      refine lc (.bool false) ?_
      refine lc (.agg #[(.int .i64 0), (.string ⟨#[]⟩)]) ?_
      refine liNil (qThen (stFalse rfl (stSeq (reg ?_))))
      refine lc (.tuple #[(.agg #[(.slice XA (xl.length) (xca))]), (.bool true)]) ?_
      refine lc (.bool true) ?_
      refine lc (.agg #[(.slice XA (xl.length) (xca))]) ?_
      refine liNil (qThen (stTrue rfl (stSeq (reg (li rfl ?_)))))
      refine opAlloc [(.slice none 0 0)] rfl rfl (by kernel_rfl) (by kernel_rfl) (fun b12 => ?_)
      refine li rfl ?_
      refine opStoreN 10 [(.slice XA (xl.length) (xca))] (vs := [(.slice XA (xl.length) (xca))]) rfl rfl (by kernel_rfl) rfl rfl rfl (by kernel_rfl) rfl (by simp) (by simp [Value.oneCell']) rfl ?_
      refine liNil (qThen ?_)
      refine St.to [cSet nm (S), cSet om (S2), cOwn 76 3 R24 ((pvs24).length) (rc24) (PS (pvs24)), cBag (L24), cAt b8 85 [(.slice RX ((rp).length) (rcX)), (.slice NX ((nl).length) (ncX)), (.slice OX ((ol).length) (ocX))], cOwn 76 3 RX ((rp).length) (rcX) (PS (rp)), cOwn 9 1 NX ((nl).length) (ncX) (SS (nl)), cOwn 9 1 OX ((ol).length) (ocX) (SS (ol)), cBag (LX), cAt b10 76 [(.string (strOf xlo)), (.string (strOf xhi)), (.iface 89 (.agg #[(.slice XA (xl.length) (xca))]))], cAt b12 89 [(.slice XA (xl.length) (xca))]] (by kernel_rfl) ?_
      refine reg ?_
      refine lm ?_
      refine lc (.pointer (some ⟨b10, 0, none⟩)) ?_
      refine lv (v := (.agg #[(.string (strOf xlo)), (.string (strOf xhi))])) (rLoadA [(.string (strOf xlo)), (.string (strOf xhi))] rfl rfl (by kernel_rfl) (by kernel_rfl) (segAt (i := 9) rfl (by intro j v hj; first | (rw [Nat.zero_add]; exact hj) | (match j, hj with | 0, h => exact h | 1, h => exact h)))) ?_
      refine lv (v := (.agg #[(.slice XA (xl.length) (xca))])) (rLoadA [(.slice XA (xl.length) (xca))] rfl rfl (by kernel_rfl) (by kernel_rfl) (segAt (i := 10) rfl (by intro j v hj; first | (rw [Nat.zero_add]; exact hj) | (match j, hj with | 0, h => exact h)))) ?_
      refine li rfl ?_
      refine opK [4, 5, 6, 7] [cAt b8 85 [(.slice RX ((rp).length) (rcX)), (.slice NX ((nl).length) (ncX)), (.slice OX ((ol).length) (ocX))], cOwn 76 3 RX ((rp).length) (rcX) (PS (rp)), cOwn 9 1 NX ((nl).length) (ncX) (SS (nl)), cOwn 9 1 OX ((ol).length) (ocX) (SS (ol))] (fun w hM hO => (rsAnswer_any bs A c its fan leaf nm om xlo xhi XA xca xl b8 RX rcX rp NX ncX nl OX ocX ol w hO (r1.goS hM [4, 5, 6, 7]) (hM.keepS [4, 5, 6, 7] (j := 3) rfl (fun w h => (h (XA, xl) hsx).1)) (by assumption) (by assumption) (by assumption) (by omega) (Nat.le_trans hp0.2.1 (by omega)) (fun x hx => Nat.le_trans (Nat.le_of_eq (hp0.2.2.1 x hx)) (by omega)) (by omega) (by omega)).mono ?_)
      rintro e w' ⟨R253, rc253, ps253, N253, nc253, O253, oc253, L253, rfl, hP, heq53, hsrc53⟩
      refine ⟨_, [cAt b8 85 [(.slice R253 ((rp ++ ps253).length) (rc253)), (.slice N253 ((nl ++ without xl its).length) (nc253)), (.slice O253 ((ol ++ without (inL its xlo xhi) xl).length) (oc253))], cOwn 76 3 R253 ((rp ++ ps253).length) (rc253) (PS (rp ++ ps253)), cOwn 9 1 N253 ((nl ++ without xl its).length) (nc253) (SS (nl ++ without xl its)), cOwn 9 1 O253 ((ol ++ without (inL its xlo xhi) xl).length) (oc253) (SS (ol ++ without (inL its xlo xhi) xl))], _, rfl, hP, rfl, ?_⟩; clear hP hM hO
      refine liNil (qBlock (qBlock (qThen (reg ?_))))
      refine lv (v := (.int .i64 ((i + 1 : Nat) : Int))) (rAdd _ rfl rfl rfl (by omega) (by omega) (by omega)) ?_
      refine lm ?_
      refine liNil (qThen ?_)
      have hnext : StepInv its fan leaf A pvs24 (i + 1) (rp ++ ps253) (nl ++ without xl its) (ol ++ without (inL its xlo xhi) xl) (LX ++ L253) := hinv.list hx0 heq53 hsrc53 (repA_ok hs h40 hf hf2 hl1 hp0) (needA_len hp0) (offA_len hs h40 hp0)
      exact stAgain (i + 1, R253, rc253, rp ++ ps253, N253, nc253, nl ++ without xl its, O253, oc253, ol ++ without (inL its xlo xhi) xl, LX ++ L253) (hnext) (by show pvs24.length - (i + 1) < pvs24.length - i; omega) ⟨rfl, rfl, rfl, rfl, rfl, rfl, rfl, rfl, trivial⟩ (fun w hM => by show Mm _ _ [cSet nm (S), cSet om (S2), cOwn 76 3 R24 ((pvs24).length) (rc24) (PS (pvs24)), cBag (L24), cAt b8 85 [(.slice R253 ((rp ++ ps253).length) (rc253)), (.slice N253 ((nl ++ without xl its).length) (nc253)), (.slice O253 ((ol ++ without (inL its xlo xhi) xl).length) (oc253))], cOwn 76 3 R253 ((rp ++ ps253).length) (rc253) (PS (rp ++ ps253)), cOwn 9 1 N253 ((nl ++ without xl its).length) (nc253) (SS (nl ++ without xl its)), cOwn 9 1 O253 ((ol ++ without (inL its xlo xhi) xl).length) (oc253) (SS (ol ++ without (inL its xlo xhi) xl)), cBag (LX ++ L253)] w; exact Mm.join (cs := [cSet nm (S), cSet om (S2), cOwn 76 3 R24 ((pvs24).length) (rc24) (PS (pvs24)), cBag (L24), cAt b8 85 [(.slice R253 ((rp ++ ps253).length) (rc253)), (.slice N253 ((nl ++ without xl its).length) (nc253)), (.slice O253 ((ol ++ without (inL its xlo xhi) xl).length) (oc253))], cOwn 76 3 R253 ((rp ++ ps253).length) (rc253) (PS (rp ++ ps253)), cOwn 9 1 N253 ((nl ++ without xl its).length) (nc253) (SS (nl ++ without xl its)), cOwn 9 1 O253 ((ol ++ without (inL its xlo xhi) xl).length) (oc253) (SS (ol ++ without (inL its xlo xhi) xl))]) (L := LX) (M := L253) ((fun (w : World) (h : Mm _ _ _ w) => Mm.sub h (.cons_cons _ (.cons_cons _ (.cons_cons _ (.cons_cons _ (.cons_cons _ (.cons_cons _ (.cons_cons _ (.cons_cons _ (.cons_cons _ (.cons _ (.cons _ (.cons_cons _ .slnil))))))))))))) w hM))
    | ans XA xca xl XB xcb xm =>
      refine St.to [cSet nm (S), cSet om (S2), cOwn 76 3 R24 ((pvs24).length) (rc24) (PS (pvs24)), cBag (L24), cAt b8 85 [(.slice RX ((rp).length) (rcX)), (.slice NX ((nl).length) (ncX)), (.slice OX ((ol).length) (ocX))], cOwn 76 3 RX ((rp).length) (rcX) (PS (rp)), cOwn 9 1 NX ((nl).length) (ncX) (SS (nl)), cOwn 9 1 OX ((ol).length) (ocX) (SS (ol)), cBag (LX), cAt b10 76 [(.string (strOf xlo)), (.string (strOf xhi)), (.iface 92 (.agg #[(.slice XA (xl.length) (xca)), (.slice XB (xm.length) (xcb))]))]] (by kernel_rfl) ?_
      have hsx : (XA, xl) ∈ L24 := hsrc24 _ (List.mem_of_getElem? hx0) (XA, xl) (by simp [CV.rows])
      have hsm : (XB, xm) ∈ L24 := hsrc24 _ (List.mem_of_getElem? hx0) (XB, xm) (by simp [CV.rows])
      refine reg ?_
      refine lc (.tuple #[(.agg #[(.int .i64 0), (.string ⟨#[]⟩)]), (.bool false)]) ?_
      refine lc (.bool false) ?_
      refine lc (.agg #[(.int .i64 0), (.string ⟨#[]⟩)]) ?_
      refine liNil (qThen (stFalse rfl (stSeq (reg ?_))))
      refine lc (.tuple #[(.agg #[(.slice none 0 0)]), (.bool false)]) ?_
      refine lc (.bool false) ?_
      refine lc (.agg #[(.slice none 0 0)]) ?_
      refine liNil (qThen (stFalse rfl (stSeq (reg ?_))))
      refine lc (.tuple #[(.agg #[(.slice XA (xl.length) (xca)), (.slice XB (xm.length) (xcb))]), (.bool true)]) ?_
      refine lc (.bool true) ?_
      refine lc (.agg #[(.slice XA (xl.length) (xca)), (.slice XB (xm.length) (xcb))]) ?_
      refine liNil (qThen (stTrue rfl (stSeq (reg (li rfl ?_)))))
      refine opAlloc [(.slice none 0 0), (.slice none 0 0)] rfl rfl (by kernel_rfl) (by kernel_rfl) (fun b13 => ?_)
      refine li rfl ?_
      refine opStoreN 10 [(.slice XA (xl.length) (xca)), (.slice XB (xm.length) (xcb))] (vs := [(.slice XA (xl.length) (xca)), (.slice XB (xm.length) (xcb))]) rfl rfl (by kernel_rfl) rfl rfl rfl (by kernel_rfl) rfl (by simp) (by simp [Value.oneCell']) rfl ?_
      refine liNil (qThen ?_)
      refine St.to [cSet nm (S), cSet om (S2), cOwn 76 3 R24 ((pvs24).length) (rc24) (PS (pvs24)), cBag (L24), cAt b8 85 [(.slice RX ((rp).length) (rcX)), (.slice NX ((nl).length) (ncX)), (.slice OX ((ol).length) (ocX))], cOwn 76 3 RX ((rp).length) (rcX) (PS (rp)), cOwn 9 1 NX ((nl).length) (ncX) (SS (nl)), cOwn 9 1 OX ((ol).length) (ocX) (SS (ol)), cBag (LX), cAt b10 76 [(.string (strOf xlo)), (.string (strOf xhi)), (.iface 92 (.agg #[(.slice XA (xl.length) (xca)), (.slice XB (xm.length) (xcb))]))], cAt b13 92 [(.slice XA (xl.length) (xca)), (.slice XB (xm.length) (xcb))]] (by kernel_rfl) ?_
      refine reg ?_
      refine lm ?_
      refine lv (v := (.agg #[(.slice XA (xl.length) (xca)), (.slice XB (xm.length) (xcb))])) (rLoadA [(.slice XA (xl.length) (xca)), (.slice XB (xm.length) (xcb))] rfl rfl (by kernel_rfl) (by kernel_rfl) (segAt (i := 10) rfl (by intro j v hj; first | (rw [Nat.zero_add]; exact hj) | (match j, hj with | 0, h => exact h | 1, h => exact h)))) ?_
      refine li rfl ?_
      refine opK [4, 6, 7] [cAt b8 85 [(.slice RX ((rp).length) (rcX)), (.slice NX ((nl).length) (ncX)), (.slice OX ((ol).length) (ocX))], cOwn 9 1 NX ((nl).length) (ncX) (SS (nl)), cOwn 9 1 OX ((ol).length) (ocX) (SS (ol))] (fun w hM hO => (rsLearn_any bs A c its fan leaf nm om XA xca xl XB xcb xm b8 (.slice RX ((rp).length) (rcX)) NX ncX nl OX ocX ol w hO (r1.goS hM [4, 6, 7]) (hM.keepS [4, 6, 7] (j := 3) rfl (fun w h => (h (XA, xl) hsx).1)) (hM.keepS [4, 6, 7] (j := 3) rfl (fun w h => (h (XB, xm) hsm).1)) (by assumption) (by assumption) (Nat.le_trans hp0.2.1.1 (by omega)) (Nat.le_trans hp0.2.2.1 (by omega)) (by omega) (by omega) (rfl)).mono ?_)
      rintro e w' ⟨N259, nc259, O259, oc259, rfl, hP⟩
      refine ⟨_, [cAt b8 85 [(.slice RX ((rp).length) (rcX)), (.slice N259 ((nl ++ without xl its).length) (nc259)), (.slice O259 ((ol ++ keepIn xm its).length) (oc259))], cOwn 9 1 N259 ((nl ++ without xl its).length) (nc259) (SS (nl ++ without xl its)), cOwn 9 1 O259 ((ol ++ keepIn xm its).length) (oc259) (SS (ol ++ keepIn xm its))], _, rfl, hP, rfl, ?_⟩; clear hP hM hO
      refine liNil (qBlock (qBlock (qThen (reg ?_))))
      refine lv (v := (.int .i64 ((i + 1 : Nat) : Int))) (rAdd _ rfl rfl rfl (by omega) (by omega) (by omega)) ?_
      refine lm ?_
      refine liNil (qThen ?_)
      have hnext : StepInv its fan leaf A pvs24 (i + 1) rp (nl ++ without xl its) (ol ++ keepIn xm its) LX := hinv.ans hx0 (needA_len hp0) (offA_len hs h40 hp0)
      exact stAgain (i + 1, RX, rcX, rp, N259, nc259, nl ++ without xl its, O259, oc259, ol ++ keepIn xm its, LX) (hnext) (by show pvs24.length - (i + 1) < pvs24.length - i; omega) ⟨rfl, rfl, rfl, rfl, rfl, rfl, rfl, rfl, trivial⟩ (fun w hM => by show Mm _ _ [cSet nm (S), cSet om (S2), cOwn 76 3 R24 ((pvs24).length) (rc24) (PS (pvs24)), cBag (L24), cAt b8 85 [(.slice RX ((rp).length) (rcX)), (.slice N259 (((nl ++ without xl its)).length) (nc259)), (.slice O259 (((ol ++ keepIn xm its)).length) (oc259))], cOwn 76 3 RX ((rp).length) (rcX) (PS (rp)), cOwn 9 1 N259 (((nl ++ without xl its)).length) (nc259) (SS ((nl ++ without xl its))), cOwn 9 1 O259 (((ol ++ keepIn xm its)).length) (oc259) (SS ((ol ++ keepIn xm its))), cBag (LX)] w; exact (fun (w : World) (h : Mm _ _ _ w) => Mm.sub h (.cons_cons _ (.cons_cons _ (.cons_cons _ (.cons_cons _ (.cons_cons _ (.cons_cons _ (.cons_cons _ (.cons_cons _ (.cons_cons _ (.cons _ (.cons _ .slnil)))))))))))) w hM)
  · have hd33 := of_decide_eq_false hc33
    have hil := hinv.le; have hil1 := hinv.len1; have hil2 := hinv.len2; have hil3 := hinv.len3
    obtain rfl : i = pvs24.length := by omega
    have hrp' : rp.map PV.abs = replyA its fan leaf ps := hinv.endR heq24
    have hnl' : nl = ps.flatMap (needA its) := hinv.endN heq24
    have hol' : ol = ps.flatMap (offA its) := hinv.endO heq24
    have hrfit : ∀ p ∈ rp.map PV.abs, p.fit := by rw [hrp']; exact replyA_fit hs h40 hf hf2 hl1 hok
    have hn32 : ∀ x ∈ nl, x.length = 32 := by rw [hnl']; exact flat32m fun p hp => (needA_len (hok p hp)).2
    have ho32 : ∀ x ∈ ol, x.length = 32 := by rw [hol']; exact flat32m fun p hp => (offA_len hs h40 (hok p hp)).2
    have henc := replyA_enc hs h40 hf hf2 hl1 (leaf := leaf) hok
    have hrl : rp.length = (replyA its fan leaf ps).length := by rw [← hrp', List.length_map]
    refine stExit (qThenX (qThenX (qBlockX (qThen (stSeq (reg ?_))))))
    refine lc (.pointer (some ⟨b8, 0, none⟩)) ?_
    refine lv (v := (.slice RX ((rp).length) (rcX))) (rLoad 4 rfl rfl (by kernel_rfl) rfl rfl) ?_
    refine li rfl ?_
    refine opK0 (fun w hM => (rsEncode_any RX rcX rp w (hM.keep0 (j := 5) rfl (fun _ h => own3_row h)) ((Ro.and (hM.keep0 (j := 8) rfl (fun w h => h)) (rb.go0 hM)).imp (fun w h => hinv.src.ok h.1 h.2)) (hrfit) (by rw [hrp']; exact hsz)).mono ?_)
    rintro e w' ⟨B64, cb64, rfl, hP⟩
    refine ⟨_, _, rfl, hP, ?_⟩; clear hP hM
    rw [show rp.map PV.abs = replyA its fan leaf ps from hrp']
    refine lm ?_
    refine lc (.slice B64 ((encA (replyA its fan leaf ps)).length) (cb64)) ?_
    refine lc (.int .i64 0) ?_
    refine la ?_
    refine la ?_
    refine liNil (qThen (stSeq (stSeq ?_)))
    refine St.to [cSet nm (S), cSet om (S2), cOwn 76 3 R24 ((pvs24).length) (rc24) (PS (pvs24)), cBag (L24), cAt b8 85 [(.slice RX ((rp).length) (rcX)), (.slice NX ((nl).length) (ncX)), (.slice OX ((ol).length) (ocX))], cOwn 76 3 RX ((rp).length) (rcX) (PS (rp)), cOwn 9 1 NX ((nl).length) (ncX) (SS (nl)), cOwn 9 1 OX ((ol).length) (ocX) (SS (ol)), cBag (LX), cOwn 5 1 B64 ((encA (replyA its fan leaf ps)).length) (cb64) (B8 (encA (replyA its fan leaf ps)))] (by kernel_rfl) ?_
    refine reg ?_
    refine lm ?_
    refine lc (.bool false) ?_
    refine liNil (qThen (stFalse rfl (stSkip (qThen (stSeq (stSeq (reg ?_)))))))
    refine lm ?_
    refine lc (.pointer (some ⟨bs, 0, none⟩)) ?_
    refine lc (.pointer (some ⟨bs, 3, none⟩)) ?_
    refine lv (v := (.map (some nm))) (rLoadW rfl rfl (by kernel_rfl) (fun w hM => At.cell (ra.now hM) 3)) ?_
    refine lc (.bool false) ?_
    refine liNil (qThen (stFalse rfl (stSkip (qThen (stSeq (stSeq (reg ?_)))))))
    refine lc (.pointer (some ⟨b8, 1, none⟩)) ?_
    refine lv (v := (.slice NX ((nl).length) (ncX))) (rLoad 4 rfl rfl (by kernel_rfl) rfl rfl) ?_
    refine lc (.int .i64 (((nl).length : Nat) : Int)) ?_
    refine lm ?_
    refine liNil (qThen (stBlock ?_))
    refine stLoop (ι := Nat) (fun j => j ≤ nl.length) (fun j => nl.length - j) (fun j => [(0, (.pointer (some ⟨bs, 0, none⟩))), (4, (.slice none 0 0)), (5, (.int .i64 0)), (8, (.pointer (some ⟨b8, 0, none⟩))), (14, (.slice B64 ((encA (replyA its fan leaf ps)).length) (cb64))), (84, (.slice NX ((nl).length) (ncX))), (85, (.int .i64 (((nl).length : Nat) : Int))), (86, (.int .i64 ((j : Nat) : Int)))]) (fun j => [cSet nm (S ++ nl.take j), cSet om (S2), cOwn 76 3 R24 ((pvs24).length) (rc24) (PS (pvs24)), cBag (L24), cAt b8 85 [(.slice RX ((rp).length) (rcX)), (.slice NX ((nl).length) (ncX)), (.slice OX ((ol).length) (ocX))], cOwn 76 3 RX ((rp).length) (rcX) (PS (rp)), cOwn 9 1 NX ((nl).length) (ncX) (SS (nl)), cOwn 9 1 OX ((ol).length) (ocX) (SS (ol)), cBag (LX), cOwn 5 1 B64 ((encA (replyA its fan leaf ps)).length) (cb64) (B8 (encA (replyA its fan leaf ps)))]) 0 (Nat.zero_le _) ⟨rfl, rfl, rfl, rfl, rfl, rfl, rfl, rfl, trivial⟩ (fun w hM => by show Mm _ _ [cSet nm (S ++ nl.take 0), cSet om (S2), cOwn 76 3 R24 ((pvs24).length) (rc24) (PS (pvs24)), cBag (L24), cAt b8 85 [(.slice RX ((rp).length) (rcX)), (.slice NX ((nl).length) (ncX)), (.slice OX ((ol).length) (ocX))], cOwn 76 3 RX ((rp).length) (rcX) (PS (rp)), cOwn 9 1 NX ((nl).length) (ncX) (SS (nl)), cOwn 9 1 OX ((ol).length) (ocX) (SS (ol)), cBag (LX), cOwn 5 1 B64 ((encA (replyA its fan leaf ps)).length) (cb64) (B8 (encA (replyA its fan leaf ps)))] w; rw [List.take_zero, List.append_nil]; exact hM) ?_
    intro j hj
    show St _ _ _ [(0, (.pointer (some ⟨bs, 0, none⟩))), (4, (.slice none 0 0)), (5, (.int .i64 0)), (8, (.pointer (some ⟨b8, 0, none⟩))), (14, (.slice B64 ((encA (replyA its fan leaf ps)).length) (cb64))), (84, (.slice NX ((nl).length) (ncX))), (85, (.int .i64 (((nl).length : Nat) : Int))), (86, (.int .i64 ((j : Nat) : Int)))] [cSet nm (S ++ nl.take j), cSet om (S2), cOwn 76 3 R24 ((pvs24).length) (rc24) (PS (pvs24)), cBag (L24), cAt b8 85 [(.slice RX ((rp).length) (rcX)), (.slice NX ((nl).length) (ncX)), (.slice OX ((ol).length) (ocX))], cOwn 76 3 RX ((rp).length) (rcX) (PS (rp)), cOwn 9 1 NX ((nl).length) (ncX) (SS (nl)), cOwn 9 1 OX ((ol).length) (ocX) (SS (ol)), cBag (LX), cOwn 5 1 B64 ((encA (replyA its fan leaf ps)).length) (cb64) (B8 (encA (replyA its fan leaf ps)))] _
    refine stSeq (reg ?_)
    refine lc (.bool (decide (((j : Nat) : Int) < (((nl).length : Nat) : Int)))) ?_
    refine liNil (qThen (stSeq ?_))
    refine stCond rfl (fun hc87 => ?_) (fun hc87 => ?_)
    · have hd87 := of_decide_eq_true hc87
      refine stSkip (qThen (stSeq (stBlock (stSeq (reg ?_)))))
      obtain ⟨x0, hx0⟩ : ∃ ξ, (nl)[j]? = some ξ := ⟨_, List.getElem?_eq_getElem (by omega)⟩
      refine St.rowPtr (fun w hM => rowOwn (i := 6) rfl w hM) (SS_at hx0) (fun p88 q88 hA88 hc88 => ?_)
      refine lv (v := (.pointer (some ⟨p88, q88 + j, none⟩))) (rIndexRow (e := 9) rfl (by kernel_rfl) (by kernel_rfl) rfl rfl hA88 (by omega)) ?_
      refine lv (v := (.string (strOf x0))) (rLoadW rfl rfl (by kernel_rfl) hc88) ?_
      refine la ?_
      refine liNil (qThen (reg ?_))
      refine lm ?_
      refine lc (.pointer (some ⟨bs, 0, none⟩)) ?_
      refine lc (.pointer (some ⟨bs, 3, none⟩)) ?_
      refine lv (v := (.map (some nm))) (rLoadW rfl rfl (by kernel_rfl) (fun w hM => At.cell (ra.now hM) 3)) ?_
      refine lm ?_
      refine li rfl ?_
      refine opSetPut 0 rfl rfl (by kernel_rfl) rfl rfl rfl rfl (by have h := hn32 _ (List.mem_of_getElem? hx0); omega) (by rw [List.length_append, List.length_take]; omega) ?_
      refine liNil (qBlock (qThen (reg ?_)))
      refine lv (v := (.int .i64 ((j + 1 : Nat) : Int))) (rAdd _ rfl rfl rfl (by omega) (by omega) (by omega)) ?_
      refine lm ?_
      refine liNil (qThen ?_)
      rw [show S ++ nl.take j ++ [x0] = S ++ nl.take (j + 1) from by rw [List.append_assoc, take_snoc hx0]]
      exact stAgain (j + 1) (by show _ ≤ _; omega) (by show nl.length - (j + 1) < nl.length - j; omega) ⟨rfl, rfl, rfl, rfl, rfl, rfl, rfl, rfl, trivial⟩ (fun w hM => by show Mm _ _ [cSet nm (S ++ nl.take (j + 1)), cSet om (S2), cOwn 76 3 R24 ((pvs24).length) (rc24) (PS (pvs24)), cBag (L24), cAt b8 85 [(.slice RX ((rp).length) (rcX)), (.slice NX ((nl).length) (ncX)), (.slice OX ((ol).length) (ocX))], cOwn 76 3 RX ((rp).length) (rcX) (PS (rp)), cOwn 9 1 NX ((nl).length) (ncX) (SS (nl)), cOwn 9 1 OX ((ol).length) (ocX) (SS (ol)), cBag (LX), cOwn 5 1 B64 ((encA (replyA its fan leaf ps)).length) (cb64) (B8 (encA (replyA its fan leaf ps)))] w; exact hM)
    · have hd87 := of_decide_eq_false hc87
      obtain rfl : j = nl.length := by omega
      rw [List.take_length]
      refine stExit (qThenX (qThenX (qBlockX (qThen (stSeq (stSeq (reg ?_)))))))
      refine lc (.pointer (some ⟨b8, 2, none⟩)) ?_
      refine lv (v := (.slice OX ((ol).length) (ocX))) (rLoad 4 rfl rfl (by kernel_rfl) rfl rfl) ?_
      refine lc (.int .i64 (((ol).length : Nat) : Int)) ?_
      refine lm ?_
      refine liNil (qThen (stBlock ?_))
      refine stLoop (ι := Nat) (fun j => j ≤ ol.length) (fun j => ol.length - j) (fun j => [(0, (.pointer (some ⟨bs, 0, none⟩))), (4, (.slice none 0 0)), (5, (.int .i64 0)), (14, (.slice B64 ((encA (replyA its fan leaf ps)).length) (cb64))), (97, (.slice OX ((ol).length) (ocX))), (98, (.int .i64 (((ol).length : Nat) : Int))), (99, (.int .i64 ((j : Nat) : Int)))]) (fun j => [cSet nm (S ++ nl), cSet om (S2 ++ ol.take j), cOwn 76 3 R24 ((pvs24).length) (rc24) (PS (pvs24)), cBag (L24), cAt b8 85 [(.slice RX ((rp).length) (rcX)), (.slice NX ((nl).length) (ncX)), (.slice OX ((ol).length) (ocX))], cOwn 76 3 RX ((rp).length) (rcX) (PS (rp)), cOwn 9 1 NX ((nl).length) (ncX) (SS (nl)), cOwn 9 1 OX ((ol).length) (ocX) (SS (ol)), cBag (LX), cOwn 5 1 B64 ((encA (replyA its fan leaf ps)).length) (cb64) (B8 (encA (replyA its fan leaf ps)))]) 0 (Nat.zero_le _) ⟨rfl, rfl, rfl, rfl, rfl, rfl, rfl, trivial⟩ (fun w hM => by show Mm _ _ [cSet nm (S ++ nl), cSet om (S2 ++ ol.take 0), cOwn 76 3 R24 ((pvs24).length) (rc24) (PS (pvs24)), cBag (L24), cAt b8 85 [(.slice RX ((rp).length) (rcX)), (.slice NX ((nl).length) (ncX)), (.slice OX ((ol).length) (ocX))], cOwn 76 3 RX ((rp).length) (rcX) (PS (rp)), cOwn 9 1 NX ((nl).length) (ncX) (SS (nl)), cOwn 9 1 OX ((ol).length) (ocX) (SS (ol)), cBag (LX), cOwn 5 1 B64 ((encA (replyA its fan leaf ps)).length) (cb64) (B8 (encA (replyA its fan leaf ps)))] w; rw [List.take_zero, List.append_nil]; exact hM) ?_
      intro j hj
      show St _ _ _ [(0, (.pointer (some ⟨bs, 0, none⟩))), (4, (.slice none 0 0)), (5, (.int .i64 0)), (14, (.slice B64 ((encA (replyA its fan leaf ps)).length) (cb64))), (97, (.slice OX ((ol).length) (ocX))), (98, (.int .i64 (((ol).length : Nat) : Int))), (99, (.int .i64 ((j : Nat) : Int)))] [cSet nm (S ++ nl), cSet om (S2 ++ ol.take j), cOwn 76 3 R24 ((pvs24).length) (rc24) (PS (pvs24)), cBag (L24), cAt b8 85 [(.slice RX ((rp).length) (rcX)), (.slice NX ((nl).length) (ncX)), (.slice OX ((ol).length) (ocX))], cOwn 76 3 RX ((rp).length) (rcX) (PS (rp)), cOwn 9 1 NX ((nl).length) (ncX) (SS (nl)), cOwn 9 1 OX ((ol).length) (ocX) (SS (ol)), cBag (LX), cOwn 5 1 B64 ((encA (replyA its fan leaf ps)).length) (cb64) (B8 (encA (replyA its fan leaf ps)))] _
      refine stSeq (reg ?_)
      refine lc (.bool (decide (((j : Nat) : Int) < (((ol).length : Nat) : Int)))) ?_
      refine liNil (qThen (stSeq ?_))
      refine stCond rfl (fun hc100 => ?_) (fun hc100 => ?_)
      · have hd100 := of_decide_eq_true hc100
        refine stSkip (qThen (stSeq (stBlock (stSeq (reg ?_)))))
        obtain ⟨x0, hx0⟩ : ∃ ξ, (ol)[j]? = some ξ := ⟨_, List.getElem?_eq_getElem (by omega)⟩
        refine St.rowPtr (fun w hM => rowOwn (i := 7) rfl w hM) (SS_at hx0) (fun p101 q101 hA101 hc101 => ?_)
        refine lv (v := (.pointer (some ⟨p101, q101 + j, none⟩))) (rIndexRow (e := 9) rfl (by kernel_rfl) (by kernel_rfl) rfl rfl hA101 (by omega)) ?_
        refine lv (v := (.string (strOf x0))) (rLoadW rfl rfl (by kernel_rfl) hc101) ?_
        refine la ?_
        refine liNil (qThen (reg ?_))
        refine lm ?_
        refine lc (.pointer (some ⟨bs, 0, none⟩)) ?_
        refine lc (.pointer (some ⟨bs, 4, none⟩)) ?_
        refine lv (v := (.map (some om))) (rLoadW rfl rfl (by kernel_rfl) (fun w hM => At.cell (ra.now hM) 4)) ?_
        refine lm ?_
        refine li rfl ?_
        refine opSetPut 1 rfl rfl (by kernel_rfl) rfl rfl rfl rfl (by have h := ho32 _ (List.mem_of_getElem? hx0); omega) (by rw [List.length_append, List.length_take]; omega) ?_
        refine liNil (qBlock (qThen (reg ?_)))
        refine lv (v := (.int .i64 ((j + 1 : Nat) : Int))) (rAdd _ rfl rfl rfl (by omega) (by omega) (by omega)) ?_
        refine lm ?_
        refine liNil (qThen ?_)
        rw [show S2 ++ ol.take j ++ [x0] = S2 ++ ol.take (j + 1) from by rw [List.append_assoc, take_snoc hx0]]
        exact stAgain (j + 1) (by show _ ≤ _; omega) (by show ol.length - (j + 1) < ol.length - j; omega) ⟨rfl, rfl, rfl, rfl, rfl, rfl, rfl, trivial⟩ (fun w hM => by show Mm _ _ [cSet nm (S ++ nl), cSet om (S2 ++ ol.take (j + 1)), cOwn 76 3 R24 ((pvs24).length) (rc24) (PS (pvs24)), cBag (L24), cAt b8 85 [(.slice RX ((rp).length) (rcX)), (.slice NX ((nl).length) (ncX)), (.slice OX ((ol).length) (ocX))], cOwn 76 3 RX ((rp).length) (rcX) (PS (rp)), cOwn 9 1 NX ((nl).length) (ncX) (SS (nl)), cOwn 9 1 OX ((ol).length) (ocX) (SS (ol)), cBag (LX), cOwn 5 1 B64 ((encA (replyA its fan leaf ps)).length) (cb64) (B8 (encA (replyA its fan leaf ps)))] w; exact hM)
      · have hd100 := of_decide_eq_false hc100
        obtain rfl : j = ol.length := by omega
        rw [List.take_length]
        refine stExit (qThenX (qThenX (qBlockX (qThen (stSeq (reg ?_))))))
        refine lm ?_
        refine la ?_
        refine la ?_
        refine liNil (qThen (stRet ?_))
        refine stEnd [(.slice B64 ((encA (replyA its fan leaf ps)).length) (cb64)), (.int .i64 0)] rfl ⟨rfl, rfl, trivial⟩ (fun w hM => ?_)
        refine ⟨B64, cb64, rfl, ?_⟩
        rw [← hnl', ← hol']
        exact (fun (w : World) (h : Mm _ _ _ w) => Mm.sub h (.cons_cons _ (.cons_cons _ (.cons _ (.cons _ (.cons _ (.cons _ (.cons _ (.cons _ (.cons _ (.cons_cons _ .slnil))))))))))) w hM

theorem rsStep_any (bs : Nat) (A : Option Addr) (c : Nat) (its : List (List UInt8)) (fan : Nat) (leaf : Nat) (nm : Nat) (om : Nat) (A1 : Option Addr) (c1 : Nat) (D : List UInt8) (S : List (List UInt8)) (S2 : List (List UInt8)) (w : World) (hO : Own [cSet nm (S), cSet om (S2)] w) (r0 : Rf [cSet nm (S), cSet om (S2)] w (Vars)) (r1 : Rf [cSet nm (S), cSet om (S2)] w (SessAt bs A c its fan leaf nm om)) (r2 : Rf [cSet nm (S), cSet om (S2)] w (fun w => RowIn w A1 (B8 D))) (hs : okSet its) (hn : its.length ≤ 1000) (hcap : its.length ≤ c) (h40 : its.length ≤ 40) (hf : 2 ≤ fan) (hf2 : fan ≤ 16) (hl1 : 1 ≤ leaf) (hl2 : leaf ≤ 64) (hD : D.length ≤ 1048576) (hS : S.length ≤ 549755813888) (hT : S2.length ≤ 549755813888) :
    Calls Tryz.prog 17 #[(.pointer (some ⟨bs, 0, none⟩)), (.slice A1 (D.length) (c1))] w fun e w' => ∃ (B : Option Addr) (cb : Nat), e = .returned (.tuple #[(.slice B (((stepA its fan leaf D).reply).length) (cb)), (.int .i64 (stepA its fan leaf D).err)]) ∧ Back [cSet nm (S), cSet om (S2)] w [cSet nm (S ++ (stepA its fan leaf D).need), cSet om (S2 ++ (stepA its fan leaf D).off), cOwn 5 1 B (((stepA its fan leaf D).reply).length) (cb) (B8 ((stepA its fan leaf D).reply))] w' := by
  by_cases h0 : D.length = 0
  · have e : stepA its fan leaf D = ⟨[], 0, [], []⟩ := by unfold stepA; rw [if_pos (List.eq_nil_of_length_eq_zero h0)]
    refine (rsStep_nil bs A c its fan leaf nm om A1 c1 D S S2 w hO r0 r1 r2 hs hn hcap h40 hf hf2 hl1 hl2 hD hS hT h0).mono ?_
    rintro _ w' ⟨rfl, hB⟩
    rw [e]
    refine ⟨none, 0, rfl, ?_⟩
    rw [List.append_nil, List.append_nil]
    exact hB.nilOwn 5 1
  · have hDn : ¬ D = [] := fun e => h0 (by rw [e]; rfl)
    cases hd : decA D with
    | none =>
      have e : stepA its fan leaf D = ⟨[], 3, [], []⟩ := by unfold stepA; rw [if_neg hDn, hd]
      refine (rsStep_bad bs A c its fan leaf nm om A1 c1 D S S2 w hO r0 r1 r2 hs hn hcap h40 hf hf2 hl1 hl2 hD hS hT h0 hd).mono ?_
      rintro _ w' ⟨rfl, hB⟩
      rw [e]
      refine ⟨none, 0, rfl, ?_⟩
      rw [List.append_nil, List.append_nil]
      exact hB.nilOwn 5 1
    | some ps =>
      by_cases hsz : 1048576 < (encA (replyA its fan leaf ps)).length
      · have e : stepA its fan leaf D = ⟨[], 2, [], []⟩ := by unfold stepA; rw [if_neg hDn, hd]; dsimp only; rw [if_pos hsz]
        refine (rsStep_big bs A c its fan leaf nm om A1 c1 D S S2 ps w hO r0 r1 r2 hs hn hcap h40 hf hf2 hl1 hl2 hD hS hT h0 hd hsz).mono ?_
        rintro _ w' ⟨rfl, hB⟩
        rw [e]
        refine ⟨none, 0, rfl, ?_⟩
        rw [List.append_nil, List.append_nil]
        exact hB.nilOwn 5 1
      · have e : stepA its fan leaf D = ⟨encA (replyA its fan leaf ps), 0, ps.flatMap (needA its), ps.flatMap (offA its)⟩ := by unfold stepA; rw [if_neg hDn, hd]; dsimp only; rw [if_neg hsz]
        rw [e]
        exact rsStep_ok bs A c its fan leaf nm om A1 c1 D S S2 ps w hO r0 r1 r2 hs hn hcap h40 hf hf2 hl1 hl2 hD hS hT h0 hd (by omega)

end Go.Proofs.YtlepfnihpdhcaaaGreatDoor
