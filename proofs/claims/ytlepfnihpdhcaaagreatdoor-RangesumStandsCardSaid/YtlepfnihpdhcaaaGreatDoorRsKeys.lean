/- rangesum: the ascending list of a set's members, as the library makes it out of a map: slices.Sorted(maps.Keys(m)). -/
import Derived.Test.YtlepfnihpdhcaaaGreatDoorSetCh
import Derived.Test.YtlepfnihpdhcaaaGreatDoorRsTh1
namespace Go.Proofs.YtlepfnihpdhcaaaGreatDoor
open Go.RowKit Go.Sort Go.Shelf
open Go.Maps (setOf)

theorem sort_keys {S ss : List Bs} {D : DataW Unit} (hD : D = setOf (DataW.lit (.bool true)) (S.map Lit.string)) (hk : ∀ p, ∀ es, D = .map es → p ∈ es → ∃ x, p.1 = Lit.string x) (hp : ss.Perm (strKeys D)) : ss.mergeSort (fun x y => decide (x ≤ y)) = withL [] S := by
  have hlit : ∀ x ∈ S.map Lit.string, WideAt.IsKeyLit x := by intro y hy; obtain ⟨q, _, rfl⟩ := List.mem_map.1 hy; exact True.intro
  have hasc := withL_asc0 S
  have hnd : (withL [] S).Nodup := hasc.imp fun {a b} h e => by subst e; exact b_lt_irrefl h
  obtain ⟨es, he, hpw⟩ := Maps.tidy_setOf (DataW.lit (H := Unit) (.bool true)) (S.map Lit.string) hlit
  have hq : (withL [] S).Perm (strKeys D) := by
    rw [hD, he]
    refine perm_strKeys hpw (fun p hp => hk p es (hD.trans he) hp) hnd fun x => ?_
    rw [← he, Maps.has_setOf _ _ _ hlit, mem_withL0, List.any_map, List.any_eq_true]
    constructor
    · intro h
      exact ⟨x, h, WideAt.sameKey_self (a := Lit.string x) True.intro⟩
    · rintro ⟨q, h1, h2⟩
      have := WideAt.sameKey_eq (show (Lit.string q).sameKey (Lit.string x) = true from h2)
      injection this with this
      rw [← this]
      exact h1
  have hps : ss.Perm (withL [] S) := hp.trans hq.symm
  have hm := mergeSort_of_perm hps
  have hsorted : (withL [] S).mergeSort (fun x y => decide (x ≤ y)) = withL [] S := by
    have tr : ∀ a b c : Bs, decide (a ≤ b) = true → decide (b ≤ c) = true → decide (a ≤ c) = true := fun a b c h1 h2 => by simp only [decide_eq_true_eq] at *; exact List.le_trans h1 h2
    have to : ∀ a b : Bs, (decide (a ≤ b) || decide (b ≤ a)) = true := fun a b => by simp only [Bool.or_eq_true, decide_eq_true_eq]; exact List.le_total a b
    exact List.Perm.eq_of_pairwise (le := fun a b => decide (a ≤ b) = true) (fun a b _ _ h1 h2 => List.le_antisymm (by simpa using h1) (by simpa using h2)) (List.pairwise_mergeSort tr to _) (hasc.imp fun {a b} h => by simpa using List.le_of_lt h) (List.mergeSort_perm _ _)
  exact hm.trans hsorted

theorem own_newR {w w' : World} {e : TypeId} {v : Value} {n : Nat} {xs : List Value} (hf : Fr [] w w') (ho : w'.ownsRow w.heap.size e 1 v n xs) : ∃ A c, v = .slice A n c ∧ Back [] w [cOwn e 1 A n c xs] w' := by
  obtain ⟨hl, h⟩ := ho
  rcases h with ⟨rfl, rfl⟩ | ⟨g, cap, cur, rfl, hge, h1, h2, h3, h4, h5⟩
  · refine ⟨none, 0, rfl, (Mm.start w []).push (c := cOwn e 1 none 0 0 xs) hf ?_ (by simp [cOwn, ownFp]) (by simp [cOwn, ownFp])⟩
    exact ⟨hl, .inl ⟨rfl, rfl⟩⟩
  · refine ⟨some ⟨g, 0, none⟩, cap, rfl, (Mm.start w []).push (c := cOwn e 1 (some ⟨g, 0, none⟩) n cap xs) hf ?_ (by simp [cOwn, ownFp]; exact hge) (by simp [cOwn, ownFp])⟩
    exact ⟨hl, .inr ⟨g, cap, cur, rfl, Nat.zero_le _, h1, h2, h3, h4, h5⟩⟩

theorem rsKeys_any (nm : Nat) (w : World) :
    Calls Tryz.prog 50 #[(.map (some nm))] w fun e w' => ∃ (bk : Nat), e = .returned (.func (.func 72) #[] #[(.pointer (some ⟨bk, 0, none⟩))]) ∧ Back [] w [cAt bk 64 [(.map (some nm))]] w' := by
  have h := (callsIn_wide (n := 5)).1 (AnyZ.keys_in Tryz.keysA Fence.wide 5 trivial rfl (some nm) w)
  change Calls Tryz.prog 50 _ _ _ at h
  refine h.mono ?_
  rintro e w' ⟨rfl, rfl⟩
  exact ⟨w.heap.size, rfl, (Mm.start w []).push (c := cAt w.heap.size 64 [.map (some nm)]) ((Fr.refl _ _).alloc _) (At.new w _ _) (by simp [cAt]) (by simp [cAt])⟩

theorem sorts_in (m : Nat) : AnyZ.SortsIn Tryz.prog Tryz.sortedA_ren Fence.wide m :=
  ⟨fun blk off cap ss W hH hblk hsz => callsIn_wide.2 (Tryz.slices_Sort_string blk off cap ss W hH hblk hsz),
   fun p cap W => callsIn_wide.2 (Tryz.slices_Sort_string_none p cap W)⟩
theorem rsSorted_any (bk : Nat) (nm : Nat) (S : List (List UInt8)) (w : World) (r0 : Rf [] w (fun w => At w bk 64 [(.map (some nm))])) (r1 : Rf [] w (fun w => SetAt w nm S)) (hS : S.length ≤ 1099511627776) :
    Calls Tryz.prog 49 #[(.func (.func 72) #[] #[(.pointer (some ⟨bk, 0, none⟩))])] w fun e w' => ∃ (B : Option Addr) (cb : Nat), e = .returned (.slice B ((withL [] S).length) (cb)) ∧ Back [] w [cOwn 9 1 B ((withL [] S).length) (cb) (SS (withL [] S))] w' := by
  have hm : w.cell? ⟨bk, 0, none⟩ = some (.map (some nm)) := by have h := r0.here; rw [h.cell]; rfl
  have hBm : bk < w.heap.size := by have h := r0.here; exact h.lt
  have hown : SetAt w nm S := r1.here
  have hlen : Maps.size (setOf (DataW.lit (H := Unit) (.bool true)) (S.map Lit.string)) ≤ S.length := by
    have hlit : ∀ x ∈ S.map Lit.string, WideAt.IsKeyLit x := by intro y hy; obtain ⟨q, _, rfl⟩ := List.mem_map.1 hy; exact True.intro
    rw [Maps.size_setOf _ _ hlit]
    have key : ∀ (xs L : List Lit), (xs.foldl Maps.addKey L).length ≤ L.length + xs.length := by
      intro xs
      induction xs with
      | nil => intro L; exact Nat.le_refl _
      | cons x xs ih =>
        intro L
        refine Nat.le_trans (ih _) ?_
        unfold Maps.addKey
        split <;> simp only [List.length_append, List.length_cons, List.length_nil] <;> omega
    refine Nat.le_trans (key _ _) ?_
    simp
  have hseq : SeqGives Fence.wide 2 Tryz.prog 72 #[.pointer (some ⟨bk, 0, none⟩)] encStr (fun ss => ss.Perm (strKeys (setOf (DataW.lit (H := Unit) (.bool true)) (S.map Lit.string)))) (Maps.size (setOf (DataW.lit (H := Unit) (.bool true)) (S.map Lit.string))) w :=
    AnyZ.keys_gives (ρ := Tryz.keysA_ren) { Tryz.keysA with } Fence.wide _ trivial rfl (by omega) bk nm S.length _ w hBm hm hown
  have cS := AnyZ.sorted_in Tryz.sortedA Fence.wide 5 trivial trivial trivial trivial rfl (by omega) (sorts_in _) (enters_of Tryz.func71 (by kernel_rfl) rfl) 72 #[.pointer (some ⟨bk, 0, none⟩)] trivial (enters_of Tryz.func72 (by kernel_rfl) rfl) _ _ (by unfold maxLen; omega) (by omega) _ hseq
  have hC := (callsIn_wide (n := 5)).1 cS
  change Calls Tryz.prog 49 _ _ _ at hC
  refine hC.mono ?_
  rintro e w' ⟨v, ss, rfl, hS, hrow, hnil, hb⟩
  have hes := World.ownsMap.keysOf hown
  have he := sort_keys (S := S) (ss := ss) rfl (fun p es e hp => by
    obtain ⟨es', he', hk'⟩ := hes
    rw [he'] at e
    injection e with e
    obtain ⟨u, hu⟩ := hk' p (e ▸ hp)
    obtain ⟨x, _, hx, _⟩ := Maps.keyOf_str Tryz.underlying9 hu
    exact ⟨x, hx⟩) hS
  have hl : ss.length = (withL [] S).length := by rw [← he, List.length_mergeSort]
  rw [he, hl] at hrow
  obtain ⟨A, c, rfl, hB⟩ := own_newR (Fr.of_below hb []) hrow
  exact ⟨A, c, rfl, hB⟩

set_option maxRecDepth 100000 in
set_option maxHeartbeats 1000000 in
theorem rsNeed_any (bs : Nat) (A : Option Addr) (c : Nat) (its : List (List UInt8)) (fan : Nat) (leaf : Nat) (nm : Nat) (om : Nat) (S : List (List UInt8)) (w : World) (r0 : Rf [] w (fun w => At w bs 66 [(.slice A (its.length) (c)), (.int .i64 ((fan : Nat) : Int)), (.int .i64 ((leaf : Nat) : Int)), (.map (some nm)), (.map (some om))])) (r1 : Rf [] w (fun w => SetAt w nm S)) (hS : S.length ≤ 1099511627776) :
    Calls Tryz.prog 20 #[(.pointer (some ⟨bs, 0, none⟩))] w fun e w' => ∃ (B : Option Addr) (cb : Nat), e = .returned (.slice B ((withL [] S).length) (cb)) ∧ Back [] w [cOwn 9 1 B ((withL [] S).length) (cb) (SS (withL [] S))] w' := by
  refine stEnter (args := [(.pointer (some ⟨bs, 0, none⟩))]) (fps []) Tryz.func20 rfl 9 rfl [(0, (.pointer (some ⟨bs, 0, none⟩)))] ⟨rfl, trivial⟩ [] (Mm.start w []) ?_
  refine stSeq (reg ?_)
  refine la ?_
  refine liNil (qThen (stSeq (reg ?_)))
  refine lm ?_
  refine lc (.pointer (some ⟨bs, 0, none⟩)) ?_
  refine lc (.pointer (some ⟨bs, 3, none⟩)) ?_
  refine lv (v := (.map (some nm))) (rLoadW rfl rfl (by kernel_rfl) (fun w hM => At.cell (r0.now hM) 3)) ?_
  refine li rfl ?_
  refine opK0 (fun w hM => (rsKeys_any nm w ).mono ?_)
  rintro e w' ⟨bk7, rfl, hP⟩
  refine ⟨_, _, rfl, hP, ?_⟩; clear hP hM
  refine li rfl ?_
  refine opK0 (fun w hM => (rsSorted_any bk7 nm S w (hM.keep0 (j := 0) rfl (fun _ h => h)) (r1.go0 hM) (by omega)).mono ?_)
  rintro e w' ⟨B8, cb8, rfl, hP⟩
  refine ⟨_, _, rfl, hP, ?_⟩; clear hP hM
  refine la ?_
  refine liNil (qThen (stRet ?_))
  refine stEnd [(.slice B8 ((withL [] S).length) (cb8))] rfl ⟨rfl, trivial⟩ (fun w hM => ?_)
  exact ⟨B8, cb8, rfl, (fun (w : World) (h : Mm _ _ _ w) => Mm.sub h (.cons _ (.cons_cons _ .slnil))) w hM⟩

set_option maxRecDepth 100000 in
set_option maxHeartbeats 1000000 in
theorem rsOffer_any (bs : Nat) (A : Option Addr) (c : Nat) (its : List (List UInt8)) (fan : Nat) (leaf : Nat) (nm : Nat) (om : Nat) (S : List (List UInt8)) (w : World) (r0 : Rf [] w (fun w => At w bs 66 [(.slice A (its.length) (c)), (.int .i64 ((fan : Nat) : Int)), (.int .i64 ((leaf : Nat) : Int)), (.map (some nm)), (.map (some om))])) (r1 : Rf [] w (fun w => SetAt w om S)) (hS : S.length ≤ 1099511627776) :
    Calls Tryz.prog 21 #[(.pointer (some ⟨bs, 0, none⟩))] w fun e w' => ∃ (B : Option Addr) (cb : Nat), e = .returned (.slice B ((withL [] S).length) (cb)) ∧ Back [] w [cOwn 9 1 B ((withL [] S).length) (cb) (SS (withL [] S))] w' := by
  refine stEnter (args := [(.pointer (some ⟨bs, 0, none⟩))]) (fps []) Tryz.func21 rfl 9 rfl [(0, (.pointer (some ⟨bs, 0, none⟩)))] ⟨rfl, trivial⟩ [] (Mm.start w []) ?_
  refine stSeq (reg ?_)
  refine la ?_
  refine liNil (qThen (stSeq (reg ?_)))
  refine lm ?_
  refine lc (.pointer (some ⟨bs, 0, none⟩)) ?_
  refine lc (.pointer (some ⟨bs, 4, none⟩)) ?_
  refine lv (v := (.map (some om))) (rLoadW rfl rfl (by kernel_rfl) (fun w hM => At.cell (r0.now hM) 4)) ?_
  refine li rfl ?_
  refine opK0 (fun w hM => (rsKeys_any om w ).mono ?_)
  rintro e w' ⟨bk7, rfl, hP⟩
  refine ⟨_, _, rfl, hP, ?_⟩; clear hP hM
  refine li rfl ?_
  refine opK0 (fun w hM => (rsSorted_any bk7 om S w (hM.keep0 (j := 0) rfl (fun _ h => h)) (r1.go0 hM) (by omega)).mono ?_)
  rintro e w' ⟨B8, cb8, rfl, hP⟩
  refine ⟨_, _, rfl, hP, ?_⟩; clear hP hM
  refine la ?_
  refine liNil (qThen (stRet ?_))
  refine stEnd [(.slice B8 ((withL [] S).length) (cb8))] rfl ⟨rfl, trivial⟩ (fun w hM => ?_)
  exact ⟨B8, cb8, rfl, (fun (w : World) (h : Mm _ _ _ w) => Mm.sub h (.cons _ (.cons_cons _ .slnil))) w hM⟩
end Go.Proofs.YtlepfnihpdhcaaaGreatDoor
