/- How a law's row is closed: the call returns true and nothing that was there before has changed; then each argument reads as it did. -/
import Derived.Test.YtlepfnihpdhcaaaGreatDoorRows
import Derived.Test.YtlepfnihpdhcaaaGreatDoorBase
import Derived.ProofKit
import Derived.OpenShut
import Derived.Deep.Slices
namespace Go.Proofs.YtlepfnihpdhcaaaGreatDoor
open Go.ChangeShapes Go.WideShapes Go.ChangeAt Go.RowKit

theorem trodAll_stays {H : Type} {enc : TypeId × Value → H} {P : Program} (hl : laidOutB P = true) {W W' : World} (hb : Below W.heap.size W W') :
    ∀ (ts : List TypeId) (vs : List Value) (ds : List (DataW H)) (ps : List MemPlace), (∀ t ∈ ts, P.readableRec t = true ∧ t < P.types.size) → (∀ p ∈ ps, p.block < W.heap.size) →
      DataW.TrodAll enc P W 0 (fun _ => true) true ts vs ds ps → DataW.TrodAll enc P W' 0 (fun b => decide (b < W.heap.size)) true ts vs ds ps := by
  intro ts
  induction ts with
  | nil =>
    intro vs ds ps _ _ h
    obtain ⟨rfl, rfl, rfl⟩ := trodAll_nil h
    exact trodAll_mk0
  | cons t ts ih =>
    intro vs ds ps hr hp h
    obtain ⟨v, vs', d, ds', p, q, rfl, rfl, rfl, h1, h2⟩ := trodAll_cons h
    refine trodAll_cons_mk (WideElems.Trod_stays hl (hr t (by simp)).1 (hr t (by simp)).2 h1 (fun x hx => hb.same (hp x (by simp [hx]))) (fun x hx => by simpa using hp x (by simp [hx]))) (ih vs' ds' q (fun t ht => hr t (by simp [ht])) (fun x hx => hp x (by simp [hx])) h2)

/-- The row's post of a law, out of 'true' and 'Below'. -/
theorem post_law {H : Type} {enc : TypeId × Value → H} {P : Program} {f : Func} {s : ChangeSpec} {W W' : World} {args : Array Value} {ds gs : List (DataW H)} {before : List MemPlace}
    (hl : laidOutB P = true) (hr : f.params.toList.all (fun t => P.readableRec t && decide (t < P.types.size)) = true) (hv : s.vars = [])
    (hW : DataW.Whole enc P f.params.toList s.vars false W args.toList ds gs before)
    (hs : (s.fn H ds).results = [.lit (.bool true)] ∧ (s.fn H ds).args = ds ∧ (s.fn H ds).vars = [])
    (hres : ∀ (b : Nat), DataW.TrodAll enc P W' b (fun _ => false) false f.resultTypes.toList ((Value.bool true).resultList f.resultTypes.size) [.lit (.bool true)] [])
    (hb : Below W.heap.size W W') : s.post enc P f false true false false W args (.bool true) W' := by
  have hlt : ∀ p ∈ before, p.block < W.heap.size := fun p hp => hW.lt p hp
  obtain ⟨p, q, hA, hV, rfl, hfz, hnd⟩ := id hW
  rw [hv] at hV
  obtain ⟨rfl, rfl⟩ := trodVars_none hV
  have hA' := trodAll_stays hl hb f.params.toList args.toList ds p (fun t ht => by
    have := List.all_eq_true.1 hr t ht
    simpa using this) (fun x hx => hlt x (by simp [hx])) hA
  refine ⟨ds, [], p ++ [], [], p, [], hW, ?_, ?_, ?_, ?_, fun h => by cases h⟩
  · rw [List.append_nil, hs.1]; exact hres _
  · rw [List.append_nil, hs.2.1]; exact hA'
  · rw [List.append_nil, hs.2.2, hv]; rfl
  · exact hb.frame _

end Go.Proofs.YtlepfnihpdhcaaaGreatDoor
namespace Go.Proofs.YtlepfnihpdhcaaaGreatDoor
open Go.ChangeShapes Go.WideShapes Go.ChangeAt Go.RowKit

theorem wf_i64 {n : Int} (h : (Lit.int .i64 n).wf = true) : -9223372036854775808 ≤ n ∧ n ≤ 9223372036854775807 := by
  simpa [Lit.wf, IntKind.min, IntKind.max, IntKind.signed, IntKind.bits] using h
theorem wf_u8 {n : Int} (h : (Lit.int .u8 n).wf = true) : 0 ≤ n ∧ n ≤ 255 := by
  simpa [Lit.wf, IntKind.min, IntKind.max, IntKind.signed, IntKind.bits] using h
theorem wf_u64 {n : Int} (h : (Lit.int .u64 n).wf = true) : 0 ≤ n ∧ n ≤ 18446744073709551615 := by
  simpa [Lit.wf, IntKind.min, IntKind.max, IntKind.signed, IntKind.bits] using h

theorem block_add (a : Addr) (n : Nat) : (a.add n).block = a.block := by unfold Addr.add; split <;> rfl

/-- A cell that is there lies at an address without a spot. -/
theorem spot_none {w : World} {a : Addr} {v : Value} (h : w.cell? a = some v) : a.spot = none := by
  unfold World.cell? at h
  split at h
  · split at h
    · cases h
    · rename_i hs
      cases he : a.spot with
      | none => rfl
      | some x => rw [he] at hs; exact absurd rfl hs
  · cases h

theorem addr_add (b o j : Nat) : (⟨b, o, none⟩ : Addr).add j = ⟨b, o + j, none⟩ := by
  unfold Addr.add
  split
  · simp_all
  · rfl

theorem cell_lt {w : World} {b o : Nat} {v : Value} (h : w.cell? ⟨b, o, none⟩ = some v) : b < w.heap.size := World.block_lt_of_cell? w ⟨b, o, none⟩ h

section
variable {H : Type} {enc : TypeId × Value → H} {P : Program} {W : World}

/-- A slice whose elements have C cells each: for each element its cells, and its own reading. -/
theorem open_rows {t e : TypeId} {base : Nat} {v : Value} {d : DataW H} {p : List MemPlace} (C : Nat) (hC0 : 0 < C) (ht : P.underlying t = some (.slice e)) (hC : P.cellsOf e = C) (hv : Value.okWide P W .any base t v)
    (h : DataW.Trod enc P W 0 (fun _ => true) true t v d p) :
    ∃ (A : Option Addr) (n cap : Nat), v = .slice A n cap ∧ n ≤ cap ∧ cap ≤ maxLen ∧
      (0 < n → ∃ b o, A = some ⟨b, o, none⟩ ∧ b < W.heap.size ∧ ∀ i, i < n → ∃ (cs : List Value) (f : Nat) (x : DataW H × List MemPlace), cs.length = C ∧ (∀ j, j < C → W.cell? ⟨b, o + i * C + j, none⟩ = cs[j]?) ∧ DataW.trod enc P W 0 (fun _ => true) true f e cs = some x) := by
  obtain ⟨A, n, cap, rfl⟩ := okWide_slice ht hv
  obtain ⟨f, hf⟩ := h
  rcases Go.Deep.open_slice ht (by simpa [Value.cells] using hf) with ⟨h0, _⟩ | ⟨a, len, cap', m, n', D, Pl, hcs, _, hl, hm, hmm, _, hi⟩
  · simp only [List.cons.injEq, Value.slice.injEq, and_true] at h0
    obtain ⟨rfl, rfl, rfl⟩ := h0
    exact ⟨none, 0, 0, rfl, Nat.le_refl _, Nat.zero_le _, fun h => absurd h (by omega)⟩
  · simp only [List.cons.injEq, Value.slice.injEq, and_true] at hcs
    obtain ⟨rfl, rfl, rfl⟩ := hcs
    simp only [if_true] at hmm
    have hrow : ∀ i, i < n → ∃ (cs : List Value) (x : DataW H × List MemPlace), cs.length = C ∧ (∀ j, j < C → W.cell? ((a.add (i * C)).add j) = cs[j]?) ∧ DataW.trod enc P W 0 (fun _ => true) true n' e cs = some x := by
      intro i hin
      obtain ⟨cs', hc, ht'⟩ := hi i (by omega)
      rw [hC] at hc
      obtain ⟨_, hcl, hat⟩ := World.cells?_some hc
      exact ⟨cs', _, hcl, hat, ht'⟩
    refine ⟨_, n, cap, rfl, hl, hm, fun hn => ?_⟩
    obtain ⟨cs, x, hcl, hat, _⟩ := hrow 0 hn
    have h0 := hat 0 hC0
    rw [Nat.zero_mul, List.getElem?_eq_getElem (by omega)] at h0
    have ha0 : (a.add 0).add 0 = a := by unfold Addr.add; simp
    rw [ha0] at h0
    obtain ⟨b, o, s⟩ := a
    have hs := spot_none h0
    simp only at hs
    subst hs
    refine ⟨b, o, rfl, cell_lt h0, fun i hin => ?_⟩
    obtain ⟨cs, x, hcl, hat, ht'⟩ := hrow i hin
    refine ⟨cs, n', x, hcl, fun j hj => ?_, ht'⟩
    have := hat j hj
    rwa [addr_add, addr_add] at this

/-- A struct of three ints, out of its cells' reading. -/
theorem open_int3 {e ti : TypeId} {f : Nat} {cs : List Value} {x : DataW H × List MemPlace} {fs : Array Field} (he : P.underlying e = some (.struct fs)) (hi : P.underlying ti = some (.int .i64)) (h1 : P.cellsOf ti = 1)
    (hf : fs.toList.map (fun f => (f.type, f.offset)) = [(ti, 0), (ti, 1), (ti, 2)]) (h : DataW.trod enc P W 0 (fun _ => true) true f e cs = some x) (hl : cs.length = 3) :
    ∃ a b c : Int, cs = [Value.int .i64 a, Value.int .i64 b, Value.int .i64 c] ∧ (Lit.int .i64 a).wf = true ∧ (Lit.int .i64 b).wf = true ∧ (Lit.int .i64 c).wf = true := by
  obtain ⟨xs, n, _, _, _, hxl, hg⟩ := DataW.trod_struct he h
  match cs, hl with
  | [c0, c1, c2], _ =>
    have hfs : fs.toList.length = 3 := by have := congrArg List.length hf; simpa using this
    match hfl : fs.toList, hfs with
    | [f0, f1, f2], _ =>
      rw [hfl] at hf
      simp only [List.map_cons, List.map_nil, List.cons.injEq, Prod.mk.injEq, and_true] at hf
      obtain ⟨⟨t0, o0⟩, ⟨t1, o1⟩, ⟨t2, o2⟩⟩ := hf
      have hx : ∀ i, i < 3 → ∃ y, xs[i]? = some y := fun i hi => ⟨xs[i]'(by rw [hxl, ← Array.length_toList, hfl]; simpa using hi), List.getElem?_eq_getElem _⟩
      have g0 := hg 0 f0 (by rw [← Array.getElem?_toList, hfl]; rfl)
      have g1 := hg 1 f1 (by rw [← Array.getElem?_toList, hfl]; rfl)
      have g2 := hg 2 f2 (by rw [← Array.getElem?_toList, hfl]; rfl)
      obtain ⟨y0, e0⟩ := hx 0 (by omega)
      obtain ⟨y1, e1⟩ := hx 1 (by omega)
      obtain ⟨y2, e2⟩ := hx 2 (by omega)
      rw [t0, o0, h1, e0] at g0
      rw [t1, o1, h1, e1] at g1
      rw [t2, o2, h1, e2] at g2
      obtain ⟨a, ha, _, wa⟩ := DataW.trod_int hi g0
      obtain ⟨b, hb, _, wb⟩ := DataW.trod_int hi g1
      obtain ⟨c, hc, _, wc⟩ := DataW.trod_int hi g2
      simp at ha hb hc
      exact ⟨a, b, c, by rw [ha, hb, hc], wa, wb, wc⟩

/-- A slice of integers of kind k. -/
theorem open_row {t e : TypeId} {k : IntKind} {base : Nat} {v : Value} {d : DataW H} {p : List MemPlace} (ht : P.underlying t = some (.slice e)) (he : P.underlying e = some (.int k)) (hC : P.cellsOf e = 1) (hv : Value.okWide P W .any base t v)
    (h : DataW.Trod enc P W 0 (fun _ => true) true t v d p) :
    ∃ (A : Option Addr) (cap : Nat) (zs : List Int), v = .slice A zs.length cap ∧ zs.length ≤ maxLen ∧ RowIn W A (zs.map (Value.int k)) ∧ ∀ z ∈ zs, (Lit.int k z).wf = true := by
  obtain ⟨A, n, cap, rfl, hnc, hcm, hr⟩ := open_rows 1 (by omega) ht hC hv h
  rcases Nat.eq_zero_or_pos n with rfl | hn
  · exact ⟨A, cap, [], rfl, Nat.zero_le _, fun i x hx => by simp at hx, fun z hz => by simp at hz⟩
  · obtain ⟨b, o, rfl, hb, hi⟩ := hr hn
    have hx : ∀ i, i < n → ∃ x : Int, (Lit.int k x).wf = true ∧ W.cell? ⟨b, o + i, none⟩ = some (.int k x) := by
      intro i hin
      obtain ⟨cs, f, x, hl, hc, ht⟩ := hi i hin
      obtain ⟨z, rfl, _, wz⟩ := DataW.trod_int he ht
      have h0 := hc 0 (by omega)
      rw [Nat.mul_one] at h0
      exact ⟨z, wz, h0⟩
    let g : Nat → Int := fun i => if h : i < n then Classical.choose (hx i h) else 0
    have hgs : ∀ i (hin : i < n), (Lit.int k (g i)).wf = true ∧ W.cell? ⟨b, o + i, none⟩ = some (.int k (g i)) := by
      intro i hin
      have hgi : g i = Classical.choose (hx i hin) := by simp only [g, hin, dif_pos]
      rw [hgi]
      exact Classical.choose_spec (hx i hin)
    refine ⟨some ⟨b, o, none⟩, cap, (List.range n).map g, by simp, by simp; omega, ?_, ?_⟩
    · intro i u hu
      have hin : i < n := by
        have := (List.getElem?_eq_some_iff.1 hu).1
        simpa using this
      have hg : Value.int k (g i) = u := by simpa [hin] using hu
      exact ⟨b, o, rfl, hb, by rw [(hgs i hin).2, hg]⟩
    · intro z hz
      obtain ⟨i, hi, rfl⟩ := List.mem_map.1 hz
      exact (hgs i (List.mem_range.1 hi)).1
end

end Go.Proofs.YtlepfnihpdhcaaaGreatDoor
