/- A map[string]bool that the call makes, as a set of strings; the library's sort of strings over a block that is known whole. -/
import Derived.Test.YtlepfnihpdhcaaaGreatDoorShelf
import Derived.Test.YtlepfnihpdhcaaaGreatDoorSha4
import Derived.Maps.OwnOps
import Derived.Maps.OwnSet
import Derived.Maps.Views
import Derived.StringKeys
import Derived.Test.YtlepfnihpdhcaaaGreatDoorCon
namespace Go.Proofs.YtlepfnihpdhcaaaGreatDoor
open Go.RowKit Go.Sort
open Go.Maps (setOf)

def sortStr (l : List (List UInt8)) : List (List UInt8) := l.mergeSort fun x y => decide (x ≤ y)
theorem sortStr_len (l : List (List UInt8)) : (sortStr l).length = l.length := by simp [sortStr]

theorem putCells_strs (zs ys : List (List UInt8)) (rest : List Value) (h : ys.length = zs.length) :
    putCells encStr 0 ys.toArray (zs.map S8v ++ rest).toArray = (ys.map S8v ++ rest).toArray := by
  apply Array.ext_getElem?
  intro k
  simp only [putCells, Array.getElem?_mapIdx, List.getElem?_toArray, Nat.zero_le, true_and, Nat.zero_add, List.size_toArray, Nat.sub_zero]
  by_cases hk : k < ys.length
  · rw [List.getElem?_append_left (by simpa using h ▸ hk), List.getElem?_append_left (by simpa using hk)]
    have hk' : k < zs.length := h ▸ hk
    simp [hk, List.getElem?_eq_getElem hk', S8v, strOf]
  · rw [List.getElem?_append_right (by simp; omega), List.getElem?_append_right (by simp; omega)]
    have hk' : ¬ k < zs.length := by omega
    simp [hk', h]

theorem sortStrs (b cap : Nat) (zs : List (List UInt8)) (rest : List Value) (t : TypeId) (w : World) (h : At w b t (zs.map S8v ++ rest)) (hlen : zs.length < 4611686018427387904) :
    Calls Tryz.prog 71 #[.slice (some ⟨b, 0, none⟩) zs.length cap] w fun e w' => e = .returned (.tuple #[]) ∧ Fr [b] w w' ∧ At w' b t ((sortStr zs).map S8v ++ rest) := by
  have hH : Holds encStr w b 0 zs.toArray := by
    intro j hj
    have hj' : j < zs.length := by simpa using hj
    rw [Nat.zero_add, h.cell, h.frozen]
    refine ⟨?_, rfl⟩
    rw [List.getElem?_append_left (by simpa using hj')]
    simp [getElem!_pos, hj', S8v, strOf]
  refine (Tryz.slices_Sort_string b 0 cap zs w hH h.lt hlen).mono ?_
  rintro e w' ⟨rfl, n, os, rfl⟩
  have hb := h.lt
  refine ⟨rfl, ⟨rfl, rfl, rfl, ?_, ?_⟩, ?_⟩
  · simp
  · intro k hk hn
    simp only [grow, putRow, mapBlock, heap_ahead]
    rw [Array.getElem?_append_left (by simpa using hk), Array.getElem?_modify, if_neg (by simpa using Ne.symm (by simpa using hn))]
  · unfold At at h ⊢
    simp only [grow, putRow, mapBlock, heap_ahead]
    rw [Array.getElem?_append_left (by simpa using hb), Array.getElem?_modify, if_pos rfl, h]
    simp only [Option.map_some, onCells]
    rw [show (zs.mergeSort fun x y => decide (x ≤ y)) = sortStr zs from rfl, putCells_strs zs (sortStr zs) rest (sortStr_len zs)]

/-- Block b is the set S. -/
def SetAt (w : World) (b : Nat) (S : List (List UInt8)) : Prop := w.ownsMap (H := Unit) Tryz.prog 9 (plainElem Tryz.prog 4) b S.length (setOf (.lit (.bool true)) (S.map Lit.string))

theorem SetAt.new (w : World) : SetAt (w.alloc (.map #[] 0)) w.heap.size [] := World.ownsMap_made w _ _ _
theorem SetAt.lt {w : World} {b : Nat} {S : List (List UInt8)} (h : SetAt w b S) : b < w.heap.size := World.ownsMap.lt h
theorem SetAt.grown {w w' : World} {b : Nat} {S : List (List UInt8)} {row : Option Nat} (h : SetAt w b S) (hg : w.grownBy w' row) (hne : some b ≠ row) : SetAt w' b S := World.ownsMap.kept h hg hne
theorem SetAt.fr {w w' : World} {b : Nat} {S : List (List UInt8)} {T : List Nat} (h : SetAt w b S) (hf : Fr T w w') (hb : b ∉ T) : SetAt w' b S := by
  obtain ⟨es, clock, h1, h2⟩ := h
  exact ⟨es, clock, by rw [hf.block b (Array.getElem?_eq_some_iff.1 h1).1 hb]; exact h1, h2⟩
theorem SetAt.ne_at {w : World} {b b' : Nat} {S : List (List UInt8)} {t : TypeId} {l : List Value} (h : SetAt w b S) (h' : At w b' t l) : b ≠ b' := by
  rintro rfl
  obtain ⟨es, clock, h1, _⟩ := h
  unfold At at h'
  rw [h1] at h'
  cases h'

theorem key_lit (p : List UInt8) (hp : p.length ≤ maxLen) : keyOf Tryz.prog 9 (.string (strOf p)) = some (.string p) := by
  have hs : (strOf p).size = p.length := by simp [strOf, ByteArray.size]
  exact WideMaps.keyOf_string_mk Tryz.underlying9 (s := strOf p) (by rw [hs]; exact hp)

theorem atKey_setOf (u z : DataW Unit) (p : List UInt8) : ∀ R : List (List UInt8), (setOf u (R.reverse.map Lit.string)).atKey (.string p) z = if R.contains p then u else z
  | [] => rfl
  | x :: R => by
    have hm : Maps.IsMap (setOf u (R.reverse.map Lit.string)) := (Maps.tidy_setOf u _ (by intro y hy; obtain ⟨q, _, rfl⟩ := List.mem_map.1 hy; exact True.intro)).isMap
    rw [List.reverse_cons, List.map_append, List.map_cons, List.map_nil, Maps.setOf_snoc]
    by_cases hx : p = x
    · subst hx
      have hk : WideAt.IsKeyLit (Lit.string p) := True.intro
      rw [Maps.atKey_put_same hm hk]
      simp
    · rw [Maps.atKey_put_other (fun e => hx (by injection e)), atKey_setOf u z p R]
      have : (p == x) = false := by simpa using hx
      simp only [List.contains_cons, this, Bool.false_or]

theorem SetAt.lookup {w : World} {b : Nat} {S : List (List UInt8)} (h : SetAt w b S) (p : List UInt8) (hp : p.length ≤ maxLen) :
    (Instr.lookup 64 (.map (some b)) (.string (strOf p)) false).run Tryz.prog w = .ok (.bool (S.contains p)) w := by
  have he : Tryz.prog.underlying 4 = some .bool := Tryz.underlying4
  obtain ⟨v, ps, hrun, hv⟩ := World.ownsMap.lookup h (Maps.string_keyed Tryz.underlying9) Tryz.underlying64 (z := .bool false) (by kernel_rfl) (plainElem_bool he false) (key_lit p hp)
  have e := atKey_setOf (.lit (.bool true)) (.lit (.bool false)) p S.reverse
  rw [List.reverse_reverse, List.contains_reverse] at e
  rw [e] at hv
  rw [hrun]
  unfold plainElem at hv
  rw [he] at hv
  cases v with
  | bool x =>
    simp only [Option.some.injEq, Prod.mk.injEq] at hv
    cases hS : S.contains p with
    | true => rw [hS] at hv; simp at hv; rw [hv.1]
    | false => rw [hS] at hv; simp at hv; rw [hv.1]
  | _ => simp at hv

theorem SetAt.of_put {w : World} {b : Nat} {S : List (List UInt8)} {p : List UInt8} (h : w.ownsMap (H := Unit) Tryz.prog 9 (plainElem Tryz.prog 4) b (S.length + 1) ((setOf (.lit (.bool true)) (S.map Lit.string)).put (.string p) (.lit (.bool true)))) : SetAt w b (S ++ [p]) := by
  unfold SetAt
  rw [List.map_append, List.map_cons, List.map_nil, Maps.setOf_snoc, List.length_append]
  exact h

end Go.Proofs.YtlepfnihpdhcaaaGreatDoor
namespace Go.Proofs.YtlepfnihpdhcaaaGreatDoor
open Go.RowKit

def cSet (b : Nat) (S : List (List UInt8)) : Ch where
  fp := [b]
  holds w := SetAt w b S
  ok w w' hb h := by
    obtain ⟨es, clock, h1, h2⟩ := h
    exact ⟨es, clock, (hb b (by simp)).trans h1, h2⟩
  lt w h c hc := by
    rw [List.mem_singleton] at hc
    subst hc
    exact h.lt

section
variable {Q : Exit → Act → World → Prop} {n : Nat} {w0 : World} {F : List Nat} {E : Env} {cs : List Ch} {X K : Act → World → Prop} {o : Oper} {d : Nat}
theorem opMakeSet {t : TypeId} (ho : o.op = .makeMap t none) (hd : o.dst = some d) (hk : opOk n E o = true) (h : ∀ b, St n w0 F ((d, .map (some b)) :: E) (cs ++ [cSet b []]) K) : OpW Tryz.prog Q n w0 F E cs o K :=
  opEff hd hk fun w hM => by
    refine ⟨.map (some w.heap.size), w.alloc (.map #[] 0), _, ?_, hM.push (c := cSet w.heap.size []) ((Fr.refl _ _).alloc _) (SetAt.new w) (by simp [cSet]) (by simp [cSet]), h _⟩
    unfold execOp
    simp only [ho, Option.map_none, Sem.run_bind, run_makeMap, Result.andThen_ok]
    rfl
theorem rSetGet {x y : Operand} {b : Nat} {S : List (List UInt8)} {p : List UInt8} (i : Nat) (ho : o.op = .lookup 64 x y false) (hx : evO E x = some (.map (some b))) (hy : evO E y = some (.string (strOf p))) (hi : cs[i]? = some (cSet b S)) (hp : p.length ≤ 1099511627776) : RunV Tryz.prog w0 F cs E o (.bool (S.contains p)) := fun w hM => by
  have h : SetAt w b S := hM.at hi
  have hr := h.lookup p (by unfold maxLen; omega)
  unfold execOp
  simp only [ho, evE_of hx, evE_of hy, Sem.run_bind, hr]
  rfl
theorem opSetPut {x y v : Operand} {b : Nat} {S : List (List UInt8)} {p : List UInt8} (i : Nat) (ho : o.op = .mapUpdate 64 x y v) (hd : o.dst = none) (hk : opOk n E o = true) (hx : evO E x = some (.map (some b))) (hy : evO E y = some (.string (strOf p))) (hv : evO E v = some (.bool true)) (hi : cs[i]? = some (cSet b S)) (hp : p.length ≤ 1099511627776) (hS : S.length ≤ 1099511627776)
    (h : St n w0 F E (cs.set i (cSet b (S ++ [p]))) K) : OpW Tryz.prog Q n w0 F E cs o K :=
  opSkip hd hk fun w hM => by
    have hs : SetAt w b S := hM.at hi
    obtain ⟨w', hrun, r1, r2⟩ := World.ownsMap.update hs (Maps.string_keyed Tryz.underlying9) Tryz.underlying64 (by unfold maxLen; omega) (key_lit p (by unfold maxLen; omega)) (plainElem_bool Tryz.underlying4 true)
    have hf : Fr (cSet b S).fp w w' := ⟨r2.os, r2.tape, r2.output, r2.size, fun k hk' hn => r2.block k hk' (fun e => by
      injection e with e
      exact hn (by simp [cSet, e]))⟩
    refine ⟨w', _, ?_, hM.swap i hi (c' := cSet b (S ++ [p])) hf (SetAt.of_put r1) (fun c hc => .inl hc) (by simp [cSet]), h⟩
    unfold execOp
    simp only [ho, evE_of hx, evE_of hy, evE_of hv, Sem.run_bind, hrun]
    rfl
end
end Go.Proofs.YtlepfnihpdhcaaaGreatDoor
