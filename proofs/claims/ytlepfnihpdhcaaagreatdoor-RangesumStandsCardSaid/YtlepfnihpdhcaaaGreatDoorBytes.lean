/- Slices of bytes that a call makes: append, conversion to a string. -/
import Derived.Test.YtlepfnihpdhcaaaGreatDoorProg
import Derived.Test.YtlepfnihpdhcaaaGreatDoorWirePlain
import Derived.Laws.IdiomStrings
namespace Go.Proofs.YtlepfnihpdhcaaaGreatDoor
open Go.RowKit

theorem el_u8 : Elem Tryz.prog 37 5 (.int .u8 0) 1 1 := ⟨Tryz.underlying37, by kernel_rfl, rfl, by omega, by omega⟩

/-- A new slice that holds bytes. -/
def NewRow (bs : List UInt8) (w : World) (e : Ending) (w' : World) : Prop :=
  ∃ A c, e = .returned (.slice A bs.length c) ∧ Fr [] w w' ∧ w'.ownsRow w.heap.size 5 1 (.slice A bs.length c) bs.length (B8 bs)

theorem newRow_of {bs : List UInt8} (cs : List UInt8) (h : bs = cs) {w w' : World} {e : Ending} (k : NewRow cs w e w') : NewRow bs w e w' := by rw [h]; exact k

theorem fr_push {w wr w1 : World} {e : TypeId} {sz n : Nat} {v : Value} {xs : List Value} (hf : Fr [] w wr) (hown : wr.ownsRow w.heap.size e sz v n xs) (hg : wr.grownBy w1 v.ownBlock) : Fr [] w w1 :=
  hf.grown hg (fun g hg' => .inr (by
    rcases hown.2 with ⟨rfl, _⟩ | ⟨g', cap, cur, rfl, hb, _⟩
    · simp [Value.ownBlock] at hg'
    · have : some g' = some g := hg'
      injection this with this
      omega))

theorem bytes_push {w wr w1 : World} {cs xs : List UInt8} {v v' : Value} (hf : Fr [] w wr) (hown : wr.ownsRow w.heap.size 5 1 v cs.length (B8 cs))
    (hown1 : w1.ownsRow w.heap.size 5 1 v' (cs.length + xs.length) (B8 cs ++ B8 xs)) (hg : wr.grownBy w1 v.ownBlock) :
    ∃ A c cs', Hid (cs' = cs ++ xs) ∧ cs'.length ≤ cs.length + xs.length ∧ v' = .slice A cs'.length c ∧ w1.ownsRow w.heap.size 5 1 v' cs'.length (B8 cs') ∧ Fr [] w w1 := by
  obtain ⟨A, c, rfl⟩ := ownsRow_form hown1
  have e : (cs ++ xs).length = cs.length + xs.length := by simp
  refine ⟨A, c, cs ++ xs, rfl, by omega, by rw [e], ?_, fr_push hf hown hg⟩
  rw [e, B8_append]
  exact hown1

def strOf (bs : List UInt8) : ByteArray := ⟨bs.toArray⟩

theorem run_str {P : Program} {src dst e : TypeId} (hs : P.underlying src = some (.slice e)) (he : P.underlying e = some (.int .u8)) (hd : P.underlying dst = some .string) (w : World) (A : Option Addr) (cap : Nat) (bs : List UInt8) (h : RowIn w A (B8 bs)) :
    (convert src dst (.slice A bs.length cap)).run P w = .ok (.string (strOf bs)) w := by
  cases A with
  | none =>
    have h0 : bs = [] := by
      cases bs with
      | nil => rfl
      | cons b l =>
        obtain ⟨_, _, hA, _⟩ := h 0 (.int .u8 (b.toNat : Int)) rfl
        cases hA
    subst h0
    rw [run_convert_bytes_string w src dst e _ _ cap hs he hd]
    simp [Conv.bytesToString]
    rfl
  | some a =>
    refine run_convert_bytes_back w src dst e a cap bs hs he hd ?_
    intro j hj
    obtain ⟨b, o, hA, _, hc⟩ := h j (.int .u8 (bs[j].toNat : Int)) (B8_get bs j bs[j] (List.getElem?_eq_getElem hj))
    injection hA with hA
    subst hA
    rw [add_none]
    exact hc

theorem own_new (w : World) (base : Nat) (e : TypeId) (l : List Value) (hb : base ≤ w.heap.size) (hm : l.length ≤ maxLen) :
    (w.alloc (.cells l.toArray e)).ownsRow base e 1 (.slice (some ⟨w.heap.size, 0, none⟩) l.length l.length) l.length l :=
  ⟨by simp, .inr ⟨w.heap.size, l.length, l.toArray, rfl, hb, heap_alloc_new w _, Nat.le_refl _, hm, by simp, by simp⟩⟩

/-- A slice of bytes in the making. -/
structure BR (w wr : World) (v : Value) (cs : List UInt8) : Prop where
  fr : Fr [] w wr
  own : wr.ownsRow w.heap.size 5 1 v cs.length (B8 cs)
  
theorem BR.push {w wr w1 : World} {cs xs : List UInt8} {v v' : Value} (h : BR w wr v cs) (hown1 : w1.ownsRow w.heap.size 5 1 v' (cs.length + xs.length) (B8 cs ++ B8 xs)) (hg : wr.grownBy w1 v.ownBlock) :
    ∃ A c cs', Hid (cs' = cs ++ xs) ∧ cs'.length ≤ cs.length + xs.length ∧ v' = .slice A cs'.length c ∧ Hid (BR w w1 v' cs') := by
  obtain ⟨A, c, cs', h1, h2, h3, h4, h5⟩ := bytes_push h.fr h.own hown1 hg
  exact ⟨A, c, cs', h1, h2, h3, h5, h4⟩
theorem BR.size {w wr : World} {v : Value} {cs : List UInt8} (h : BR w wr v cs) : w.heap.size ≤ wr.heap.size := h.fr.size
theorem BR.alloc {w wr : World} {v : Value} {cs : List UInt8} (h : BR w wr v cs) (o : Obj) : BR w (wr.alloc o) v cs := ⟨h.fr.alloc o, h.own.alloc o⟩
theorem BR.fr0 {w wr w1 : World} {v : Value} {cs : List UInt8} (h : BR w wr v cs) (hf : Fr [] wr w1) : BR w w1 v cs := ⟨h.fr.trans hf, ownsRow_fr h.own hf (by simp)⟩
theorem BR.row {w wr : World} {A : Option Addr} {c : Nat} {cs : List UInt8} (h : BR w wr (.slice A cs.length c) cs) : RowIn wr A (B8 cs) := RowIn.of_own h.own
theorem BR.lit (w : World) (l : List UInt8) (hm : l.length ≤ maxLen) : BR w (w.alloc (.cells (B8 l).toArray 5)) (.slice (some ⟨w.heap.size, 0, none⟩) l.length l.length) l := by
  refine ⟨(Fr.refl _ _).alloc _, ?_⟩
  have := own_new w w.heap.size 5 (B8 l) (Nat.le_refl _) (by rw [B8_length]; exact hm)
  rw [B8_length] at this
  exact this
theorem BR.cap {w wr : World} {A : Option Addr} {c : Nat} {cs : List UInt8} (h : BR w wr (.slice A cs.length c) cs) : cs.length ≤ c := by
  rcases h.own.2 with ⟨h1, h2⟩ | ⟨g, cap, cur, h1, _, _, h2, _⟩
  · simp only [Value.slice.injEq] at h1
    omega
  · simp only [Value.slice.injEq] at h1
    omega
theorem BR.far {w wr : World} {A : Option Addr} {c : Nat} {cs : List UInt8} (h : BR w wr (.slice A cs.length c) cs) : ∀ g o, A = some ⟨g, o, none⟩ → w.heap.size ≤ g := by
  rintro g o rfl
  rcases h.own.2 with ⟨h1, h2⟩ | ⟨g', cap, cur, h1, h3, _, h2, _⟩
  · simp at h1
  · simp only [Value.slice.injEq, Option.some.injEq, Addr.mk.injEq] at h1
    omega

end Go.Proofs.YtlepfnihpdhcaaaGreatDoor
