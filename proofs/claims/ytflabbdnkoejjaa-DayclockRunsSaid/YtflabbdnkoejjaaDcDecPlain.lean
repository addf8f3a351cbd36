/- Decoding a clock, in plain Lean: reader by reader. -/
import Derived.Test.YtflabbdnkoejjaaDcEncPlain
import Derived.Test.YtflabbdnkoejjaaDcWalk4
import Derived.Test.YtflabbdnkoejjaaRdOk
namespace Go.Proofs.Ytflabbdnkoejjaa

def Clk.zero : Clk := Clk.new 0 0 0

def Clk.setF (c : Clk) (k : Nat) (x : Int) : Clk := match k with
  | 0 => { c with first := x }
  | 1 => { c with day := x }
  | 2 => { c with leap := x }
  | 3 => { c with quorum := x }
  | _ => { c with own := x }

theorem Clk.cells_setF (c : Clk) (k : Nat) (hk : k < 5) (x : Int) : c.cells.set k (Value.int .i64 x) = (c.setF k x).cells := by
  match k, hk with
  | 0, _ => rfl
  | 1, _ => rfl
  | 2, _ => rfl
  | 3, _ => rfl
  | 4, _ => rfl

theorem Clk.cell_five (c : Clk) (k : Nat) (hk : k < 5) : ∃ x, c.cells[k]? = some (Value.int .i64 x) := by
  match k, hk with
  | 0, _ => exact ⟨_, rfl⟩
  | 1, _ => exact ⟨_, rfl⟩
  | 2, _ => exact ⟨_, rfl⟩
  | 3, _ => exact ⟨_, rfl⟩
  | 4, _ => exact ⟨_, rfl⟩

/-- The reader and the clock behind k of the five ints. -/
def dec5 (r : Rd) : Nat → Rd × Clk
  | 0 => (r, Clk.zero)
  | k + 1 => ((dec5 r k).1.int.2, (dec5 r k).2.setF k (dec5 r k).1.int.1)

/-- The state in the midst of the devices. -/
structure DSt where
  r : Rd
  c : Clk
  valid : Bool
  last : Int

def DSt.step (s : DSt) : DSt :=
  if inDev s.r.int.1 = true ∧ inDay s.r.int.2.int.1 = true ∧ s.last < s.r.int.1 then
    { r := s.r.int.2.int.2, c := s.c.tell s.r.int.1.toNat s.r.int.2.int.1, valid := s.valid, last := s.r.int.1 }
  else { s with r := s.r.int.2.int.2, valid := false }

def DSt.steps (s : DSt) : Nat → DSt
  | 0 => s
  | k + 1 => (s.steps k).step

/-- The reader and the clock ahead of the devices. -/
def decHead (r : Rd) : Rd × Clk :=
  let r5 := (dec5 r 5).1
  let c5 := (dec5 r 5).2
  if r5.bool.1 then (r5.bool.2.int.2, { c5 with read := true, ref := r5.bool.2.int.1 }) else (r5.bool.2, { c5 with read := false })

def decAll (D : List UInt8) : DSt :=
  let h := decHead ⟨D, 0, 0, 0⟩
  ({ r := (h.1.count 12).2, c := h.2, valid := true, last := -1 } : DSt).steps (h.1.count 12).1

def Clk.valid (c : Clk) : Bool := c.ranges && inDay c.day && decide (0 ≤ c.own) && decide (c.sup ≤ c.day) && decide (c.day - c.sup ≤ c.own)

/-- What Decode returns: an error, or 0 and the clock. -/
def decErr (D : List UInt8) : Int := if (decAll D).r.end_ ≠ 0 then (decAll D).r.end_ else if ((decAll D).valid && (decAll D).c.valid) = true then 0 else 3

theorem dec5_ok {r : Rd} (h : r.Ok) : ∀ k, (dec5 r k).1.Ok ∧ (dec5 r k).2.Ok
  | 0 => ⟨h, ⟨rfl, rfl⟩⟩
  | k + 1 => by
    obtain ⟨h1, h2⟩ := dec5_ok h k
    refine ⟨h1.int, ?_⟩
    show ((dec5 r k).2.setF k (dec5 r k).1.int.1).Ok
    unfold Clk.setF
    split <;> exact ⟨h2.told, h2.heard⟩

theorem decHead_ok {r : Rd} (h : r.Ok) : (decHead r).1.Ok ∧ (decHead r).2.Ok := by
  obtain ⟨h1, h2⟩ := dec5_ok h 5
  unfold decHead
  simp only
  split
  · exact ⟨h1.bool.int, ⟨h2.told, h2.heard⟩⟩
  · exact ⟨h1.bool, ⟨h2.told, h2.heard⟩⟩

structure DSt.Ok (s : DSt) : Prop where
  r : s.r.Ok
  c : s.c.Ok
  last : -1 ≤ s.last ∧ s.last < 12

theorem DSt.Ok.step {s : DSt} (h : s.Ok) : s.step.Ok := by
  unfold DSt.step
  split
  · rename_i hh
    have hv : 0 ≤ s.r.int.1 ∧ s.r.int.1 < 12 := by simpa [inDev] using hh.1
    exact ⟨h.r.int.int, h.c.tell _ _, by simp only; omega⟩
  · exact ⟨h.r.int.int, h.c, h.last⟩

theorem DSt.Ok.steps {s : DSt} (h : s.Ok) : ∀ k, (s.steps k).Ok
  | 0 => h
  | k + 1 => (DSt.Ok.steps h k).step

theorem Clk.zero_told : ∀ x ∈ Clk.zero.told, 0 ≤ x ∧ x ≤ 999999 := by
  intro x hx
  have hx' : x ∈ List.replicate 12 (0 : Int) := hx
  have := (List.mem_replicate.1 hx').2
  omega

theorem Clk.setF_told (c : Clk) (k : Nat) (x : Int) : (c.setF k x).told = c.told := by unfold Clk.setF; split <;> rfl

theorem dec5_told (r : Rd) : ∀ k, (dec5 r k).2.told = Clk.zero.told
  | 0 => rfl
  | k + 1 => by
    show ((dec5 r k).2.setF k (dec5 r k).1.int.1).told = _
    rw [Clk.setF_told, dec5_told r k]

theorem decHead_told {r : Rd} (_h : r.Ok) : ∀ x ∈ (decHead r).2.told, 0 ≤ x ∧ x ≤ 999999 := by
  have e : (decHead r).2.told = Clk.zero.told := by
    unfold decHead
    simp only
    split <;> exact dec5_told r 5
  rw [e]
  exact Clk.zero_told

theorem decHead_fit (r : Rd) : Fit64 (decHead r).2.day ∧ Fit64 (decHead r).2.own := by
  have e1 : (decHead r).2.day = (dec5 r 1).1.int.1 := by
    unfold decHead
    simp only
    split <;> rfl
  have e2 : (decHead r).2.own = (dec5 r 4).1.int.1 := by
    unfold decHead
    simp only
    split <;> rfl
  rw [e1, e2]
  exact ⟨Rd.int_fit _, Rd.int_fit _⟩

theorem DSt.told_steps (s : DSt) (h : (∀ x ∈ s.c.told, 0 ≤ x ∧ x ≤ 999999) ∧ Fit64 s.c.day ∧ Fit64 s.c.own) : ∀ k, (∀ x ∈ (s.steps k).c.told, 0 ≤ x ∧ x ≤ 999999) ∧ Fit64 (s.steps k).c.day ∧ Fit64 (s.steps k).c.own
  | 0 => h
  | k + 1 => by
    have ih := DSt.told_steps s h k
    show (∀ x ∈ (s.steps k).step.c.told, 0 ≤ x ∧ x ≤ 999999) ∧ Fit64 (s.steps k).step.c.day ∧ Fit64 (s.steps k).step.c.own
    unfold DSt.step
    split
    · rename_i hh
      refine ⟨?_, ih.2⟩
      intro x hx
      have hd : 0 ≤ (s.steps k).r.int.2.int.1 ∧ (s.steps k).r.int.2.int.1 ≤ 999999 := by simpa [inDay] using hh.2.1
      rcases List.mem_or_eq_of_mem_set hx with h1 | h1
      · exact ih.1 x h1
      · rw [h1]; exact hd
    · exact ih

end Go.Proofs.Ytflabbdnkoejjaa
