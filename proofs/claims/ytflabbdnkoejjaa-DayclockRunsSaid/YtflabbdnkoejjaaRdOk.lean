/- Plain laws of a reader's state: its offset stays within the bytes. -/
import Derived.Test.YtflabbdnkoejjaaRd5
namespace Go.Proofs.Ytflabbdnkoejjaa

theorem Rd.Ok.uint' {r : Rd} (h : r.Ok) : r.uint.2.Ok := h.uint fun n m hd => (rdNum_le _ _ n m hd).2.1
theorem Rd.Ok.int {r : Rd} (h : r.Ok) : r.int.2.Ok := h.uint'
theorem Rd.Ok.bool {r : Rd} (h : r.Ok) : r.bool.2.Ok := by
  unfold Rd.bool
  split
  · cases hd : rdBool r.D r.off with
    | none => exact ⟨h.off, h.len⟩
    | some p =>
      refine ⟨?_, h.len⟩
      unfold rdBool at hd
      split at hd
      · rename_i b hb
        split at hd
        · simp only [Option.some.injEq] at hd
          rw [← hd]
          exact (List.getElem?_eq_some_iff.1 hb).1
        · cases hd
      · cases hd
  · exact h
theorem Rd.Ok.count {r : Rd} (h : r.Ok) (most : Int) : (r.count most).2.Ok := by
  unfold Rd.count
  split
  · cases hd : rdNum r.D r.off with
    | none => exact ⟨h.off, h.len⟩
    | some p =>
      simp only
      split
      · exact ⟨h.off, h.len⟩
      · exact ⟨(rdNum_le _ _ p.1 p.2 hd).2.1, h.len⟩
  · exact h
theorem Rd.int_fit (r : Rd) : Fit64 r.int.1 := unzig_fit _ r.uint_u64
theorem Rd.count_le (r : Rd) (most : Int) (hm : 0 ≤ most) : ((r.count most).1 : Int) ≤ most := by
  unfold Rd.count
  split
  · cases hd : rdNum r.D r.off with
    | none => exact hm
    | some p =>
      simp only
      split
      · exact hm
      · simp only; omega
  · exact hm


theorem Rd.uint_D (r : Rd) : r.uint.2.D = r.D := by
  unfold Rd.uint
  split
  · cases rdNum r.D r.off <;> rfl
  · rfl
theorem Rd.int_D (r : Rd) : r.int.2.D = r.D := r.uint_D
theorem Rd.bool_D (r : Rd) : r.bool.2.D = r.D := by
  unfold Rd.bool
  split
  · cases rdBool r.D r.off <;> rfl
  · rfl
theorem Rd.count_D (r : Rd) (most : Int) : (r.count most).2.D = r.D := by
  unfold Rd.count
  split
  · cases rdNum r.D r.off with
    | none => rfl
    | some p =>
      simp only
      split <;> rfl
  · rfl

end Go.Proofs.Ytflabbdnkoejjaa
