/- rangesum, plain: what a side learns from any message. -/
import Derived.Test.YtlepfnihpdhcaaaGreatDoorRsTh3
namespace Go.Proofs.YtlepfnihpdhcaaaGreatDoor
structure StepOk (its : List Bs) (D : Bs) (r : StepR) : Prop where
  need : ∀ x ∈ r.need, x ∉ its ∧ x.length = 32
  off : ∀ x ∈ r.off, x ∈ its
  cnt : r.need.length * 32 ≤ D.length
  err : r.err ≠ 0 → r.reply = [] ∧ r.need = [] ∧ r.off = []
theorem need_enc {its : List Bs} {p : AP} (hp : p.ok) : (needA its p).length * 32 ≤ p.enc.length := by
  obtain ⟨_, h3⟩ := hp
  obtain ⟨lo, hi, c⟩ := p
  cases c with
  | sum n f => simp [needA]
  | list xs =>
    have h1 := without_len xs its
    have h2 := flat_len h3.2.1
    simp only [needA, AP.enc, AC.enc, List.length_append, h2]
    omega
  | ans xs ms =>
    have h1 := without_len xs its
    have h2 := flat_len h3.1.2.1
    simp only [needA, AP.enc, AC.enc, List.length_append, h2]
    omega
theorem step_sound (its : List Bs) (fan leaf : Nat) (D : Bs) : StepOk its D (stepA its fan leaf D) := by
  have h0 : ∀ e : Int, StepOk its D ⟨[], e, [], []⟩ := fun e => ⟨(fun x hx => by cases hx), (fun x hx => by cases hx), by simp, fun _ => ⟨rfl, rfl, rfl⟩⟩
  unfold stepA
  split
  · exact h0 0
  · split
    · exact h0 3
    · rename_i ps hd
      split
      · exact h0 2
      · obtain ⟨hD, hm, _⟩ := decA_sound hd
        refine ⟨?_, ?_, ?_, fun h => absurd rfl h⟩
        · intro x hx
          obtain ⟨p, hp, hx⟩ := List.mem_flatMap.1 hx
          refine ⟨?_, (needA_len (hm.2.1 p hp)).2 x hx⟩
          obtain ⟨lo, hi, c⟩ := p
          cases c with
          | sum n f => cases hx
          | list xs => exact (mem_without.1 (show x ∈ without xs its from hx)).2
          | ans xs ms => exact (mem_without.1 (show x ∈ without xs its from hx)).2
        · intro x hx
          obtain ⟨p, hp, hx⟩ := List.mem_flatMap.1 hx
          obtain ⟨lo, hi, c⟩ := p
          cases c with
          | sum n f => cases hx
          | list xs => exact (mem_inL.1 (mem_without.1 (show x ∈ without (inL its lo hi) xs from hx)).1).1
          | ans xs ms => exact (mem_keepIn.1 (show x ∈ keepIn ms its from hx)).2
        · have key : ∀ l : List AP, (∀ p ∈ l, p.ok) → (l.flatMap (needA its)).length * 32 ≤ (l.flatMap AP.enc).length := by
            intro l
            induction l with
            | nil => intro _; simp
            | cons p l ih =>
              intro h
              have h1 := need_enc (its := its) (h p (by simp))
              have h2 := ih fun q hq => h q (by simp [hq])
              simp only [List.flatMap_cons, List.length_append]
              omega
          have h1 := key ps hm.2.1
          have hne : ps.length ≠ 0 := fun e => hm.1 (List.eq_nil_of_length_eq_zero e)
          have h2 : (ps.flatMap AP.enc).length ≤ D.length := by
            rw [hD, encA, if_neg hne, List.length_append]; omega
          exact Nat.le_trans h1 h2
theorem without_sub {l m : List Bs} (h : ∀ x ∈ l, x ∈ m) : without l m = [] := by
  unfold without
  rw [List.filter_eq_nil_iff]
  intro x hx
  simp [h x hx]
theorem withL_grow (N M : List Bs) : without (withL [] N) (withL [] (N ++ M)) = [] := without_sub fun x hx => mem_withL0.2 (List.mem_append_left _ (mem_withL0.1 hx))
theorem setE_with {N : List Bs} (h : ∀ x ∈ N, x.length = 32) (hl : N.length ≤ 16384) : setE (withL [] N) = 0 := by
  have h1 := withL_len N []
  exact setE_ok (by simp at h1; omega) ⟨fun x hx => h x (mem_withL0.1 hx), withL_asc0 N⟩
theorem setE_off {O l : List Bs} (h : ∀ x ∈ O, x ∈ l) (hl : okSet l) (h4 : l.length ≤ 40) : setE (withL [] O) = 0 ∧ (withL [] O).length ≤ 40 := by
  have h1 : (withL [] O).length ≤ 40 := Nat.le_trans (asc_sub_len (withL_asc0 _) fun x hx => h x (mem_withL0.1 hx)) h4
  exact ⟨setE_ok (by omega) ⟨fun x hx => hl.1 x (h x (mem_withL0.1 hx)), withL_asc0 O⟩, h1⟩
end Go.Proofs.YtlepfnihpdhcaaaGreatDoor
