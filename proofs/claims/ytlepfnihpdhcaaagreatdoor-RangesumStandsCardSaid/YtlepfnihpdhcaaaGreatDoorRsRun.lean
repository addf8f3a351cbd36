/- rangesum, plain: what a message leads to. -/
import Derived.Test.YtlepfnihpdhcaaaGreatDoorRsDec
import Derived.Test.YtlepfnihpdhcaaaGreatDoorRsTh1
namespace Go.Proofs.YtlepfnihpdhcaaaGreatDoor

def repA (its : List Bs) (fan leaf : Nat) (p : AP) : List AP := match p.c with
  | .sum n f => cmpA its fan leaf p.lo p.hi n f
  | .list xs => ansA its p.lo p.hi xs
  | .ans _ _ => []
def needA (its : List Bs) (p : AP) : List Bs := match p.c with
  | .sum _ _ => []
  | .list xs => without xs its
  | .ans xs _ => without xs its
def offA (its : List Bs) (p : AP) : List Bs := match p.c with
  | .sum _ _ => []
  | .list xs => without (inL its p.lo p.hi) xs
  | .ans _ ms => keepIn ms its
structure StepR where
  (reply : Bs) (err : Int) (need off : List Bs)
def replyA (its : List Bs) (fan leaf : Nat) (ps : List AP) : List AP := ps.flatMap (repA its fan leaf)
def stepA (its : List Bs) (fan leaf : Nat) (D : Bs) : StepR :=
  if D = [] then ⟨[], 0, [], []⟩
  else match decA D with
    | none => ⟨[], 3, [], []⟩
    | some ps => if 1048576 < (encA (replyA its fan leaf ps)).length then ⟨[], 2, [], []⟩ else ⟨encA (replyA its fan leaf ps), 0, ps.flatMap (needA its), ps.flatMap (offA its)⟩

theorem flat_step {α β : Type} {g : α → List β} {l : List α} {i : Nat} {x : α} (h : l[i]? = some x) : (l.take i).flatMap g ++ g x = (l.take (i + 1)).flatMap g := by
  rw [← take_snoc h, List.flatMap_append]
  simp
theorem flat_step0 {α β : Type} {g : α → List β} {l : List α} {i : Nat} {x : α} (h : l[i]? = some x) (h0 : g x = []) : (l.take i).flatMap g = (l.take (i + 1)).flatMap g := by
  rw [← flat_step h, h0, List.append_nil]

/-! ### Sizes -/
theorem num_one {n : Nat} (h : n < 128) : (num n).length = 1 := by rw [num_small n h]; rfl
theorem num_two {n : Nat} (h : n < 16384) : (num n).length ≤ 2 := by
  by_cases h1 : n < 128
  · rw [num_one h1]; omega
  · rw [num_big n h1, List.length_cons, num_one (Nat.div_lt_of_lt_mul (by omega))]; omega
theorem num_three {n : Nat} (h : n < 2097152) : (num n).length ≤ 3 := by
  by_cases h1 : n < 128
  · rw [num_one h1]; omega
  · rw [num_big n h1, List.length_cons]
    have := num_two (n := n / 128) (Nat.div_lt_of_lt_mul (by omega))
    omega
theorem inL32 {its : List Bs} (hs : okSet its) (lo hi : Bs) : all32 (inL its lo hi) := fun x hx => hs.1 x (mem_inL.1 hx).1
theorem without32 {l m : List Bs} (h : all32 l) : all32 (without l m) := fun x hx => h x (mem_without.1 hx).1
theorem keepIn32 {l m : List Bs} (h : all32 l) : all32 (keepIn l m) := fun x hx => h x (mem_keepIn.1 hx).1
theorem fpB_len (l : List Bs) : (fpB l).length = 32 := sha_len _
theorem sumA_ok {its : List Bs} (h40 : its.length ≤ 40) {p : AP} (hp : p = sumA its p.lo p.hi) (h1 : p.lo.length ≤ 32) (h2 : p.hi.length ≤ 32) : p.fit ∧ p.enc.length ≤ 100 := by
  have hl := inL_len its p.lo p.hi
  have hf := fpB_len (inL its p.lo p.hi)
  obtain ⟨lo, hi, c⟩ := p
  obtain rfl : c = .sum (inL its lo hi).length (fpB (inL its lo hi)) := congrArg AP.c hp
  dsimp only at h1 h2 hl hf ⊢
  refine ⟨⟨h1, h2, by omega, hf⟩, ?_⟩
  simp only [AP.enc, AC.enc, List.length_append, hf]
  have e1 := num_one (n := lo.length) (by omega)
  have e2 := num_one (n := hi.length) (by omega)
  have e3 := num_one (n := 1) (by omega)
  have e4 := num_one (n := (inL its lo hi).length) (by omega)
  omega
theorem bnd_mem {its : List Bs} (hs : okSet its) {a x : Bs} (ha : a.length ≤ 32) (h : x = a ∨ x ∈ its) : x.length ≤ 32 := by
  rcases h with rfl | h
  · exact ha
  · have := hs.1 x h; omega
theorem flat_enc_le {ps : List AP} {n k : Nat} (h : ∀ p ∈ ps, p.enc.length ≤ k) (hl : ps.length ≤ n) : (ps.flatMap AP.enc).length ≤ n * k := by
  have key : ∀ ps : List AP, (∀ p ∈ ps, p.enc.length ≤ k) → (ps.flatMap AP.enc).length ≤ ps.length * k := by
    intro ps
    induction ps with
    | nil => intro _; simp
    | cons p ps ih =>
      intro h
      rw [List.flatMap_cons, List.length_append, List.length_cons, Nat.add_mul, Nat.one_mul]
      have h1 := h p (by simp)
      have h2 := ih fun q hq => h q (by simp [hq])
      omega
  exact Nat.le_trans (key ps h) (Nat.mul_le_mul_right _ hl)
structure RepOk (l : List AP) : Prop where
  fit : ∀ q ∈ l, q.fit
  len : (l.flatMap AP.enc).length ≤ 3500
  cnt : l.length ≤ 17
theorem cmpA_ok {its : List Bs} (hs : okSet its) (h40 : its.length ≤ 40) {fan leaf : Nat} (hf : 2 ≤ fan) (hf2 : fan ≤ 16) (hl : 1 ≤ leaf) {lo hi : Bs} (h1 : lo.length ≤ 32) (h2 : hi.length ≤ 32) (n : Nat) (f : Bs) : RepOk (cmpA its fan leaf lo hi n f) := by
  unfold cmpA
  split
  · exact ⟨by simp, by simp, by simp⟩
  · split
    · have hl := inL_len its lo hi
      have h32 := inL32 hs lo hi
      refine ⟨fun q hq => ?_, ?_, by simp⟩
      · rw [List.mem_singleton.1 hq]
        exact ⟨h1, h2, by omega, h32⟩
      · have hfl := flat_len h32
        simp only [List.flatMap_cons, List.flatMap_nil, List.append_nil, AP.enc, AC.enc, List.length_append, hfl]
        have e1 := num_one (n := lo.length) (by omega)
        have e2 := num_one (n := hi.length) (by omega)
        have e3 := num_one (n := 2) (by omega)
        have e4 := num_one (n := (inL its lo hi).length) (by omega)
        omega
    · have hD := divided_ok (lo := lo) (hi := hi) hs (show 0 < (inL its lo hi).length by omega) hf
      change RepOk (dividA its fan lo hi)
      have hp : ∀ q ∈ dividA its fan lo hi, q.fit ∧ q.enc.length ≤ 100 := fun q hq => by
        obtain ⟨a, _, _, b, c, _⟩ := hD.part q hq
        exact sumA_ok h40 a (bnd_mem hs h1 b) (bnd_mem hs h2 c)
      refine ⟨fun q hq => (hp q hq).1, ?_, Nat.le_trans hD.len.2 (by omega)⟩
      exact Nat.le_trans (flat_enc_le (n := 16) (k := 100) (fun q hq => (hp q hq).2) (Nat.le_trans hD.len.2 hf2)) (by omega)
theorem ansA_ok {its : List Bs} (hs : okSet its) (h40 : its.length ≤ 40) {lo hi : Bs} (h1 : lo.length ≤ 32) (h2 : hi.length ≤ 32) {xs : List Bs} (hx : xs.length ≤ 64) (hx2 : all32 xs) : RepOk (ansA its lo hi xs) := by
  unfold ansA
  split
  · have a1 := without_len (inL its lo hi) xs
    have a2 := without_len xs its
    have a3 := inL_len its lo hi
    have b1 := without32 (m := xs) (inL32 hs lo hi)
    have b2 := without32 (m := its) hx2
    refine ⟨fun q hq => ?_, ?_, by simp⟩
    · rw [List.mem_singleton.1 hq]
      exact ⟨h1, h2, ⟨by omega, b1⟩, by omega, b2⟩
    · have f1 := flat_len b1
      have f2 := flat_len b2
      simp only [List.flatMap_cons, List.flatMap_nil, List.append_nil, AP.enc, AC.enc, List.length_append, f1, f2]
      have e1 := num_one (n := lo.length) (by omega)
      have e2 := num_one (n := hi.length) (by omega)
      have e3 := num_one (n := 3) (by omega)
      have e4 := num_one (n := (without (inL its lo hi) xs).length) (by omega)
      have e5 := num_one (n := (without xs its).length) (by omega)
      omega
  · exact ⟨by simp, by simp, by simp⟩
theorem repA_ok {its : List Bs} (hs : okSet its) (h40 : its.length ≤ 40) {fan leaf : Nat} (hf : 2 ≤ fan) (hf2 : fan ≤ 16) (hl : 1 ≤ leaf) {p : AP} (hp : p.ok) : RepOk (repA its fan leaf p) := by
  obtain ⟨⟨h1, h2, _⟩, h3⟩ := hp
  have l1 := bound_le h1
  have l2 := bound_le h2
  obtain ⟨lo, hi, c⟩ := p
  cases c with
  | sum n f => exact cmpA_ok hs h40 hf hf2 hl l1 l2 n f
  | list xs => exact ansA_ok hs h40 l1 l2 h3.1 h3.2.1
  | ans xs ms => exact ⟨by simp [repA], by simp [repA], by simp [repA]⟩
theorem replyA_fit {its : List Bs} (hs : okSet its) (h40 : its.length ≤ 40) {fan leaf : Nat} (hf : 2 ≤ fan) (hf2 : fan ≤ 16) (hl : 1 ≤ leaf) {ps : List AP} (hp : ∀ p ∈ ps, p.ok) : ∀ q ∈ replyA its fan leaf ps, q.fit := by
  intro q hq
  obtain ⟨p, h1, h2⟩ := List.mem_flatMap.1 hq
  exact (repA_ok hs h40 hf hf2 hl (hp p h1)).fit q h2
theorem replyA_enc {its : List Bs} (hs : okSet its) (h40 : its.length ≤ 40) {fan leaf : Nat} (hf : 2 ≤ fan) (hf2 : fan ≤ 16) (hl : 1 ≤ leaf) : ∀ {ps : List AP}, (∀ p ∈ ps, p.ok) → ((replyA its fan leaf ps).flatMap AP.enc).length ≤ ps.length * 3500 ∧ (replyA its fan leaf ps).length ≤ ps.length * 17
  | [], _ => ⟨Nat.zero_le _, Nat.zero_le _⟩
  | p :: ps, hp => by
    obtain ⟨i1, i2⟩ := replyA_enc hs h40 hf hf2 hl (ps := ps) fun q hq => hp q (by simp [hq])
    have h := repA_ok hs h40 hf hf2 hl (hp p (by simp))
    have e : replyA its fan leaf (p :: ps) = repA its fan leaf p ++ replyA its fan leaf ps := List.flatMap_cons
    have h1 := h.len
    have h2 := h.cnt
    rw [e, List.flatMap_append, List.length_append, List.length_append, List.length_cons]
    omega
theorem encA_le (ps : List AP) (h : ps.length < 18446744073709551616) : (encA ps).length ≤ (ps.flatMap AP.enc).length + 10 := by
  unfold encA
  split
  · simp
  · have h := num_length _ h
    rw [List.length_append]; omega
theorem needA_len {its : List Bs} {p : AP} (hp : p.ok) : (needA its p).length ≤ 16384 ∧ all32 (needA its p) := by
  obtain ⟨_, h3⟩ := hp
  obtain ⟨lo, hi, c⟩ := p
  cases c with
  | sum n f => exact ⟨Nat.zero_le _, by intro x hx; cases hx⟩
  | list xs => exact ⟨Nat.le_trans (without_len _ _) (Nat.le_trans h3.1 (by omega)), without32 h3.2.1⟩
  | ans xs ms => exact ⟨Nat.le_trans (without_len _ _) h3.1.1, without32 h3.1.2.1⟩
theorem offA_len {its : List Bs} (hs : okSet its) (h40 : its.length ≤ 40) {p : AP} (hp : p.ok) : (offA its p).length ≤ 16384 ∧ all32 (offA its p) := by
  obtain ⟨_, h3⟩ := hp
  obtain ⟨lo, hi, c⟩ := p
  cases c with
  | sum n f => exact ⟨Nat.zero_le _, by intro x hx; cases hx⟩
  | list xs => exact ⟨Nat.le_trans (without_len _ _) (Nat.le_trans (inL_len _ _ _) (by omega)), without32 (inL32 hs _ _)⟩
  | ans xs ms => exact ⟨Nat.le_trans (keepIn_len _ _) h3.2.1, keepIn32 h3.2.2.1⟩
theorem flat32m {α : Type} {g : α → List Bs} {l : List α} (h : ∀ p ∈ l, all32 (g p)) : all32 (l.flatMap g) := fun x hx => by
  obtain ⟨p, h1, h2⟩ := List.mem_flatMap.1 hx
  exact h p h1 x h2
end Go.Proofs.YtlepfnihpdhcaaaGreatDoor
namespace Go.Proofs.YtlepfnihpdhcaaaGreatDoor
def newE (fan leaf : Int) (l : List Bs) : Int := if okP fan leaf = true then setE l else 1
def runE (fan leaf : Int) (a b : List Bs) : Int := if newE fan leaf a = 0 then newE fan leaf b else newE fan leaf a
theorem start_ok {its : List Bs} (h40 : its.length ≤ 40) : (sumA its [] []).fit ∧ (encA [sumA its [] []]).length ≤ 1048576 ∧ encA [sumA its [] []] ≠ [] := by
  obtain ⟨h1, h2⟩ := sumA_ok h40 (p := sumA its [] []) rfl (by simp [sumA]) (by simp [sumA])
  have hp := numPos 1
  have ho := num_one (n := 1) (by omega)
  have e : encA [sumA its [] []] = num 1 ++ (sumA its [] []).enc := by
    unfold encA
    rw [if_neg (by simp)]
    simp
  refine ⟨h1, ?_, ?_⟩
  · rw [e, List.length_append]; omega
  · intro h
    have := congrArg List.length (e.symm.trans h)
    rw [List.length_append, List.length_nil] at this
    omega

/-! ### A run: message j goes to b if j is even, to a if it is odd -/
def sideOf (a b : List Bs) (j : Nat) : List Bs := if j % 2 = 0 then b else a
def runM (a b : List Bs) (fan leaf : Nat) : Nat → Bs
  | 0 => encA [sumA a [] []]
  | j + 1 => (stepA (sideOf a b j) fan leaf (runM a b fan leaf j)).reply
def runR (a b : List Bs) (fan leaf j : Nat) : StepR := stepA (sideOf a b j) fan leaf (runM a b fan leaf j)
/-- What the side knows that receives the messages of a parity (0: b, 1: a). -/
def runN (a b : List Bs) (fan leaf par : Nat) : Nat → List Bs × List Bs
  | 0 => ([], [])
  | j + 1 => if j % 2 = par then ((runN a b fan leaf par j).1 ++ (runR a b fan leaf j).need, (runN a b fan leaf par j).2 ++ (runR a b fan leaf j).off) else runN a b fan leaf par j
def runB (a b : List Bs) (fan leaf : Nat) : Nat → Nat
  | 0 => 0
  | j + 1 => runB a b fan leaf j + (runM a b fan leaf j).length
/-- The run ends behind K messages. -/
structure RunEnds (a b : List Bs) (fan leaf K : Nat) : Prop where
  go : ∀ j, j < K → runM a b fan leaf j ≠ [] ∧ (runR a b fan leaf j).err = 0
  stop : runM a b fan leaf K = []
  le : K ≤ 30
theorem step_len (its : List Bs) (fan leaf : Nat) (D : Bs) : (stepA its fan leaf D).reply.length ≤ 1048576 := by
  unfold stepA
  split
  · simp
  · split
    · simp
    · split
      · simp
      · dsimp only; omega
theorem runM_len {a b : List Bs} (h : a.length ≤ 40) (fan leaf : Nat) : ∀ j, (runM a b fan leaf j).length ≤ 1048576
  | 0 => (start_ok h).2.1
  | _ + 1 => step_len _ _ _ _
theorem step_need {its : List Bs} {fan leaf : Nat} {D : Bs} (hD : D.length ≤ 1048576) (hs : okSet its) (h40 : its.length ≤ 40) : (stepA its fan leaf D).need.length ≤ 17179869184 ∧ (stepA its fan leaf D).off.length ≤ 17179869184 := by
  unfold stepA
  split
  · simp
  · split
    · simp
    · rename_i ps hd
      split
      · simp
      · obtain ⟨_, hm, hl⟩ := decA_sound hd
        have key : ∀ (g : AP → List Bs) (l : List AP), (∀ p ∈ l, (g p).length ≤ 16384) → (l.flatMap g).length ≤ l.length * 16384 := by
          intro g l
          induction l with
          | nil => intro _; simp
          | cons p l ih =>
            intro h
            rw [List.flatMap_cons, List.length_append, List.length_cons]
            have h1 := h p (by simp)
            have h2 := ih fun q hq => h q (by simp [hq])
            omega
        have k1 := key (needA its) ps fun p hp => (needA_len (hm.2.1 p hp)).1
        have k2 := key (offA its) ps fun p hp => (offA_len hs h40 (hm.2.1 p hp)).1
        dsimp only
        omega
theorem runN_len {a b : List Bs} {fan leaf par : Nat} (ha : okSet a) (hb : okSet b) (ha4 : a.length ≤ 40) (hb4 : b.length ≤ 40) : ∀ j, (runN a b fan leaf par j).1.length ≤ j * 17179869184 ∧ (runN a b fan leaf par j).2.length ≤ j * 17179869184
  | 0 => ⟨Nat.zero_le _, Nat.zero_le _⟩
  | j + 1 => by
    obtain ⟨i1, i2⟩ := runN_len (par := par) ha hb ha4 hb4 j (fan := fan) (leaf := leaf)
    have hM := runM_len (b := b) ha4 fan leaf j
    have hn : (runR a b fan leaf j).need.length ≤ 17179869184 ∧ (runR a b fan leaf j).off.length ≤ 17179869184 := by
      unfold runR sideOf
      split
      · exact step_need hM hb hb4
      · exact step_need hM ha ha4
    rw [runN]
    split
    · dsimp only
      rw [List.length_append, List.length_append]
      omega
    · omega
theorem runB_le {a b : List Bs} (h : a.length ≤ 40) (fan leaf : Nat) : ∀ j, runB a b fan leaf j ≤ j * 1048576
  | 0 => Nat.zero_le _
  | j + 1 => by
    have h1 := runB_le h fan leaf j (b := b)
    have h2 := runM_len (b := b) h fan leaf j
    rw [runB]; omega
theorem RunEnds.lt {a b : List Bs} {fan leaf K j : Nat} (h : RunEnds a b fan leaf K) (hj : j ≤ K) (hm : 0 < (runM a b fan leaf j).length) : j < K := by
  rcases Nat.lt_or_ge j K with h1 | h1
  · exact h1
  · obtain rfl : j = K := by omega
    rw [h.stop] at hm
    simp at hm
theorem RunEnds.eq {a b : List Bs} {fan leaf K j : Nat} (h : RunEnds a b fan leaf K) (hj : j ≤ K) (hm : ¬ 0 < (runM a b fan leaf j).length) : j = K := by
  rcases Nat.lt_or_ge j K with h1 | h1
  · exact absurd (List.length_pos_iff.2 (h.go j h1).1) hm
  · omega
theorem okP_nat {fan leaf : Int} (h : okP fan leaf = true) : (∃ f : Nat, fan = f) ∧ ∃ g : Nat, leaf = g := by
  unfold okP at h
  simp only [Bool.and_eq_true, decide_eq_true_eq] at h
  exact ⟨⟨fan.toNat, by omega⟩, leaf.toNat, by omega⟩
theorem okP_bnds {f g : Nat} (h : okP (f : Int) (g : Int) = true) : 2 ≤ f ∧ f ≤ 16 ∧ 1 ≤ g ∧ g ≤ 64 := by
  unfold okP at h
  simp only [Bool.and_eq_true, decide_eq_true_eq] at h
  omega
theorem not_large {n : Nat} (h : largeB n = false) : n ≤ 40 ∨ 16384 < n := by
  unfold largeB at h
  simp at h
  omega
theorem setB_ok {l : List Bs} (h : setB l = true) : okSet l ∧ l.length ≤ 40 := by
  unfold setB at h
  rw [Bool.and_eq_true, decide_eq_true_eq, decide_eq_true_eq] at h
  exact ⟨(setE_zero h.2).2, h.1⟩
end Go.Proofs.YtlepfnihpdhcaaaGreatDoor
