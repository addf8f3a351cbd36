/- Contract of the reference's Encode of layer 25. -/
import Derived.Test.YtflabbdnkoejjaaRefDc4
import Derived.Test.YtflabbdnkoejjaaRef7
import Derived.Deep.RegionHeld3
namespace Go.Proofs.Ytflabbdnkoejjaa
open Go.RowKit

theorem own_new (w : World) (base : Nat) (e : TypeId) (sz n : Nat) (a : List Value) (hb : base ≤ w.heap.size) (hl : a.length = n * sz) (hn : n ≤ 1000000) : (w.alloc (.cells a.toArray e)).ownsRow base e sz (.slice (some ⟨w.heap.size, 0, none⟩) n n) n a :=
  ⟨hl, .inr ⟨w.heap.size, n, a.toArray, rfl, hb, heap_alloc_new w _, Nat.le_refl _, by unfold maxLen; omega, by simpa using hl, by rw [List.take_of_length_le]; simp; omega⟩⟩

theorem el_val : Elem Try.prog 78 76 (.agg #[Value.int .i64 0, .int .u64 0, Value.int .i64 0, Value.bool false, .string ⟨#[]⟩, Value.int .i64 0]) 6 56 := ⟨Try.underlying78, by kernel_rfl, rfl, by omega, by omega⟩

def wvI (n : Int) : WV := ⟨2, n, false⟩
def RClk.head (c : RClk) : List WV := [wvI c.first, wvI c.day, wvI c.leap, wvI c.quorum, wvI c.own, ⟨3, 0, c.has⟩]
def toldV (l : List (Int × Int)) : List WV := l.flatMap fun p => [wvI p.1, wvI p.2]
def RClk.vals (c : RClk) : List WV := c.head ++ (if c.has then [wvI c.ref] else []) ++ [⟨7, (c.told.length : Int), false⟩] ++ toldV c.told

theorem toldV_snoc (l : List (Int × Int)) (k : Nat) (x : Int × Int) (h : l[k]? = some x) : toldV (l.take (k + 1)) = toldV (l.take k) ++ [wvI x.1, wvI x.2] := by
  unfold toldV
  rw [List.take_add_one, h]
  simp

theorem vals_push {w wr w1 : World} {l xs : List WV} {v v' : Value} {n : Nat} (hf : Fr [] w wr) (hown : wr.ownsRow w.heap.size 76 6 v l.length (vcells l))
    (hown1 : w1.ownsRow w.heap.size 76 6 v' (l.length + n) (vcells l ++ vcells xs)) (hn : xs.length = n) (hg : wr.grownBy w1 v.ownBlock) :
    ∃ A c l', Hid (l' = l ++ xs) ∧ l'.length ≤ l.length + n ∧ v' = .slice A l'.length c ∧ w1.ownsRow w.heap.size 76 6 v' l'.length (vcells l') ∧ Fr [] w w1 := by
  obtain ⟨A, c, rfl⟩ := ownsRow_form hown1
  have e : (l ++ xs).length = l.length + n := by simp [hn]
  refine ⟨A, c, l ++ xs, rfl, by omega, by rw [e], ?_, fr_push hf hown hg⟩
  rw [e, vcells_append]
  exact hown1

set_option maxRecDepth 100000 in
set_option maxHeartbeats 8000000 in
theorem refEnc_any (c : RClk) (A : Option Addr) (cp : Nat) (w : World) (hrow : RowIn w A (tcells c.told)) (hl : c.told.length ≤ 100) (hok : ∀ v ∈ c.vals, v.Ok) :
    Calls Try.prog 24 #[.agg (c.cells A cp).toArray] w fun e w' => ∃ v, e = .returned v ∧ NewBytes (encV c.vals) w v w' := by
  obtain ⟨first, day, leap, quorum, own, has, ref, told⟩ := c
  simp only at hrow hl
  show Calls Try.prog 24 #[.agg #[Value.int .i64 first, Value.int .i64 day, Value.int .i64 leap, Value.int .i64 quorum, Value.int .i64 own, Value.bool has, Value.int .i64 ref, .slice A told.length cp]] w fun e w' => ∃ v, e = .returned v ∧ NewBytes (encV (RClk.vals ⟨first, day, leap, quorum, own, has, ref, told⟩)) w v w'
  have H := Lib.hid (And.intro hrow hok)
  clear hrow hok
  go_enter Try.func24, Try.ntmps24
  go_wp2_with fail
  obtain ⟨W, hW⟩ : ∃ W, W = (w.alloc (.cells #[Value.int .i64 first, Value.int .i64 day, Value.int .i64 leap, Value.int .i64 quorum, Value.int .i64 own, Value.bool has, Value.int .i64 ref, .slice A told.length cp] 28)) := ⟨_, rfl⟩
  rw [← hW]
  have HC : Hid (Fr [] w W ∧ At W w.heap.size 28 [Value.int .i64 first, Value.int .i64 day, Value.int .i64 leap, Value.int .i64 quorum, Value.int .i64 own, Value.bool has, Value.int .i64 ref, .slice A told.length cp]) := by
    rw [hW]
    exact ⟨(Fr.refl _ _).alloc _, At.new _ _ _⟩
  clear hW
  have c0 : W.cell? ⟨w.heap.size, 0, none⟩ = some (Value.int .i64 first) := by rw [HC.out.2.cell]; rfl
  have c1 : W.cell? ⟨w.heap.size, 1, none⟩ = some (Value.int .i64 day) := by rw [HC.out.2.cell]; rfl
  have c2 : W.cell? ⟨w.heap.size, 2, none⟩ = some (Value.int .i64 leap) := by rw [HC.out.2.cell]; rfl
  have c3 : W.cell? ⟨w.heap.size, 3, none⟩ = some (Value.int .i64 quorum) := by rw [HC.out.2.cell]; rfl
  have c4 : W.cell? ⟨w.heap.size, 4, none⟩ = some (Value.int .i64 own) := by rw [HC.out.2.cell]; rfl
  have c5 : W.cell? ⟨w.heap.size, 5, none⟩ = some (Value.bool has) := by rw [HC.out.2.cell]; rfl
  go_region_held3 (fun w' => w'.cell? ⟨w.heap.size, 0, none⟩ = some (Value.int .i64 first) ∧ w'.cell? ⟨w.heap.size, 1, none⟩ = some (Value.int .i64 day) ∧ w'.cell? ⟨w.heap.size, 2, none⟩ = some (Value.int .i64 leap) ∧ w'.cell? ⟨w.heap.size, 3, none⟩ = some (Value.int .i64 quorum) ∧ w'.cell? ⟨w.heap.size, 4, none⟩ = some (Value.int .i64 own) ∧ w'.cell? ⟨w.heap.size, 5, none⟩ = some (Value.bool has)) (go_keep) (first
    | (go_at_call 41; refine (refNumb_any _ _).mono ?_; rintro e w1 ⟨rfl, hf1⟩; replace HC : Hid (Fr [] w w1 ∧ At w1 w.heap.size 28 [Value.int .i64 first, Value.int .i64 day, Value.int .i64 leap, Value.int .i64 quorum, Value.int .i64 own, Value.bool has, Value.int .i64 ref, .slice A told.length cp]) := ⟨(by first | exact HC.out.1.trans hf1 | exact HC.out.1.drew.trans hf1), (by first | exact HC.out.2.fr hf1 (by simp) | exact HC.out.2.drew.fr hf1 (by simp))⟩; clear hf1 c0 c1 c2 c3 c4 c5; have c0 : w1.cell? ⟨w.heap.size, 0, none⟩ = some (Value.int .i64 first) := (by rw [HC.out.2.cell]; rfl); have c1 : w1.cell? ⟨w.heap.size, 1, none⟩ = some (Value.int .i64 day) := (by rw [HC.out.2.cell]; rfl); have c2 : w1.cell? ⟨w.heap.size, 2, none⟩ = some (Value.int .i64 leap) := (by rw [HC.out.2.cell]; rfl); have c3 : w1.cell? ⟨w.heap.size, 3, none⟩ = some (Value.int .i64 quorum) := (by rw [HC.out.2.cell]; rfl); have c4 : w1.cell? ⟨w.heap.size, 4, none⟩ = some (Value.int .i64 own) := (by rw [HC.out.2.cell]; rfl); have c5 : w1.cell? ⟨w.heap.size, 5, none⟩ = some (Value.bool has) := (by rw [HC.out.2.cell]; rfl)))
  rename_i hHeld
  clear hHeld c0 c1 c2 c3 c4 c5
  obtain ⟨V, hV⟩ : ∃ V, V = w1.alloc (.cells #[Value.int .i64 2, .int .u64 0, Value.int .i64 first, Value.bool false, .string ⟨#[]⟩, Value.int .i64 0, Value.int .i64 2, .int .u64 0, Value.int .i64 day, Value.bool false, .string ⟨#[]⟩, Value.int .i64 0, Value.int .i64 2, .int .u64 0, Value.int .i64 leap, Value.bool false, .string ⟨#[]⟩, Value.int .i64 0, Value.int .i64 2, .int .u64 0, Value.int .i64 quorum, Value.bool false, .string ⟨#[]⟩, Value.int .i64 0, Value.int .i64 2, .int .u64 0, Value.int .i64 own, Value.bool false, .string ⟨#[]⟩, Value.int .i64 0, Value.int .i64 3, .int .u64 0, Value.int .i64 0, Value.bool has, .string ⟨#[]⟩, Value.int .i64 0] 76) := ⟨_, rfl⟩
  rw [← hV]
  obtain ⟨l0, HL0⟩ : ∃ l0, Hid (l0 = RClk.head ⟨first, day, leap, quorum, own, has, ref, told⟩) := ⟨_, rfl⟩
  have H0 : Hid (Fr [] w V ∧ V.ownsRow w.heap.size 76 6 (.slice (some ⟨w1.heap.size, 0, none⟩) l0.length 6) l0.length (vcells l0) ∧ At V w.heap.size 28 [Value.int .i64 first, Value.int .i64 day, Value.int .i64 leap, Value.int .i64 quorum, Value.int .i64 own, Value.bool has, Value.int .i64 ref, .slice A told.length cp]) := by
    rw [hV, HL0.out]
    exact ⟨HC.out.1.alloc _, own_new w1 w.heap.size 76 6 6 (vcells (RClk.head ⟨first, day, leap, quorum, own, has, ref, told⟩)) HC.out.1.size rfl (by omega), HC.out.2.alloc _⟩
  have h06 : l0.length = 6 := by rw [HL0.out]; rfl
  have hl6 : l0.length ≤ 6 := by omega
  have e6 : Value.slice (some ⟨w1.heap.size, 0, none⟩) 6 6 = .slice (some ⟨w1.heap.size, 0, none⟩) l0.length 6 := by rw [h06]
  rw [e6]
  clear hV e6 h06
  have c5 : V.cell? ⟨w.heap.size, 5, none⟩ = some (Value.bool has) := by rw [H0.out.2.2.cell]; rfl
  have c6 : V.cell? ⟨w.heap.size, 6, none⟩ = some (Value.int .i64 ref) := by rw [H0.out.2.2.cell]; rfl
  cases has
  · clear c6
    -- the count
    have hsz0 := H0.out.1.size
    have c7 : V.cell? ⟨w.heap.size, 7, none⟩ = some (.slice A told.length cp) := by rw [H0.out.2.2.cell]; rfl
    have hcb : w.heap.size < V.heap.size := H0.out.2.2.lt
    go_wp2_with (at_builtin; refine wpList_pushN el_val rfl (.tmp 35) (.tmp 40) rfl w.heap.size _ _ (vcells l0) [Value.int .i64 7, .int .u64 0, Value.int .i64 (told.length : Int), Value.bool false, .string ⟨#[]⟩, Value.int .i64 0] rfl (by exact H0.out.2.1) (by simp [Act.eval]) rfl (by simp [Value.oneCell']) (by omega) (by omega) 76 ?_; intro v' w5 hown5 hg5 hb5; have hat5 := (H0.out.2.2.grown hg5 (fun he => own_ne H0.out.2.1 H0.out.2.2 (by decide) he)); obtain ⟨A5, c5, l5, HL5, hl5, rfl, ho5, hf5⟩ := vals_push (xs := [⟨7, (told.length : Int), false⟩]) H0.out.1 H0.out.2.1 hown5 rfl hg5; have c7' : w5.cell? ⟨w.heap.size, 7, none⟩ = some (.slice A told.length cp) := (by rw [hat5.cell]; rfl); have H5 := Lib.hid (And.intro hf5 (And.intro ho5 hat5)); clear hown5 hg5 hb5 hat5 ho5 hf5)
    clear c7
    go_loopw [3, 45] (fun o i wr => ∃ (k : Nat) (l : List WV) (A' : Option Addr) (c' : Nat), i = .int .i64 k ∧ k ≤ told.length ∧ o = .slice A' l.length c' ∧ l.length ≤ 8 + 2 * k ∧ Hid (l = l5 ++ toldV (told.take k)) ∧ Hid (Fr [] w wr ∧ wr.ownsRow w.heap.size 76 6 o l.length (vcells l))) (fun _ i _ => told.length - (intOf i).toNat)
    case atStart => exact ⟨0, l5, A5, c5, rfl, Nat.zero_le _, rfl, by omega, by show l5 = l5 ++ toldV []; simp [toldV], H5.out.1, H5.out.2.1⟩
    case round =>
      obtain ⟨k, l, A', c', rfl, hk, rfl, hll, HE, HR⟩ := hrel
      have hszr := HR.out.1.size
      by_cases hlt : k < told.length
      · have hx := List.getElem?_eq_getElem hlt
        generalize told[k] = x at hx
        obtain ⟨g, o, hA, hg, hc0, hc1⟩ := tcell (H.out.1.fr0 HR.out.1) k x hx
        subst hA
        have HX := Lib.hid hx
        clear hx
        go_wp2_with fail
        obtain ⟨X, hX⟩ : ∃ X, X = wr.alloc (.cells #[Value.int .i64 x.1, Value.int .i64 x.2] 63) := ⟨_, rfl⟩
        rw [← hX]
        have HXC : Hid (Fr [] w X ∧ X.ownsRow w.heap.size 76 6 (.slice A' l.length c') l.length (vcells l) ∧ At X wr.heap.size 63 [Value.int .i64 x.1, Value.int .i64 x.2]) := by rw [hX]; exact ⟨HR.out.1.alloc _, HR.out.2.alloc _, At.new _ _ _⟩
        clear hX hc0 hc1
        have x0 : X.cell? ⟨wr.heap.size, 0, none⟩ = some (Value.int .i64 x.1) := by rw [HXC.out.2.2.cell]; rfl
        have x1 : X.cell? ⟨wr.heap.size, 1, none⟩ = some (Value.int .i64 x.2) := by rw [HXC.out.2.2.cell]; rfl
        go_region_held3 (fun w' => w'.cell? ⟨wr.heap.size, 0, none⟩ = some (Value.int .i64 x.1) ∧ w'.cell? ⟨wr.heap.size, 1, none⟩ = some (Value.int .i64 x.2)) (go_keep) (first
          | (refine step_app el_val rfl (.tmp 49) (.tmp 56) rfl w.heap.size (.slice A' l.length c') l.length (vcells l) (by simp [Act.eval]) (by exact HXC.out.2.1.alloc _) (some ⟨w2.heap.size, 0, none⟩) 2 2 (vcells [wvI x.1, wvI x.2]) (by simp [Act.eval]) rfl (by exact CellsAt.new _ _ _) (vcells_one _) (by omega) (by simp; omega) ?_; intro v6 w6 hown6 hg6 hb6; have hat6 := (HXC.out.2.2.alloc _).grown hg6 (fun he => own_ne HXC.out.2.1 HXC.out.2.2 (by decide) he); have y0 : w6.cell? ⟨wr.heap.size, 0, none⟩ = some (Value.int .i64 x.1) := (by rw [hat6.cell]; rfl); have y1 : w6.cell? ⟨wr.heap.size, 1, none⟩ = some (Value.int .i64 x.2) := (by rw [hat6.cell]; rfl); obtain ⟨A6, c6, l6, HL6, hl6, rfl, ho6, hf6⟩ := vals_push (xs := [wvI x.1, wvI x.2]) (HXC.out.1.alloc _) (HXC.out.2.1.alloc _) hown6 rfl hg6; have H6 := Lib.hid (And.intro hf6 ho6); clear hown6 hg6 hb6 hat6 ho6 hf6)
          | (go_at_call 41; refine (refNumb_any _ _).mono ?_; rintro e w2 ⟨rfl, hf1⟩; have hz2 := hf1.size; replace HXC : Hid (Fr [] w w2 ∧ w2.ownsRow w.heap.size 76 6 (.slice A' l.length c') l.length (vcells l) ∧ At w2 wr.heap.size 63 [Value.int .i64 x.1, Value.int .i64 x.2]) := ⟨(by first | exact HXC.out.1.trans hf1 | exact HXC.out.1.drew.trans hf1), (by first | exact ownsRow_fr HXC.out.2.1 hf1 (by simp) | exact ownsRow_fr (ownsRow_drew HXC.out.2.1) hf1 (by simp)), (by first | exact HXC.out.2.2.fr hf1 (by simp) | exact HXC.out.2.2.drew.fr hf1 (by simp))⟩; have hz3 : w.heap.size ≤ w2.heap.size := HXC.out.1.size; clear hf1 x0 x1; have x0 : w2.cell? ⟨wr.heap.size, 0, none⟩ = some (Value.int .i64 x.1) := (by rw [HXC.out.2.2.cell]; rfl); have x1 : w2.cell? ⟨wr.heap.size, 1, none⟩ = some (Value.int .i64 x.2) := (by rw [HXC.out.2.2.cell]; rfl)))
        go_wp2_with fail
        go_roundw
        case rel => exact ⟨k + 1, l6, A6, c6, by go_num, by omega, rfl, by omega, by show l6 = _; rw [HL6.out, HE.out, toldV_snoc told k x HX.out, List.append_assoc], H6⟩
        case measure => simp [intOf]; omega
      · obtain rfl : k = told.length := by omega
        rw [List.take_length] at HE
        have HV : Hid (l = RClk.vals ⟨first, day, leap, quorum, own, false, ref, told⟩) := by show l = _; rw [HE.out, HL5.out, HL0.out]; simp [RClk.vals, RClk.head]
        go_wp2_with fail
        refine (refEncode_any A' c' l _ (RowIn.of_owned HR.out.2) (by omega) (by rw [HV.out]; exact H.out.2)).mono ?_
        rintro e w7 ⟨v7, rfl, h7⟩
        have H7 := Lib.hid h7
        clear h7
        go_wp2_with fail
        go_ret
        exact ⟨v7, rfl, by rw [← HV.out]; exact ownsRow_base H7.out.own HR.out.1.size, HR.out.1.trans H7.out.fr⟩
  · have hsz0 := H0.out.1.size
    go_wp2_with fail
    refine (refNumb_any ref _).mono ?_
    rintro e w2 ⟨rfl, hf2⟩
    have H1 : Hid (Fr [] w w2 ∧ w2.ownsRow w.heap.size 76 6 (.slice (some ⟨w1.heap.size, 0, none⟩) l0.length 6) l0.length (vcells l0) ∧ At w2 w.heap.size 28 [Value.int .i64 first, Value.int .i64 day, Value.int .i64 leap, Value.int .i64 quorum, Value.int .i64 own, Value.bool true, Value.int .i64 ref, .slice A told.length cp]) := ⟨H0.out.1.trans hf2, ownsRow_fr H0.out.2.1 hf2 (by simp), H0.out.2.2.fr hf2 (by simp)⟩
    have hsz2 := H1.out.1.size
    clear hf2 c5 c6
    go_wp2_with (first
      | (at_builtin; refine wpList_pushN el_val rfl (.tmp 29) (.tmp 33) rfl w.heap.size _ _ (vcells l0) [Value.int .i64 2, .int .u64 0, Value.int .i64 ref, Value.bool false, .string ⟨#[]⟩, Value.int .i64 0] rfl (by exact H1.out.2.1) (by simp [Act.eval]) rfl (by simp [Value.oneCell']) (by omega) (by omega) 76 ?_; intro v' w3 hown3 hg3 hb3; have hat3 := (H1.out.2.2.grown hg3 (fun he => own_ne H1.out.2.1 H1.out.2.2 (by decide) he)); obtain ⟨A3, c3, l3, HL3', hl3, rfl, ho3, hf3⟩ := vals_push (xs := [wvI ref]) H1.out.1 H1.out.2.1 hown3 rfl hg3; have H3 := Lib.hid (And.intro hf3 (And.intro ho3 hat3)); have c7x : w3.cell? ⟨w.heap.size, 7, none⟩ = some (.slice A told.length cp) := (by rw [hat3.cell]; rfl); have hsz3 : w.heap.size ≤ w3.heap.size := hf3.size; have hcb : w.heap.size < w3.heap.size := hat3.lt; have HL3 : Hid (l3 = RClk.head ⟨first, day, leap, quorum, own, true, ref, told⟩ ++ [wvI ref]) := (by show l3 = _; rw [HL3'.out, HL0.out]); clear hown3 hg3 hb3 hat3 ho3 hf3 HL3')
      | (at_builtin; refine wpList_pushN el_val rfl (.tmp 35) (.tmp 40) rfl w.heap.size _ _ (vcells l3) [Value.int .i64 7, .int .u64 0, Value.int .i64 (told.length : Int), Value.bool false, .string ⟨#[]⟩, Value.int .i64 0] rfl (by exact H3.out.2.1) (by simp [Act.eval]) rfl (by simp [Value.oneCell']) (by omega) (by omega) 76 ?_; intro v' w5 hown5 hg5 hb5; have hat5 := (H3.out.2.2.grown hg5 (fun he => own_ne H3.out.2.1 H3.out.2.2 (by decide) he)); obtain ⟨A5, c5, l5, HL5, hl5, rfl, ho5, hf5⟩ := vals_push (xs := [⟨7, (told.length : Int), false⟩]) H3.out.1 H3.out.2.1 hown5 rfl hg5; have c7' : w5.cell? ⟨w.heap.size, 7, none⟩ = some (.slice A told.length cp) := (by rw [hat5.cell]; rfl); have H5 := Lib.hid (And.intro hf5 (And.intro ho5 hat5)); clear hown5 hg5 hb5 hat5 ho5 hf5))
    clear c7x
    go_loopw [3, 45] (fun o i wr => ∃ (k : Nat) (l : List WV) (A' : Option Addr) (c' : Nat), i = .int .i64 k ∧ k ≤ told.length ∧ o = .slice A' l.length c' ∧ l.length ≤ 8 + 2 * k ∧ Hid (l = l5 ++ toldV (told.take k)) ∧ Hid (Fr [] w wr ∧ wr.ownsRow w.heap.size 76 6 o l.length (vcells l))) (fun _ i _ => told.length - (intOf i).toNat)
    case atStart => exact ⟨0, l5, A5, c5, rfl, Nat.zero_le _, rfl, by omega, by show l5 = l5 ++ toldV []; simp [toldV], H5.out.1, H5.out.2.1⟩
    case round =>
      obtain ⟨k, l, A', c', rfl, hk, rfl, hll, HE, HR⟩ := hrel
      have hszr := HR.out.1.size
      by_cases hlt : k < told.length
      · have hx := List.getElem?_eq_getElem hlt
        generalize told[k] = x at hx
        obtain ⟨g, o, hA, hg, hc0, hc1⟩ := tcell (H.out.1.fr0 HR.out.1) k x hx
        subst hA
        have HX := Lib.hid hx
        clear hx
        go_wp2_with fail
        obtain ⟨X, hX⟩ : ∃ X, X = wr.alloc (.cells #[Value.int .i64 x.1, Value.int .i64 x.2] 63) := ⟨_, rfl⟩
        rw [← hX]
        have HXC : Hid (Fr [] w X ∧ X.ownsRow w.heap.size 76 6 (.slice A' l.length c') l.length (vcells l) ∧ At X wr.heap.size 63 [Value.int .i64 x.1, Value.int .i64 x.2]) := by rw [hX]; exact ⟨HR.out.1.alloc _, HR.out.2.alloc _, At.new _ _ _⟩
        clear hX hc0 hc1
        have x0 : X.cell? ⟨wr.heap.size, 0, none⟩ = some (Value.int .i64 x.1) := by rw [HXC.out.2.2.cell]; rfl
        have x1 : X.cell? ⟨wr.heap.size, 1, none⟩ = some (Value.int .i64 x.2) := by rw [HXC.out.2.2.cell]; rfl
        go_region_held3 (fun w' => w'.cell? ⟨wr.heap.size, 0, none⟩ = some (Value.int .i64 x.1) ∧ w'.cell? ⟨wr.heap.size, 1, none⟩ = some (Value.int .i64 x.2)) (go_keep) (first
          | (refine step_app el_val rfl (.tmp 49) (.tmp 56) rfl w.heap.size (.slice A' l.length c') l.length (vcells l) (by simp [Act.eval]) (by exact HXC.out.2.1.alloc _) (some ⟨w2.heap.size, 0, none⟩) 2 2 (vcells [wvI x.1, wvI x.2]) (by simp [Act.eval]) rfl (by exact CellsAt.new _ _ _) (vcells_one _) (by omega) (by simp; omega) ?_; intro v6 w6 hown6 hg6 hb6; have hat6 := (HXC.out.2.2.alloc _).grown hg6 (fun he => own_ne HXC.out.2.1 HXC.out.2.2 (by decide) he); have y0 : w6.cell? ⟨wr.heap.size, 0, none⟩ = some (Value.int .i64 x.1) := (by rw [hat6.cell]; rfl); have y1 : w6.cell? ⟨wr.heap.size, 1, none⟩ = some (Value.int .i64 x.2) := (by rw [hat6.cell]; rfl); obtain ⟨A6, c6, l6, HL6, hl6, rfl, ho6, hf6⟩ := vals_push (xs := [wvI x.1, wvI x.2]) (HXC.out.1.alloc _) (HXC.out.2.1.alloc _) hown6 rfl hg6; have H6 := Lib.hid (And.intro hf6 ho6); clear hown6 hg6 hb6 hat6 ho6 hf6)
          | (go_at_call 41; refine (refNumb_any _ _).mono ?_; rintro e w2 ⟨rfl, hf1⟩; have hz2 := hf1.size; replace HXC : Hid (Fr [] w w2 ∧ w2.ownsRow w.heap.size 76 6 (.slice A' l.length c') l.length (vcells l) ∧ At w2 wr.heap.size 63 [Value.int .i64 x.1, Value.int .i64 x.2]) := ⟨(by first | exact HXC.out.1.trans hf1 | exact HXC.out.1.drew.trans hf1), (by first | exact ownsRow_fr HXC.out.2.1 hf1 (by simp) | exact ownsRow_fr (ownsRow_drew HXC.out.2.1) hf1 (by simp)), (by first | exact HXC.out.2.2.fr hf1 (by simp) | exact HXC.out.2.2.drew.fr hf1 (by simp))⟩; have hz3 : w.heap.size ≤ w2.heap.size := HXC.out.1.size; clear hf1 x0 x1; have x0 : w2.cell? ⟨wr.heap.size, 0, none⟩ = some (Value.int .i64 x.1) := (by rw [HXC.out.2.2.cell]; rfl); have x1 : w2.cell? ⟨wr.heap.size, 1, none⟩ = some (Value.int .i64 x.2) := (by rw [HXC.out.2.2.cell]; rfl)))
        go_wp2_with fail
        go_roundw
        case rel => exact ⟨k + 1, l6, A6, c6, by go_num, by omega, rfl, by omega, by show l6 = _; rw [HL6.out, HE.out, toldV_snoc told k x HX.out, List.append_assoc], H6⟩
        case measure => simp [intOf]; omega
      · obtain rfl : k = told.length := by omega
        rw [List.take_length] at HE
        have HV : Hid (l = RClk.vals ⟨first, day, leap, quorum, own, true, ref, told⟩) := by show l = _; rw [HE.out, HL5.out, HL3.out]; simp [RClk.vals, RClk.head]
        go_wp2_with fail
        refine (refEncode_any A' c' l _ (RowIn.of_owned HR.out.2) (by omega) (by rw [HV.out]; exact H.out.2)).mono ?_
        rintro e w7 ⟨v7, rfl, h7⟩
        have H7 := Lib.hid h7
        clear h7
        go_wp2_with fail
        go_ret
        exact ⟨v7, rfl, by rw [← HV.out]; exact ownsRow_base H7.out.own HR.out.1.size, HR.out.1.trans H7.out.fr⟩

end Go.Proofs.Ytflabbdnkoejjaa
