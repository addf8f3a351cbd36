/- Contract of Decode. -/
import Derived.Test.YtnhagokkamobaaaDoorBlDecPlain
import Derived.Test.YtnhagokkamobaaaDoorBlSub2
import Derived.Lib.BufferWrite
namespace Go.Proofs.YtnhagokkamobaaaDoor
open Go.RowKit

/-- A reader and its bytes. -/
def cRd (br : Nat) (X : Option Addr × Nat) (r : Rd) : Ch where
  fp := br :: ownFp X.1
  holds w := RdAt X w br r
  ok w w' hb h := by
    obtain ⟨A, c, rfl, h1, h2⟩ := h
    exact ⟨A, c, rfl, (hb br (by simp)).trans h1, (cOwn 5 1 A r.D.length c (B8 r.D)).ok w w' (fun b hb' => hb b (by simp [cOwn] at hb'; simp [hb'])) h2⟩
  lt w h b hb := by
    obtain ⟨A, c, rfl, h1, h2⟩ := h
    rcases List.mem_cons.1 hb with rfl | hb
    · exact h1.lt
    · exact (own_fp h2).2 b hb
theorem cRd_nodup {w : World} {br : Nat} {X : Option Addr × Nat} {r : Rd} (h : RdAt X w br r) : (cRd br X r).fp.Nodup := by
  obtain ⟨A, c, rfl, h1, h2⟩ := h
  have hne := own_at_ne h2 h1 (by decide)
  cases A with
  | none => simp [cRd, ownFp]
  | some a =>
    have e := (own_fp h2).1
    rw [e] at hne
    simp [ownFp] at hne
    simp [cRd, ownFp, hne]
section
variable {w0 w w' : World} {F : List Nat} {cs : List Ch} {X : Option Addr × Nat} {r r' : Rd} {br : Nat}
theorem Mm.swapRd (h : Mm w0 F cs w) (i : Nat) (hi : cs[i]? = some (cRd br X r)) (hf : Fr [br] w w') (hr : RdAt X w' br r') : Mm w0 F (cs.set i (cRd br X r')) w' :=
  h.swap i hi (c' := cRd br X r') (hf.mono fun x hx => .inl (by simp [cRd] at hx ⊢; exact .inl hx)) hr (fun b hb => .inl hb) (cRd_nodup hr)
theorem Mm.pushRd {A2 : Option Addr} {c2 : Nat} (h : Mm w0 F cs w) (hf : Fr [] w w') (hr : RdAt (A2, c2) w' br r) (h1 : w.heap.size ≤ br) (ho : w'.ownsRow w.heap.size 5 1 (.slice A2 r.D.length c2) r.D.length (B8 r.D)) : Mm w0 F (cs ++ [cRd br (A2, c2) r]) w' := by
  refine h.push (c := cRd br (A2, c2) r) hf hr (fun b hb => ?_) (cRd_nodup hr)
  rcases List.mem_cons.1 hb with rfl | hb
  · exact h1
  · rcases ho.2 with ⟨hv, _⟩ | ⟨g, cap, cur, hv, hg, _⟩
    · simp only [Value.slice.injEq] at hv
      obtain ⟨rfl, _⟩ := hv
      simp [ownFp] at hb
    · simp only [Value.slice.injEq] at hv
      obtain ⟨rfl, _⟩ := hv
      simp [ownFp] at hb
      omega
end
theorem wrap_nat (n : Nat) (h : n ≤ 4294967296) : IntKind.i64.wrap (n : Int) = (n : Int) := by
  exact wrap64_id (by omega) (by omega)
theorem run_makeU (n : Nat) (hn : n ≤ 3072) (w : World) : (Instr.makeSlice 73 (.int .u64 (n : Int)) (.int .u64 (n : Int))).run Tryd.prog w = .ok (.slice (some ⟨w.heap.size, 0, none⟩) n n) (w.alloc (.cells (tcells (List.replicate n BC.zero)).toArray 85)) := by
  have hinfo : (Tryd.prog.info? 85).map (fun i => (i.zero, i.size, i.bytes)) = some (some (.agg BC.zero.cells.toArray), 34, 48) := by kernel_rfl
  obtain ⟨i, hi, hz, hsz, hby⟩ := info_parts hinfo
  have := run_make (P := Tryd.prog) w 73 85 i _ Tryd.underlying73 hi hz .u64 .u64 (n : Int) (n : Int) (by omega) (by omega) (by rw [hby]; omega) (by omega)
  rw [hsz, Int.toNat_natCast] at this
  rw [this, ← made_zero]
  rfl
theorem opMakeCells {Q : Exit → Act → World → Prop} {nt : Nat} {w0 : World} {F : List Nat} {E : Env} {cs : List Ch} {o : Oper} {d : Tmp} {K : Act → World → Prop} {x y : Operand} (n : Nat) (hn : n ≤ 3072) (ho : o.op = .makeSlice 73 x y) (hd : o.dst = some d) (hk : opOk nt E o = true) (hx : evO E x = some (.int .u64 (n : Int))) (hy : evO E y = some (.int .u64 (n : Int)))
    (h : ∀ b, St nt w0 F ((d, .slice (some ⟨b, 0, none⟩) n n) :: E) (cs ++ [cAt b 85 (tcells (List.replicate n BC.zero))]) K) : OpW Tryd.prog Q nt w0 F E cs o K :=
  opNew (v := fun b => .slice (some ⟨b, 0, none⟩) n n) _ _ hd hk (fun w => by
    have hr := run_makeU n hn w
    unfold execOp
    simp only [ho, evE_of hx, evE_of hy, Sem.run_bind, hr]
    rfl) h
theorem opCopyStr {P : Program} {Q : Exit → Act → World → Prop} {nt : Nat} {w0 : World} {F : List Nat} {E : Env} {cs : List Ch} {o : Oper} {d : Tmp} {K : Act → World → Prop} {dT sT elem t : TypeId} {x y : Operand} {g off dLen dCap : Nat} {l : List Value} {bs : List UInt8} (i : Nat) (l' : List Value) (ho : o.op = .call { callee := .builtin .copy, args := #[x, y], argTypes := #[dT, sT] }) (hd : o.dst = some d) (hu : P.underlying dT = some (.slice elem)) (hs : (P.info? elem).map (·.size) = some 1) (hk : opOk nt E o = true)
    (hx : evO E x = some (.slice (some ⟨g, off, none⟩) dLen dCap)) (hy : evO E y = some (.string (strOf bs))) (hi : cs[i]? = some (cAt g t l)) (hle : bs.length ≤ dLen) (hfit : off + bs.length ≤ l.length) (hl' : l.take off ++ B8 bs ++ l.drop (off + bs.length) = l') (h : St nt w0 F ((d, .int .i64 ((bs.length : Nat) : Int)) :: E) (cs.set i (cAt g t l')) K) : OpW P Q nt w0 F E cs o K :=
  opEff hd hk fun w hM => by
    subst hl'
    have hat : At w g t l := hM.at hi
    have hsz : (strOf bs).size = bs.length := by simp [strOf, ByteArray.size]
    have hr := Lib.run_copy_row_string (P := P) w dT sT o.type elem g off dLen dCap (strOf bs) l.toArray t hu hs hat (by rw [hsz]; exact hle) (by rw [hsz]; simpa using hfit)
    refine ⟨_, w.setRow g (l.take off ++ B8 bs ++ l.drop (off + bs.length)).toArray, _, ?_, hM.swap i hi (c' := cAt g t (l.take off ++ B8 bs ++ l.drop (off + bs.length))) (Fr.setRow _ _ _) ?_ (fun c hc => .inl hc) (by simp [cAt]), h⟩
    · unfold execOp
      simp only [ho, resolve, invoke, builtin, Sem.run_bind, Sem.run_pure, Result.andThen_ok, List.map_toArray, List.map_cons, List.map_nil, evE_of hx, evE_of hy, hr, hsz]
      rfl
    · have := hat.setRow (l.take off ++ B8 bs ++ l.drop (off + bs.length))
      exact this
theorem padK_rep {x : List UInt8} : x ++ (List.replicate 32 (0 : UInt8)).drop x.length = padK x := by
  unfold padK
  rw [List.drop_replicate]
theorem tcells_key {l : List BC} (hok : Ok34 l) {i : Nat} {c : BC} (hc : l[i]? = some c) {x : List UInt8} (hx : x.length ≤ 32) :
    (tcells l).take (i * 34 + 1) ++ B8 x ++ (tcells l).drop (i * 34 + 1 + x.length) = tcells (l.set i ⟨c.count, x ++ c.keys.drop x.length, c.checks⟩) := by
  obtain ⟨hlt, he⟩ := List.getElem?_eq_some_iff.1 hc
  have hl1 : (tcells (l.take i)).length = i * 34 := by rw [tcells_len (fun a ha => hok a (List.mem_of_mem_take ha)), List.length_take, Nat.min_eq_left (by omega)]
  have hs : l = l.take i ++ c :: l.drop (i + 1) := by rw [← he, List.getElem_cons_drop, List.take_append_drop]
  have hk := (hok c (List.mem_of_getElem? hc)).keys
  have e1 : tcells l = tcells (l.take i) ++ (c.cells ++ tcells (l.drop (i + 1))) := by
    conv => lhs; rw [hs]
    simp [tcells]
  have e2 : l.set i ⟨c.count, x ++ c.keys.drop x.length, c.checks⟩ = l.take i ++ ⟨c.count, x ++ c.keys.drop x.length, c.checks⟩ :: l.drop (i + 1) := by
    rw [List.set_eq_take_append_cons_drop, if_pos hlt]
  have e3 : tcells (l.set i ⟨c.count, x ++ c.keys.drop x.length, c.checks⟩) = tcells (l.take i) ++ ((⟨c.count, x ++ c.keys.drop x.length, c.checks⟩ : BC).cells ++ tcells (l.drop (i + 1))) := by
    rw [e2]
    simp [tcells]
  rw [e1, e3, ← hl1, List.take_length_add_append, Nat.add_assoc, List.drop_length_add_append]
  simp only [List.append_assoc, BC.cells, List.cons_append, List.take_succ_cons, List.take_zero, List.nil_append, B8_append]
  rw [Nat.add_comm 1, List.drop_succ_cons, List.drop_append_of_le_length (by rw [B8_length]; omega)]
  simp [B8, List.map_drop]

set_option maxRecDepth 100000 in
set_option maxHeartbeats 1000000 in
theorem decode_big (A : Option Addr) (c : Nat) (D : List UInt8) (w : World) (hD : D.length ≤ 4294967296) (hrow : RowIn w A (B8 D)) (hn : 3072 < decN D) :
    Calls Tryd.prog 38 #[.slice A D.length c] w fun e w' => e = .returned (.tuple #[.pointer none, Value.int .i64 3]) ∧ Fr [] w w' := by
  have HR := Lib.hid hrow
  clear hrow
  obtain ⟨n, HN⟩ : ∃ n, Hid (n = decN D) := ⟨_, rfl⟩
  have hn' : 3072 < n := by rw [HN.out]; exact hn
  clear hn
  refine stEnter (args := [.slice A D.length c]) [] Tryd.func38 rfl 69 rfl [(0, .slice A D.length c)] ⟨rfl, trivial⟩ [] (Mm.start w []) ?_
  refine stSeq ?_
  refine reg ?_
  refine li rfl (opVal (.pointer none) rfl (by kernel_rfl) (rAssign rfl rfl) ?_)
  refine li rfl (opVal (.int .i64 0) rfl (by kernel_rfl) (rAssign rfl rfl) ?_)
  refine liNil ?_
  refine qThen ?_
  refine stSeq ?_
  refine reg ?_
  refine li rfl (opVal (.slice A (D.length) (c)) rfl (by kernel_rfl) (rMove rfl rfl) ?_)
  refine li rfl ?_
  refine opCall 61 #[(.slice A (D.length) (c))] rfl (by kernel_rfl) (fun _ => by kernel_rfl) (fun w hM => ?_)
  refine (newReader_any A c D w hD (HR.out.fr0 hM.fr)).mono ?_
  rintro e w' ⟨br, A2, c2, rfl, hb, hf, hr, ho⟩
  have hM' := hM.pushRd hf hr hb ho
  refine ⟨_, _, rfl, hM', ?_⟩
  clear hM hM' hf hr hb ho
  refine li rfl (opVal (.pointer (some ⟨br, 0, none⟩)) rfl (by kernel_rfl) (rAssign rfl rfl) ?_)
  refine liNil ?_
  refine qThen ?_
  refine stSeq ?_
  refine reg ?_
  refine li rfl (opVal (.pointer (some ⟨br, 0, none⟩)) rfl (by kernel_rfl) (rMove rfl rfl) ?_)
  refine li rfl ?_
  refine opCall 62 #[(.pointer (some ⟨br, 0, none⟩))] rfl (by kernel_rfl) (fun _ => by kernel_rfl) (fun w hM => ?_)
  refine (by have h := rUint br (rd0 D) w (hM.at (i := 0) rfl) (rd0_ok hD); rw [show (rd0 D).uint.1 = n from HN.out.symm] at h; exact h : Calls _ _ _ w fun e w' => e = .returned (.int .u64 ((n : Nat) : Int)) ∧ Fr [br] w w' ∧ RdAt (A2, c2) w' br ((rd0 D).uint.2)).mono ?_
  rintro e w' ⟨rfl, hf, hr⟩
  have hM' := hM.swapRd 0 rfl hf hr
  refine ⟨_, _, rfl, hM', ?_⟩
  clear hM hM' hf hr
  refine li rfl (opVal (.int .u64 ((n : Nat) : Int)) rfl (by kernel_rfl) (rAssign rfl rfl) ?_)
  refine liNil ?_
  refine qThen ?_
  refine stSeq ?_
  refine stSeq ?_
  refine reg ?_
  refine li rfl (opVal (.int .u64 ((n : Nat) : Int)) rfl (by kernel_rfl) (rMove rfl rfl) ?_)
  refine li rfl (opVal (.bool (decide (((n : Nat) : Int) > 3072))) rfl (by kernel_rfl) (rClosed fun _ => by kernel_rfl) ?_)
  refine li rfl (opVal (.bool (decide (((n : Nat) : Int) > 3072))) rfl (by kernel_rfl) (rMove rfl rfl) ?_)
  refine St.known 17 (b' := true) rfl (by simp; omega) ?_
  refine liNot (b := true) rfl rfl (by kernel_rfl) rfl ?_
  refine liNot (b := true) rfl rfl (by kernel_rfl) rfl ?_
  refine liNot (b := true) rfl rfl (by kernel_rfl) rfl ?_
  refine liNot (b := true) rfl rfl (by kernel_rfl) rfl ?_
  refine li rfl (opVal (.bool true) rfl (by kernel_rfl) (rClosed fun _ => by kernel_rfl) ?_)
  refine liNil ?_
  refine qThen ?_
  refine stTrue rfl ?_
  refine stSeq ?_
  refine reg ?_
  refine li rfl (opVal (.pointer none) rfl (by kernel_rfl) (rAssign rfl rfl) ?_)
  refine li rfl (opVal (.int .i64 3) rfl (by kernel_rfl) (rAssign rfl rfl) ?_)
  refine liNil ?_
  refine qThen ?_
  refine stRet ?_
  refine qThenR ?_
  refine stEnd [(.pointer none), (.int .i64 3)] rfl ⟨rfl, rfl, trivial⟩ (fun w hM => ?_)
  exact ⟨rfl, hM.fr⟩

set_option maxRecDepth 100000 in
set_option maxHeartbeats 1000000 in
theorem decode_size (A : Option Addr) (c : Nat) (D : List UInt8) (w : World) (hD : D.length ≤ 4294967296) (hrow : RowIn w A (B8 D)) (hn : decN D ≤ 3072) (hz0 : isSz (decN D : Int) = false) :
    Calls Tryd.prog 38 #[.slice A D.length c] w fun e w' => e = .returned (.tuple #[.pointer none, Value.int .i64 3]) ∧ Fr [] w w' := by
  have HR := Lib.hid hrow
  clear hrow
  obtain ⟨n, HN⟩ : ∃ n, Hid (n = decN D) := ⟨_, rfl⟩
  have hn' : n ≤ 3072 := by rw [HN.out]; exact hn
  have hz : isSz (n : Int) = false := by rw [HN.out]; exact hz0
  clear hn hz0
  refine stEnter (args := [.slice A D.length c]) [] Tryd.func38 rfl 69 rfl [(0, .slice A D.length c)] ⟨rfl, trivial⟩ [] (Mm.start w []) ?_
  refine stSeq ?_
  refine reg ?_
  refine li rfl (opVal (.pointer none) rfl (by kernel_rfl) (rAssign rfl rfl) ?_)
  refine li rfl (opVal (.int .i64 0) rfl (by kernel_rfl) (rAssign rfl rfl) ?_)
  refine liNil ?_
  refine qThen ?_
  refine stSeq ?_
  refine reg ?_
  refine li rfl (opVal (.slice A (D.length) (c)) rfl (by kernel_rfl) (rMove rfl rfl) ?_)
  refine li rfl ?_
  refine opCall 61 #[(.slice A (D.length) (c))] rfl (by kernel_rfl) (fun _ => by kernel_rfl) (fun w hM => ?_)
  refine (newReader_any A c D w hD (HR.out.fr0 hM.fr)).mono ?_
  rintro e w' ⟨br, A2, c2, rfl, hb, hf, hr, ho⟩
  have hM' := hM.pushRd hf hr hb ho
  refine ⟨_, _, rfl, hM', ?_⟩
  clear hM hM' hf hr hb ho
  refine li rfl (opVal (.pointer (some ⟨br, 0, none⟩)) rfl (by kernel_rfl) (rAssign rfl rfl) ?_)
  refine liNil ?_
  refine qThen ?_
  refine stSeq ?_
  refine reg ?_
  refine li rfl (opVal (.pointer (some ⟨br, 0, none⟩)) rfl (by kernel_rfl) (rMove rfl rfl) ?_)
  refine li rfl ?_
  refine opCall 62 #[(.pointer (some ⟨br, 0, none⟩))] rfl (by kernel_rfl) (fun _ => by kernel_rfl) (fun w hM => ?_)
  refine (by have h := rUint br (rd0 D) w (hM.at (i := 0) rfl) (rd0_ok hD); rw [show (rd0 D).uint.1 = n from HN.out.symm] at h; exact h : Calls _ _ _ w fun e w' => e = .returned (.int .u64 ((n : Nat) : Int)) ∧ Fr [br] w w' ∧ RdAt (A2, c2) w' br ((rd0 D).uint.2)).mono ?_
  rintro e w' ⟨rfl, hf, hr⟩
  have hM' := hM.swapRd 0 rfl hf hr
  refine ⟨_, _, rfl, hM', ?_⟩
  clear hM hM' hf hr
  refine li rfl (opVal (.int .u64 ((n : Nat) : Int)) rfl (by kernel_rfl) (rAssign rfl rfl) ?_)
  refine liNil ?_
  refine qThen ?_
  refine stSeq ?_
  refine stSeq ?_
  refine reg ?_
  refine li rfl (opVal (.int .u64 ((n : Nat) : Int)) rfl (by kernel_rfl) (rMove rfl rfl) ?_)
  refine li rfl (opVal (.bool (decide (((n : Nat) : Int) > 3072))) rfl (by kernel_rfl) (rClosed fun _ => by kernel_rfl) ?_)
  refine li rfl (opVal (.bool (decide (((n : Nat) : Int) > 3072))) rfl (by kernel_rfl) (rMove rfl rfl) ?_)
  refine St.known 17 (b' := false) rfl (by simp; omega) ?_
  refine liGo rfl rfl (opVal (.int .u64 ((n : Nat) : Int)) rfl (by kernel_rfl) (rMove rfl rfl) ?_)
  refine liGo rfl rfl (opVal (.int .i64 ((n : Nat) : Int)) rfl (by kernel_rfl) (rIntC _ (fun _ => by kernel_rfl) rfl rfl (wrap_nat n (by omega))) ?_)
  refine liGo rfl rfl ?_
  refine opCall 39 #[(.int .i64 ((n : Nat) : Int))] rfl (by kernel_rfl) (fun _ => by kernel_rfl) (fun w hM => ?_)
  refine ((by rw [← hz]; exact isSize_any (n : Int) w : Calls _ _ _ w fun e w' => e = .returned (.bool false) ∧ w = w')).mono ?_
  rintro e w' ⟨rfl, rfl⟩
  refine ⟨(.bool false), _, rfl, hM, ?_⟩
  clear hM
  refine liGo rfl rfl (opVal (.bool true) rfl (by kernel_rfl) (rClosed fun _ => by kernel_rfl) ?_)
  refine li rfl (opVal (.bool true) rfl (by kernel_rfl) (rClosed fun _ => by kernel_rfl) ?_)
  refine liNil ?_
  refine qThen ?_
  refine stTrue rfl ?_
  refine stSeq ?_
  refine reg ?_
  refine li rfl (opVal (.pointer none) rfl (by kernel_rfl) (rAssign rfl rfl) ?_)
  refine li rfl (opVal (.int .i64 3) rfl (by kernel_rfl) (rAssign rfl rfl) ?_)
  refine liNil ?_
  refine qThen ?_
  refine stRet ?_
  refine qThenR ?_
  refine stEnd [(.pointer none), (.int .i64 3)] rfl ⟨rfl, rfl, trivial⟩ (fun w hM => ?_)
  exact ⟨rfl, hM.fr⟩

set_option maxRecDepth 100000 in
set_option maxHeartbeats 1000000 in
theorem decode_ok (A : Option Addr) (c : Nat) (D : List UInt8) (w : World) (hD : D.length ≤ 4294967296) (hrow : RowIn w A (B8 D)) (hz0 : isSz (decN D : Int) = true) :
    Calls Tryd.prog 38 #[.slice A D.length c] w fun e w' => if (decEnd D).end_ = 0 then ∃ bt bc cap rest, e = .returned (.tuple #[Value.pointer (some ⟨bt, 0, none⟩), Value.int .i64 0]) ∧ Mm w [] [cTab bt bc cap rest (decT D)] w' else e = .returned (.tuple #[.pointer none, Value.int .i64 3]) ∧ Fr [] w w' := by
  have HR := Lib.hid hrow
  clear hrow
  obtain ⟨n, HN⟩ : ∃ n, Hid (n = decN D) := ⟨_, rfl⟩
  have hz : isSz (n : Int) = true := by rw [HN.out]; exact hz0
  have hn' : n ≤ 3072 := (isSz_bounds hz).2.1
  clear hz0
  obtain ⟨seed, HS⟩ : ∃ s, Hid (s = (rd0 D).uint.2.uint.1) := ⟨_, rfl⟩
  obtain ⟨r2, HR2⟩ : ∃ r, Hid (r = (rd0 D).uint.2.uint.2) := ⟨_, rfl⟩
  have HOK : Hid r2.Ok := by show r2.Ok; rw [HR2.out]; exact (rd0_ok hD).uint'.uint'
  refine stEnter (args := [.slice A D.length c]) [] Tryd.func38 rfl 69 rfl [(0, .slice A D.length c)] ⟨rfl, trivial⟩ [] (Mm.start w []) ?_
  refine stSeq ?_
  refine reg ?_
  refine li rfl (opVal (.pointer none) rfl (by kernel_rfl) (rAssign rfl rfl) ?_)
  refine li rfl (opVal (.int .i64 0) rfl (by kernel_rfl) (rAssign rfl rfl) ?_)
  refine liNil ?_
  refine qThen ?_
  refine stSeq ?_
  refine reg ?_
  refine li rfl (opVal (.slice A (D.length) (c)) rfl (by kernel_rfl) (rMove rfl rfl) ?_)
  refine li rfl ?_
  refine opCall 61 #[(.slice A (D.length) (c))] rfl (by kernel_rfl) (fun _ => by kernel_rfl) (fun w hM => ?_)
  refine (newReader_any A c D w hD (HR.out.fr0 hM.fr)).mono ?_
  rintro e w' ⟨br, A2, c2, rfl, hb, hf, hr, ho⟩
  have hM' := hM.pushRd hf hr hb ho
  refine ⟨_, _, rfl, hM', ?_⟩
  clear hM hM' hf hr hb ho
  refine li rfl (opVal (.pointer (some ⟨br, 0, none⟩)) rfl (by kernel_rfl) (rAssign rfl rfl) ?_)
  refine liNil ?_
  refine qThen ?_
  refine stSeq ?_
  refine reg ?_
  refine li rfl (opVal (.pointer (some ⟨br, 0, none⟩)) rfl (by kernel_rfl) (rMove rfl rfl) ?_)
  refine li rfl ?_
  refine opCall 62 #[(.pointer (some ⟨br, 0, none⟩))] rfl (by kernel_rfl) (fun _ => by kernel_rfl) (fun w hM => ?_)
  refine (by have h := rUint br (rd0 D) w (hM.at (i := 0) rfl) (rd0_ok hD); rw [show (rd0 D).uint.1 = n from HN.out.symm] at h; exact h : Calls _ _ _ w fun e w' => e = .returned (.int .u64 ((n : Nat) : Int)) ∧ Fr [br] w w' ∧ RdAt (A2, c2) w' br ((rd0 D).uint.2)).mono ?_
  rintro e w' ⟨rfl, hf, hr⟩
  have hM' := hM.swapRd 0 rfl hf hr
  refine ⟨_, _, rfl, hM', ?_⟩
  clear hM hM' hf hr
  refine li rfl (opVal (.int .u64 ((n : Nat) : Int)) rfl (by kernel_rfl) (rAssign rfl rfl) ?_)
  refine liNil ?_
  refine qThen ?_
  refine stSeq ?_
  refine stSeq ?_
  refine reg ?_
  refine li rfl (opVal (.int .u64 ((n : Nat) : Int)) rfl (by kernel_rfl) (rMove rfl rfl) ?_)
  refine li rfl (opVal (.bool (decide (((n : Nat) : Int) > 3072))) rfl (by kernel_rfl) (rClosed fun _ => by kernel_rfl) ?_)
  refine li rfl (opVal (.bool (decide (((n : Nat) : Int) > 3072))) rfl (by kernel_rfl) (rMove rfl rfl) ?_)
  refine St.known 17 (b' := false) rfl (by simp; omega) ?_
  refine liGo rfl rfl (opVal (.int .u64 ((n : Nat) : Int)) rfl (by kernel_rfl) (rMove rfl rfl) ?_)
  refine liGo rfl rfl (opVal (.int .i64 ((n : Nat) : Int)) rfl (by kernel_rfl) (rIntC _ (fun _ => by kernel_rfl) rfl rfl (wrap_nat n (by omega))) ?_)
  refine liGo rfl rfl ?_
  refine opCall 39 #[(.int .i64 ((n : Nat) : Int))] rfl (by kernel_rfl) (fun _ => by kernel_rfl) (fun w hM => ?_)
  refine ((by rw [← hz]; exact isSize_any (n : Int) w : Calls _ _ _ w fun e w' => e = .returned (.bool true) ∧ w = w')).mono ?_
  rintro e w' ⟨rfl, rfl⟩
  refine ⟨(.bool true), _, rfl, hM, ?_⟩
  clear hM
  refine liGo rfl rfl (opVal (.bool false) rfl (by kernel_rfl) (rClosed fun _ => by kernel_rfl) ?_)
  refine li rfl (opVal (.bool false) rfl (by kernel_rfl) (rClosed fun _ => by kernel_rfl) ?_)
  refine liNil ?_
  refine qThen ?_
  refine stFalse rfl ?_
  refine stSkip ?_
  refine qThen ?_
  refine stCut (ι := Nat × Nat) (fun _ => True) (fun (bc, b28) => [(0, (.slice A (D.length) (c))), (2, (.pointer none)), (3, (.int .i64 0)), (11, (.slice A (D.length) (c))), (12, (.pointer (some ⟨br, 0, none⟩))), (4, (.pointer (some ⟨br, 0, none⟩))), (13, (.pointer (some ⟨br, 0, none⟩))), (14, (.int .u64 ((n : Nat) : Int))), (5, (.int .u64 ((n : Nat) : Int))), (15, (.int .u64 ((n : Nat) : Int))), (16, (.bool (decide (((n : Nat) : Int) > 3072)))), (17, (.bool false)), (18, (.int .u64 ((n : Nat) : Int))), (19, (.int .i64 ((n : Nat) : Int))), (20, (.bool true)), (21, (.bool false)), (22, (.bool false)), (23, (.int .u64 ((n : Nat) : Int))), (25, (.pointer (some ⟨br, 0, none⟩))), (24, (.slice (some ⟨bc, 0, none⟩) (n) (n))), (26, (.int .u64 ((seed : Nat) : Int))), (27, (.agg #[(.slice (some ⟨bc, 0, none⟩) (n) (n)), (.int .u64 ((seed : Nat) : Int))])), (28, (.pointer (some ⟨b28, 0, none⟩))), (6, (.pointer (some ⟨b28, 0, none⟩)))]) (fun (bc, b28) => [cRd br (A2, c2) (r2), cAt bc 85 (tcells (List.replicate n BC.zero)), cAt b28 75 [(.slice (some ⟨bc, 0, none⟩) (n) (n)), (.int .u64 ((seed : Nat) : Int))]]) ?_ ?_
  · refine anyBegin [] 7 (by kernel_rfl) (fun _ h => h.sub (.cons _ .slnil)) ?_
    refine anyVal (i := 0) (.int .u64 ((n : Nat) : Int)) rfl rfl rfl (by kernel_rfl) (by kernel_rfl) (fun _ _ _ h => h) (rMove rfl rfl) ?_
    refine anyVal (i := 2) (.pointer (some ⟨br, 0, none⟩)) rfl rfl rfl (by kernel_rfl) (by kernel_rfl) (fun _ _ _ h => h) (rMove rfl rfl) ?_
    refine anyTwo (i := 1) (j := 3) (by kernel_rfl) rfl rfl rfl rfl ?_ ?_
    · refine opMakeCells n (by omega) rfl rfl (by kernel_rfl) rfl rfl (fun bc => ?_)
      refine anyNext [cAt bc 85 (tcells (List.replicate n BC.zero))] (fun _ h => h.sub (.cons _ .slnil)) (fun _ h => h.sub (.cons _ (.cons_cons _ .slnil))) ?_
      refine anyOne (i := 3) (by kernel_rfl) rfl rfl ?_
      refine opCall 62 #[(.pointer (some ⟨br, 0, none⟩))] rfl (by kernel_rfl) (fun _ => by kernel_rfl) (fun w hM => ?_)
      refine (by have h := rUint br ((rd0 D).uint.2) w (hM.at (i := 0) rfl) ((rd0_ok hD).uint'); rw [show (rd0 D).uint.2.uint.1 = seed from HS.out.symm, show (rd0 D).uint.2.uint.2 = r2 from HR2.out.symm] at h; exact h : Calls _ _ _ w fun e w' => e = .returned (.int .u64 ((seed : Nat) : Int)) ∧ Fr [br] w w' ∧ RdAt (A2, c2) w' br (r2)).mono ?_
      rintro e w' ⟨rfl, hf, hr⟩
      have hM' := hM.swapRd 0 rfl hf hr
      refine ⟨_, _, rfl, hM', ?_⟩
      clear hM hM' hf hr
      refine anyNext [cAt bc 85 (tcells (List.replicate n BC.zero))] (fun _ h => h) (fun _ h => h.sub (.cons _ (.cons_cons _ .slnil))) ?_
      refine anyVal (i := 4) (.agg #[(.slice (some ⟨bc, 0, none⟩) (n) (n)), (.int .u64 ((seed : Nat) : Int))]) rfl rfl rfl (by kernel_rfl) (by kernel_rfl) (fun _ _ _ h => h) (rClosed fun _ => by kernel_rfl) ?_
      refine anyOne (i := 5) (by kernel_rfl) rfl rfl ?_
      refine opBox [(.slice (some ⟨bc, 0, none⟩) (n) (n)), (.int .u64 ((seed : Nat) : Int))] rfl rfl (by kernel_rfl) rfl rfl (fun b28 => ?_)
      refine anyNext [cAt bc 85 (tcells (List.replicate n BC.zero)), cAt b28 75 [(.slice (some ⟨bc, 0, none⟩) (n) (n)), (.int .u64 ((seed : Nat) : Int))]] (fun _ h => h.sub (.cons_cons _ (.cons _ .slnil))) (fun _ h => h.sub (.cons _ (.cons_cons _ (.cons_cons _ .slnil)))) ?_
      refine anyVal (i := 6) (.pointer (some ⟨b28, 0, none⟩)) rfl rfl rfl (by kernel_rfl) (by kernel_rfl) (fun _ _ _ h => h) (rAssign rfl rfl) ?_
      refine anyDone (by kernel_rfl) ?_
      refine qThen ?_
      exact stMeet (bc, b28) trivial ⟨rfl, rfl, rfl, rfl, rfl, rfl, rfl, rfl, rfl, rfl, rfl, rfl, rfl, rfl, rfl, rfl, rfl, rfl, rfl, rfl, rfl, rfl, rfl, rfl, trivial⟩ (fun _ h => h)
    · refine opCall 62 #[(.pointer (some ⟨br, 0, none⟩))] rfl (by kernel_rfl) (fun _ => by kernel_rfl) (fun w hM => ?_)
      refine (by have h := rUint br ((rd0 D).uint.2) w (hM.at (i := 0) rfl) ((rd0_ok hD).uint'); rw [show (rd0 D).uint.2.uint.1 = seed from HS.out.symm, show (rd0 D).uint.2.uint.2 = r2 from HR2.out.symm] at h; exact h : Calls _ _ _ w fun e w' => e = .returned (.int .u64 ((seed : Nat) : Int)) ∧ Fr [br] w w' ∧ RdAt (A2, c2) w' br (r2)).mono ?_
      rintro e w' ⟨rfl, hf, hr⟩
      have hM' := hM.swapRd 0 rfl hf hr
      refine ⟨_, _, rfl, hM', ?_⟩
      clear hM hM' hf hr
      refine anyNext [] (fun _ h => h) (fun _ h => h.sub (.cons _ .slnil)) ?_
      refine anyOne (i := 1) (by kernel_rfl) rfl rfl ?_
      refine opMakeCells n (by omega) rfl rfl (by kernel_rfl) rfl rfl (fun bc => ?_)
      refine anyNext [cAt bc 85 (tcells (List.replicate n BC.zero))] (fun _ h => h.sub (.cons _ .slnil)) (fun _ h => h.sub (.cons _ (.cons_cons _ .slnil))) ?_
      refine anyVal (i := 4) (.agg #[(.slice (some ⟨bc, 0, none⟩) (n) (n)), (.int .u64 ((seed : Nat) : Int))]) rfl rfl rfl (by kernel_rfl) (by kernel_rfl) (fun _ _ _ h => h) (rClosed fun _ => by kernel_rfl) ?_
      refine anyOne (i := 5) (by kernel_rfl) rfl rfl ?_
      refine opBox [(.slice (some ⟨bc, 0, none⟩) (n) (n)), (.int .u64 ((seed : Nat) : Int))] rfl rfl (by kernel_rfl) rfl rfl (fun b28 => ?_)
      refine anyNext [cAt bc 85 (tcells (List.replicate n BC.zero)), cAt b28 75 [(.slice (some ⟨bc, 0, none⟩) (n) (n)), (.int .u64 ((seed : Nat) : Int))]] (fun _ h => h.sub (.cons_cons _ (.cons _ .slnil))) (fun _ h => h.sub (.cons _ (.cons_cons _ (.cons_cons _ .slnil)))) ?_
      refine anyVal (i := 6) (.pointer (some ⟨b28, 0, none⟩)) rfl rfl rfl (by kernel_rfl) (by kernel_rfl) (fun _ _ _ h => h) (rAssign rfl rfl) ?_
      refine anyDone (by kernel_rfl) ?_
      refine qThen ?_
      exact stMeet (bc, b28) trivial ⟨rfl, rfl, rfl, rfl, rfl, rfl, rfl, rfl, rfl, rfl, rfl, rfl, rfl, rfl, rfl, rfl, rfl, rfl, rfl, rfl, rfl, rfl, rfl, rfl, trivial⟩ (fun _ h => h)
  · rintro ⟨bc, b28⟩ -
    show St _ _ _ [(0, (.slice A (D.length) (c))), (2, (.pointer none)), (3, (.int .i64 0)), (11, (.slice A (D.length) (c))), (12, (.pointer (some ⟨br, 0, none⟩))), (4, (.pointer (some ⟨br, 0, none⟩))), (13, (.pointer (some ⟨br, 0, none⟩))), (14, (.int .u64 ((n : Nat) : Int))), (5, (.int .u64 ((n : Nat) : Int))), (15, (.int .u64 ((n : Nat) : Int))), (16, (.bool (decide (((n : Nat) : Int) > 3072)))), (17, (.bool false)), (18, (.int .u64 ((n : Nat) : Int))), (19, (.int .i64 ((n : Nat) : Int))), (20, (.bool true)), (21, (.bool false)), (22, (.bool false)), (23, (.int .u64 ((n : Nat) : Int))), (25, (.pointer (some ⟨br, 0, none⟩))), (24, (.slice (some ⟨bc, 0, none⟩) (n) (n))), (26, (.int .u64 ((seed : Nat) : Int))), (27, (.agg #[(.slice (some ⟨bc, 0, none⟩) (n) (n)), (.int .u64 ((seed : Nat) : Int))])), (28, (.pointer (some ⟨b28, 0, none⟩))), (6, (.pointer (some ⟨b28, 0, none⟩)))] [cRd br (A2, c2) (r2), cAt bc 85 (tcells (List.replicate n BC.zero)), cAt b28 75 [(.slice (some ⟨bc, 0, none⟩) (n) (n)), (.int .u64 ((seed : Nat) : Int))]] _
    refine stSeq ?_
    refine stSeq ?_
    refine St.mem (cs' := [cRd br (A2, c2) (r2), cAt bc 85 (tcells (fillTo r2 n 0)), cAt b28 75 [(.slice (some ⟨bc, 0, none⟩) (n) (n)), (.int .u64 ((seed : Nat) : Int))]]) (fun w hM => by rw [fillTo_zero]; exact hM) ?_
    refine reg ?_
    refine li rfl (opVal (.pointer (some ⟨b28, 0, none⟩)) rfl (by kernel_rfl) (rMove rfl rfl) ?_)
    refine li rfl (opVal (.pointer (some ⟨b28, 0, none⟩)) rfl (by kernel_rfl) (rClosed fun _ => by kernel_rfl) ?_)
    refine li rfl (opVal (.pointer (some ⟨b28, 0, none⟩)) rfl (by kernel_rfl) (rClosed fun _ => by kernel_rfl) ?_)
    refine li rfl (opVal (.slice (some ⟨bc, 0, none⟩) (n) (n)) rfl (by kernel_rfl) (rLoad 2 rfl rfl (by kernel_rfl) rfl rfl) ?_)
    refine li rfl (opVal (.int .i64 ((n : Nat) : Int)) rfl (by kernel_rfl) (rClosed fun _ => by kernel_rfl) ?_)
    refine li rfl (opVal (.int .i64 0) rfl (by kernel_rfl) (rMove rfl rfl) ?_)
    refine liNil ?_
    refine qThen ?_
    refine stBlock ?_
    refine stLoop (ι := Nat) (fun i => i ≤ n) (fun i => n - i) (fun i => [(4, (.pointer (some ⟨br, 0, none⟩))), (6, (.pointer (some ⟨b28, 0, none⟩))), (33, (.int .i64 ((n : Nat) : Int))), (34, (.int .i64 ((i : Nat) : Int)))]) (fun i => [cRd br (A2, c2) (rdTo r2 i), cAt bc 85 (tcells (fillTo r2 n i)), cAt b28 75 [(.slice (some ⟨bc, 0, none⟩) (n) (n)), (.int .u64 ((seed : Nat) : Int))]]) 0 (Nat.zero_le _) ⟨rfl, rfl, rfl, rfl, trivial⟩ (fun _ h => h) ?_
    intro i (hi : i ≤ n)
    show St _ _ _ [(4, (.pointer (some ⟨br, 0, none⟩))), (6, (.pointer (some ⟨b28, 0, none⟩))), (33, (.int .i64 ((n : Nat) : Int))), (34, (.int .i64 ((i : Nat) : Int)))] [cRd br (A2, c2) (rdTo r2 i), cAt bc 85 (tcells (fillTo r2 n i)), cAt b28 75 [(.slice (some ⟨bc, 0, none⟩) (n) (n)), (.int .u64 ((seed : Nat) : Int))]] _
    refine stSeq ?_
    refine reg ?_
    refine li rfl (opVal (.bool (decide (((i : Nat) : Int) < ((n : Nat) : Int)))) rfl (by kernel_rfl) (rClosed fun _ => by kernel_rfl) ?_)
    refine liNil ?_
    refine qThen ?_
    refine stSeq ?_
    refine stCond rfl (fun hc35 => ?_) (fun hc35 => ?_)
    · have hd35 := of_decide_eq_true hc35
      have hlt : i < n := by omega
      obtain ⟨r, HRI⟩ : ∃ r, Hid (r = rdTo r2 i) := ⟨_, rfl⟩
      have hrok : r.Ok := by rw [HRI.out]; exact rdTo_ok HOK.out i
      obtain ⟨cl, HCL⟩ : ∃ cl, Hid (cl = fillTo r2 n i) := ⟨_, rfl⟩
      have hcll : cl.length = n := by rw [HCL.out, fillTo_len hi]
      have hok : Ok34 cl := by rw [HCL.out]; exact fillTo_ok _ _ _
      have hci : cl[i]? = some BC.zero := by rw [HCL.out]; exact fillTo_at hlt
      have HSU : Hid (fillTo r2 n (i + 1) = cl.set i r.cell.1) := by show _ = _; rw [HCL.out, HRI.out, fillTo_succ hlt]
      have HRS : Hid (rdTo r2 (i + 1) = r.cell.2) := by show _ = _; rw [HRI.out]; rfl
      have hlen : (tcells cl).length = n * 34 := by rw [tcells_len hok, hcll]
      rw [← HCL.out, ← HRI.out]
      refine stSkip ?_
      refine qThen ?_
      refine stSeq ?_
      refine stBlock ?_
      refine stSeq ?_
      refine reg ?_
      refine li rfl (opVal (.int .i64 ((i : Nat) : Int)) rfl (by kernel_rfl) (rMove rfl rfl) ?_)
      refine li rfl (opVal (.int .i64 ((i : Nat) : Int)) rfl (by kernel_rfl) (rAssign rfl rfl) ?_)
      refine liNil ?_
      refine qThen ?_
      refine stSeq ?_
      refine reg ?_
      refine li rfl (opVal (.pointer (some ⟨b28, 0, none⟩)) rfl (by kernel_rfl) (rMove rfl rfl) ?_)
      refine li rfl (opVal (.pointer (some ⟨b28, 0, none⟩)) rfl (by kernel_rfl) (rClosed fun _ => by kernel_rfl) ?_)
      refine li rfl (opVal (.pointer (some ⟨b28, 0, none⟩)) rfl (by kernel_rfl) (rClosed fun _ => by kernel_rfl) ?_)
      refine li rfl (opVal (.slice (some ⟨bc, 0, none⟩) (n) (n)) rfl (by kernel_rfl) (rLoad 2 rfl rfl (by kernel_rfl) rfl rfl) ?_)
      refine li rfl (opVal (.int .i64 ((i : Nat) : Int)) rfl (by kernel_rfl) (rMove rfl rfl) ?_)
      refine li rfl (opVal (.pointer (some ⟨bc, 0 + i * 34, none⟩)) rfl (by kernel_rfl) (rIndexAddr (e := 85) (sz := 34) rfl (by kernel_rfl) (by kernel_rfl) rfl rfl (by omega)) ?_)
      refine li rfl (opVal (.pointer (some ⟨bc, 0 + i * 34, none⟩)) rfl (by kernel_rfl) (rAssign rfl rfl) ?_)
      refine liNil ?_
      refine qThen ?_
      refine stSeq ?_
      refine reg ?_
      refine li rfl (opVal (.pointer (some ⟨bc, 0 + i * 34, none⟩)) rfl (by kernel_rfl) (rMove rfl rfl) ?_)
      refine li rfl (opVal (.pointer (some ⟨br, 0, none⟩)) rfl (by kernel_rfl) (rMove rfl rfl) ?_)
      refine li rfl ?_
      refine opCall 63 #[(.pointer (some ⟨br, 0, none⟩))] rfl (by kernel_rfl) (fun _ => by kernel_rfl) (fun w hM => ?_)
      refine (by have h := rInt br (r) w (hM.at (i := 0) rfl) (hrok); skip; exact h : Calls _ _ _ w fun e w' => e = .returned (.int .i64 r.int.1) ∧ Fr [br] w w' ∧ RdAt (A2, c2) w' br (r.int.2)).mono ?_
      rintro e w' ⟨rfl, hf, hr⟩
      have hM' := hM.swapRd 0 rfl hf hr
      refine ⟨_, _, rfl, hM', ?_⟩
      clear hM hM' hf hr
      refine li rfl (opVal (.pointer (some ⟨bc, 0 + i * 34, none⟩)) rfl (by kernel_rfl) (rClosed fun _ => by kernel_rfl) ?_)
      refine li rfl (opVal (.pointer (some ⟨bc, 0 + i * 34, none⟩)) rfl (by kernel_rfl) (rClosed fun _ => by kernel_rfl) ?_)
      refine li rfl ?_
      refine opStore1 1 rfl rfl (by kernel_rfl) rfl rfl rfl (by kernel_rfl) rfl (by rw [hlen]; omega) ?_
      refine liNil ?_
      refine qThen ?_
      refine stSeq ?_
      have hc1ok : (⟨r.int.1, List.replicate 32 0, 0⟩ : BC).Ok := ⟨r.int_fit, by simp, by show 0 < 18446744073709551616; decide⟩
      have hok1 : Ok34 (cl.set i (⟨r.int.1, List.replicate 32 0, 0⟩ : BC)) := hok.set i hc1ok
      have hci1 : (cl.set i (⟨r.int.1, List.replicate 32 0, 0⟩ : BC))[i]? = some (⟨r.int.1, List.replicate 32 0, 0⟩ : BC) := List.getElem?_set_self (by omega)
      have hlen1 : (tcells (cl.set i (⟨r.int.1, List.replicate 32 0, 0⟩ : BC))).length = n * 34 := by rw [tcells_len hok1, List.length_set, hcll]
      refine St.mem (cs' := [cRd br (A2, c2) (r.int.2), cAt bc 85 (tcells (cl.set i (⟨r.int.1, List.replicate 32 0, 0⟩ : BC))), cAt b28 75 [(.slice (some ⟨bc, 0, none⟩) (n) (n)), (.int .u64 ((seed : Nat) : Int))]]) (fun w hM => by have e := tcells_set hok [] i BC.zero hci 0 (by omega) (Value.int .i64 r.int.1) (⟨r.int.1, List.replicate 32 0, 0⟩ : BC) (cells_set0 BC.zero _); rw [List.append_nil, List.append_nil] at e; rw [← e]; rw [Nat.zero_add] at hM; exact hM) ?_
      refine anyBegin [cAt bc 85 (tcells (cl.set i (⟨r.int.1, List.replicate 32 0, 0⟩ : BC))), cAt b28 75 [(.slice (some ⟨bc, 0, none⟩) (n) (n)), (.int .u64 ((seed : Nat) : Int))]] 6 (by kernel_rfl) (fun _ h => h.sub (.cons _ (.cons_cons _ (.cons_cons _ .slnil)))) ?_
      refine anyVal (i := 0) (.pointer (some ⟨bc, 0 + i * 34, none⟩)) rfl rfl rfl (by kernel_rfl) (by kernel_rfl) (fun _ _ _ h => h) (rMove rfl rfl) ?_
      refine anyVal (i := 1) (.pointer (some ⟨bc, 0 + i * 34, none⟩)) rfl rfl rfl (by kernel_rfl) (by kernel_rfl) (fun _ _ _ h => h) (rClosed fun _ => by kernel_rfl) ?_
      refine anyVal (i := 2) (.pointer (some ⟨bc, 0 + i * 34 + 1, none⟩)) rfl rfl rfl (by kernel_rfl) (by kernel_rfl) (fun _ _ _ h => h) (rClosed fun _ => by kernel_rfl) ?_
      refine anyVal (i := 3) (.slice (some ⟨bc, 0 + i * 34 + 1, none⟩) (32) (32)) rfl rfl rfl (by kernel_rfl) (by kernel_rfl) (fun _ _ _ h => h) (rClosed fun _ => by kernel_rfl) ?_
      refine anyVal (i := 4) (.pointer (some ⟨br, 0, none⟩)) rfl rfl rfl (by kernel_rfl) (by kernel_rfl) (fun _ _ _ h => h) (rMove rfl rfl) ?_
      refine anyOne (i := 5) (by kernel_rfl) rfl rfl ?_
      refine opCall 64 #[(.pointer (some ⟨br, 0, none⟩))] rfl (by kernel_rfl) (fun _ => by kernel_rfl) (fun w hM => ?_)
      refine (by have h := rSum br (r.int.2) w (hM.at (i := 0) rfl) (hrok.int); skip; exact h : Calls _ _ _ w fun e w' => e = .returned (.string (strOf r.int.2.sum.1)) ∧ Fr [br] w w' ∧ RdAt (A2, c2) w' br (r.int.2.sum.2)).mono ?_
      rintro e w' ⟨rfl, hf, hr⟩
      have hM' := hM.swapRd 0 rfl hf hr
      refine ⟨_, _, rfl, hM', ?_⟩
      clear hM hM' hf hr
      refine anyNext [cAt bc 85 (tcells (cl.set i (⟨r.int.1, List.replicate 32 0, 0⟩ : BC))), cAt b28 75 [(.slice (some ⟨bc, 0, none⟩) (n) (n)), (.int .u64 ((seed : Nat) : Int))]] (fun _ h => h) (fun _ h => h.sub (.cons _ (.cons_cons _ (.cons_cons _ .slnil)))) ?_
      refine anyOne (i := 6) (by kernel_rfl) rfl rfl ?_
      refine opCopyStr (elem := 5) (bs := r.int.2.sum.1) 1 (tcells (cl.set i (⟨r.int.1, padK r.int.2.sum.1, 0⟩ : BC))) rfl rfl (by kernel_rfl) (by kernel_rfl) (by kernel_rfl) rfl rfl rfl (Rd.sum_len _) (by rw [hlen1]; have := Rd.sum_len r.int.2; omega) (by rw [Nat.zero_add, tcells_key hok1 hci1 (Rd.sum_len _), List.set_set, padK_rep]) ?_
      refine anyLast (by kernel_rfl) rfl ?_
      refine qThen ?_
      have hc2ok : (⟨r.int.1, padK r.int.2.sum.1, 0⟩ : BC).Ok := ⟨r.int_fit, padK_len (Rd.sum_len _), by show 0 < 18446744073709551616; decide⟩
      have hok2 : Ok34 (cl.set i (⟨r.int.1, padK r.int.2.sum.1, 0⟩ : BC)) := hok.set i hc2ok
      have hci2 : (cl.set i (⟨r.int.1, padK r.int.2.sum.1, 0⟩ : BC))[i]? = some (⟨r.int.1, padK r.int.2.sum.1, 0⟩ : BC) := List.getElem?_set_self (by omega)
      have hlen2 : (tcells (cl.set i (⟨r.int.1, padK r.int.2.sum.1, 0⟩ : BC))).length = n * 34 := by rw [tcells_len hok2, List.length_set, hcll]
      refine reg ?_
      refine li rfl (opVal (.pointer (some ⟨bc, 0 + i * 34, none⟩)) rfl (by kernel_rfl) (rMove rfl rfl) ?_)
      refine li rfl (opVal (.pointer (some ⟨br, 0, none⟩)) rfl (by kernel_rfl) (rMove rfl rfl) ?_)
      refine li rfl ?_
      refine opCall 62 #[(.pointer (some ⟨br, 0, none⟩))] rfl (by kernel_rfl) (fun _ => by kernel_rfl) (fun w hM => ?_)
      refine (by have h := rUint br (r.int.2.sum.2) w (hM.at (i := 0) rfl) (hrok.int.sum); skip; exact h : Calls _ _ _ w fun e w' => e = .returned (.int .u64 ((r.int.2.sum.2.uint.1 : Nat) : Int)) ∧ Fr [br] w w' ∧ RdAt (A2, c2) w' br (r.cell.2)).mono ?_
      rintro e w' ⟨rfl, hf, hr⟩
      have hM' := hM.swapRd 0 rfl hf hr
      refine ⟨_, _, rfl, hM', ?_⟩
      clear hM hM' hf hr
      refine li rfl (opVal (.pointer (some ⟨bc, 0 + i * 34, none⟩)) rfl (by kernel_rfl) (rClosed fun _ => by kernel_rfl) ?_)
      refine li rfl (opVal (.pointer (some ⟨bc, 0 + i * 34 + 33, none⟩)) rfl (by kernel_rfl) (rClosed fun _ => by kernel_rfl) ?_)
      refine li rfl ?_
      refine opStore1 1 rfl rfl (by kernel_rfl) rfl rfl rfl (by kernel_rfl) rfl (by rw [hlen2]; omega) ?_
      refine liNil ?_
      refine qBlock ?_
      refine qThen ?_
      refine St.mem (cs' := [cRd br (A2, c2) (rdTo r2 (i + 1)), cAt bc 85 (tcells (fillTo r2 n (i + 1))), cAt b28 75 [(.slice (some ⟨bc, 0, none⟩) (n) (n)), (.int .u64 ((seed : Nat) : Int))]]) (fun w hM => by have e := tcells_set hok2 [] i (⟨r.int.1, padK r.int.2.sum.1, 0⟩ : BC) hci2 33 (by omega) (.int .u64 ((r.int.2.sum.2.uint.1 : Nat) : Int)) r.cell.1 (cells_set33 (c := (⟨r.int.1, padK r.int.2.sum.1, 0⟩ : BC)) hc2ok.keys _); rw [List.append_nil, List.append_nil, List.set_set] at e; rw [HSU.out, HRS.out, ← e]; rw [Nat.zero_add] at hM; exact hM) ?_
      refine reg ?_
      refine li rfl (opVal (.int .i64 ((i + 1 : Nat) : Int)) rfl (by kernel_rfl) (rAdd _ rfl rfl rfl (by omega) (by omega) (by omega)) ?_)
      refine li rfl (opVal (.int .i64 ((i + 1 : Nat) : Int)) rfl (by kernel_rfl) (rMove rfl rfl) ?_)
      refine liNil ?_
      refine qThen ?_
      exact stAgain (i + 1) (by show _ ≤ _; omega) (by show n - (i + 1) < n - i; omega) ⟨rfl, rfl, rfl, rfl, trivial⟩ (fun _ h => h)
    · have hd35 := of_decide_eq_false hc35
      obtain rfl : n = i := by omega
      refine stExit ?_
      refine qThenX ?_
      refine qThenX ?_
      refine qBlockX ?_
      refine qThen ?_
      refine stSeq ?_
      refine stSeq ?_
      refine reg ?_
      refine li rfl (opVal (.pointer (some ⟨br, 0, none⟩)) rfl (by kernel_rfl) (rMove rfl rfl) ?_)
      refine li rfl ?_
      refine opCall 65 #[(.pointer (some ⟨br, 0, none⟩))] rfl (by kernel_rfl) (fun _ => by kernel_rfl) (fun w hM => ?_)
      refine (rEnd br (rdTo r2 n) w (hM.at (i := 0) rfl) (rdTo_ok HOK.out n)).mono ?_
      rintro e w' ⟨rfl, hf⟩
      have hM' := hM.fr0 hf
      refine ⟨_, _, rfl, hM', ?_⟩
      clear hM hM' hf
      refine li rfl (opVal (.tuple #[(.int .i64 (((rdTo r2 n).off : Nat) : Int)), (.int .i64 (rdTo r2 n).end_)]) rfl (by kernel_rfl) (rMove rfl rfl) ?_)
      refine li rfl (opVal (.int .i64 (((rdTo r2 n).off : Nat) : Int)) rfl (by kernel_rfl) (rClosed fun _ => by kernel_rfl) ?_)
      refine li rfl (opVal (.int .i64 (rdTo r2 n).end_) rfl (by kernel_rfl) (rClosed fun _ => by kernel_rfl) ?_)
      refine li rfl (opVal (.int .i64 (((rdTo r2 n).off : Nat) : Int)) rfl (by kernel_rfl) (rAssign rfl rfl) ?_)
      refine li rfl (opVal (.int .i64 (rdTo r2 n).end_) rfl (by kernel_rfl) (rAssign rfl rfl) ?_)
      refine liNil ?_
      refine qThen ?_
      refine stSeq ?_
      refine reg ?_
      refine li rfl (opVal (.int .i64 (rdTo r2 n).end_) rfl (by kernel_rfl) (rMove rfl rfl) ?_)
      refine li rfl (opVal (.bool (((rdTo r2 n).end_ : Int) != 0)) rfl (by kernel_rfl) (rClosed fun _ => by kernel_rfl) ?_)
      refine liNil ?_
      refine qThen ?_
      refine stCond rfl (fun hc67 => ?_) (fun hc67 => ?_)
      · refine stSeq ?_
        refine reg ?_
        refine li rfl (opVal (.pointer none) rfl (by kernel_rfl) (rAssign rfl rfl) ?_)
        refine li rfl (opVal (.int .i64 3) rfl (by kernel_rfl) (rAssign rfl rfl) ?_)
        refine liNil ?_
        refine qThen ?_
        refine stRet ?_
        refine qThenR ?_
        refine stEnd [(.pointer none), (.int .i64 3)] rfl ⟨rfl, rfl, trivial⟩ (fun w hM => ?_)
        have hz0 : (rdTo r2 n).end_ ≠ 0 := by simpa using hc67
        have he0 : (decEnd D).end_ ≠ 0 := by unfold decEnd decR; rw [← HN.out, ← HR2.out]; exact hz0
        rw [if_neg he0]
        exact ⟨rfl, hM.fr⟩
      · refine stSkip ?_
        refine qThen ?_
        refine stSeq ?_
        refine reg ?_
        refine li rfl (opVal (.pointer (some ⟨b28, 0, none⟩)) rfl (by kernel_rfl) (rMove rfl rfl) ?_)
        refine li rfl (opVal (.pointer (some ⟨b28, 0, none⟩)) rfl (by kernel_rfl) (rAssign rfl rfl) ?_)
        refine li rfl (opVal (.int .i64 0) rfl (by kernel_rfl) (rAssign rfl rfl) ?_)
        refine liNil ?_
        refine qThen ?_
        refine stRet ?_
        refine stEnd [(.pointer (some ⟨b28, 0, none⟩)), (.int .i64 0)] rfl ⟨rfl, rfl, trivial⟩ (fun w hM => ?_)
        have hz0 : (rdTo r2 n).end_ = 0 := by simpa using hc67
        have he0 : (decEnd D).end_ = 0 := by unfold decEnd decR; rw [← HN.out, ← HR2.out]; exact hz0
        rw [if_pos he0]
        have hM2 := (fun (w : World) (h : Mm _ _ _ w) => Mm.perm h (.swap _ _ _)) w ((fun (w : World) (h : Mm _ _ _ w) => Mm.sub h (.cons _ (.cons_cons _ (.cons_cons _ .slnil)))) w hM)
        rw [← List.append_nil (tcells (fillTo r2 n n))] at hM2
        exact ⟨b28, bc, n, [], rfl, hM2.toTab (by rw [decT_len, HN.out]) (by exact HS.out.symm) (by rw [fillTo_all]; unfold decT decR; rw [← HN.out, ← HR2.out]) (decT_ok D) (by exact hz) (Nat.le_refl _)⟩

end Go.Proofs.YtnhagokkamobaaaDoor
