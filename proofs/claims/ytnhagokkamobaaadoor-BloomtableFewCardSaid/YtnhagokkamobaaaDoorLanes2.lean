/- The rounds of SHA-256 in lanes. No program in sight. -/
import Derived.Test.YtnhagokkamobaaaDoorLanes
namespace Go.Proofs.YtnhagokkamobaaaDoor
theorem run_lanes (n : Nat) (B : Nat → List UInt8) (s0 : S8) : ∀ (ks : List Nat) (t : Nat) (w0 w1 w2 w3 w4 w5 w6 w7 w8 w9 w10 w11 w12 w13 w14 w15 a b c d e f g h : Nat),
    ks = shaK.drop t → ks.length + t = 64 →
    Lan n w0 (fun i => wrd (B i) t) → Lan n w1 (fun i => wrd (B i) (t + 1)) → Lan n w2 (fun i => wrd (B i) (t + 2)) → Lan n w3 (fun i => wrd (B i) (t + 3)) → Lan n w4 (fun i => wrd (B i) (t + 4)) → Lan n w5 (fun i => wrd (B i) (t + 5)) → Lan n w6 (fun i => wrd (B i) (t + 6)) → Lan n w7 (fun i => wrd (B i) (t + 7)) →
    Lan n w8 (fun i => wrd (B i) (t + 8)) → Lan n w9 (fun i => wrd (B i) (t + 9)) → Lan n w10 (fun i => wrd (B i) (t + 10)) → Lan n w11 (fun i => wrd (B i) (t + 11)) → Lan n w12 (fun i => wrd (B i) (t + 12)) → Lan n w13 (fun i => wrd (B i) (t + 13)) → Lan n w14 (fun i => wrd (B i) (t + 14)) → Lan n w15 (fun i => wrd (B i) (t + 15)) →
    Lan n a (fun i => (rounds (schedTo (B i) 64) s0 t).a) → Lan n b (fun i => (rounds (schedTo (B i) 64) s0 t).b) → Lan n c (fun i => (rounds (schedTo (B i) 64) s0 t).c) → Lan n d (fun i => (rounds (schedTo (B i) 64) s0 t).d) →
    Lan n e (fun i => (rounds (schedTo (B i) 64) s0 t).e) → Lan n f (fun i => (rounds (schedTo (B i) 64) s0 t).f) → Lan n g (fun i => (rounds (schedTo (B i) 64) s0 t).g) → Lan n h (fun i => (rounds (schedTo (B i) 64) s0 t).h) →
    runL (pack n fun _ => 4294967295) (pack n fun _ => 1) ks w0 w1 w2 w3 w4 w5 w6 w7 w8 w9 w10 w11 w12 w13 w14 w15 a b c d e f g h
      = pack n fun i => 4294967296 * add32 0x6a09e667 (rounds (schedTo (B i) 64) s0 64).a + add32 0xbb67ae85 (rounds (schedTo (B i) 64) s0 64).b := by
  intro ks
  induction ks with
  | nil =>
    intro t w0 w1 w2 w3 w4 w5 w6 w7 w8 w9 w10 w11 w12 w13 w14 w15 a b c d e f g h _ ht _ _ _ _ _ _ _ _ _ _ _ _ _ _ _ _ ha hb _ _ _ _ _ _
    obtain rfl : t = 64 := by simpa using ht
    have h1 := (Lan.const n 0x6a09e667 (by decide)).sum2 ha
    have h2 := (Lan.const n 0xbb67ae85 (by decide)).sum2 hb
    rw [runL_nil]
    unfold endL
    rw [h1.eq, h2.eq, pack_mul, pack_add]
  | cons k ks ih =>
    intro t w0 w1 w2 w3 w4 w5 w6 w7 w8 w9 w10 w11 w12 w13 w14 w15 a b c d e f g h hk ht h0 h1 h2 h3 h4 h5 h6 h7 h8 h9 h10 h11 h12 h13 h14 h15 ha hb hc hd he hf hg hh
    rw [List.length_cons] at ht
    have hlt : t < shaK.length := by have : shaK.length = 64 := rfl; omega
    rw [List.drop_eq_getElem_cons hlt] at hk
    injection hk with hk1 hk2
    have hkk : shaK.getD t 0 = k := by rw [List.getD_eq_getElem?_getD, List.getElem?_eq_getElem hlt, hk1]; rfl
    have hk32 : k < 4294967296 := by rw [hk1]; exact shaK_w32 _ (List.getElem_mem hlt)
    have hW : ∀ i, (schedTo (B i) 64).getD t 0 = wrd (B i) t := fun i => sched_getD _ (by omega)
    rw [runL_cons]
    rw [stepL_eq]
    have t1 := hh.sum5 he.bsig1 (he.ch hf hg) (Lan.const n k hk32) h0
    have t1' : Lan n _ (fun i => (rounds (schedTo (B i) 64) s0 t).t1 (shaK.getD t 0) ((schedTo (B i) 64).getD t 0)) := t1.congr fun i _ => by rw [hkk, hW]; rfl
    have t2 := t1'.sum3 ha.bsig0 (ha.maj hb hc)
    refine ih (t + 1) _ _ _ _ _ _ _ _ _ _ _ _ _ _ _ _ _ _ _ _ _ _ _ _ hk2 (by omega) h1 h2 h3 h4 h5 h6 h7 h8 h9 h10 h11 h12 h13 h14 h15 ?_ ?_ ha hb hc ?_ he hf hg
    · exact (h14.sig1.sum4 h9 h1.sig0 h0).congr fun i _ => by rw [show t + 1 + 15 = t + 16 by omega, wrd_next]
    · exact t2
    · exact hd.sum2 t1'

end Go.Proofs.YtnhagokkamobaaaDoor
