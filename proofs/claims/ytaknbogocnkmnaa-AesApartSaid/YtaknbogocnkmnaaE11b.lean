/- aes: a round goes back. -/
import Derived.Test.YtaknbogocnkmnaaE11
namespace Go.Sh
open Go.Proofs
set_option maxHeartbeats 8000000
set_option linter.unusedSimpArgs false

def qx (a c : UInt8) : UInt8 := dbl (dbl a) ^^^ a ^^^ dbl (dbl c)
theorem mix_2 (a b c d : UInt8) : mixC (mixC [a, b, c, d]) = [qx a c, qx b d, qx c a, qx d b] := by
  simp only [mixC, qx, dbl_x, List.cons.injEq, and_true]
  refine ⟨?_, ?_, ?_, ?_⟩ <;> simp only [UInt8.xor_assoc, UInt8.xor_comm, xc, xx, UInt8.xor_self, UInt8.xor_zero, UInt8.zero_xor]
theorem qx_qx (a c : UInt8) : qx (qx a c) (qx c a) = a := by
  simp only [qx, dbl_x, UInt8.xor_assoc, UInt8.xor_comm, xc, xx, UInt8.xor_self, UInt8.xor_zero, UInt8.zero_xor]
theorem mix_4 (a b c d : UInt8) : mixC (mixC (mixC (mixC [a, b, c, d]))) = [a, b, c, d] := by
  rw [mix_2, mix_2, qx_qx, qx_qx, qx_qx, qx_qx]
theorem mix_inj {l m : List UInt8} (hl : l.length = 4) (hm : m.length = 4) (h : mixC l = mixC m) : l = m := by
  obtain ⟨a, b, c, d, rfl⟩ := ex4 hl
  obtain ⟨a2, b2, c2, d2, rfl⟩ := ex4 hm
  rw [← mix_4 a b c d, ← mix_4 a2 b2 c2 d2, h]
theorem xorL_inj : ∀ {l m k : List UInt8}, l.length = k.length → m.length = k.length → xorL l k = xorL m k → l = m
  | [], [], [], _, _, _ => rfl
  | a :: l, b :: m, c :: k, h1, h2, h => by
    simp only [xorL, List.cons.injEq] at h
    have : a = b := by have := congrArg (· ^^^ c) h.1; simpa [UInt8.xor_assoc] using this
    rw [this, xorL_inj (by simpa using h1) (by simpa using h2) h.2]
  | [], [], _ :: _, h, _, _ => by simp at h
  | [], _ :: _, [], _, h, _ => by simp at h
  | [], _ :: _, _ :: _, h, _, _ => by simp at h
  | _ :: _, [], [], h, _, _ => by simp at h
  | _ :: _, [], _ :: _, _, h, _ => by simp at h
  | _ :: _, _ :: _, [], h, _, _ => by simp at h
theorem rndC_inj {last : Bool} {w : List UInt8} {n : Nat} {s t : List UInt8} {i : Nat} (h : rndC last w n s i = rndC last w n t i) : movC s i = movC t i := by
  unfold rndC at h
  cases last with
  | true => exact xorL_inj (k := wcol w (4 * n + i)) rfl rfl (by simpa using h)
  | false =>
    have := xorL_inj (l := mixC (movC s i)) (m := mixC (movC t i)) (k := wcol w (4 * n + i)) rfl rfl (by simpa using h)
    exact mix_inj rfl rfl this
theorem rnd_inj {last : Bool} {w : List UInt8} {n : Nat} {s t : List UInt8} (hs : s.length = 16) (ht : t.length = 16) (h : rnd last w n s = rnd last w n t) : s = t := by
  unfold rnd at h
  have h1 := List.append_inj h (by simp [rndC_len])
  have h2 := List.append_inj h1.1 (by simp [rndC_len])
  have h3 := List.append_inj h2.1 (by simp [rndC_len])
  have g0 := rndC_inj h3.1
  have g1 := rndC_inj h3.2
  have g2 := rndC_inj h2.2
  have g3 := rndC_inj h1.2
  obtain ⟨s0, s1, s2, s3, s4, s5, s6, s7, s8, s9, s10, s11, s12, s13, s14, s15, rfl⟩ := ex16 hs
  obtain ⟨t0, t1, t2, t3, t4, t5, t6, t7, t8, t9, t10, t11, t12, t13, t14, t15, rfl⟩ := ex16 ht
  simp only [movC, List.cons.injEq, and_true] at g0 g1 g2 g3
  obtain ⟨a0, a1, a2, a3⟩ := g0
  obtain ⟨b0, b1, b2, b3⟩ := g1
  obtain ⟨c0, c1, c2, c3⟩ := g2
  obtain ⟨d0, d1, d2, d3⟩ := g3
  simp only [List.cons.injEq, and_true]
  exact ⟨sb_inj a0, sb_inj d1, sb_inj c2, sb_inj b3, sb_inj b0, sb_inj a1, sb_inj d2, sb_inj c3, sb_inj c0, sb_inj b1, sb_inj a2, sb_inj d3, sb_inj d0, sb_inj c1, sb_inj b2, sb_inj a3⟩
theorem sealSt_inj {w : List UInt8} {R : Nat} {a b : List UInt8} (ha : a.length = 16) (hb : b.length = 16) : ∀ n, sealSt w R a n = sealSt w R b n → a = b
  | 0, h => xorL_inj (by simp [ha, wcol]) (by simp [hb, wcol]) h
  | n + 1, h => sealSt_inj ha hb n (rnd_inj (sealSt_len w R a ha n) (sealSt_len w R b hb n) h)
end Go.Sh
