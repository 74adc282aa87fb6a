/- aes: a round, as the reference has it. -/
import Derived.Test.YtaknbogocnkmnaaE4a
import Derived.Test.YtaknbogocnkmnaaE6
import Derived.Test.YtaknbogocnkmnaaSh23
namespace Go.Sh
open Go.Proofs
set_option maxHeartbeats 8000000
set_option linter.unusedSimpArgs false

theorem w9_at : ∀ i : Nat, i < 16 → ∀ q : Nat, q < 4 → w64 (w64 (w64 ((i : Int).tdiv 4) * 4) + (w64 ((i : Int) + (q : Int))).tmod 4) = ((i / 4 * 4 + (i + q) % 4 : Nat) : Int) := by decide
theorem w9_sh : ∀ i : Nat, i < 16 → (w64 ((i : Int) + w64 (4 * (i : Int).tmod 4))).tmod 16 = (((i + 4 * (i % 4)) % 16 : Nat) : Int) := by decide
theorem w9_16 (n i : Nat) (h : n ≤ 1000) (hi : i ≤ 16) : w64 (w64 (16 * (n : Int)) + (i : Int)) = ((16 * n + i : Nat) : Int) := by simp only [w64_eq]; omega
theorem w9_div (R : Nat) (h : R ≤ 1000) : w64 (((16 * (R + 1) : Nat) : Int).tdiv 16) = ((R + 1 : Nat) : Int) := by
  rw [Int.tdiv_eq_ediv_of_nonneg (by omega)]; simp only [w64_eq]; omega
theorem w9_sub (R : Nat) (h : R ≤ 1000) : w64 (((R + 1 : Nat) : Int) - 1) = (R : Int) := by simp only [w64_eq]; omega

/-- What a round's byte is by. -/
def tB (s : List UInt8) (j : Nat) : UInt8 := sb (s.getD ((j + 4 * (j % 4)) % 16) 0)
def rB (last : Bool) (w : List UInt8) (n : Nat) (s : List UInt8) (j : Nat) : UInt8 :=
  (if last then tB s j else tmSt 8 0 (tB s j) 2 ^^^ tmSt 8 0 (tB s (j / 4 * 4 + (j + 1) % 4)) 3 ^^^ tB s (j / 4 * 4 + (j + 2) % 4) ^^^ tB s (j / 4 * 4 + (j + 3) % 4)) ^^^ w.getD (16 * n + j) 0

theorem tm_2 : ∀ x : UInt8, tmSt 8 0 x 2 = dbl x := by
  have h : ∀ n : Nat, n < 256 → tmSt 8 0 (UInt8.ofNat n) 2 = dbl (UInt8.ofNat n) := by decide +kernel
  intro x
  have := h x.toNat (UInt8.toNat_lt _)
  simpa using this
theorem tm_3 : ∀ x : UInt8, tmSt 8 0 x 3 = dbl x ^^^ x := by
  have h : ∀ n : Nat, n < 256 → tmSt 8 0 (UInt8.ofNat n) 3 = dbl (UInt8.ofNat n) ^^^ UInt8.ofNat n := by decide +kernel
  intro x
  have := h x.toNat (UInt8.toNat_lt _)
  simpa using this
theorem dbl_x : ∀ x y : UInt8, dbl (x ^^^ y) = dbl x ^^^ dbl y := by
  have h : ∀ n : Nat, n < 256 → ∀ m : Nat, m < 256 → dbl (UInt8.ofNat n ^^^ UInt8.ofNat m) = dbl (UInt8.ofNat n) ^^^ dbl (UInt8.ofNat m) := by decide +kernel
  intro x y
  have := h x.toNat (UInt8.toNat_lt _) y.toNat (UInt8.toNat_lt _)
  simpa using this

theorem xx (x y : UInt8) : x ^^^ (x ^^^ y) = y := by rw [← UInt8.xor_assoc, UInt8.xor_self, UInt8.zero_xor]
theorem xc (x y z : UInt8) : x ^^^ (y ^^^ z) = y ^^^ (x ^^^ z) := by rw [← UInt8.xor_assoc, UInt8.xor_comm x y, UInt8.xor_assoc]
theorem mix_one (a b c d : UInt8) : a ^^^ (a ^^^ b ^^^ c ^^^ d) ^^^ dbl (a ^^^ b) = tmSt 8 0 a 2 ^^^ tmSt 8 0 b 3 ^^^ c ^^^ d := by
  simp only [tm_2, tm_3, dbl_x, UInt8.xor_assoc, xx]
  ac_rfl
theorem wcol16 (w : List UInt8) (n i : Nat) : wcol w (4 * n + i) = [w.getD (16 * n + 4 * i) 0, w.getD (16 * n + (4 * i + 1)) 0, w.getD (16 * n + (4 * i + 2)) 0, w.getD (16 * n + (4 * i + 3)) 0] := by
  unfold wcol; rw [show 4 * (4 * n + i) = 16 * n + 4 * i by omega]; rfl

theorem rB_rnd (last : Bool) (w : List UInt8) (n : Nat) (s : List UInt8) (hs : s.length = 16) : (List.range 16).map (rB last w n s) = rnd last w n s := by
  obtain ⟨s0, s1, s2, s3, s4, s5, s6, s7, s8, s9, s10, s11, s12, s13, s14, s15, rfl⟩ := ex16 hs
  have hr : List.range 16 = [0, 1, 2, 3, 4, 5, 6, 7, 8, 9, 10, 11, 12, 13, 14, 15] := by decide
  rw [hr]
  cases last with
  | true =>
    simp only [List.map_cons, List.map_nil, rB, if_true, tB, rnd, rndC, movC, wcol16, xorL, List.cons_append, List.nil_append]
    try rfl
  | false =>
    simp only [rnd, rndC, movC, mixC, Bool.false_eq_true, if_false, wcol16, xorL, mix_one]
    have e1 : ∀ c d a b : UInt8, c ^^^ (a ^^^ b ^^^ c ^^^ d) ^^^ dbl (c ^^^ d) = tmSt 8 0 c 2 ^^^ tmSt 8 0 d 3 ^^^ a ^^^ b := fun c d a b => by
      rw [show a ^^^ b ^^^ c ^^^ d = c ^^^ d ^^^ a ^^^ b by ac_rfl]; exact mix_one c d a b
    have e2 : ∀ b c d a : UInt8, b ^^^ (a ^^^ b ^^^ c ^^^ d) ^^^ dbl (b ^^^ c) = tmSt 8 0 b 2 ^^^ tmSt 8 0 c 3 ^^^ d ^^^ a := fun b c d a => by
      rw [show a ^^^ b ^^^ c ^^^ d = b ^^^ c ^^^ d ^^^ a by ac_rfl]; exact mix_one b c d a
    have e3 : ∀ d a b c : UInt8, d ^^^ (a ^^^ b ^^^ c ^^^ d) ^^^ dbl (d ^^^ a) = tmSt 8 0 d 2 ^^^ tmSt 8 0 a 3 ^^^ b ^^^ c := fun d a b c => by
      rw [show a ^^^ b ^^^ c ^^^ d = d ^^^ a ^^^ b ^^^ c by ac_rfl]; exact mix_one d a b c
    simp only [e1, e2, e3, List.map_cons, List.map_nil, rB, Bool.false_eq_true, if_false, tB, List.cons_append, List.nil_append]
    try rfl

theorem sealSt_0 (w : List UInt8) (R : Nat) (b : List UInt8) (hb : b.length = 16) : (List.range 16).map (fun j => b.getD j 0 ^^^ w.getD j 0) = sealSt w R b 0 := by
  obtain ⟨s0, s1, s2, s3, s4, s5, s6, s7, s8, s9, s10, s11, s12, s13, s14, s15, rfl⟩ := ex16 hb
  rfl

end Go.Sh
