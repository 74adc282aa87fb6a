/- aes's reference: bytes. -/
import Derived.Test.YtaknbogocnkmnaaE3
namespace Go.Sh
open Go.Proofs
set_option maxHeartbeats 8000000
set_option linter.unusedSimpArgs false

theorem w6_p1 (n : Nat) (h : n ≤ 1000) : w64 ((n : Int) + 1) = ((n + 1 : Nat) : Int) := by simp only [w64_eq]; omega

def pow2 : Nat → UInt8
  | 0 => 1
  | k + 1 => 2 * pow2 k

theorem f83 (n : Nat) (h : n ≤ 1000) : SCall Try.prog 83 [.i n] [] (.u8 (pow2 n)) [] := by
  refine scall_of ttOk (by kernel_rfl : Try.prog.funcs[83]? = some Try.f83) rfl rfl rfl ?_
  refine sw_ok ttOk mixed (by kernel_rfl) ?_
  conv => whnf
  repeat (fail)
  refine loop_rule ttOk mixed (by kernel_rfl) (ι := { i : Nat // i ≤ n }) (fun i => [(0, .i n), (3, .u8 (pow2 i.1)), (4, .i (i.1 : Int))]) (fun _ => []) (fun _ => 0) (fun i => n - i.1) ⟨0, by omega⟩ ?_ ?_
  · refine Weak.sel [] rfl rfl ?_ ?_ rfl rfl
    · (repeat' (first | exact trivial | refine And.intro ?_ ?_)) <;> first | rfl
    · (repeat' (first | exact trivial)) <;> fail
  · rintro ⟨i, hi⟩
    dsimp only
    conv => whnf
    refine ⟨fun hc => ?_, fun hc => ?_⟩
    · have hi2 : i < n := by simp at hc; omega
      have hp1 := w6_p1 i (by omega)
      conv => whnf
      refine ⟨⟨i + 1, by omega⟩, by simp only; omega, ?_⟩
      refine Weak.sel [] rfl rfl ?_ ?_ rfl rfl
      · (repeat' (first | exact trivial | refine And.intro ?_ ?_)) <;> first | rfl | exact wk_i (by first | exact hp1.symm)
      · (repeat' (first | exact trivial)) <;> fail
    · obtain rfl : i = n := by simp at hc; omega
      conv => whnf
      refine ⟨[], ?_, rfl, rfl, ?_, rfl⟩
      · (repeat' (fail)) <;> first | rfl
      · (repeat' (first | exact trivial)) <;> fail

theorem quo8 {a c : UInt8} (h : c ≠ 0) : sarith .quo (.u8 a) (.u8 c) = some (.u8 (a / c)) := by simp [sarith, h]
theorem pow2_ne (n : Nat) (h : n ≤ 7) : pow2 n ≠ 0 := by
  have : n = 0 ∨ n = 1 ∨ n = 2 ∨ n = 3 ∨ n = 4 ∨ n = 5 ∨ n = 6 ∨ n = 7 := by omega
  rcases this with rfl | rfl | rfl | rfl | rfl | rfl | rfl | rfl <;> decide

theorem f82 (b : UInt8) (n : Nat) (h : n ≤ 7) : SCall Try.prog 82 [.u8 b, .i n] [] (.i ((b / pow2 n % 2).toNat : Int)) [] := by
  refine scall_of ttOk (by kernel_rfl : Try.prog.funcs[82]? = some Try.f82) rfl rfl rfl ?_
  refine sw_ok ttOk mixed (by kernel_rfl) ?_
  conv => whnf
  refine ok1_callP [] (f83 n (by omega)) rfl rfl ⟨⟨rfl, by first | rfl⟩, trivial, by first | rfl, ?_⟩
  conv => whnf
  refine ⟨_, quo8 (pow2_ne n h), ?_⟩
  conv => whnf
  repeat (first | (refine Exists.intro _ (And.intro rfl ?_); conv => whnf))
  refine ⟨[], ?_, rfl, rfl, ?_, rfl⟩
  · (repeat' (fail)) <;> first | rfl
  · (repeat' (first | exact trivial)) <;> fail

def tmSt : Nat → UInt8 → UInt8 → UInt8 → UInt8
  | 0, out, _, _ => out
  | k + 1, out, a, b => tmSt k (if b % 2 = 1 then out ^^^ a else out) (if a ≥ 128 then 2 * a ^^^ 27 else 2 * a) (b / 2)

theorem tmSt_zero : ∀ (k : Nat) (o a : UInt8), tmSt k o a 0 = o
  | 0, _, _ => rfl
  | k + 1, o, a => by
    show tmSt k (if (0 : UInt8) % 2 = 1 then o ^^^ a else o) _ (0 / 2) = o
    rw [if_neg (by decide)]
    exact tmSt_zero k o _
theorem half_lt (k : Nat) (b : UInt8) (h : b.toNat < 2 ^ (k + 1)) : (b / 2).toNat < 2 ^ k := by
  rw [UInt8.toNat_div]
  show b.toNat / 2 < 2 ^ k
  rw [Nat.pow_succ] at h
  omega

/-- What stands at a round of Times. -/
structure TmI (a b : UInt8) where
  k : Nat
  o : UInt8
  x : UInt8
  y : UInt8
  lt : y.toNat < 2 ^ k
  eq : tmSt k o x y = tmSt 8 0 a b

theorem f81 (a b : UInt8) : SCall Try.prog 81 [.u8 a, .u8 b] [] (.u8 (tmSt 8 0 a b)) [] := by
  refine scall_of ttOk (by kernel_rfl : Try.prog.funcs[81]? = some Try.f81) rfl rfl rfl ?_
  refine sw_ok ttOk mixed (by kernel_rfl) ?_
  conv => whnf
  refine loop_rule ttOk mixed (by kernel_rfl) (ι := TmI a b) (fun t => [(0, .u8 t.x), (1, .u8 t.y), (5, .u8 t.o)]) (fun _ => []) (fun _ => 0) (fun t => t.k) ⟨8, 0, a, b, UInt8.toNat_lt _, rfl⟩ ?_ ?_
  · refine Weak.sel [] rfl rfl ?_ ?_ rfl rfl
    · (repeat' (first | exact trivial | refine And.intro ?_ ?_)) <;> first | rfl
    · (repeat' (first | exact trivial)) <;> fail
  · rintro ⟨k, o, x, y, hlt, heq⟩
    dsimp only
    conv => whnf
    refine ⟨fun hc => ?_, fun hc => ?_⟩
    · obtain ⟨k, rfl⟩ : ∃ j, k = j + 1 := by
        rcases k with _ | k
        · exfalso
          have : y.toNat = 0 := by simpa using hlt
          have : y = 0 := UInt8.toNat_inj.mp this
          subst this
          revert hc; decide
        · exact ⟨k, rfl⟩
      have hl2 := half_lt k y hlt
      have heq2 : tmSt k (if y % 2 = 1 then o ^^^ x else o) (if x ≥ 128 then 2 * x ^^^ 27 else 2 * x) (y / 2) = tmSt 8 0 a b := heq
      conv => whnf
      repeat (first | (refine Exists.intro _ (And.intro rfl ?_); conv => whnf))
      by_cases h1 : y % 2 = 1
      · rw [if_pos h1] at heq2
        have hb : (y % 2 == 1) = true := by simp [h1]
        by_cases h2 : x ≥ 128
        · rw [if_pos h2] at heq2
          have hx : decide (x ≥ 128) = true := by simp [h2]
          conv => whnf
          repeat (first | (refine gdT hb ?_; conv => whnf) | (refine gdT hx ?_; conv => whnf) | (refine Exists.intro _ (And.intro rfl ?_); conv => whnf))
          refine ⟨⟨k, o ^^^ x, 2 * x ^^^ 27, y / 2, hl2, heq2⟩, by simp, ?_⟩
          refine Weak.sel [] rfl rfl ?_ ?_ rfl rfl
          · (repeat' (first | exact trivial | refine And.intro ?_ ?_)) <;> first | rfl
          · (repeat' (first | exact trivial)) <;> fail
        · rw [if_neg h2] at heq2
          have hx : decide (x ≥ 128) = false := by simp only [decide_eq_false_iff_not]; exact h2
          conv => whnf
          repeat (first | (refine gdT hb ?_; conv => whnf) | (refine gdF hx ?_; conv => whnf) | (refine Exists.intro _ (And.intro rfl ?_); conv => whnf))
          refine ⟨⟨k, o ^^^ x, 2 * x, y / 2, hl2, heq2⟩, by simp, ?_⟩
          refine Weak.sel [] rfl rfl ?_ ?_ rfl rfl
          · (repeat' (first | exact trivial | refine And.intro ?_ ?_)) <;> first | rfl
          · (repeat' (first | exact trivial)) <;> fail
      · rw [if_neg h1] at heq2
        have hb : (y % 2 == 1) = false := by simp [h1]
        by_cases h2 : x ≥ 128
        · rw [if_pos h2] at heq2
          have hx : decide (x ≥ 128) = true := by simp [h2]
          conv => whnf
          repeat (first | (refine gdF hb ?_; conv => whnf) | (refine gdT hx ?_; conv => whnf) | (refine Exists.intro _ (And.intro rfl ?_); conv => whnf))
          refine ⟨⟨k, o, 2 * x ^^^ 27, y / 2, hl2, heq2⟩, by simp, ?_⟩
          refine Weak.sel [] rfl rfl ?_ ?_ rfl rfl
          · (repeat' (first | exact trivial | refine And.intro ?_ ?_)) <;> first | rfl
          · (repeat' (first | exact trivial)) <;> fail
        · rw [if_neg h2] at heq2
          have hx : decide (x ≥ 128) = false := by simp only [decide_eq_false_iff_not]; exact h2
          conv => whnf
          repeat (first | (refine gdF hb ?_; conv => whnf) | (refine gdF hx ?_; conv => whnf) | (refine Exists.intro _ (And.intro rfl ?_); conv => whnf))
          refine ⟨⟨k, o, 2 * x, y / 2, hl2, heq2⟩, by simp, ?_⟩
          refine Weak.sel [] rfl rfl ?_ ?_ rfl rfl
          · (repeat' (first | exact trivial | refine And.intro ?_ ?_)) <;> first | rfl
          · (repeat' (first | exact trivial)) <;> fail
    · have : y = 0 := by
        apply UInt8.toNat_inj.mp
        simp at hc
        rw [hc]
      subst this
      rw [tmSt_zero] at heq
      subst heq
      conv => whnf
      refine ⟨[], ?_, rfl, rfl, ?_, rfl⟩
      · (repeat' (fail)) <;> first | rfl
      · (repeat' (first | exact trivial)) <;> fail
end Go.Sh
