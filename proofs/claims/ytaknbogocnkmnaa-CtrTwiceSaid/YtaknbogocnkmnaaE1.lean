/- aes.logs, aes.box, aes.S, walked. -/
import Derived.Test.YtaknbogocnkmnaaT1
import Derived.Test.YtaknbogocnkmnaaSh22
namespace Go.Sh
open Go.Proofs
set_option maxHeartbeats 4000000
set_option linter.unusedSimpArgs false

def dbl (x : UInt8) : UInt8 := shl8 x 1 ^^^ (shr8 x 7 * 27)
/-- How far the powers of 3 have come. -/
def lgSt : Nat → UInt8 × List UInt8 × List Int
  | 0 => (1, List.replicate 255 0, List.replicate 256 0)
  | i + 1 => ((lgSt i).1 ^^^ dbl (lgSt i).1, (lgSt i).2.1.set i (lgSt i).1, (lgSt i).2.2.set (lgSt i).1.toNat (i : Int))

theorem lgSt_len : ∀ i, (lgSt i).2.1.length = 255 ∧ (lgSt i).2.2.length = 256
  | 0 => ⟨List.length_replicate, List.length_replicate⟩
  | i + 1 => by
    have h := lgSt_len i
    exact ⟨(List.length_set ..).trans h.1, (List.length_set ..).trans h.2⟩
theorem lg1 (i : Nat) : (lgSt (i + 1)).1 = (lgSt i).1 ^^^ dbl (lgSt i).1 := rfl
theorem lg2 (i : Nat) : (lgSt (i + 1)).2.1 = (lgSt i).2.1.set i (lgSt i).1 := rfl
theorem lg3 (i : Nat) : (lgSt (i + 1)).2.2 = (lgSt i).2.2.set (lgSt i).1.toNat (i : Int) := rfl
theorem lg0 : lgSt 0 = (1, List.replicate 255 0, List.replicate 256 0) := rfl
attribute [irreducible] lgSt

theorem f100 : SCall Try.prog 100 [] [] (.tup [.agg ((lgSt 255).2.1.map .u8), .agg ((lgSt 255).2.2.map .i)]) [] := by
  refine scall_of ttOk (by kernel_rfl : Try.prog.funcs[100]? = some Try.f100) rfl rfl rfl ?_
  refine sw_ok ttOk mixed (by kernel_rfl) ?_
  conv => whnf
  repeat (fail)
  refine loop_rule ttOk mixed (by kernel_rfl) (ι := { i : Nat // i ≤ 255 }) (fun i => [(0, .p 0 0), (1, .p 1 0), (2, .u8 (lgSt i.1).1), (4, .i (i.1 : Int))]) (fun i => [some (.box ((lgSt i.1).2.1.map .u8)), some (.box ((lgSt i.1).2.2.map .i))]) (fun _ => 2) (fun i => 255 - i.1) ⟨0, by omega⟩ ?_ ?_
  · refine Weak.sel [0, 1] rfl rfl ⟨rfl, rfl, ?_, rfl, trivial⟩ ⟨?_, ?_, trivial⟩ rfl rfl
    · show renV _ (.u8 (lgSt 0).1) = _
      rw [lg0]; rfl
    · show renL _ ((lgSt 0).2.1.map .u8) = some (List.replicate 255 (.u8 0))
      rw [lg0]; exact ren_z8
    · show renL _ ((lgSt 0).2.2.map .i) = some (List.replicate 256 (.i 0))
      rw [lg0]; exact ren_zi
  · rintro ⟨i, hi⟩
    obtain ⟨l1, l2⟩ := lgSt_len i
    dsimp only
    conv => whnf
    refine ⟨fun hc => ?_, fun hc => ?_⟩
    · have hi2 : i < 255 := by simp at hc; omega
      have hx : (lgSt i).1.toNat < 256 := UInt8.toNat_lt _
      have hw : w64 ((i : Int) + 1) = ((i + 1 : Nat) : Int) := by simp only [w64_eq]; omega
      have g2 := lg2 i
      have g3 := lg3 i
      conv => whnf
      repeat (first | (refine Exists.intro _ (And.intro (sput_m8 (i := i) (by first | rfl | (simp; done))) ?_); conv => whnf) | (refine Exists.intro _ (And.intro (idx_i (m := i) (by first | rfl)) ?_); conv => whnf) | (refine Exists.intro _ (And.intro rfl ?_); conv => whnf) | (refine And.intro (by first | omega | (simp; omega)) ?_; conv => whnf))
      refine ok1_callP [] (f85 (lgSt i).1) rfl rfl ⟨⟨rfl, by first | rfl⟩, trivial, by first | rfl, ?_⟩
      conv => whnf
      repeat (fail)
      refine ⟨⟨i + 1, by omega⟩, by simp only; omega, ?_⟩
      refine Weak.sel [0, 1] rfl rfl ?_ ?_ rfl rfl
      · (repeat' (first | exact trivial | refine And.intro ?_ ?_)) <;> first | rfl | exact wk_i (by first | rfl | exact hw.symm) | exact wk_u8 (by first | (simp [hw, lg1, dbl, g2, g3]; done))
      · (repeat' (first | exact trivial | refine And.intro ?_ ?_)) <;> first | exact ren_eq (by first | (simp; done)) (by first | (simp [hw, lg1, dbl, g2, g3]; done))
    · have hi2 : i = 255 := by simp at hc; omega
      subst hi2
      conv => whnf
      repeat (first | (refine Exists.intro _ (And.intro (sload_all rfl (by first | rfl | (simp [l1, l2]; done))) ?_); conv => whnf) | (refine Exists.intro _ (And.intro (sput_all rfl (by first | rfl)) ?_); conv => whnf) | (refine And.intro (by first | omega | (simp; omega)) ?_; conv => whnf) | (refine And.intro (by kernel_rfl) ?_; conv => whnf))
      refine ⟨[], ?_, rfl, rfl, ?_, rfl⟩
      · (repeat' (first | (refine wk_tup ?_) | (refine wk_agg ?_) | (refine wk_cons ?_ ?_))) <;> first | rfl | exact ren_eq (by first | (simp; done)) (by first | rfl)
      · (repeat' (first | exact trivial)) <;> fail
end Go.Sh
