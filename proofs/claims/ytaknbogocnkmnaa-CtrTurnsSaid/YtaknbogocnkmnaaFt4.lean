/- Merged for a claim: E7, E8, E11, Sh24, Sh25, E12a, F1a, F1, F2, F3, Sh26, Sh27, F4, F6, Sh29, Sh31, Sh32, Sh33, Sh34, Sh35, Sh18, Sh20, Sh36, F9, Sh39. -/
import Derived.Laws.Externs
import Derived.Lib.MakeNoZero
import Derived.MapKept
import Derived.Test.YtaknbogocnkmnaaRows
import Derived.ProofKit
import Derived.OpenShut
import Derived.JoinedCond
import Derived.Carry
import Derived.Test.YtaknbogocnkmnaaFt3
set_option linter.unusedSimpArgs false
set_option linter.unusedVariables false
namespace Go.Sh
open Go.Proofs
set_option maxHeartbeats 8000000
def ySt (b : UInt8) : Nat → UInt8
 | 0 => 0
 | i + 1 => if tmSt 8 0 b (u8i ((i + 1 : Nat) : Int)) = 1 then u8i ((i + 1 : Nat) : Int) else ySt b i
def yAll (b : UInt8) (i : Nat) : UInt8 := if b = 0 then 0 else ySt b i
theorem w6_u8 (i : Nat) (h : i ≤ 255) : UInt8.ofNat ((i : Int) % 256).toNat = UInt8.ofNat i := by
 rw [show ((i : Int) % 256).toNat = i by omega]
theorem tmod_n6 (n k : Nat) : ((n : Int)).tmod (k : Int) = ((n % k : Nat) : Int) := by rw [Int.tmod_eq_emod_of_nonneg (by omega)]; omega
theorem f82z (b : UInt8) (z : Int) (n : Nat) (hz : z = n) (h : n ≤ 7) : SCall Try.prog 82 [.u8 b, .i z] [] (.i ((b / pow2 n % 2).toNat : Int)) [] := by subst hz; exact f82 b n h
theorem w6_k (i k : Nat) (hi : i ≤ 8) (hk : k ≤ 8) : (w64 ((i : Int) + (k : Int))).tmod 8 = (((i + k) % 8 : Nat) : Int) := by
 rw [show w64 ((i : Int) + (k : Int)) = ((i + k : Nat) : Int) by simp only [w64_eq]; omega]
 exact tmod_n6 (i + k) 8
def bitN (y : UInt8) (k : Nat) : Nat := (y / pow2 k % 2).toNat
def cntN (y : UInt8) (i : Nat) : Nat := bitN y ((i + 0) % 8) + bitN y ((i + 4) % 8) + bitN y ((i + 5) % 8) + bitN y ((i + 6) % 8) + bitN y ((i + 7) % 8) + bitN 99 i
def obSt (y : UInt8) : Nat → UInt8
 | 0 => 0
 | i + 1 => if cntN y i % 2 = 1 then obSt y i + pow2 i else obSt y i
theorem w6_add (n a : Nat) (h : n ≤ 10) (ha : a ≤ 1) : w64 ((n : Int) + (a : Int)) = ((n + a : Nat) : Int) := by simp only [w64_eq]; omega
theorem w6_six (a b c d e f : Nat) (ha : a ≤ 1) (hb : b ≤ 1) (hc : c ≤ 1) (hd : d ≤ 1) (he : e ≤ 1) (hf : f ≤ 1) : (w64 (w64 (w64 (w64 (w64 (w64 (0 + (a : Int)) + (b : Int)) + (c : Int)) + (d : Int)) + (e : Int)) + (f : Int))).tmod 2 = (((a + b + c + d + e + f) % 2 : Nat) : Int) := by
 rw [show (0 : Int) + (a : Int) = ((0 + a : Nat) : Int) by omega, show w64 ((0 + a : Nat) : Int) = ((0 + a : Nat) : Int) by simp only [w64_eq]; omega]
 rw [w6_add _ b (by omega) hb, w6_add _ c (by omega) hc, w6_add _ d (by omega) hd, w6_add _ e (by omega) he, w6_add _ f (by omega) hf, Nat.zero_add]
 exact tmod_n6 _ 2
theorem bitN_le (y : UInt8) (k : Nat) : bitN y k ≤ 1 := by
 unfold bitN
 rw [UInt8.toNat_mod]
 show (y / pow2 k).toNat % 2 ≤ 1
 omega
theorem w6_cnt (y : UInt8) (i : Nat) : (w64 (w64 (w64 (w64 (w64 (w64 (0 + ((y / pow2 ((i + 0) % 8) % 2).toNat : Int)) + ((y / pow2 ((i + 4) % 8) % 2).toNat : Int)) + ((y / pow2 ((i + 5) % 8) % 2).toNat : Int)) + ((y / pow2 ((i + 6) % 8) % 2).toNat : Int)) + ((y / pow2 ((i + 7) % 8) % 2).toNat : Int)) + ((99 / pow2 i % 2 : UInt8).toNat : Int))).tmod 2 = ((cntN y i % 2 : Nat) : Int) :=
 w6_six _ _ _ _ _ _ (bitN_le y _) (bitN_le y _) (bitN_le y _) (bitN_le y _) (bitN_le y _) (bitN_le 99 _)
theorem f44 (b : UInt8) : SCall Try.prog 44 [.u8 b] [] (.u8 (obSt (yAll b 255) 8)) [] := by
 refine scall_of ttOk (by kernel_rfl : Try.prog.funcs[44]? = some Try.f44) rfl rfl rfl ?_
 refine sw_ok ttOk mixed (by kernel_rfl) ?_
 conv => whnf
 refine loop_rule ttOk mixed (by kernel_rfl) (ι := { i : Nat // i ≤ 255 ∧ (b = 0 → i = 0) }) (fun i => [(0, .u8 b), (3, .u8 (yAll b i.1)), (4, .i ((i.1 + 1 : Nat) : Int))]) (fun _ => []) (fun _ => 0) (fun i => 255 - i.1) ⟨0, by omega, fun _ => rfl⟩ ?_ ?_
 ·
  refine Weak.sel [] rfl rfl ?_ ?_ rfl rfl
  ·
   (repeat' (first | exact trivial | refine And.intro ?_ ?_ | fail)) <;> first | rfl | exact wk_u8 (by first | (simp [yAll, ySt]; done) | fail) | fail
  ·
   (repeat' (first | exact trivial | fail)) <;> fail
 ·
  rintro ⟨i, hi, hb0⟩
  dsimp only
  by_cases hb : b = 0
  ·
   subst hb
   obtain rfl : i = 0 := hb0 rfl
   have hlt : decide (((0 + 1 : Nat) : Int) < 256) = true := by decide
   have hb2 : decide ((0 : UInt8) > 0) = false := by decide
   have hy0 : yAll 0 255 = 0 := if_pos rfl
   have hy1 : yAll 0 0 = 0 := if_pos rfl
   simp only [hy0, hy1]
   conv => whnf
   refine gdT (by exact hlt) ?_
   conv => whnf
   refine gdT (by exact hlt) ?_
   conv => whnf
   refine pkT (by exact hlt) ?_
   conv => whnf
   refine brF (by exact hb2) ?_
   conv => whnf
   refine loop_rule ttOk mixed (by kernel_rfl) (ι := { i : Nat // i ≤ 8 }) (fun i => [(3, .u8 (0)), (5, .u8 (obSt (0) i.1)), (6, .i (i.1 : Int))]) (fun _ => []) (fun _ => 0) (fun i => 8 - i.1) ⟨0, by omega⟩ ?_ ?_
   ·
    refine Weak.sel [] rfl rfl ?_ ?_ rfl rfl
    ·
     (repeat' (first | exact trivial | refine And.intro ?_ ?_ | fail)) <;> first | rfl | fail
    ·
     (repeat' (first | exact trivial | fail)) <;> fail
   ·
    rintro ⟨i, hi⟩
    dsimp only
    by_cases hi3 : i < 8
    ·
     have hlt : decide ((i : Int) < 8) = true := by simp; omega
     have hp1 := w6_p1 i (by omega)
     conv => whnf
     refine brT (by exact hlt) ?_
     conv => whnf
     repeat (first | (refine Exists.intro _ (And.intro rfl ?_); conv => whnf) | fail)
     refine loop_rounds ttOk mixed (by kernel_rfl) 6 ?_
     conv => whnf
     repeat (first | (refine brT rfl ?_; conv => whnf) | (refine Exists.intro _ (And.intro rfl ?_); conv => whnf) | (refine And.intro (by first | omega | fail) ?_; conv => whnf) | fail)
     refine ok1_callP [] (f82z (0) ((w64 ((i : Int) + 0)).tmod 8) ((i + 0) % 8) (w6_k i 0 (by omega) (by omega)) (by omega)) rfl rfl ⟨⟨rfl, by first | rfl | fail⟩, trivial, by first | rfl | fail, ?_⟩
     conv => whnf
     repeat (first | (refine brT rfl ?_; conv => whnf) | (refine Exists.intro _ (And.intro rfl ?_); conv => whnf) | (refine And.intro (Nat.le_of_ble_eq_true rfl) ?_; conv => whnf) | fail)
     refine ok1_callP [] (f82z (0) ((w64 ((i : Int) + 4)).tmod 8) ((i + 4) % 8) (w6_k i 4 (by omega) (by omega)) (by omega)) rfl rfl ⟨⟨rfl, by first | rfl | fail⟩, trivial, by first | rfl | fail, ?_⟩
     conv => whnf
     repeat (first | (refine brT rfl ?_; conv => whnf) | (refine Exists.intro _ (And.intro rfl ?_); conv => whnf) | (refine And.intro (Nat.le_of_ble_eq_true rfl) ?_; conv => whnf) | fail)
     refine ok1_callP [] (f82z (0) ((w64 ((i : Int) + 5)).tmod 8) ((i + 5) % 8) (w6_k i 5 (by omega) (by omega)) (by omega)) rfl rfl ⟨⟨rfl, by first | rfl | fail⟩, trivial, by first | rfl | fail, ?_⟩
     conv => whnf
     repeat (first | (refine brT rfl ?_; conv => whnf) | (refine Exists.intro _ (And.intro rfl ?_); conv => whnf) | (refine And.intro (Nat.le_of_ble_eq_true rfl) ?_; conv => whnf) | fail)
     refine ok1_callP [] (f82z (0) ((w64 ((i : Int) + 6)).tmod 8) ((i + 6) % 8) (w6_k i 6 (by omega) (by omega)) (by omega)) rfl rfl ⟨⟨rfl, by first | rfl | fail⟩, trivial, by first | rfl | fail, ?_⟩
     conv => whnf
     repeat (first | (refine brT rfl ?_; conv => whnf) | (refine Exists.intro _ (And.intro rfl ?_); conv => whnf) | (refine And.intro (Nat.le_of_ble_eq_true rfl) ?_; conv => whnf) | fail)
     refine ok1_callP [] (f82z (0) ((w64 ((i : Int) + 7)).tmod 8) ((i + 7) % 8) (w6_k i 7 (by omega) (by omega)) (by omega)) rfl rfl ⟨⟨rfl, by first | rfl | fail⟩, trivial, by first | rfl | fail, ?_⟩
     conv => whnf
     repeat (first | (refine brF rfl ?_; conv => whnf) | fail)
     refine ok1_callP [] (f82 99 i (by omega)) rfl rfl ⟨⟨rfl, by first | rfl | fail⟩, trivial, by first | rfl | fail, ?_⟩
     conv => whnf
     have hcn := w6_cnt (0) i
     by_cases h1 : cntN (0) i % 2 = 1
     ·
      have ht : obSt (0) (i + 1) = obSt (0) i + pow2 i := by simp only [obSt, if_pos h1]
      rw [h1] at hcn
      repeat (first | (refine Exists.intro _ (And.intro rfl ?_); conv => whnf) | fail)
      refine brT (by rw [hcn]; rfl) ?_
      conv => whnf
      refine ok1_callP [] (f83 i (by omega)) rfl rfl ⟨⟨rfl, by first | rfl | fail⟩, trivial, by first | rfl | fail, ?_⟩
      conv => whnf
      repeat (fail)
      refine ⟨⟨i + 1, by omega⟩, by simp only; omega, ?_⟩
      refine Weak.sel [] rfl rfl ?_ ?_ rfl rfl
      ·
       (repeat' (first | exact trivial | refine And.intro ?_ ?_ | fail)) <;> first | rfl | exact wk_i (by first | rfl | exact hp1.symm | fail) | exact wk_u8 (by first | exact ht | fail) | fail
      ·
       (repeat' (first | exact trivial | fail)) <;> fail
     ·
      have ht : obSt (0) (i + 1) = obSt (0) i := by simp only [obSt, if_neg h1]
      rw [show cntN (0) i % 2 = 0 by omega] at hcn
      repeat (first | (refine Exists.intro _ (And.intro rfl ?_); conv => whnf) | fail)
      refine brF (by rw [hcn]; rfl) ?_
      conv => whnf
      repeat (fail)
      refine ⟨⟨i + 1, by omega⟩, by simp only; omega, ?_⟩
      refine Weak.sel [] rfl rfl ?_ ?_ rfl rfl
      ·
       (repeat' (first | exact trivial | refine And.intro ?_ ?_ | fail)) <;> first | rfl | exact wk_i (by first | rfl | exact hp1.symm | fail) | exact wk_u8 (by first | exact ht | fail) | fail
      ·
       (repeat' (first | exact trivial | fail)) <;> fail
    ·
     obtain rfl : i = 8 := by omega
     conv => whnf
     refine brF (by rfl) ?_
     conv => whnf
     repeat (fail)
     refine ⟨[], ?_, rfl, rfl, ?_, rfl⟩
     ·
      (repeat' (fail)) <;> first | rfl | fail
     ·
      (repeat' (first | exact trivial | fail)) <;> fail
  ·
   have hb2 : decide (b > 0) = true := by
    have : b.toNat ≠ 0 := fun h => hb (UInt8.toNat_inj.mp h)
    simp only [decide_eq_true_eq]; show (0 : UInt8).toNat < b.toNat
    simp; omega
   by_cases hi2 : i < 255
   ·
    have hlt : decide (((i + 1 : Nat) : Int) < 256) = true := by simp; omega
    have hp1 := w6_p1 (i + 1) (by omega)
    conv => whnf
    refine gdT (by exact hlt) ?_
    conv => whnf
    refine gdT (by exact hlt) ?_
    conv => whnf
    refine pkT (by exact hlt) ?_
    conv => whnf
    refine brT (by exact hb2) ?_
    conv => whnf
    repeat (fail)
    refine ok1_callP [] (f81 b (u8i ((i + 1 : Nat) : Int))) rfl rfl ⟨⟨rfl, by first | rfl | fail⟩, trivial, by first | rfl | fail, ?_⟩
    conv => whnf
    by_cases h1 : tmSt 8 0 b (u8i ((i + 1 : Nat) : Int)) = 1
    ·
     have hy : yAll b (i + 1) = u8i ((i + 1 : Nat) : Int) := by simp only [yAll, ySt, if_neg hb, if_pos h1]
     have ht : (tmSt 8 0 b (u8i ((i + 1 : Nat) : Int)) == 1) = true := by rw [h1]; rfl
     refine brT (by exact ht) ?_
     conv => whnf
     refine ⟨⟨i + 1, by omega, fun h => absurd h hb⟩, by simp only; omega, ?_⟩
     refine Weak.sel [] rfl rfl ?_ ?_ rfl rfl
     ·
      (repeat' (first | exact trivial | refine And.intro ?_ ?_ | fail)) <;> first | rfl | exact wk_i (by first | rfl | exact hp1.symm | fail) | exact wk_u8 (by first | exact hy | fail) | fail
     ·
      (repeat' (first | exact trivial | fail)) <;> fail
    ·
     have hy : yAll b (i + 1) = yAll b i := by simp only [yAll, ySt, if_neg hb, if_neg h1]
     have ht : (tmSt 8 0 b (u8i ((i + 1 : Nat) : Int)) == 1) = false := beq_eq_false_iff_ne.mpr h1
     refine brF (by exact ht) ?_
     conv => whnf
     refine ⟨⟨i + 1, by omega, fun h => absurd h hb⟩, by simp only; omega, ?_⟩
     refine Weak.sel [] rfl rfl ?_ ?_ rfl rfl
     ·
      (repeat' (first | exact trivial | refine And.intro ?_ ?_ | fail)) <;> first | rfl | exact wk_i (by first | rfl | exact hp1.symm | fail) | exact wk_u8 (by first | exact hy | fail) | fail
     ·
      (repeat' (first | exact trivial | fail)) <;> fail
   ·
    obtain rfl : i = 255 := by omega
    have hlf : decide (((255 + 1 : Nat) : Int) < 256) = false := by decide
    conv => whnf
    refine gdF (by exact hlf) ?_
    conv => whnf
    refine gdF (by exact hlf) ?_
    conv => whnf
    refine pkF (by exact hlf) ?_
    conv => whnf
    refine brF (by rfl) ?_
    conv => whnf
    refine loop_rule ttOk mixed (by kernel_rfl) (ι := { i : Nat // i ≤ 8 }) (fun i => [(3, .u8 (yAll b 255)), (5, .u8 (obSt (yAll b 255) i.1)), (6, .i (i.1 : Int))]) (fun _ => []) (fun _ => 0) (fun i => 8 - i.1) ⟨0, by omega⟩ ?_ ?_
    ·
     refine Weak.sel [] rfl rfl ?_ ?_ rfl rfl
     ·
      (repeat' (first | exact trivial | refine And.intro ?_ ?_ | fail)) <;> first | rfl | fail
     ·
      (repeat' (first | exact trivial | fail)) <;> fail
    ·
     rintro ⟨i, hi⟩
     dsimp only
     by_cases hi3 : i < 8
     ·
      have hlt : decide ((i : Int) < 8) = true := by simp; omega
      have hp1 := w6_p1 i (by omega)
      conv => whnf
      refine brT (by exact hlt) ?_
      conv => whnf
      repeat (first | (refine Exists.intro _ (And.intro rfl ?_); conv => whnf) | fail)
      refine loop_rounds ttOk mixed (by kernel_rfl) 6 ?_
      conv => whnf
      repeat (first | (refine brT rfl ?_; conv => whnf) | (refine Exists.intro _ (And.intro rfl ?_); conv => whnf) | (refine And.intro (by first | omega | fail) ?_; conv => whnf) | fail)
      refine ok1_callP [] (f82z (yAll b 255) ((w64 ((i : Int) + 0)).tmod 8) ((i + 0) % 8) (w6_k i 0 (by omega) (by omega)) (by omega)) rfl rfl ⟨⟨rfl, by first | rfl | fail⟩, trivial, by first | rfl | fail, ?_⟩
      conv => whnf
      repeat (first | (refine brT rfl ?_; conv => whnf) | (refine Exists.intro _ (And.intro rfl ?_); conv => whnf) | (refine And.intro (Nat.le_of_ble_eq_true rfl) ?_; conv => whnf) | fail)
      refine ok1_callP [] (f82z (yAll b 255) ((w64 ((i : Int) + 4)).tmod 8) ((i + 4) % 8) (w6_k i 4 (by omega) (by omega)) (by omega)) rfl rfl ⟨⟨rfl, by first | rfl | fail⟩, trivial, by first | rfl | fail, ?_⟩
      conv => whnf
      repeat (first | (refine brT rfl ?_; conv => whnf) | (refine Exists.intro _ (And.intro rfl ?_); conv => whnf) | (refine And.intro (Nat.le_of_ble_eq_true rfl) ?_; conv => whnf) | fail)
      refine ok1_callP [] (f82z (yAll b 255) ((w64 ((i : Int) + 5)).tmod 8) ((i + 5) % 8) (w6_k i 5 (by omega) (by omega)) (by omega)) rfl rfl ⟨⟨rfl, by first | rfl | fail⟩, trivial, by first | rfl | fail, ?_⟩
      conv => whnf
      repeat (first | (refine brT rfl ?_; conv => whnf) | (refine Exists.intro _ (And.intro rfl ?_); conv => whnf) | (refine And.intro (Nat.le_of_ble_eq_true rfl) ?_; conv => whnf) | fail)
      refine ok1_callP [] (f82z (yAll b 255) ((w64 ((i : Int) + 6)).tmod 8) ((i + 6) % 8) (w6_k i 6 (by omega) (by omega)) (by omega)) rfl rfl ⟨⟨rfl, by first | rfl | fail⟩, trivial, by first | rfl | fail, ?_⟩
      conv => whnf
      repeat (first | (refine brT rfl ?_; conv => whnf) | (refine Exists.intro _ (And.intro rfl ?_); conv => whnf) | (refine And.intro (Nat.le_of_ble_eq_true rfl) ?_; conv => whnf) | fail)
      refine ok1_callP [] (f82z (yAll b 255) ((w64 ((i : Int) + 7)).tmod 8) ((i + 7) % 8) (w6_k i 7 (by omega) (by omega)) (by omega)) rfl rfl ⟨⟨rfl, by first | rfl | fail⟩, trivial, by first | rfl | fail, ?_⟩
      conv => whnf
      repeat (first | (refine brF rfl ?_; conv => whnf) | fail)
      refine ok1_callP [] (f82 99 i (by omega)) rfl rfl ⟨⟨rfl, by first | rfl | fail⟩, trivial, by first | rfl | fail, ?_⟩
      conv => whnf
      have hcn := w6_cnt (yAll b 255) i
      by_cases h1 : cntN (yAll b 255) i % 2 = 1
      ·
       have ht : obSt (yAll b 255) (i + 1) = obSt (yAll b 255) i + pow2 i := by simp only [obSt, if_pos h1]
       rw [h1] at hcn
       repeat (first | (refine Exists.intro _ (And.intro rfl ?_); conv => whnf) | fail)
       refine brT (by rw [hcn]; rfl) ?_
       conv => whnf
       refine ok1_callP [] (f83 i (by omega)) rfl rfl ⟨⟨rfl, by first | rfl | fail⟩, trivial, by first | rfl | fail, ?_⟩
       conv => whnf
       repeat (fail)
       refine ⟨⟨i + 1, by omega⟩, by simp only; omega, ?_⟩
       refine Weak.sel [] rfl rfl ?_ ?_ rfl rfl
       ·
        (repeat' (first | exact trivial | refine And.intro ?_ ?_ | fail)) <;> first | rfl | exact wk_i (by first | rfl | exact hp1.symm | fail) | exact wk_u8 (by first | exact ht | fail) | fail
       ·
        (repeat' (first | exact trivial | fail)) <;> fail
      ·
       have ht : obSt (yAll b 255) (i + 1) = obSt (yAll b 255) i := by simp only [obSt, if_neg h1]
       rw [show cntN (yAll b 255) i % 2 = 0 by omega] at hcn
       repeat (first | (refine Exists.intro _ (And.intro rfl ?_); conv => whnf) | fail)
       refine brF (by rw [hcn]; rfl) ?_
       conv => whnf
       repeat (fail)
       refine ⟨⟨i + 1, by omega⟩, by simp only; omega, ?_⟩
       refine Weak.sel [] rfl rfl ?_ ?_ rfl rfl
       ·
        (repeat' (first | exact trivial | refine And.intro ?_ ?_ | fail)) <;> first | rfl | exact wk_i (by first | rfl | exact hp1.symm | fail) | exact wk_u8 (by first | exact ht | fail) | fail
       ·
        (repeat' (first | exact trivial | fail)) <;> fail
     ·
      obtain rfl : i = 8 := by omega
      conv => whnf
      refine brF (by rfl) ?_
      conv => whnf
      repeat (fail)
      refine ⟨[], ?_, rfl, rfl, ?_, rfl⟩
      ·
       (repeat' (fail)) <;> first | rfl | fail
      ·
       (repeat' (first | exact trivial | fail)) <;> fail
end Go.Sh
namespace Go.Sh
open Go.Proofs
set_option maxHeartbeats 8000000
def upN : Nat → UInt8
 | 0 => 1
 | k + 1 => tmSt 8 0 (upN k) 3
def dnN : Nat → UInt8
 | 0 => 1
 | k + 1 => tmSt 8 0 (dnN k) 246
def invN : Nat → List UInt8
 | 0 => List.replicate 256 0
 | k + 1 => (invN k).set (upN k).toNat (dnN k)
theorem invN_len : ∀ k, (invN k).length = 256
 | 0 => List.length_replicate
 | k + 1 => by show ((invN k).set _ _).length = 256; rw [List.length_set]; exact invN_len k
def yB (i : Nat) : UInt8 := if i = 0 then 0 else (invN 255).getD i 0
def obB (i : Nat) : UInt8 := obSt (yB i) 8
def outB (i : Nat) : List UInt8 := fil 256 i obB (fun _ => 0)
theorem outB_len (i : Nat) : (outB i).length = 256 := fil_len ..
theorem w6_m8 : ∀ k j : Nat, k < 8 → j < 8 → (w64 ((k : Int) + (j : Int))).tmod 8 = (((k + j) % 8 : Nat) : Int) := fun k j hk hj => w6_k k j (by omega) (by omega)
theorem w6_cnt2 (y : UInt8) (i : Nat) : (w64 (w64 (w64 (w64 (w64 (((y / pow2 i % 2).toNat : Int) + ((y / pow2 ((i + 4) % 8) % 2).toNat : Int)) + ((y / pow2 ((i + 5) % 8) % 2).toNat : Int)) + ((y / pow2 ((i + 6) % 8) % 2).toNat : Int)) + ((y / pow2 ((i + 7) % 8) % 2).toNat : Int)) + ((99 / pow2 i % 2 : UInt8).toNat : Int))).tmod 2 = (((bitN y i + bitN y ((i + 4) % 8) + bitN y ((i + 5) % 8) + bitN y ((i + 6) % 8) + bitN y ((i + 7) % 8) + bitN 99 i) % 2 : Nat) : Int) := by
 have h := w6_six _ _ _ _ _ _ (bitN_le y i) (bitN_le y ((i + 4) % 8)) (bitN_le y ((i + 5) % 8)) (bitN_le y ((i + 6) % 8)) (bitN_le y ((i + 7) % 8)) (bitN_le 99 i)
 have e : w64 (0 + ((bitN y i : Nat) : Int)) = ((bitN y i : Nat) : Int) := by
  have := bitN_le y i
  rw [Int.zero_add]; simp only [w64_eq]; omega
 rw [e] at h
 exact h
theorem cntN_8 (y : UInt8) (i : Nat) (h : i < 8) : cntN y i = bitN y i + bitN y ((i + 4) % 8) + bitN y ((i + 5) % 8) + bitN y ((i + 6) % 8) + bitN y ((i + 7) % 8) + bitN 99 i := by
 unfold cntN; rw [Nat.add_zero, Nat.mod_eq_of_lt h]
theorem upN_z : upN 0 = 1 := rfl
theorem upN_s (k : Nat) : upN (k + 1) = tmSt 8 0 (upN k) 3 := rfl
theorem dnN_z : dnN 0 = 1 := rfl
theorem dnN_s (k : Nat) : dnN (k + 1) = tmSt 8 0 (dnN k) 246 := rfl
theorem invN_z : invN 0 = List.replicate 256 0 := rfl
theorem invN_s (k : Nat) : invN (k + 1) = (invN k).set (upN k).toNat (dnN k) := rfl
theorem outB_z : outB 0 = List.replicate 256 0 := fil_zero ..
theorem outB_s (i : Nat) (h : i < 256) : (outB i).set i (obSt (yB i) 8) = outB (i + 1) := fil_set h
theorem outB_0 (i : Nat) (h : i < 256) : (outB i).set i (obSt (yB i) 0) = outB i := fil_same h rfl
theorem obSt_1 {y : UInt8} {k : Nat} (h : cntN y k % 2 = 1) : obSt y (k + 1) = obSt y k + pow2 k := by simp only [obSt, if_pos h]
theorem obSt_0 {y : UInt8} {k : Nat} (h : ¬ cntN y k % 2 = 1) : obSt y (k + 1) = obSt y k := by simp only [obSt, if_neg h]
theorem yB_0 (i : Nat) (h : i = 0) : yB i = 0 := if_pos h
theorem yB_1 (i : Nat) (h : ¬ i = 0) : yB i = (invN 255).getD i 0 := if_neg h
attribute [local irreducible] upN dnN invN outB yB obSt
theorem f46 : SCall Try.prog 46 [] [] (.sl 0 0 256 1 true) [some (.row 5 ((outB 256).map .u8))] := by
 refine scall_of ttOk (by kernel_rfl : Try.prog.funcs[46]? = some Try.f46) rfl rfl rfl ?_
 refine sw_ok ttOk mixed (by kernel_rfl) ?_
 conv => whnf
 repeat (first | (refine And.intro ⟨by first | omega | fail, by first | decide | fail⟩ ?_; conv => whnf) | fail)
 refine loop_rule ttOk mixed (by kernel_rfl) (ι := { k : Nat // k ≤ 255 }) (fun k => [(1, .sl 0 0 256 1 true), (2, .u8 (upN k.1)), (3, .u8 (dnN k.1)), (4, .i (k.1 : Int))]) (fun k => [some (.row 5 ((invN k.1).map .u8))]) (fun _ => 1) (fun k => 255 - k.1) ⟨0, by omega⟩ ?_ ?_
 ·
  dsimp only
  rw [upN_z, dnN_z, invN_z]
  refine Weak.sel [0] rfl rfl ?_ ?_ rfl rfl
  ·
   (repeat' (first | exact trivial | refine And.intro ?_ ?_ | fail)) <;> first | rfl | fail
  ·
   (repeat' (first | exact trivial | exact ren_z8 | refine And.intro ?_ ?_ | fail)) <;> first | rfl | fail
 ·
  rintro ⟨k, hk⟩
  have hl := invN_len k
  dsimp only
  conv => whnf
  refine ⟨fun hc => ?_, fun hc => ?_⟩
  ·
   have hk2 : k < 255 := by simp at hc; omega
   have hp1 := w6_p1 k (by omega)
   have hu : (upN k).toNat < 256 := UInt8.toNat_lt _
   conv => whnf
   repeat (first | (refine Exists.intro _ (And.intro (sput_m8 (i := (upN k).toNat) (by first | rfl | omega | fail)) ?_); conv => whnf) | (refine Exists.intro _ (And.intro rfl ?_); conv => whnf) | (refine And.intro (by first | omega | (simp; omega) | fail) ?_; conv => whnf) | fail)
   refine ok1_callP [] (f81 (upN k) 3) rfl rfl ⟨⟨rfl, by first | rfl | fail⟩, trivial, by first | rfl | fail, ?_⟩
   conv => whnf
   repeat (fail)
   refine ok1_callP [] (f81 (dnN k) 246) rfl rfl ⟨⟨rfl, by first | rfl | fail⟩, trivial, by first | rfl | fail, ?_⟩
   conv => whnf
   repeat (fail)
   refine ⟨⟨k + 1, by omega⟩, by simp only; omega, ?_⟩
   refine Weak.sel [0] rfl rfl ?_ ?_ rfl rfl
   ·
    (repeat' (first | exact trivial | refine And.intro ?_ ?_ | fail)) <;> first | rfl | exact wk_i (by first | rfl | exact hp1.symm | fail) | exact wk_u8 (by first | (simp [hp1, upN_s, dnN_s, invN_s]; done) | fail) | fail
   ·
    (repeat' (first | exact trivial | refine And.intro ?_ ?_ | fail)) <;> first | rfl | exact ren_eq (by first | (simp; done) | fail) (by first | (simp [hp1, upN_s, dnN_s, invN_s]; done) | fail) | fail
  ·
   obtain rfl : k = 255 := by simp at hc; omega
   conv => whnf
   repeat (first | (refine And.intro ⟨by first | omega | fail, by first | decide | fail⟩ ?_; conv => whnf) | fail)
   refine loop_rule ttOk mixed (by kernel_rfl) (ι := { i : Nat // i ≤ 256 }) (fun i => [(1, .sl 0 0 256 1 true), (5, .sl 1 0 256 1 true), (6, .i (i.1 : Int))]) (fun i => [some (.row 5 ((invN 255).map .u8)), some (.row 5 ((outB i.1).map .u8))]) (fun _ => 2) (fun i => 256 - i.1) ⟨0, by omega⟩ ?_ ?_
   ·
    dsimp only
    rw [outB_z]
    refine Weak.sel [0, 1] rfl rfl ?_ ?_ rfl rfl
    ·
     (repeat' (first | exact trivial | refine And.intro ?_ ?_ | fail)) <;> first | rfl | fail
    ·
     (repeat' (first | exact trivial | exact ren_z8 | refine And.intro ?_ ?_ | fail)) <;> first | rfl | exact ren_eq (by first | (simp; done) | fail) (by first | rfl | fail) | fail
   ·
    rintro ⟨i, hi⟩
    have ho := outB_len i
    dsimp only
    by_cases hi2 : i < 256
    ·
     have hlt : decide ((i : Int) < 256) = true := by simp; omega
     have hp1 := w6_p1 i (by omega)
     conv => whnf
     refine brT (by exact hlt) ?_
     conv => whnf
     repeat (first | (refine Exists.intro _ (And.intro (sload_u8 (i := i) (by first | rfl | omega | fail) (by first | omega | fail)) ?_); conv => whnf) | (refine Exists.intro _ (And.intro (idx_i (m := i) (by first | rfl | fail)) ?_); conv => whnf) | (refine And.intro (by first | omega | fail) ?_; conv => whnf) | fail)
     by_cases h0 : i = 0
     ·
      have hy : yB i = 0 := by first | exact yB_0 i h0 | fail
      refine brT (by simp; omega) ?_
      conv => whnf
      repeat (fail)
      refine loop_rule ttOk mixed (by kernel_rfl) (ι := { k : Nat // k ≤ 8 }) (fun k => [(1, .sl 0 0 256 1 true), (5, .sl 1 0 256 1 true), (6, .i (i : Int)), (7, .u8 (yB i)), (8, .i (k.1 : Int))]) (fun k => [some (.row 5 ((invN 255).map .u8)), some (.row 5 (((outB i).set i (obSt (yB i) k.1)).map .u8))]) (fun _ => 2) (fun k => 8 - k.1) ⟨0, by omega⟩ ?_ ?_
      ·
       have hs : (outB i).set i (obSt (yB i) 0) = outB i := outB_0 i hi2
       refine Weak.sel [0, 1] rfl rfl ?_ ?_ rfl rfl
       ·
        (repeat' (first | exact trivial | refine And.intro ?_ ?_ | fail)) <;> first | rfl | exact wk_u8 (by first | exact hy | fail) | fail
       ·
        (repeat' (first | exact trivial | refine And.intro ?_ ?_ | fail)) <;> first | rfl | exact ren_eq (by first | (simp; done) | fail) (by first | rfl | fail) | exact ren_m8 (by first | exact hs | fail) | fail
      ·
       rintro ⟨k, hk⟩
       have hl2 : ((outB i).set i (obSt (yB i) k)).length = 256 := by simp [ho]
       dsimp only
       by_cases hk2 : k < 8
       ·
        have hlt2 : decide ((k : Int) < 8) = true := by simp; omega
        have hp2 := w6_p1 k (by omega)
        conv => whnf
        refine brT (by exact hlt2) ?_
        conv => whnf
        refine ok1_callP [] (f82 (yB i) k (by omega)) rfl rfl ⟨⟨rfl, by first | rfl | fail⟩, trivial, by first | rfl | fail, ?_⟩
        conv => whnf
        repeat (first | (refine Exists.intro _ (And.intro rfl ?_); conv => whnf) | fail)
        refine ok1_callP [] (f82z (yB i) ((w64 ((k : Int) + 4)).tmod 8) ((k + 4) % 8) (w6_m8 k 4 (by omega) (by omega)) (by omega)) rfl rfl ⟨⟨rfl, by first | rfl | fail⟩, trivial, by first | rfl | fail, ?_⟩
        conv => whnf
        repeat (first | (refine Exists.intro _ (And.intro rfl ?_); conv => whnf) | fail)
        refine ok1_callP [] (f82z (yB i) ((w64 ((k : Int) + 5)).tmod 8) ((k + 5) % 8) (w6_m8 k 5 (by omega) (by omega)) (by omega)) rfl rfl ⟨⟨rfl, by first | rfl | fail⟩, trivial, by first | rfl | fail, ?_⟩
        conv => whnf
        repeat (first | (refine Exists.intro _ (And.intro rfl ?_); conv => whnf) | fail)
        refine ok1_callP [] (f82z (yB i) ((w64 ((k : Int) + 6)).tmod 8) ((k + 6) % 8) (w6_m8 k 6 (by omega) (by omega)) (by omega)) rfl rfl ⟨⟨rfl, by first | rfl | fail⟩, trivial, by first | rfl | fail, ?_⟩
        conv => whnf
        repeat (first | (refine Exists.intro _ (And.intro rfl ?_); conv => whnf) | fail)
        refine ok1_callP [] (f82z (yB i) ((w64 ((k : Int) + 7)).tmod 8) ((k + 7) % 8) (w6_m8 k 7 (by omega) (by omega)) (by omega)) rfl rfl ⟨⟨rfl, by first | rfl | fail⟩, trivial, by first | rfl | fail, ?_⟩
        conv => whnf
        repeat (fail)
        refine ok1_callP [] (f82 99 k (by omega)) rfl rfl ⟨⟨rfl, by first | rfl | fail⟩, trivial, by first | rfl | fail, ?_⟩
        conv => whnf
        have hcn := w6_cnt2 (yB i) k
        rw [← cntN_8 (yB i) k hk2] at hcn
        by_cases h1 : cntN (yB i) k % 2 = 1
        ·
         have ht : obSt (yB i) (k + 1) = obSt (yB i) k + pow2 k := obSt_1 h1
         have hs : ((outB i).set i (obSt (yB i) k)).set i (((outB i).set i (obSt (yB i) k)).getD i 0 + pow2 k) = (outB i).set i (obSt (yB i) (k + 1)) := by rw [set_get_set (by omega), ht]
         rw [h1] at hcn
         repeat (first | (refine Exists.intro _ (And.intro rfl ?_); conv => whnf) | fail)
         refine brT (by rw [hcn]; rfl) ?_
         conv => whnf
         repeat (first | (refine Exists.intro _ (And.intro (sload_u8 (i := i) (by first | rfl | omega | fail) (by first | omega | fail)) ?_); conv => whnf) | (refine Exists.intro _ (And.intro (idx_i (m := i) (by first | rfl | fail)) ?_); conv => whnf) | (refine And.intro (by first | omega | fail) ?_; conv => whnf) | fail)
         refine ok1_callP [] (f83 k (by omega)) rfl rfl ⟨⟨rfl, by first | rfl | fail⟩, trivial, by first | rfl | fail, ?_⟩
         conv => whnf
         repeat (first | (refine Exists.intro _ (And.intro (sput_m8 (i := i) (by first | rfl | omega | fail)) ?_); conv => whnf) | (refine Exists.intro _ (And.intro (idx_i (m := i) (by first | rfl | fail)) ?_); conv => whnf) | (refine And.intro (by first | omega | (simp; omega) | fail) ?_; conv => whnf) | (refine And.intro (by kernel_rfl) ?_; conv => whnf) | fail)
         refine ⟨⟨k + 1, by omega⟩, by simp only; omega, ?_⟩
         refine Weak.sel [0, 1] rfl rfl ?_ ?_ rfl rfl
         ·
          (repeat' (first | exact trivial | refine And.intro ?_ ?_ | fail)) <;> first | rfl | exact wk_i (by first | exact hp2.symm | fail) | fail
         ·
          (repeat' (first | exact trivial | refine And.intro ?_ ?_ | fail)) <;> first | rfl | exact ren_eq (by first | (simp; done) | fail) (by first | rfl | fail) | exact ren_m8 (by first | exact hs.symm | fail) | fail
        ·
         have ht : obSt (yB i) (k + 1) = obSt (yB i) k := obSt_0 h1
         rw [show cntN (yB i) k % 2 = 0 by omega] at hcn
         repeat (first | (refine Exists.intro _ (And.intro rfl ?_); conv => whnf) | fail)
         refine brF (by rw [hcn]; rfl) ?_
         conv => whnf
         repeat (fail)
         refine ⟨⟨k + 1, by omega⟩, by simp only; omega, ?_⟩
         refine Weak.sel [0, 1] rfl rfl ?_ ?_ rfl rfl
         ·
          (repeat' (first | exact trivial | refine And.intro ?_ ?_ | fail)) <;> first | rfl | exact wk_i (by first | exact hp2.symm | fail) | fail
         ·
          (repeat' (first | exact trivial | refine And.intro ?_ ?_ | fail)) <;> first | rfl | exact ren_eq (by first | (simp; done) | fail) (by first | rfl | fail) | exact ren_m8 (by first | (simp [hp2, ht]; done) | fail) | fail
       ·
        obtain rfl : k = 8 := by omega
        have hs : (outB i).set i (obSt (yB i) 8) = outB (i + 1) := outB_s i hi2
        conv => whnf
        refine brF (by rfl) ?_
        conv => whnf
        repeat (fail)
        refine ⟨⟨i + 1, by omega⟩, by simp only; omega, ?_⟩
        refine Weak.sel [0, 1] rfl rfl ?_ ?_ rfl rfl
        ·
         (repeat' (first | exact trivial | refine And.intro ?_ ?_ | fail)) <;> first | rfl | exact wk_i (by first | exact hp1.symm | fail) | fail
        ·
         (repeat' (first | exact trivial | refine And.intro ?_ ?_ | fail)) <;> first | rfl | exact ren_eq (by first | (simp; done) | fail) (by first | rfl | (simp [hp1, hs]; done) | fail) | fail
     ·
      have hy : yB i = (invN 255).getD i 0 := by first | exact yB_1 i h0
      refine brF (by simp; omega) ?_
      conv => whnf
      repeat (fail)
      refine loop_rule ttOk mixed (by kernel_rfl) (ι := { k : Nat // k ≤ 8 }) (fun k => [(1, .sl 0 0 256 1 true), (5, .sl 1 0 256 1 true), (6, .i (i : Int)), (7, .u8 (yB i)), (8, .i (k.1 : Int))]) (fun k => [some (.row 5 ((invN 255).map .u8)), some (.row 5 (((outB i).set i (obSt (yB i) k.1)).map .u8))]) (fun _ => 2) (fun k => 8 - k.1) ⟨0, by omega⟩ ?_ ?_
      ·
       have hs : (outB i).set i (obSt (yB i) 0) = outB i := outB_0 i hi2
       refine Weak.sel [0, 1] rfl rfl ?_ ?_ rfl rfl
       ·
        (repeat' (first | exact trivial | refine And.intro ?_ ?_ | fail)) <;> first | rfl | exact wk_u8 (by first | exact hy | fail) | fail
       ·
        (repeat' (first | exact trivial | refine And.intro ?_ ?_ | fail)) <;> first | rfl | exact ren_eq (by first | (simp; done) | fail) (by first | rfl | fail) | exact ren_m8 (by first | exact hs | fail) | fail
      ·
       rintro ⟨k, hk⟩
       have hl2 : ((outB i).set i (obSt (yB i) k)).length = 256 := by simp [ho]
       dsimp only
       by_cases hk2 : k < 8
       ·
        have hlt2 : decide ((k : Int) < 8) = true := by simp; omega
        have hp2 := w6_p1 k (by omega)
        conv => whnf
        refine brT (by exact hlt2) ?_
        conv => whnf
        refine ok1_callP [] (f82 (yB i) k (by omega)) rfl rfl ⟨⟨rfl, by first | rfl | fail⟩, trivial, by first | rfl | fail, ?_⟩
        conv => whnf
        repeat (first | (refine Exists.intro _ (And.intro rfl ?_); conv => whnf) | fail)
        refine ok1_callP [] (f82z (yB i) ((w64 ((k : Int) + 4)).tmod 8) ((k + 4) % 8) (w6_m8 k 4 (by omega) (by omega)) (by omega)) rfl rfl ⟨⟨rfl, by first | rfl | fail⟩, trivial, by first | rfl | fail, ?_⟩
        conv => whnf
        repeat (first | (refine Exists.intro _ (And.intro rfl ?_); conv => whnf) | fail)
        refine ok1_callP [] (f82z (yB i) ((w64 ((k : Int) + 5)).tmod 8) ((k + 5) % 8) (w6_m8 k 5 (by omega) (by omega)) (by omega)) rfl rfl ⟨⟨rfl, by first | rfl | fail⟩, trivial, by first | rfl | fail, ?_⟩
        conv => whnf
        repeat (first | (refine Exists.intro _ (And.intro rfl ?_); conv => whnf) | fail)
        refine ok1_callP [] (f82z (yB i) ((w64 ((k : Int) + 6)).tmod 8) ((k + 6) % 8) (w6_m8 k 6 (by omega) (by omega)) (by omega)) rfl rfl ⟨⟨rfl, by first | rfl | fail⟩, trivial, by first | rfl | fail, ?_⟩
        conv => whnf
        repeat (first | (refine Exists.intro _ (And.intro rfl ?_); conv => whnf) | fail)
        refine ok1_callP [] (f82z (yB i) ((w64 ((k : Int) + 7)).tmod 8) ((k + 7) % 8) (w6_m8 k 7 (by omega) (by omega)) (by omega)) rfl rfl ⟨⟨rfl, by first | rfl | fail⟩, trivial, by first | rfl | fail, ?_⟩
        conv => whnf
        repeat (fail)
        refine ok1_callP [] (f82 99 k (by omega)) rfl rfl ⟨⟨rfl, by first | rfl | fail⟩, trivial, by first | rfl | fail, ?_⟩
        conv => whnf
        have hcn := w6_cnt2 (yB i) k
        rw [← cntN_8 (yB i) k hk2] at hcn
        by_cases h1 : cntN (yB i) k % 2 = 1
        ·
         have ht : obSt (yB i) (k + 1) = obSt (yB i) k + pow2 k := obSt_1 h1
         have hs : ((outB i).set i (obSt (yB i) k)).set i (((outB i).set i (obSt (yB i) k)).getD i 0 + pow2 k) = (outB i).set i (obSt (yB i) (k + 1)) := by rw [set_get_set (by omega), ht]
         rw [h1] at hcn
         repeat (first | (refine Exists.intro _ (And.intro rfl ?_); conv => whnf) | fail)
         refine brT (by rw [hcn]; rfl) ?_
         conv => whnf
         repeat (first | (refine Exists.intro _ (And.intro (sload_u8 (i := i) (by first | rfl | omega | fail) (by first | omega | fail)) ?_); conv => whnf) | (refine Exists.intro _ (And.intro (idx_i (m := i) (by first | rfl | fail)) ?_); conv => whnf) | (refine And.intro (by first | omega | fail) ?_; conv => whnf) | fail)
         refine ok1_callP [] (f83 k (by omega)) rfl rfl ⟨⟨rfl, by first | rfl | fail⟩, trivial, by first | rfl | fail, ?_⟩
         conv => whnf
         repeat (first | (refine Exists.intro _ (And.intro (sput_m8 (i := i) (by first | rfl | omega | fail)) ?_); conv => whnf) | (refine Exists.intro _ (And.intro (idx_i (m := i) (by first | rfl | fail)) ?_); conv => whnf) | (refine And.intro (by first | omega | (simp; omega) | fail) ?_; conv => whnf) | (refine And.intro (by kernel_rfl) ?_; conv => whnf) | fail)
         refine ⟨⟨k + 1, by omega⟩, by simp only; omega, ?_⟩
         refine Weak.sel [0, 1] rfl rfl ?_ ?_ rfl rfl
         ·
          (repeat' (first | exact trivial | refine And.intro ?_ ?_ | fail)) <;> first | rfl | exact wk_i (by first | exact hp2.symm | fail) | fail
         ·
          (repeat' (first | exact trivial | refine And.intro ?_ ?_ | fail)) <;> first | rfl | exact ren_eq (by first | (simp; done) | fail) (by first | rfl | fail) | exact ren_m8 (by first | exact hs.symm | fail) | fail
        ·
         have ht : obSt (yB i) (k + 1) = obSt (yB i) k := obSt_0 h1
         rw [show cntN (yB i) k % 2 = 0 by omega] at hcn
         repeat (first | (refine Exists.intro _ (And.intro rfl ?_); conv => whnf) | fail)
         refine brF (by rw [hcn]; rfl) ?_
         conv => whnf
         repeat (fail)
         refine ⟨⟨k + 1, by omega⟩, by simp only; omega, ?_⟩
         refine Weak.sel [0, 1] rfl rfl ?_ ?_ rfl rfl
         ·
          (repeat' (first | exact trivial | refine And.intro ?_ ?_ | fail)) <;> first | rfl | exact wk_i (by first | exact hp2.symm | fail) | fail
         ·
          (repeat' (first | exact trivial | refine And.intro ?_ ?_ | fail)) <;> first | rfl | exact ren_eq (by first | (simp; done) | fail) (by first | rfl | fail) | exact ren_m8 (by first | (simp [hp2, ht]; done) | fail) | fail
       ·
        obtain rfl : k = 8 := by omega
        have hs : (outB i).set i (obSt (yB i) 8) = outB (i + 1) := outB_s i hi2
        conv => whnf
        refine brF (by rfl) ?_
        conv => whnf
        repeat (fail)
        refine ⟨⟨i + 1, by omega⟩, by simp only; omega, ?_⟩
        refine Weak.sel [0, 1] rfl rfl ?_ ?_ rfl rfl
        ·
         (repeat' (first | exact trivial | refine And.intro ?_ ?_ | fail)) <;> first | rfl | exact wk_i (by first | exact hp1.symm | fail) | fail
        ·
         (repeat' (first | exact trivial | refine And.intro ?_ ?_ | fail)) <;> first | rfl | exact ren_eq (by first | (simp; done) | fail) (by first | rfl | (simp [hp1, hs]; done) | fail) | fail
    ·
     obtain rfl : i = 256 := by omega
     have hlf : decide (((256 : Nat) : Int) < 256) = false := by decide
     conv => whnf
     refine brF (by exact hlf) ?_
     conv => whnf
     repeat (fail)
     refine ⟨[1], ?_, rfl, rfl, ?_, rfl⟩
     ·
      (repeat' (fail)) <;> first | rfl | fail
     ·
      (repeat' (first | exact trivial | refine And.intro ?_ ?_ | fail)) <;> first | rfl | exact ren_eq (by first | (simp; done) | fail) (by first | rfl | fail) | fail
end Go.Sh
namespace Go.Sh
open Go.Proofs
set_option maxHeartbeats 8000000
set_option maxRecDepth 100000
theorem all_u8 {p : UInt8 → Prop} (h : ∀ n : Nat, n < 256 → p (UInt8.ofNat n)) (x : UInt8) : p x := by
 have := h x.toNat (UInt8.toNat_lt _)
 simpa using this
theorem sbx_eq : sbx = [99, 124, 119, 123, 242, 107, 111, 197, 48, 1, 103, 43, 254, 215, 171, 118, 202, 130, 201, 125, 250, 89, 71, 240, 173, 212, 162, 175, 156, 164, 114, 192, 183, 253, 147, 38, 54, 63, 247, 204, 52, 165, 229, 241, 113, 216, 49, 21, 4, 199, 35, 195, 24, 150, 5, 154, 7, 18, 128, 226, 235, 39, 178, 117, 9, 131, 44, 26, 27, 110, 90, 160, 82, 59, 214, 179, 41, 227, 47, 132, 83, 209, 0, 237, 32, 252, 177, 91, 106, 203, 190, 57, 74, 76, 88, 207, 208, 239, 170, 251, 67, 77, 51, 133, 69, 249, 2, 127, 80, 60, 159, 168, 81, 163, 64, 143, 146, 157, 56, 245, 188, 182, 218, 33, 16, 255, 243, 210, 205, 12, 19, 236, 95, 151, 68, 23, 196, 167, 126, 61, 100, 93, 25, 115, 96, 129, 79, 220, 34, 42, 144, 136, 70, 238, 184, 20, 222, 94, 11, 219, 224, 50, 58, 10, 73, 6, 36, 92, 194, 211, 172, 98, 145, 149, 228, 121, 231, 200, 55, 109, 141, 213, 78, 169, 108, 86, 244, 234, 101, 122, 174, 8, 186, 120, 37, 46, 28, 166, 180, 198, 232, 221, 116, 31, 75, 189, 139, 138, 112, 62, 181, 102, 72, 3, 246, 14, 97, 53, 87, 185, 134, 193, 29, 158, 225, 248, 152, 17, 105, 217, 142, 148, 155, 30, 135, 233, 206, 85, 40, 223, 140, 161, 137, 13, 191, 230, 66, 104, 65, 153, 45, 15, 176, 84, 187, 22] := by kernel_rfl
theorem outB_sbx : outB 256 = sbx := by rw [sbx_eq]; kernel_rfl
theorem sb_ofNat : ∀ n : Nat, n < 256 → ∀ m : Nat, m < 256 → sb (UInt8.ofNat n) = sb (UInt8.ofNat m) → n = m := by
 unfold sb
 rw [sbx_eq]
 decide +kernel
theorem sb_inj {x y : UInt8} (h : sb x = sb y) : x = y := by
 have := sb_ofNat x.toNat (UInt8.toNat_lt _) y.toNat (UInt8.toNat_lt _) (by simpa using h)
 exact UInt8.toNat_inj.mp this
theorem yAll_ok : ∀ n : Nat, n < 256 → yAll (UInt8.ofNat n) 255 = yB n := by decide +kernel
theorem sb_ref (b : UInt8) : obSt (yAll b 255) 8 = sb b := by
 have h : ∀ n : Nat, n < 256 → obSt (yAll (UInt8.ofNat n) 255) 8 = sb (UInt8.ofNat n) := by
  intro n hn
  rw [yAll_ok n hn]
  have : (outB 256).getD n 0 = obB n := by unfold outB; rw [fil_getD hn, if_pos hn]
  rw [outB_sbx] at this
  unfold sb
  rw [show (UInt8.ofNat n).toNat = n by simp; omega, this]; rfl
 exact all_u8 (p := fun x => obSt (yAll x 255) 8 = sb x) h b
end Go.Sh
namespace Go.Sh
theorem rel_plain {ρ ρ' : Ren} {x : SV} {v : Value} (h : plainV x = true) (hr : Rel ρ x v) : Rel ρ' x v := by
 cases x <;> simp only [plainV, Bool.false_eq_true] at h <;> simpa only [Rel] using hr
theorem rels_plain {ρ ρ' : Ren} : ∀ {l : List SV} {vs : List Value}, plainL l = true → Rels ρ l vs → Rels ρ' l vs
 | [], _, _, h => by simpa only [Rels] using h
 | x :: l, vs, hp, h => by
  simp only [plainL, List.all_cons, Bool.and_eq_true] at hp
  simp only [Rels] at h ⊢
  obtain ⟨y, ys, e, hy, hys⟩ := h
  exact ⟨y, ys, e, rel_plain hp.1 hy, rels_plain (by simpa [plainL] using hp.2) hys⟩
def skp (j n : Nat) : List Nat := (List.range n).map fun k => if k = j then 1000000 else k
theorem pull_skp {j n : Nat} {ρ ρ' : Ren} (h : ∀ id, id ≠ j → ρ id = ρ' id) (hj : j ≠ 1000000) : pullR (skp j n) ρ = pullR (skp j n) ρ' := by
 funext k
 simp only [pullR, skp, List.getElem?_map]
 by_cases hk : k < n
 ·
  rw [List.getElem?_range hk]
  simp only [Option.map_some]
  by_cases hkj : k = j
  ·
   rw [if_pos hkj]; exact h _ (fun e => hj e.symm)
  ·
   rw [if_neg hkj]; exact h _ hkj
 ·
  rw [List.getElem?_eq_none (by simp; omega)]; rfl
def shA (j o : Nat) : SV → SV
 | .sl id q n sz f => match Nat.beq id j with | true => .sl id (o + q) n sz f | false => .sl id q n sz f
 | x => x
def isSl (j : Nat) : SV → Bool
 | .sl id _ _ _ _ => Nat.beq id j
 | _ => false
def argOk (j n : Nat) : List SV → Prop
 | [] => True
 | x :: xs => (isSl j x = true ∨ (isSl j x = false ∧ renV (skp j n) x = some x)) ∧ argOk j n xs
def blkOk (j n : Nat) : Nat → HL → Prop
 | _, [] => True
 | k, none :: H => blkOk j n (k + 1) H
 | k, some b :: H => (k = j ∨ plainB b = true ∨ renB (skp j n) b = some b) ∧ blkOk j n (k + 1) H
theorem blkOk_get {j n : Nat} : ∀ {H : HL} {k id : Nat} {b : SB}, blkOk j n k H → hg H id = some b → k + id = j ∨ renB (skp j n) b = some b
 | [], k, id, b, _, h => by simp [hg] at h
 | none :: H, k, 0, b, _, h => by simp [hg] at h
 | none :: H, k, id + 1, b, ho, h => by
  have := blkOk_get (H := H) (k := k + 1) (id := id) ho (by simpa [hg] using h)
  rcases this with e | e
  ·
   exact .inl (by omega)
  ·
   exact .inr e
 | some b1 :: H, k, 0, b, ho, h => by
  have e : b1 = b := by simpa [hg] using h
  subst e
  rcases ho.1 with h1 | h1 | h1
  ·
   exact .inl (by omega)
  ·
   exact .inr (renB_plain _ h1)
  ·
   exact .inr h1
 | some b1 :: H, k, id + 1, b, ho, h => by
  have := blkOk_get (H := H) (k := k + 1) (id := id) ho.2 (by simpa [hg] using h)
  rcases this with e | e
  ·
   exact .inl (by omega)
  ·
   exact .inr e
theorem hg_set {H : HL} {j id : Nat} {b : SB} (hj : j < H.length) : hg (H.set j (some b)) id = if id = j then some b else hg H id := by
 unfold hg
 rw [List.getElem?_set]
 by_cases h : j = id
 ·
  subst h; simp [hj]
 ·
  rw [if_neg h, if_neg (fun e => h e.symm)]
theorem SCall.sub {P : Program} {f : Nat} {args : List SV} {H0 : HL} {ret : SV} {H1 : HL} (h : SCall P f args H0 ret H1) (j o : Nat) (L l0 : List SV) (n : Nat)
  (hj0 : hg H0 j = some (.ro l0)) (hj1 : hg H1 j = some (.ro l0)) (hL : (L.drop o).take l0.length = l0) (hp : plainL L = true) (hp0 : plainL l0 = true) (hjn : j ≠ 1000000)
  (ha : argOk j n args) (hr : renV (skp j n) ret = some ret) (h0 : blkOk j n 0 H0) (h1 : blkOk j n 0 H1) :
  SCall P f (args.map (shA j o)) (H0.set j (some (.ro L))) ret (H1.set j (some (.ro L))) := by
 have hjl0 : j < H0.length := by unfold hg at hj0; rcases Nat.lt_or_ge j H0.length with h | h; exact h; rw [List.getElem?_eq_none h] at hj0; simp at hj0
 have hjl1 : j < H1.length := by unfold hg at hj1; rcases Nat.lt_or_ge j H1.length with h | h; exact h; rw [List.getElem?_eq_none h] at hj1; simp at hj1
 have hlen : l0.length ≤ L.length - o := by have := congrArg List.length hL; simp at this; omega
 refine ⟨h.fn, fun nn ρ w vs hA hH hS hF => ?_⟩
 obtain ⟨rb, hρ, hB⟩ := hH j (.ro L) (by rw [hg_set hjl0, if_pos rfl])
 let rbs : RB := { rb with off := rb.off + o, cap := rb.cap - o }
 let ρs : Ren := fun id => if id = j then some rbs else ρ id
 have hρs : ∀ id, id ≠ j → ρs id = ρ id := fun id hid => if_neg hid
 have hsj : ρs j = some rbs := if_pos rfl
 have tr : ∀ {ρa ρb : Ren} {x : SV} {v : Value}, (∀ id, id ≠ j → ρa id = ρb id) → renV (skp j n) x = some x → Rel ρa x v → Rel ρb x v := by
  intro ρa ρb x v e hx hv
  have h1 := (rel_ren x hx (ρ := ρa)).2 hv
  rw [pull_skp e hjn] at h1
  exact (rel_ren x hx (ρ := ρb)).1 h1
 have trB : ∀ {ρa ρb : Ren} {b : SB} {w : World} {r : RB}, (∀ id, id ≠ j → ρa id = ρb id) → renB (skp j n) b = some b → BRel ρa w r b → BRel ρb w r b := by
  intro ρa ρb b w r e hx hv
  have h1 := (brel_ren hx (ρ := ρa) (w := w) (rb := r)).2 hv
  rw [pull_skp e hjn] at h1
  exact (brel_ren hx).1 h1
 -- the arguments
 have hA' : Rels ρs args vs := by
  have : ∀ (xs : List SV) (us : List Value), argOk j n xs → Rels ρ (xs.map (shA j o)) us → Rels ρs xs us := by
   intro xs
   induction xs with
   | nil => intro us _ h; simpa only [List.map_nil, Rels] using h
   | cons x xs ih =>
    intro us hok h
    simp only [List.map_cons, Rels] at h ⊢
    obtain ⟨y, ys, e, hy, hys⟩ := h
    refine ⟨y, ys, e, ?_, ih ys hok.2 hys⟩
    rcases hok.1 with hx | ⟨hx0, hx⟩
    ·
     cases x with
     | sl id q nn2 sz full =>
      simp only [isSl] at hx
      have hid : id = j := Nat.eq_of_beq_eq_true hx
      subst hid
      simp only [shA, hx, Rel] at hy
      obtain ⟨rb2, a, c, g1, g2, g3, g4, g5⟩ := hy
      rw [hρ] at g1; cases g1
      simp only [Rel]
      refine ⟨rbs, a, c, hsj, g2, g3, g4, ?_⟩
      rcases g5 with g5 | ⟨g5, g6, g7⟩
      ·
       exact .inl g5
      ·
       exact .inr ⟨g5, by rw [g6]; simp only [rbs, Nat.add_assoc], by simp only [rbs]; omega⟩
     | _ => simp [isSl] at hx
    ·
     have e2 : shA j o x = x := by
      cases x <;> first | rfl | (simp only [isSl] at hx0; simp only [shA, hx0])
     rw [e2] at hy
     exact tr (fun id hid => (hρs id hid).symm) hx hy
  exact this args vs ha hA
 -- the block
 have hBs : ∀ {ρ1 : Ren} {w1 : World}, BRel ρ1 w1 rb (.ro L) → BRel ρs w1 rbs (.ro l0) := by
  intro ρ1 w1 hb
  by_cases hl0 : l0 = []
  ·
   exact .inl hl0
  have hpos : 0 < l0.length := List.length_pos_iff.2 hl0
  rcases hb with rfl | ⟨⟨c, t, fz, g1, g2, g3, g4, g5⟩, g6, g7⟩
  ·
   exact absurd (List.eq_nil_of_length_eq_zero (by simpa using hlen)) hl0
  ·
   right
   refine ⟨⟨c, t, fz, g1, ?_, ?_, fun h => (by cases h), ?_⟩, by simp only [rbs]; omega, g7⟩
   ·
    have : ∀ l : List SV, plainL l = true → atoms l = true := by
     intro l; induction l with
     | nil => intro _; rfl
     | cons x xs ih =>
      intro h
      simp only [plainL, List.all_cons, Bool.and_eq_true] at h
      simp only [atoms, List.all_cons, Bool.and_eq_true]
      exact ⟨by cases x <;> simp_all [plainV, SV.atom], by simpa [atoms] using ih (by simpa [plainL] using h.2)⟩
    exact this l0 hp0
   ·
    have := Rels.take l0.length (Rels.drop o g3)
    rw [hL] at this
    have e : List.take l0.length (List.drop o (List.take L.length (List.drop rb.off c.toList))) = List.take l0.length (List.drop rbs.off c.toList) := by
     simp only [rbs]
     rw [List.drop_take, List.drop_drop, List.take_take]
     congr 1; omega
    rw [e] at this
    exact rels_plain hp0 this
   ·
    simp only [rbs]; omega
 have hgt : ∀ {H : HL} {b : SB}, j < H.length → hg (H.set j (some b)) j = some b := fun {H b} hl => by rw [hg_set hl, if_pos rfl]
 have hgo : ∀ {H : HL} {b : SB} {id : Nat}, j < H.length → id ≠ j → hg (H.set j (some b)) id = hg H id := fun {H b id} hl hid => by rw [hg_set hl, if_neg hid]
 have hHs : HRel ρs (hg H0) w := by
  intro id b hb
  by_cases hid : id = j
  ·
   subst hid
   rw [hj0] at hb; cases hb
   exact ⟨rbs, hsj, hBs hB⟩
  ·
   obtain ⟨r, e1, e2⟩ := hH id b (by rw [hgo hjl0 hid]; exact hb)
   exact ⟨r, by rw [hρs id hid]; exact e1, trB (fun id hid => (hρs id hid).symm) ((blkOk_get h0 hb).resolve_left (by omega)) e2⟩
 have hfoot : ∀ k q, foot rbs (.ro l0) k q → foot rb (.ro L) k q := fun k q ⟨e1, e2, e3⟩ => by
  simp only [rbs] at e1 e2 e3
  exact ⟨e1, by omega, by omega⟩
 have hown : ∀ k q, Owned ρs (hg H0) k q → Owned ρ (hg (H0.set j (some (.ro L)))) k q ∧ ¬ foot rb (.ro L) k q := by
  rintro k q ⟨id, b, r, e1, e2, e3, e4⟩
  have hid : id ≠ j := fun e => by subst e; rw [hj0] at e1; cases e1; cases e3
  rw [hρs id hid] at e2
  exact ⟨⟨id, b, r, by rw [hgo hjl0 hid]; exact e1, e2, e3, e4⟩, fun hf => hS id j b (.ro L) r rb hid (by rw [hgo hjl0 hid]; exact e1) (hgt hjl0) e2 hρ e3 k q ⟨e4, hf⟩⟩
 have hSs : Sep ρs (hg H0) := by
  intro i k bi bk ri rk hne hi hk hri hrk hw q p ⟨hfi, hfk⟩
  have hij : i ≠ j := fun e => by subst e; rw [hj0] at hi; cases hi; cases hw
  rw [hρs i hij] at hri
  by_cases hkj : k = j
  ·
   subst hkj
   rw [hj0] at hk; cases hk
   rw [hsj] at hrk; cases hrk
   exact hS i k bi (.ro L) ri rb hne (by rw [hgo hjl0 hij]; exact hi) (hgt hjl0) hri hρ hw q p ⟨hfi, hfoot q p hfk⟩
  ·
   rw [hρs k hkj] at hrk
   exact hS i k bi bk ri rk hne (by rw [hgo hjl0 hij]; exact hi) (by rw [hgo hjl0 hkj]; exact hk) hri hrk hw q p ⟨hfi, hfk⟩
 have hFs : ∀ id, H0.length ≤ id → ρs id = none := fun id hid => by
  rw [hρs id (by omega)]; exact hF id (by simpa using hid)
 refine (h.call nn ρs w vs hA' hHs hSs hFs).mono fun e w' hR => ?_
 cases e with
 | returned v =>
  obtain ⟨ρ1, q1, q2, q3, q4, q5⟩ := hR
  let ρ2 : Ren := fun id => if id = j then some rb else ρ1 id
  have h21 : ∀ id, id ≠ j → ρ2 id = ρ1 id := fun id hid => if_neg hid
  have h2j : ρ2 j = some rb := if_pos rfl
  have hB2 : BRel ρ2 w' rb (.ro L) := by
   rcases hB with hB | ⟨⟨c, t, fz, g1, g2, g3, g4, g5⟩, g6, g7⟩
   ·
    exact .inl hB
   ·
    obtain ⟨c', fz', k1, k2, _, k3⟩ := q5.fr.blk rb.blk _ g1
    have hsame : ∀ i, rb.off ≤ i → i < rb.off + L.length → c'[i]? = c[i]? := fun i h1 h2 => k3 i fun ho => (hown _ _ ho).2 ⟨rfl, h1, h2⟩
    have e : List.take L.length (List.drop rb.off c'.toList) = List.take L.length (List.drop rb.off c.toList) := by
     apply List.ext_getElem?
     intro i
     by_cases hi : i < L.length
     ·
      rw [List.getElem?_take_of_lt hi, List.getElem?_take_of_lt hi, List.getElem?_drop, List.getElem?_drop, Array.getElem?_toList, Array.getElem?_toList]
      exact hsame _ (by omega) (by omega)
     ·
      rw [List.getElem?_eq_none (by simp; omega), List.getElem?_eq_none (by simp; omega)]
    exact .inr ⟨⟨c', t, fz', k1, g2, by rw [e]; exact rels_plain hp g3, fun h => (by cases h), by omega⟩, g6, g7⟩
  refine ⟨ρ2, tr (fun id hid => (h21 id hid).symm) hr q1, ?_, ?_, ?_, ?_, ?_, ?_⟩
  ·
   intro id b hb
   by_cases hid : id = j
   ·
    subst hid
    rw [hgt hjl1] at hb; cases hb
    exact ⟨rb, h2j, hB2⟩
   ·
    rw [hgo hjl1 hid] at hb
    obtain ⟨r, e1, e2⟩ := q2 id b hb
    exact ⟨r, by rw [h21 id hid]; exact e1, trB (fun id hid => (h21 id hid).symm) ((blkOk_get h1 hb).resolve_left (by omega)) e2⟩
  ·
   intro i k bi bk ri rk hne hi hk hri hrk hw q p ⟨hfi, hfk⟩
   have hij : i ≠ j := fun e => by subst e; rw [hgt hjl1] at hi; cases hi; cases hw
   rw [h21 i hij] at hri
   rw [hgo hjl1 hij] at hi
   by_cases hkj : k = j
   ·
    subst hkj
    rw [hgt hjl1] at hk; cases hk
    rw [h2j] at hrk; cases hrk
    have hb := q5.own q p ⟨i, bi, ri, hi, hri, hw, hfi⟩
    rcases hb with hb | hb
    ·
     exact (hown _ _ hb).2 hfk
    ·
     rcases hB with hB | ⟨⟨c, t, fz, g1, _⟩, _⟩
     ·
      subst hB; have := hfk.2; simp at this; omega
     ·
      have hlt := (Array.getElem?_eq_some_iff.1 g1).1
      have := hfk.1
      omega
   ·
    rw [h21 k hkj] at hrk
    rw [hgo hjl1 hkj] at hk
    exact q3 i k bi bk ri rk hne hi hk hri hrk hw q p ⟨hfi, hfk⟩
  ·
   intro id hid
   rw [List.length_set] at hid
   rw [h21 id (by omega)]; exact q4 id hid
  ·
   intro id hid r hr2
   rw [List.length_set] at hid
   by_cases hij : id = j
   ·
    subst hij; rw [hρ] at hr2; cases hr2; exact h2j
   ·
    rw [h21 id hij]; exact q5.ext id hid r (by rw [hρs id hij]; exact hr2)
  ·
   exact q5.fr.mono (fun k q _ ho => (hown k q ho).1)
  ·
   rintro k q ⟨id, b, r, e1, e2, e3, e4⟩
   have hij : id ≠ j := fun e => by subst e; rw [hgt hjl1] at e1; cases e1; cases e3
   rw [hgo hjl1 hij] at e1
   rw [h21 id hij] at e2
   exact (q5.own k q ⟨id, b, r, e1, e2, e3, e4⟩).imp (fun ho => (hown k q ho).1) (fun h => h)
 | _ => exact hR
end Go.Sh
namespace Go.Sh
def renHs (sel : List Nat) : HL → HL → Prop
 | [], [] => True
 | none :: a, none :: b => renHs sel a b
 | some x :: a, some y :: b => (y.own = x.own ∧ match x.own with | true => renB sel x = some y | false => True) ∧ renHs sel a b
 | _, _ => False
theorem cW_renHs {sel : List Nat} : ∀ (ss : List Nat) (H0 H1 H1r : HL) (W : Upd), renHs sel H1 H1r → cWp ss H0 H1r = some W → cW sel ss H0 H1 = some W
 | s :: ss, some b0 :: H0, none :: H1, none :: H1r, W, h, hw => by
  simp only [renHs] at h
  simp only [cWp] at hw
  split at hw
  ·
   rename_i W2 hw2
   simp only [cW, cW_renHs ss H0 H1 H1r W2 h hw2]
   exact hw
  ·
   cases hw
 | s :: ss, some b0 :: H0, some x :: H1, some y :: H1r, W, h, hw => by
  simp only [renHs] at h
  obtain ⟨⟨h1, h2⟩, h3⟩ := h
  simp only [cWp] at hw
  split at hw
  ·
   rename_i W2 hw2
   simp only [cW, cW_renHs ss H0 H1 H1r W2 h3 hw2]
   cases hb : b0.own with
   | false => rw [hb] at hw; exact hw
   | true =>
    rw [hb] at hw
    simp only at hw ⊢
    rw [h1] at hw
    cases hx : x.own with
    | true => rw [hx] at h2 hw; simp only at h2 hw ⊢; rw [h2]; exact hw
    | false => rw [hx] at hw; cases hw
  ·
   cases hw
 | s :: ss, [], none :: H1, none :: H1r, W, h, hw => by
  simp only [renHs] at h
  simp only [cWp] at hw
  split at hw
  ·
   rename_i W2 hw2
   simp only [cW, cW_renHs ss [] H1 H1r W2 h hw2]
   exact hw
  ·
   cases hw
 | s :: ss, [], some x :: H1, some y :: H1r, W, h, hw => by
  simp only [renHs] at h
  obtain ⟨⟨h1, h2⟩, h3⟩ := h
  simp only [cWp] at hw
  split at hw
  ·
   rename_i W2 hw2
   simp only [cW, cW_renHs ss [] H1 H1r W2 h3 hw2]
   rw [h1] at hw
   cases hx : x.own with
   | true => rw [hx] at h2 hw; simp only at h2 hw ⊢; rw [h2]; exact hw
   | false => rw [hx] at hw; cases hw
  ·
   cases hw
 | [], [], [], [], W, _, hw => by simpa only [cW, cWp] using hw
 | _, _, [], _ :: _, _, h, _ => by simp only [renHs] at h
 | _, _, _ :: _, [], _, h, _ => by simp [renHs] at h
 | _, _, none :: _, some _ :: _, _, h, _ => by simp only [renHs] at h
 | _, _, some _ :: _, none :: _, _, h, _ => by simp only [renHs] at h
 | [], _ :: _, [], [], _, _, hw => by simp [cWp] at hw
 | [], _, none :: _, none :: _, _, _, hw => by simp [cWp] at hw
 | [], _, some _ :: _, some _ :: _, _, _, hw => by simp [cWp] at hw
 | _ :: _, none :: _, _, _, _, _, hw => by simp [cWp] at hw
 | _ :: _, [], [], [], _, _, hw => by simp [cWp] at hw
 | _ :: _, some _ :: _, [], [], _, _, hw => by simp [cWp] at hw
theorem rb_boxa {sel : List Nat} {a b c : List SV} (ha : plainL a = true) (h : renL sel b = some c) : renB sel (.box (a ++ b)) = some (.box (a ++ c)) := by
 simp only [renB, ren_app ha h]
def sopCallE (H1r : HL) (z : SV) (R : RL) (H : HL) (L : Nat) (x : Operand) (args : List Operand) (f : Nat) (sel : List Nat) (args0 : List SV) (H0 : HL) (ret : SV) (H1 : HL) (k : K1) : Prop :=
 (match ev R x with
  | some (.fn g caps) => match evs R args with
   | some zs => g = f ∧ renL sel args0 = some (zs ++ caps)
   | none => False
  | _ => False) ∧ okH sel H sel H0 ∧ renHs (sel ++ newSel L (H1.length - H0.length)) H1 H1r ∧ renV (sel ++ newSel L (H1.length - H0.length)) ret = some z ∧
 match Nat.beq sel.length H0.length with
 | true => match dupOk sel 0 sel H0 with
  | true => match cWp (sel ++ newSel L (H1.length - H0.length)) H0 H1r with
   | some W => k (some z) W sel (L + (H1.length - H0.length))
   | none => False
  | false => False
 | false => False
theorem ok1_callE {P : Program} {o : Oper} {R : RL} {H : HL} {L : Nat} {k : K1} {x : Operand} {args : Array Operand} {tys : Array TypeId} {f : Nat} {args0 : List SV} {H0 H1 : HL} {ret : SV} (sel : List Nat) (H1r : HL) (z : SV)
  (hc : SCall P f args0 H0 ret H1) (ho : o.op = .call ⟨.value x, args, tys⟩) (hle : Nat.ble H.length L = true) (h : sopCallE H1r z R H L x args.toList f sel args0 H0 ret H1 k) : Ok1 P o R H L k := by
 obtain ⟨h1, h2, hp, hr, h3⟩ := h
 refine ok1_call sel hc ho hle ⟨h1, h2, ?_⟩
 cases hl : Nat.beq sel.length H0.length with
 | false => rw [hl] at h3; exact h3.elim
 | true =>
  rw [hl] at h3
  simp only at h3 ⊢
  cases hd : dupOk sel 0 sel H0 with
  | false => rw [hd] at h3; exact h3.elim
  | true =>
   rw [hd] at h3
   simp only at h3 ⊢
   cases hw : cWp (sel ++ newSel L (H1.length - H0.length)) H0 H1r with
   | none => rw [hw] at h3; exact h3.elim
   | some W =>
    rw [hw] at h3
    rw [cW_renHs _ _ _ _ _ hp hw]
    simp only [hr]
    exact h3
end Go.Sh
namespace Go.Sh
open Go.Proofs
set_option maxHeartbeats 8000000
theorem cut_u8 {L k : List UInt8} {o n : Nat} (h : (L.drop o).take n = k) : ((L.map SV.u8).drop o).take n = k.map .u8 := by rw [← h, List.map_take, List.map_drop]
theorem f45ns (fl : Bool) (L key : List UInt8) (o : Nat) (hL : (L.drop o).take key.length = key) (h1 : key.length ≠ 16) (h2 : key.length ≠ 32) :
  SCall Try.prog 45 [.sl 0 o key.length 1 fl] [some (.ro (L.map .u8))] (.tup [.pnil, .i 2]) [some (.ro (L.map .u8))] :=
 (f45n fl key h1 h2).sub 0 o (L.map .u8) (key.map .u8) 5 rfl rfl (by rw [List.length_map]; exact cut_u8 hL) (by simp) (by simp) (by decide) ⟨.inl rfl, trivial⟩ rfl ⟨.inl rfl, trivial⟩ ⟨.inl rfl, trivial⟩
theorem f45s_4 (fl : Bool) (L key : List UInt8) (o : Nat) (hk : key.length = 16) (hL : (L.drop o).take 16 = key) :
  SCall Try.prog 45 [.sl 0 o 16 1 fl] [some (.ro (L.map .u8))] (.tup [.p 1 0, .i 0]) [some (.ro (L.map .u8)), some (.box (sbx.map .u8 ++ [.sl 2 0 44 4 false])), some (.row 137 ((wSt key 4 44).map .u8))] :=
 (f45_4 fl key hk).sub 0 o (L.map .u8) (key.map .u8) 5 rfl rfl (by rw [List.length_map, hk]; exact cut_u8 hL) (by simp) (by simp) (by decide) ⟨.inl rfl, trivial⟩ rfl ⟨.inl rfl, trivial⟩
  ⟨.inl rfl, .inr (.inr (by simp only [renB]; rw [ren_app (plainL_u8 _) (c := [SV.sl 2 0 44 4 false]) rfl])), .inr (.inl (by simp)), trivial⟩
theorem f45s_8 (fl : Bool) (L key : List UInt8) (o : Nat) (hk : key.length = 32) (hL : (L.drop o).take 32 = key) :
  SCall Try.prog 45 [.sl 0 o 32 1 fl] [some (.ro (L.map .u8))] (.tup [.p 1 0, .i 0]) [some (.ro (L.map .u8)), some (.box (sbx.map .u8 ++ [.sl 2 0 60 4 false])), some (.row 137 ((wSt key 8 60).map .u8))] :=
 (f45_8 fl key hk).sub 0 o (L.map .u8) (key.map .u8) 5 rfl rfl (by rw [List.length_map, hk]; exact cut_u8 hL) (by simp) (by simp) (by decide) ⟨.inl rfl, trivial⟩ rfl ⟨.inl rfl, trivial⟩
  ⟨.inl rfl, .inr (.inr (by simp only [renB]; rw [ren_app (plainL_u8 _) (c := [SV.sl 2 0 60 4 false]) rfl])), .inr (.inl (by simp)), trivial⟩
theorem f47L (n : Nat) (fl : Bool) (w : List UInt8) (R : Nat) (hn : n = 4 * (R + 1)) (hR : w.length = 16 * (R + 1)) (hR1 : 1 ≤ R) (hR2 : R ≤ 20) (b : List UInt8) (hb : b.length = 16) :
  SCall Try.prog 47 [.p 0 0, .agg (b.map .u8)] [some (.ro (sbx.map .u8 ++ [.sl 1 0 n 4 fl])), some (.ro (w.map .u8))]
   (.agg ((sealSt w R b R).map .u8)) [some (.ro (sbx.map .u8 ++ [.sl 1 0 n 4 fl])), some (.ro (w.map .u8))] := by
 obtain ⟨s0, s1, s2, s3, s4, s5, s6, s7, s8, s9, s10, s11, s12, s13, s14, s15, rfl⟩ := ex16 hb
 subst hn
 exact f47 fl w R hR hR1 hR2 s0 s1 s2 s3 s4 s5 s6 s7 s8 s9 s10 s11 s12 s13 s14 s15
theorem wSt_4 (key : List UInt8) : (wSt key 4 44).length = 176 := wSt_len key 4 44
theorem wSt_8 (key : List UInt8) : (wSt key 8 60).length = 240 := wSt_len key 8 60
end Go.Sh
namespace Go.Sh
open Go.Proofs
set_option maxHeartbeats 8000000
def inc4 (a b c d : UInt8) : List UInt8 :=
 if d + 1 ≠ 0 then [a, b, c, d + 1] else if c + 1 ≠ 0 then [a, b, c + 1, d + 1] else if b + 1 ≠ 0 then [a, b + 1, c + 1, d + 1] else [a + 1, b + 1, c + 1, d + 1]
def nextC (l : List UInt8) : List UInt8 := l.take 12 ++ inc4 (l.getD 12 0) (l.getD 13 0) (l.getD 14 0) (l.getD 15 0)
theorem inc4_len (a b c d : UInt8) : (inc4 a b c d).length = 4 := by unfold inc4; split <;> (try split) <;> (try split) <;> rfl
theorem nextC_len {l : List UInt8} (h : l.length = 16) : (nextC l).length = 16 := by unfold nextC; rw [List.length_append, inc4_len]; simp; omega
def cnum (a b c d : UInt8) : Nat := ((a.toNat * 256 + b.toNat) * 256 + c.toNat) * 256 + d.toNat
def cbyt (n : Nat) : List UInt8 := [UInt8.ofNat (n / 16777216), UInt8.ofNat (n / 65536 % 256), UInt8.ofNat (n / 256 % 256), UInt8.ofNat (n % 256)]
theorem u8_p1 (x : UInt8) : (x + 1).toNat = (x.toNat + 1) % 256 := by rw [UInt8.toNat_add]; rfl
theorem u8_nz (x : UInt8) : x + 1 ≠ 0 ↔ x.toNat ≠ 255 := by
 have hx : x.toNat < 256 := UInt8.toNat_lt _
 constructor
 ·
  intro h e; apply h; apply UInt8.toNat_inj.mp; rw [u8_p1, e]; rfl
 ·
  intro h e; have := congrArg UInt8.toNat e; rw [u8_p1] at this; simp at this; omega
theorem inc4_num (a b c d : UInt8) : inc4 a b c d = cbyt ((cnum a b c d + 1) % 4294967296) := by
 have ha : a.toNat < 256 := UInt8.toNat_lt _
 have hb : b.toNat < 256 := UInt8.toNat_lt _
 have hc : c.toNat < 256 := UInt8.toNat_lt _
 have hd : d.toNat < 256 := UInt8.toNat_lt _
 have e : ∀ (x : UInt8) (n : Nat), x.toNat = n % 256 → x = UInt8.ofNat n := fun x n h => by apply UInt8.toNat_inj.mp; rw [h]; simp
 unfold inc4 cbyt cnum
 simp only [u8_nz]
 split
 ·
  simp only [List.cons.injEq, and_true]
  refine ⟨e _ _ ?_, e _ _ ?_, e _ _ ?_, e _ _ ?_⟩ <;> (try rw [u8_p1]) <;> omega
 ·
  split
  ·
   simp only [List.cons.injEq, and_true]
   refine ⟨e _ _ ?_, e _ _ ?_, e _ _ ?_, e _ _ ?_⟩ <;> (try rw [u8_p1]) <;> omega
  ·
   split
   ·
    simp only [List.cons.injEq, and_true]
    refine ⟨e _ _ ?_, e _ _ ?_, e _ _ ?_, e _ _ ?_⟩ <;> (try rw [u8_p1]) <;> omega
   ·
    simp only [List.cons.injEq, and_true]
    refine ⟨e _ _ ?_, e _ _ ?_, e _ _ ?_, e _ _ ?_⟩ <;> (try rw [u8_p1]) <;> omega
end Go.Sh
namespace Go.Sh
open Go.Proofs
set_option maxHeartbeats 1000000
theorem f54 (c0 c1 c2 c3 c4 c5 c6 c7 c8 c9 c10 c11 c12 c13 c14 c15 : UInt8) : SCall Try.prog 54 [.agg ([c0, c1, c2, c3, c4, c5, c6, c7, c8, c9, c10, c11, c12, c13, c14, c15].map .u8)] [] (.agg ((nextC [c0, c1, c2, c3, c4, c5, c6, c7, c8, c9, c10, c11, c12, c13, c14, c15]).map .u8)) [] := by
 have hn : nextC [c0, c1, c2, c3, c4, c5, c6, c7, c8, c9, c10, c11, c12, c13, c14, c15] = [c0, c1, c2, c3, c4, c5, c6, c7, c8, c9, c10, c11] ++ inc4 c12 c13 c14 c15 := rfl
 rw [hn]
 refine scall_of ttOk (by kernel_rfl : Try.prog.funcs[54]? = some Try.f54) rfl rfl rfl ?_
 refine sw_ok ttOk mixed (by kernel_rfl) ?_
 conv => whnf
 repeat (fail)
 refine loop_rounds ttOk mixed (by kernel_rfl) 5 ?_
 conv => whnf
 by_cases h15 : c15 + 1 ≠ 0
 ·
  have hq : inc4 c12 c13 c14 c15 = [c12, c13, c14, c15 + 1] := by unfold inc4; rw [if_pos h15]
  have g15 : (c15 + 1 != 0) = true := by simp [h15]
  rw [hq]
  repeat (first | (refine brT rfl ?_; conv => whnf) | (refine Exists.intro _ (And.intro (sload_all rfl (by first | rfl | fail)) ?_); conv => whnf) | (refine Exists.intro _ (And.intro (sput_all rfl (by first | rfl | fail)) ?_); conv => whnf) | (refine gdT g15 ?_; conv => whnf) | (refine Exists.intro _ (And.intro rfl ?_); conv => whnf) | (refine And.intro (by first | omega | (simp; done) | fail) ?_; conv => whnf) | fail)
  refine ⟨[], ?_, rfl, rfl, ?_, rfl⟩
  ·
   (repeat' (first | (refine wk_agg ?_) | (refine wk_cons ?_ ?_))) <;> first | rfl | fail
  ·
   (repeat' (first | exact trivial | fail)) <;> fail
 ·
  have g15 : (c15 + 1 != 0) = false := by simpa using h15
  by_cases h14 : c14 + 1 ≠ 0
  ·
   have hq : inc4 c12 c13 c14 c15 = [c12, c13, c14 + 1, c15 + 1] := by unfold inc4; rw [if_neg h15, if_pos h14]
   have g14 : (c14 + 1 != 0) = true := by simp [h14]
   rw [hq]
   repeat (first | (refine brT rfl ?_; conv => whnf) | (refine Exists.intro _ (And.intro (sload_all rfl (by first | rfl | fail)) ?_); conv => whnf) | (refine Exists.intro _ (And.intro (sput_all rfl (by first | rfl | fail)) ?_); conv => whnf) | (refine gdF g15 ?_; conv => whnf) | (refine gdT g14 ?_; conv => whnf) | (refine Exists.intro _ (And.intro rfl ?_); conv => whnf) | (refine And.intro (by first | omega | (simp; done) | fail) ?_; conv => whnf) | (refine And.intro (Nat.le_of_ble_eq_true rfl) ?_; conv => whnf) | (refine And.intro ⟨rfl, Nat.le_of_ble_eq_true rfl⟩ ?_; conv => whnf) | fail)
   refine ⟨[], ?_, rfl, rfl, ?_, rfl⟩
   ·
    (repeat' (first | (refine wk_agg ?_) | (refine wk_cons ?_ ?_))) <;> first | rfl | fail
   ·
    (repeat' (first | exact trivial | fail)) <;> fail
  ·
   have g14 : (c14 + 1 != 0) = false := by simpa using h14
   by_cases h13 : c13 + 1 ≠ 0
   ·
    have hq : inc4 c12 c13 c14 c15 = [if c13 + 1 ≠ 0 then c12 else c12 + 1, c13 + 1, c14 + 1, c15 + 1] := by unfold inc4; rw [if_neg h15, if_neg h14]; simp only [if_pos h13]
    have g13 : (c13 + 1 != 0) = true := by simpa using h13
    rw [hq]
    simp only [if_pos h13]
    by_cases h12 : c12 + 1 ≠ 0
    ·
     have g12 : (c12 + 1 != 0) = true := by simp [h12]
     repeat (first | (refine brT rfl ?_; conv => whnf) | (refine Exists.intro _ (And.intro (sload_all rfl (by first | rfl | fail)) ?_); conv => whnf) | (refine Exists.intro _ (And.intro (sput_all rfl (by first | rfl | fail)) ?_); conv => whnf) | (refine gdF g15 ?_; conv => whnf) | (refine gdF g14 ?_; conv => whnf) | (refine gdT g13 ?_; conv => whnf) | (refine Exists.intro _ (And.intro rfl ?_); conv => whnf) | (refine And.intro (by first | omega | (simp; done) | fail) ?_; conv => whnf) | (refine And.intro (Nat.le_of_ble_eq_true rfl) ?_; conv => whnf) | (refine And.intro ⟨rfl, Nat.le_of_ble_eq_true rfl⟩ ?_; conv => whnf) | fail)
     refine ⟨[], ?_, rfl, rfl, ?_, rfl⟩
     ·
      (repeat' (first | (refine wk_agg ?_) | (refine wk_cons ?_ ?_))) <;> first | rfl | fail
     ·
      (repeat' (first | exact trivial | fail)) <;> fail
    ·
     have g12 : (c12 + 1 != 0) = false := by simpa using h12
     repeat (first | (refine brT rfl ?_; conv => whnf) | (refine Exists.intro _ (And.intro (sload_all rfl (by first | rfl | fail)) ?_); conv => whnf) | (refine Exists.intro _ (And.intro (sput_all rfl (by first | rfl | fail)) ?_); conv => whnf) | (refine gdF g15 ?_; conv => whnf) | (refine gdF g14 ?_; conv => whnf) | (refine gdT g13 ?_; conv => whnf) | (refine Exists.intro _ (And.intro rfl ?_); conv => whnf) | (refine And.intro (by first | omega | (simp; done) | fail) ?_; conv => whnf) | (refine And.intro (Nat.le_of_ble_eq_true rfl) ?_; conv => whnf) | (refine And.intro ⟨rfl, Nat.le_of_ble_eq_true rfl⟩ ?_; conv => whnf) | fail)
     refine ⟨[], ?_, rfl, rfl, ?_, rfl⟩
     ·
      (repeat' (first | (refine wk_agg ?_) | (refine wk_cons ?_ ?_))) <;> first | rfl | fail
     ·
      (repeat' (first | exact trivial | fail)) <;> fail
   ·
    have hq : inc4 c12 c13 c14 c15 = [if c13 + 1 ≠ 0 then c12 else c12 + 1, c13 + 1, c14 + 1, c15 + 1] := by unfold inc4; rw [if_neg h15, if_neg h14]; simp only [if_neg h13]
    have g13 : (c13 + 1 != 0) = false := by simpa using h13
    rw [hq]
    simp only [if_neg h13]
    by_cases h12 : c12 + 1 ≠ 0
    ·
     have g12 : (c12 + 1 != 0) = true := by simp [h12]
     repeat (first | (refine brT rfl ?_; conv => whnf) | (refine Exists.intro _ (And.intro (sload_all rfl (by first | rfl | fail)) ?_); conv => whnf) | (refine Exists.intro _ (And.intro (sput_all rfl (by first | rfl | fail)) ?_); conv => whnf) | (refine gdF g15 ?_; conv => whnf) | (refine gdF g14 ?_; conv => whnf) | (refine gdF g13 ?_; conv => whnf) | (refine gdT g12 ?_; conv => whnf) | (refine Exists.intro _ (And.intro rfl ?_); conv => whnf) | (refine And.intro (by first | omega | (simp; done) | fail) ?_; conv => whnf) | (refine And.intro (Nat.le_of_ble_eq_true rfl) ?_; conv => whnf) | (refine And.intro ⟨rfl, Nat.le_of_ble_eq_true rfl⟩ ?_; conv => whnf) | fail)
     refine ⟨[], ?_, rfl, rfl, ?_, rfl⟩
     ·
      (repeat' (first | (refine wk_agg ?_) | (refine wk_cons ?_ ?_))) <;> first | rfl | fail
     ·
      (repeat' (first | exact trivial | fail)) <;> fail
    ·
     have g12 : (c12 + 1 != 0) = false := by simpa using h12
     repeat (first | (refine brT rfl ?_; conv => whnf) | (refine brF rfl ?_; conv => whnf) | (refine Exists.intro _ (And.intro (sload_all rfl (by first | rfl | fail)) ?_); conv => whnf) | (refine Exists.intro _ (And.intro (sput_all rfl (by first | rfl | fail)) ?_); conv => whnf) | (refine gdF g15 ?_; conv => whnf) | (refine gdF g14 ?_; conv => whnf) | (refine gdF g13 ?_; conv => whnf) | (refine gdF g12 ?_; conv => whnf) | (refine Exists.intro _ (And.intro rfl ?_); conv => whnf) | (refine And.intro (by first | omega | (simp; done) | fail) ?_; conv => whnf) | (refine And.intro (Nat.le_of_ble_eq_true rfl) ?_; conv => whnf) | (refine And.intro ⟨rfl, Nat.le_of_ble_eq_true rfl⟩ ?_; conv => whnf) | fail)
     refine ⟨[], ?_, rfl, rfl, ?_, rfl⟩
     ·
      (repeat' (first | (refine wk_agg ?_) | (refine wk_cons ?_ ?_))) <;> first | rfl | fail
     ·
      (repeat' (first | exact trivial | fail)) <;> fail
end Go.Sh
namespace Go.Sh
open Go.Proofs
set_option maxHeartbeats 4000000
def cn64 (c : List UInt8) : Nat → UInt64
 | 0 => 0
 | i + 1 => 256 * cn64 c i + (c.getD (12 + i) 0).toUInt64
theorem cn64_s (c : List UInt8) (i : Nat) : cn64 c (i + 1) = 256 * cn64 c i + (c.getD (12 + i) 0).toUInt64 := rfl
theorem cn64_z (c : List UInt8) : cn64 c 0 = 0 := rfl
theorem u8_64 (x : UInt8) : x.toUInt64.toNat = x.toNat := by simp
theorem cn64_num (c : List UInt8) : (cn64 c 4).toNat = cnum (c.getD 12 0) (c.getD 13 0) (c.getD 14 0) (c.getD 15 0) := by
 have ha : (c.getD 12 0).toNat < 256 := UInt8.toNat_lt _
 have hb : (c.getD 13 0).toNat < 256 := UInt8.toNat_lt _
 have hc : (c.getD 14 0).toNat < 256 := UInt8.toNat_lt _
 have hd : (c.getD 15 0).toNat < 256 := UInt8.toNat_lt _
 unfold cnum
 simp only [cn64, UInt64.toNat_add, UInt64.toNat_mul, u8_64]
 rw [show UInt64.toNat 256 = 256 from rfl, show UInt64.toNat 0 = 0 from rfl]
 simp only [Nat.add_zero, show 12 + 1 = 13 from rfl, show 12 + 2 = 14 from rfl, show 12 + 3 = 15 from rfl]
 omega
theorem cnum_lt (a b c d : UInt8) : cnum a b c d < 4294967296 := by
 have ha : a.toNat < 256 := UInt8.toNat_lt _
 have hb : b.toNat < 256 := UInt8.toNat_lt _
 have hc : c.toNat < 256 := UInt8.toNat_lt _
 have hd : d.toNat < 256 := UInt8.toNat_lt _
 unfold cnum; omega
theorem u64_8 (x : UInt64) (n : Nat) (h : x.toNat = n) : x.toUInt8 = UInt8.ofNat n := by
 apply UInt8.toNat_inj.mp; subst h; simp
theorem cb64 (x : UInt64) (a b c d : UInt8) (h : x.toNat = cnum a b c d) : [((x + 1) % 4294967296 / 16777216).toUInt8, ((x + 1) % 4294967296 / 65536 % 256).toUInt8, ((x + 1) % 4294967296 / 256 % 256).toUInt8, ((x + 1) % 4294967296 % 256).toUInt8] = inc4 a b c d := by
 have hl := cnum_lt a b c d
 rw [inc4_num, ← h]
 rw [← h] at hl
 unfold cbyt
 have e : ((x + 1) % 4294967296).toNat = (x.toNat + 1) % 4294967296 := by
  rw [UInt64.toNat_mod, UInt64.toNat_add]
  rw [show UInt64.toNat 4294967296 = 4294967296 from rfl, show UInt64.toNat 1 = 1 from rfl]
  omega
 simp only [List.cons.injEq, and_true]
 refine ⟨u64_8 _ _ ?_, u64_8 _ _ ?_, u64_8 _ _ ?_, u64_8 _ _ ?_⟩
 ·
  rw [UInt64.toNat_div, e]; rfl
 ·
  rw [UInt64.toNat_mod, UInt64.toNat_div, e]; rfl
 ·
  rw [UInt64.toNat_mod, UInt64.toNat_div, e]; rfl
 ·
  rw [UInt64.toNat_mod, e]; rfl
theorem f57 (fl : Bool) (c : List UInt8) (hc : c.length = 16) : SCall Try.prog 57 [.sl 0 0 16 1 fl] [some (.ro (c.map .u8))] (.sl 1 0 16 1 false) [some (.ro (c.map .u8)), some (.row 5 ((nextC c).map .u8))] := by
 refine scall_of ttOk (by kernel_rfl : Try.prog.funcs[57]? = some Try.f57) rfl rfl rfl ?_
 refine sw_ok ttOk mixed (by kernel_rfl) ?_
 conv => whnf
 repeat (fail)
 refine loop_rule ttOk mixed (by kernel_rfl) (ι := { i : Nat // i ≤ 4 }) (fun i => [(0, .sl 0 0 16 1 fl), (3, .u64 (cn64 c i.1)), (4, .i ((12 + i.1 : Nat) : Int))]) (fun i => [some (.ro (c.map .u8))]) (fun _ => 1) (fun i => 4 - i.1) ⟨0, by omega⟩ ?_ ?_
 ·
  refine Weak.sel [0] rfl rfl ?_ ?_ rfl rfl
  ·
   (repeat' (first | exact trivial | refine And.intro ?_ ?_ | fail)) <;> first | rfl | fail
  ·
   (repeat' (first | exact trivial | refine And.intro ?_ ?_ | fail)) <;> first | exact ren_eq (by first | (simp; done) | fail) (by first | rfl | fail) | fail
 ·
  rintro ⟨i, hi⟩
  dsimp only
  by_cases hi2 : i < 4
  ·
   have hlt : decide (((12 + i : Nat) : Int) < 16) = true := by simp; omega
   have hp1 := w6_p1 (12 + i) (by omega)
   conv => whnf
   first | refine brT (by exact hlt) ?_ | fail
   conv => whnf
   repeat (first | (refine Exists.intro _ (And.intro (sload_u8 (i := 12 + i) (by first | rfl | omega | fail) (by first | omega | fail)) ?_); conv => whnf) | (refine Exists.intro _ (And.intro (idx_i (m := 12 + i) (by first | rfl | fail)) ?_); conv => whnf) | (refine And.intro (by first | omega | fail) ?_; conv => whnf) | fail)
   refine ⟨⟨i + 1, by omega⟩, by simp only; omega, ?_⟩
   refine Weak.sel [0] rfl rfl ?_ ?_ rfl rfl
   ·
    (repeat' (first | exact trivial | refine And.intro ?_ ?_ | fail)) <;> first | rfl | exact wk_i (by first | exact hp1.symm | fail) | fail
   ·
    (repeat' (first | exact trivial | refine And.intro ?_ ?_ | fail)) <;> first | exact ren_eq (by first | (simp; done) | fail) (by first | rfl | fail) | fail
  ·
   obtain rfl : i = 4 := by omega
   have hlt : decide (((12 + 4 : Nat) : Int) < 16) = false := by decide
   conv => whnf
   first | refine brF (by exact hlt) ?_ | fail
   conv => whnf
   repeat (first | (refine Exists.intro _ (And.intro rfl ?_); conv => whnf) | (refine And.intro (by first | omega | (simp [ti5]; omega)) ?_; conv => whnf) | fail)
   obtain ⟨c0, c1, c2, c3, c4, c5, c6, c7, c8, c9, c10, c11, c12, c13, c14, c15, rfl⟩ := ex16 hc
   have hcb := cb64 _ _ _ _ _ (cn64_num [c0, c1, c2, c3, c4, c5, c6, c7, c8, c9, c10, c11, c12, c13, c14, c15])
   obtain ⟨x, hx⟩ : ∃ x, x = cn64 [c0, c1, c2, c3, c4, c5, c6, c7, c8, c9, c10, c11, c12, c13, c14, c15] 4 := ⟨_, rfl⟩
   rw [← hx] at hcb ⊢
   have hfin : (nextC [c0, c1, c2, c3, c4, c5, c6, c7, c8, c9, c10, c11, c12, c13, c14, c15]).map SV.u8 = [c0, c1, c2, c3, c4, c5, c6, c7, c8, c9, c10, c11].map SV.u8 ++ ([((x + 1) % 4294967296 / 16777216).toUInt8, ((x + 1) % 4294967296 / 65536 % 256).toUInt8, ((x + 1) % 4294967296 / 256 % 256).toUInt8, ((x + 1) % 4294967296 % 256).toUInt8]).map SV.u8 := by rw [hcb]; rfl
   refine ⟨[0, 4], ?_, rfl, rfl, ?_, rfl⟩
   ·
    (repeat' (fail)) <;> first | rfl | fail
   ·
    (repeat' (first | exact trivial | exact ren_eq (plainL_u8 _) hfin | refine And.intro ?_ ?_ | (refine wk_cons ?_ ?_))) <;> first | rfl | fail
end Go.Sh
namespace Go.Sh
open Go.Proofs
set_option maxHeartbeats 4000000
theorem wp1 (n : Nat) (h : n < 4611686018427387904) : w64 ((n : Int) + 1) = ((n + 1 : Nat) : Int) := by simp only [w64_eq]; omega
theorem tmod_nk (n k : Nat) : ((n : Int)).tmod (k : Int) = ((n % k : Nat) : Int) := by rw [Int.tmod_eq_emod_of_nonneg (by omega)]; omega
def ctrN (c : List UInt8) : Nat → List UInt8
 | 0 => c
 | k + 1 => nextC (ctrN c k)
theorem ctrN_z (c : List UInt8) : ctrN c 0 = c := rfl
theorem ctrN_s (c : List UInt8) (k : Nat) : ctrN c (k + 1) = nextC (ctrN c k) := rfl
theorem ctrN_len {c : List UInt8} (h : c.length = 16) : ∀ k, (ctrN c k).length = 16
 | 0 => h
 | k + 1 => nextC_len (ctrN_len h k)
def ksB (w : List UInt8) (R : Nat) (c : List UInt8) (k : Nat) : List UInt8 := sealSt w R (ctrN c k) R
theorem ksB_len {w : List UInt8} {R : Nat} {c : List UInt8} (h : c.length = 16) (k : Nat) : (ksB w R c k).length = 16 := sealSt_len w R _ (ctrN_len h k) R
def trn (w : List UInt8) (R : Nat) (c b : List UInt8) (j : Nat) : UInt8 := b.getD j 0 ^^^ (ksB w R c (j / 16)).getD (j % 16) 0
def turnL (w : List UInt8) (R : Nat) (c b : List UInt8) : List UInt8 := (List.range b.length).map (trn w R c b)
def sreg : Nat → SV
 | 0 => .slnil
 | _ + 1 => .sl 6 0 16 1 true
def sent (w : List UInt8) (R : Nat) (c : List UInt8) : Nat → Option SB
 | 0 => none
 | i + 1 => some (.row 5 ((ksB w R c (i / 16)).map .u8))
theorem ksB_eq (w : List UInt8) (R : Nat) (c : List UInt8) (k : Nat) : sealSt w R (ctrN c k) R = ksB w R c k := rfl
attribute [local irreducible] ctrN ksB
theorem f55 (fb fw ff fo : Bool) (w c b : List UInt8) (R : Nat) (hw : w.length = 16 * (R + 1)) (hR1 : 1 ≤ R) (hR2 : R ≤ 20) (hc : c.length = 16) (hbl : b.length < 100000000000000) :
  SCall Try.prog 55 [.sl 0 0 256 1 fb, .sl 1 0 (16 * (R + 1)) 1 fw, .sl 2 0 16 1 ff, .sl 3 0 b.length 1 fo] [some (.ro (sbx.map .u8)), some (.ro (w.map .u8)), some (.ro (c.map .u8)), some (.ro (b.map .u8))]
   (.sl 4 0 b.length 1 false) [some (.ro (sbx.map .u8)), some (.ro (w.map .u8)), some (.ro (c.map .u8)), some (.ro (b.map .u8)), some (.row 5 ((turnL w R c b).map .u8))] := by
 have hsl := sbx_len
 refine scall_of ttOk (by kernel_rfl : Try.prog.funcs[55]? = some Try.f55) rfl rfl rfl ?_
 refine sw_ok ttOk mixed (by kernel_rfl) ?_
 conv => whnf
 repeat (first | (refine Exists.intro _ (And.intro rfl ?_); conv => whnf) | (refine And.intro (by first | omega | (simp [ti5]; omega)) ?_; conv => whnf) | fail)
 refine SWp.weak (Weak.virt 10 5 1 rfl) ?_
 refine loop_rule ttOk mixed (by kernel_rfl) (ι := { i : Nat // i ≤ b.length }) (fun i => [(0, .sl 0 0 256 1 fb), (1, .sl 1 0 (16 * (R + 1)) 1 fw), (3, .sl 3 0 b.length 1 fo), (9, .sl 4 0 16 1 false), (10, .sl 5 0 i.1 1 false), (11, sreg i.1), (12, .i (i.1 : Int))]) (fun i => [some (.ro (sbx.map .u8)), some (.ro (w.map .u8)), some (.ro (c.map .u8)), some (.ro (b.map .u8)), some (.row 5 ((ctrN c ((i.1 + 15) / 16)).map .u8)), some (.row 5 (((List.range i.1).map (trn w R c b)).map .u8)), sent w R c i.1]) (fun _ => 7) (fun i => b.length - i.1) ⟨0, by omega⟩ ?_ ?_
 ·
  have hc0 : (ctrN c ((0 + 15) / 16)).map SV.u8 = List.take 16 (List.drop 0 (c.map SV.u8)) := by
   rw [show (0 + 15) / 16 = 0 from rfl, ctrN_z, List.drop_zero, List.take_of_length_le (by simp [hc])]
  refine Weak.sel [0, 1, 2, 3, 5, 6, 0] rfl rfl ?_ ?_ rfl rfl
  ·
   (repeat' (first | exact trivial | refine And.intro ?_ ?_ | fail)) <;> first | rfl | fail
  ·
   (repeat' (first | exact trivial | exact ren_eq (plainL_u8 _) hc0 | refine And.intro ?_ ?_ | fail)) <;> first | rfl | exact ren_eq (by first | (simp; done) | fail) (by first | rfl | fail) | fail
 ·
  rintro ⟨i, hi⟩
  have hf : ((List.range i).map (trn w R c b)).length = i := rng_len
  dsimp only
  by_cases hi2 : i < b.length
  ·
   have hlt : decide ((i : Int) < (b.length : Int)) = true := by simp; omega
   have hp1 := wp1 i (by omega)
   have htm : ((i : Int)).tmod 16 = ((i % 16 : Nat) : Int) := tmod_nk i 16
   by_cases h0 : i % 16 = 0
   ·
    have hm : ((i : Int).tmod 16 == 0) = true := by rw [htm, h0]; rfl
    rcases i with _ | i
    ·
     skip
     have hk1 : (0 + 15) / 16 = 0 / 16 := by omega
     have hk2 : ctrN c ((0 + 1 + 15) / 16) = nextC (ctrN c (0 / 16)) := by rw [show (0 + 1 + 15) / 16 = 0 / 16 + 1 by omega, ctrN_s]
     have h49 := f49 fb fw false w (ctrN c (0 / 16)) R hw hR1 hR2 (ctrN_len hc _)
     have h57 := f57 false (ctrN c (0 / 16)) (ctrN_len hc _)
     have hkl := ksB_len (w := w) (R := R) hc (0 / 16)
     rw [ksB_eq] at h49
     rw [hk1]
     have hs : (List.range (0 + 1)).map (trn w R c b) = (List.range 0).map (trn w R c b) ++ [trn w R c b 0] := rng_succ
     have happ : List.take (0 * 1) (List.drop 0 (((List.range 0).map (trn w R c b)).map SV.u8)) ++ List.take (1 * 1) (List.drop 0 [SV.u8 (b.getD 0 0 ^^^ (ksB w R c (0 / 16)).getD (0 % 16) 0)]) = ((List.range (0 + 1)).map (trn w R c b)).map SV.u8 := by rw [app1 rng_len, hs]; rfl
     conv => whnf
     first | refine brT (by exact hlt) ?_ | fail
     conv => whnf
     repeat (first | (refine brT rfl ?_; conv => whnf) | (refine Exists.intro _ (And.intro rfl ?_); conv => whnf) | fail)
     first | skip
     repeat (fail)
     refine ok1_callP [0, 1, 4] (h49) rfl rfl ⟨⟨rfl, by first | rfl | fail⟩, by (repeat' (first | exact trivial | refine And.intro ?_ ?_)) <;> first | exact ren_eq (by first | (simp; done) | fail) (by first | rfl | fail), by first | simp [plainH], ?_⟩
     conv => whnf
     repeat (fail)
     refine ok1_callP [4] (h57) rfl rfl ⟨⟨rfl, by first | rfl | fail⟩, by (repeat' (first | exact trivial | refine And.intro ?_ ?_)) <;> first | exact ren_eq (by first | (simp; done) | fail) (by first | rfl | fail), by first | simp [plainH], ?_⟩
     conv => whnf
     repeat (first | (refine Exists.intro _ (And.intro (sload_u8 (i := 0) (by first | rfl | fail) (by first | omega | fail)) ?_); conv => whnf) | (refine Exists.intro _ (And.intro (idx_i (m := 0) (by first | rfl | fail)) ?_); conv => whnf) | (refine Exists.intro _ (And.intro rfl ?_); conv => whnf) | (refine And.intro (by first | omega | fail) ?_; conv => whnf) | (refine And.intro ⟨Nat.le_of_ble_eq_true rfl, Nat.le_of_ble_eq_true rfl, Nat.le_of_ble_eq_true rfl⟩ ?_; conv => whnf) | (refine And.intro (by kernel_rfl) ?_; conv => whnf) | fail)
     refine ⟨⟨0 + 1, by omega⟩, by simp only; omega, ?_⟩
     refine Weak.sel [0, 1, 2, 3, 8, 10, 7] rfl rfl ?_ ?_ rfl rfl
     ·
      (repeat' (first | exact trivial | refine And.intro ?_ ?_ | fail)) <;> first | rfl | fail
     ·
      (repeat' (first | exact trivial | exact ren_eq (plainL_u8 _) happ.symm | refine And.intro ?_ ?_ | fail)) <;> first | exact ren_m8 (by first | exact hk2 | fail) | rfl | exact ren_eq (by first | (simp; done) | fail) (by first | rfl | fail) | fail
    ·
     skip
     have hk1 : ((i + 1) + 15) / 16 = (i + 1) / 16 := by omega
     have hk2 : ctrN c (((i + 1) + 1 + 15) / 16) = nextC (ctrN c ((i + 1) / 16)) := by rw [show ((i + 1) + 1 + 15) / 16 = (i + 1) / 16 + 1 by omega, ctrN_s]
     have h49 := f49 fb fw false w (ctrN c ((i + 1) / 16)) R hw hR1 hR2 (ctrN_len hc _)
     have h57 := f57 false (ctrN c ((i + 1) / 16)) (ctrN_len hc _)
     have hkl := ksB_len (w := w) (R := R) hc ((i + 1) / 16)
     rw [ksB_eq] at h49
     rw [hk1]
     have hs : (List.range ((i + 1) + 1)).map (trn w R c b) = (List.range (i + 1)).map (trn w R c b) ++ [trn w R c b (i + 1)] := rng_succ
     have happ : List.take ((i + 1) * 1) (List.drop 0 (((List.range (i + 1)).map (trn w R c b)).map SV.u8)) ++ List.take (1 * 1) (List.drop 0 [SV.u8 (b.getD (i + 1) 0 ^^^ (ksB w R c ((i + 1) / 16)).getD ((i + 1) % 16) 0)]) = ((List.range ((i + 1) + 1)).map (trn w R c b)).map SV.u8 := by rw [app1 rng_len, hs]; rfl
     conv => whnf
     first | refine brT (by exact hlt) ?_ | fail
     conv => whnf
     repeat (first | (refine Exists.intro _ (And.intro rfl ?_); conv => whnf) | fail)
     first | (refine brT (by exact hm) ?_; conv => whnf) | fail
     repeat (fail)
     refine ok1_callP [0, 1, 4] (h49) rfl rfl ⟨⟨rfl, by first | rfl | fail⟩, by (repeat' (first | exact trivial | refine And.intro ?_ ?_)) <;> first | exact ren_eq (by first | (simp; done) | fail) (by first | rfl | fail), by first | simp [plainH], ?_⟩
     conv => whnf
     repeat (fail)
     refine ok1_callP [4] (h57) rfl rfl ⟨⟨rfl, by first | rfl | fail⟩, by (repeat' (first | exact trivial | refine And.intro ?_ ?_)) <;> first | exact ren_eq (by first | (simp; done) | fail) (by first | rfl | fail), by first | simp [plainH], ?_⟩
     conv => whnf
     repeat (first | (refine Exists.intro _ (And.intro (sload_u8 (i := (i + 1)) (by first | rfl | omega | fail) (by first | omega | fail)) ?_); conv => whnf) | (refine Exists.intro _ (And.intro (idx_i (m := (i + 1)) (by first | rfl | fail)) ?_); conv => whnf) | (refine Exists.intro _ (And.intro (sload_u8 (i := (i + 1) % 16) (by first | rfl | omega | fail) (by first | omega | fail)) ?_); conv => whnf) | (refine Exists.intro _ (And.intro (idx_i (m := (i + 1) % 16) (by first | rfl | fail)) ?_); conv => whnf) | (refine Exists.intro _ (And.intro rfl ?_); conv => whnf) | (refine And.intro (by first | omega | (simp [ti5]; omega)) ?_; conv => whnf) | (refine And.intro (by kernel_rfl) ?_; conv => whnf) | fail)
     refine ⟨⟨(i + 1) + 1, by omega⟩, by simp only; omega, ?_⟩
     refine Weak.sel [0, 1, 2, 3, 8, 10, 7] rfl rfl ?_ ?_ rfl rfl
     ·
      (repeat' (first | exact trivial | refine And.intro ?_ ?_ | fail)) <;> first | rfl | exact wk_i (by first | exact hp1.symm | fail) | fail
     ·
      (repeat' (first | exact trivial | exact ren_eq (plainL_u8 _) happ.symm | refine And.intro ?_ ?_ | fail)) <;> first | exact ren_m8 (by first | exact hk2 | fail) | rfl | exact ren_eq (by first | (simp; done) | fail) (by first | rfl | fail) | fail
   ·
    have hm : ((i : Int).tmod 16 == 0) = false := by rw [htm]; simp; omega
    rcases i with _ | i
    ·
     exact absurd rfl h0
    ·
     have hk3 : ctrN c ((i + 1 + 1 + 15) / 16) = ctrN c ((i + 1 + 15) / 16) := by rw [show (i + 1 + 1 + 15) / 16 = (i + 1 + 15) / 16 by omega]
     have hk4 : ksB w R c ((i + 1) / 16) = ksB w R c (i / 16) := by rw [show (i + 1) / 16 = i / 16 by omega]
     have hkl := ksB_len (w := w) (R := R) hc (i / 16)
     have hs : (List.range (i + 1 + 1)).map (trn w R c b) = (List.range (i + 1)).map (trn w R c b) ++ [trn w R c b (i + 1)] := rng_succ
     have happ : List.take ((i + 1) * 1) (List.drop 0 (((List.range (i + 1)).map (trn w R c b)).map SV.u8)) ++ List.take (1 * 1) (List.drop 0 [SV.u8 (b.getD (i + 1) 0 ^^^ (ksB w R c (i / 16)).getD ((i + 1) % 16) 0)]) = ((List.range (i + 1 + 1)).map (trn w R c b)).map SV.u8 := by rw [app1 rng_len, hs, ← hk4]; rfl
     conv => whnf
     first | refine brT (by exact hlt) ?_ | fail
     conv => whnf
     repeat (first | (refine Exists.intro _ (And.intro rfl ?_); conv => whnf) | fail)
     first | refine brF (by exact hm) ?_ | fail
     conv => whnf
     repeat (first | (refine Exists.intro _ (And.intro (sload_u8 (i := i + 1) (by first | rfl | omega | fail) (by first | omega | fail)) ?_); conv => whnf) | (refine Exists.intro _ (And.intro (idx_i (m := i + 1) (by first | rfl | fail)) ?_); conv => whnf) | (refine Exists.intro _ (And.intro (sload_u8 (i := (i + 1) % 16) (by first | rfl | omega | fail) (by first | omega | fail)) ?_); conv => whnf) | (refine Exists.intro _ (And.intro (idx_i (m := (i + 1) % 16) (by first | rfl | fail)) ?_); conv => whnf) | (refine Exists.intro _ (And.intro rfl ?_); conv => whnf) | (refine And.intro (by first | omega | (simp [ti5]; omega)) ?_; conv => whnf) | (refine And.intro (by kernel_rfl) ?_; conv => whnf) | fail)
     refine ⟨⟨i + 1 + 1, by omega⟩, by simp only; omega, ?_⟩
     refine Weak.sel [0, 1, 2, 3, 4, 8, 6] rfl rfl ?_ ?_ rfl rfl
     ·
      (repeat' (first | exact trivial | refine And.intro ?_ ?_ | fail)) <;> first | rfl | exact wk_i (by first | exact hp1.symm | fail) | fail
     ·
      (repeat' (first | exact trivial | exact ren_eq (plainL_u8 _) happ.symm | refine And.intro ?_ ?_ | fail)) <;> first | exact ren_m8 (by first | exact hk3 | exact hk4 | fail) | rfl | exact ren_eq (by first | (simp; done) | fail) (by first | rfl | fail) | fail
  ·
   obtain rfl : i = b.length := by omega
   have hlt : decide ((b.length : Int) < (b.length : Int)) = false := by simp
   conv => whnf
   first | refine brF (by exact hlt) ?_ | fail
   conv => whnf
   repeat (fail)
   refine ⟨[0, 1, 2, 3, 5], ?_, rfl, rfl, ?_, rfl⟩
   ·
    (repeat' (fail)) <;> first | rfl | fail
   ·
    (repeat' (first | exact trivial | refine And.intro ?_ ?_ | fail)) <;> first | rfl | exact ren_eq (by first | (simp; done) | fail) (by first | rfl | fail) | fail
end Go.Sh
namespace Go.Sh
section
variable {P : Program} {ρ : Ren} {H : Heap} {w : World}
theorem zeroCells_one (v : Value) (n : Nat) : (Builtin.zeroCells #[v] n).toList = List.replicate n v := by
 apply List.ext_getElem?
 intro j
 unfold Builtin.zeroCells
 by_cases h : j < n
 ·
  simp [h, Nat.mod_one]
 ·
  simp [h]
theorem clear_ok {o : Oper} {x : Operand} {t el id k n : Nat} {full : Bool} {b : SB} {z : SV} {rb : RB} {e : Operand → Value} (ho : o.op = .call { callee := .builtin .clear, args := #[x], argTypes := #[t] })
  (hT : P.underlying t = some (.slice el)) (hz : pzero P el = some z) (hza : z.atom = true) (hx : Rel ρ (.sl id k n 1 full) (e x)) (hid : H id = some b) (hr : ρ id = some rb) (hb : BRel ρ w rb b) (hown : b.own = true) (hin : k + n ≤ b.cells.length)
  (h0 : 0 < b.cells.length) :
  ∃ w', (execOp e o).run P w = .ok (.value (.tuple #[])) w' ∧ Chg ρ H w [(id, some (b.with (sput b.cells k (.agg (List.replicate n z)))))] ρ w' := by
 obtain ⟨zv, hzv, hzr, _⟩ := run_zero (w := w) hz
 have hrel : Rel ρ (.agg (List.replicate n z)) (.agg ⟨List.replicate n zv⟩) := by
  simp only [Rel]
  refine ⟨_, rfl, ?_, Rels.replicate (hzr ρ) n⟩
  simp only [atoms, List.all_eq_true]
  exact fun y hy => by rw [(List.mem_replicate.1 hy).2]; exact hza
 obtain ⟨p1, p2, p3⟩ := hb.put (k := k) hown hrel (by simp) (by simpa [SV.cells] using hin) h0
 simp only [Rel] at hx
 obtain ⟨rb', a, cap, hr', he, hnc, hfull, hdis⟩ := hx
 rw [hr] at hr'; cases hr'
 have hzc : zv.cells = #[zv] := (hzr ρ).cells hza
 have hclear : ∀ w', (match a with | some a => if n = 0 then Result.ok () w else (storeCells a (List.replicate n zv)).run P w | none => Result.ok () w) = .ok () w' → (execOp e o).run P w = .ok (.value (.tuple #[])) w' := fun w' hst => by
  simp only [execOp, ho, resolve, invoke, builtin, Sem.run_bind, Sem.run_pure, Result.andThen_ok, List.map_toArray, List.map_cons, List.map_nil, Builtin.clear_, List.getElem?_toArray, List.getElem?_cons_zero, run_und hT, he]
  cases a with
  | none => simp only at hst; cases hst; rfl
  | some a =>
   cases n with
   | zero => simp only [if_true] at hst; cases hst; rfl
   | succ n =>
    simp only [Nat.add_one_ne_zero, if_false] at hst
    simp only [Sem.run_bind, hzv, Result.andThen_ok, hzc, zeroCells_one, hst, Sem.run_pure]
 by_cases hz0 : n = 0
 ·
  subst hz0
  refine ⟨w, hclear w ?_, ?_⟩
  ·
   cases a <;> rfl
  ·
   have : World.putCells w rb.blk (rb.off + k) (Value.cells (.agg ⟨List.replicate 0 zv⟩)).toList = w := putCells_nil w _ _
   rw [this] at p1 p2
   exact Chg.put hid hr hown p3 p1 p2
 ·
  obtain ⟨hv, ha2, hcapb⟩ := hdis.resolve_left (by omega)
  obtain ⟨⟨ca, ty, fz, hca, _, hrl, hzz, hsz⟩, _⟩ := hb.cellsAt h0
  rw [hown] at hzz
  have hst := run_puts (P := P) (o := rb.off + k) (List.replicate n zv) 0 hca (hzz rfl) (by have := hrl.length; simp at this ⊢; omega) (fun v hv => by rw [(List.mem_replicate.1 hv).2]; exact (hzr ρ).oneCell hza)
  exact ⟨_, hclear _ (by rw [ha2]; simp only [hz0, if_false]; exact hst), Chg.put hid hr hown p3 p1 p2⟩
end
theorem lt_clear {P : Program} {H : Heap} {o : Oper} {R : Env} {x : Operand} {t el n id k : Nat} {full : Bool} {b : SB} {z : SV} (ho : o.op = .call { callee := .builtin .clear, args := #[x], argTypes := #[t] })
  (hT : P.underlying t = some (.slice el)) (hz : pzero P el = some z) (hza : z.atom = true) (hx : evO R x = some (.sl id k n 1 full)) (hid : H id = some b) (hown : b.own = true) (hin : k + n ≤ b.cells.length) (h0 : 0 < b.cells.length) :
  LT P o R H [id] [(id, some (b.with (sput b.cells k (.agg (List.replicate n z)))))] (some (.tup [])) := by
 refine LT.of_run (by simp [ho]) fun e w ρ h1 h2 _ hfresh => ?_
 have hx2 := h1 x (by simp [ho, Op.operands, Call.operands]) _ hx
 obtain ⟨rb, hr, hbr⟩ := h2 id (by simp) _ hid
 obtain ⟨w', a1, a2⟩ := clear_ok (w := w) (H := H) ho hT hz hza hx2 hid hr hbr hown hin h0
 exact ⟨_, w', ρ, a1, a2, .inl ⟨_, rfl, fun u hu => by cases hu; simp only [Rel]; exact ⟨[], rfl, by simp only [Rels]⟩⟩⟩
theorem ok1_clear {P : Program} {o : Oper} {R : RL} {H : HL} {L : Nat} {k : K1} {x : Operand} {t : Nat} (el id off n e : Nat) (full : Bool) (l : List SV) (z : SV) (ho : o.op = .call { callee := .builtin .clear, args := #[x], argTypes := #[t] })
  (hT : P.underlying t = some (.slice el)) (hz : pzero P el = some z) (hza : z.atom = true) (hx : ev R x = some (.sl id off n 1 full)) (hid : hk H id = some (.row e l)) (hin : off + n ≤ l.length) (h0 : 0 < l.length) (hl : H.length ≤ L)
  (h : k (some (.tup [])) [(id, some (.row e (sput l off (.agg (List.replicate n z)))))] [id] L) : Ok1 P o R H L k :=
 ok1_put (hk_lt hl hid) (by simp) (lt_clear ho hT hz hza (ev_some hx) (hk_some hid) rfl hin h0) h
end Go.Sh
namespace Go.Sh
theorem range_named {P : Program} {N A : Nat} {g : Operand} {ps : List Nat} {as_ bd : Code} {Q : Exit → RL → HL → Nat → Prop} {R : RL} {H : HL} {L : Nat} {gf : Nat} {caps : List SV} {fn : Func} {c : Code}
  (hg0 : ev R g = some (.fn gf caps)) (hle : Nat.ble H.length L = true) (hA : Nat.ble A L = true) (hf : P.funcs[gf]? = some fn) (hb : fn.body = some c) (hnm : (fn.name == "runtime.NumGoroutine") = false) (hres : fn.results = #[]) (hnt : Nat.ble (caps.length + 1) fn.ntmps = true)
  (hwalk : ∀ a b, a = as_ → b = bd → SWp P (· = none) fn.ntmps (L + 1) c (rangeQ L R Q) (regs 0 (.yld L :: caps)) (hput H L (some (.obj (.loop R N ps a b)))) (L + 1)) :
  SWp P (· = none) N A (.rangeFunc g ⟨ps⟩ as_ bd) Q R H L := range_rule hg0 hle hA hf hb hnm hres hnt (hwalk _ _ rfl rfl)
end Go.Sh
namespace Go.Sh
open Go.Proofs
set_option maxHeartbeats 4000000
theorem f54L (c : List UInt8) (hc : c.length = 16) : SCall Try.prog 54 [.agg (c.map .u8)] [] (.agg ((nextC c).map .u8)) [] := by
 obtain ⟨s0, s1, s2, s3, s4, s5, s6, s7, s8, s9, s10, s11, s12, s13, s14, s15, rfl⟩ := ex16 hc
 exact f54 s0 s1 s2 s3 s4 s5 s6 s7 s8 s9 s10 s11 s12 s13 s14 s15
theorem f89 (n : Nat) (fl : Bool) (w : List UInt8) (c : List UInt8) : SCall Try.prog 89 [.p 0 0, .agg (c.map .u8)] [some (.ro (sbx.map .u8 ++ [.sl 1 0 n 4 fl])), some (.ro (w.map .u8))] (.fn 102 [.p 2 0, .p 3 0]) [some (.ro (sbx.map .u8 ++ [.sl 1 0 n 4 fl])), some (.ro (w.map .u8)), some (.box [.p 0 0]), some (.box (c.map .u8))] := by
 refine scall_of ttOk (by kernel_rfl : Try.prog.funcs[89]? = some Try.f89) rfl rfl rfl ?_
 refine sw_ok ttOk mixed (by kernel_rfl) ?_
 conv => whnf
 repeat (fail)
 refine ⟨[0, 1, 2, 3], ?_, rfl, rfl, ?_, rfl⟩
 ·
  (repeat' (fail)) <;> first | rfl | fail
 ·
  (repeat' (first | exact trivial | refine And.intro ?_ ?_ | (refine wk_cons ?_ ?_))) <;> first | rfl | exact ren_eq (by first | (simp; done) | fail) (by first | rfl | fail) | exact ren_app2 (by first | (simp; done) | fail) (by first | rfl | fail) rfl | fail
theorem f53_1 (n : Nat) (fl : Bool) (w : List UInt8) (R : Nat) (hn : n = 4 * (R + 1)) (hw : w.length = 16 * (R + 1)) (hR1 : 1 ≤ R) (hR2 : R ≤ 20) (c D b : List UInt8) (o : Nat) (hD : (D.drop o).take b.length = b) (hoD : o + b.length ≤ D.length) (hc : c.length = 16) (hb : b.length < 100000000000000) (f1 f2 : Bool) :
  SCall Try.prog 53 [.p 0 0, .agg (c.map .u8), .sl 2 0 1 1 f1] [some (.ro (sbx.map .u8 ++ [.sl 1 0 n 4 fl])), some (.ro (w.map .u8)), some (.ro [.sl 3 o b.length 1 f2]), some (.ro (D.map .u8))]
   (.tup [.sl 4 0 b.length 1 false, .i 0]) [some (.ro (sbx.map .u8 ++ [.sl 1 0 n 4 fl])), some (.ro (w.map .u8)), some (.ro [.sl 3 o b.length 1 f2]), some (.ro (D.map .u8)), some (.row 5 ((turnL w R c b).map .u8))] := by
 have h89 := f89 n fl w c
 have hb0 : b.map SV.u8 = List.take (b.length * 1) (List.drop o (D.map SV.u8)) := by rw [Nat.mul_one]; exact (cut_u8 hD).symm
 refine scall_of ttOk (by kernel_rfl : Try.prog.funcs[53]? = some Try.f53) rfl rfl rfl ?_
 refine sw_ok ttOk mixed (by kernel_rfl) ?_
 conv => whnf
 repeat (first | (refine brF rfl ?_; conv => whnf) | (refine And.intro (by kernel_rfl) ?_; conv => whnf) | fail)
 refine loop_rounds ttOk mixed (by kernel_rfl) 2 ?_
 conv => whnf
 repeat (first | (refine brT rfl ?_; conv => whnf) | (refine brF rfl ?_; conv => whnf) | (refine Exists.intro _ (And.intro (sload_all rfl (by first | rfl | (simp; omega))) ?_); conv => whnf) | (refine Exists.intro _ (And.intro rfl ?_); conv => whnf) | (refine And.intro (by first | omega | (simp; done) | (simp [ti5]; omega)) ?_; conv => whnf) | fail)
 refine ok1_callF [0, 1] [false, true, false, true] false (h89) rfl rfl ⟨⟨rfl, by first | ((repeat' (first | exact wk_nil | exact ren_m8 rfl | exact rfl | (refine wk_agg ?_) | (refine wk_cons ?_ ?_))); done) | fail⟩, by (repeat' (first | exact trivial | refine And.intro ?_ ?_)) <;> first | exact ren_eq (by first | (simp; done) | fail) (by first | rfl | fail) | exact ren_app2 (by first | (simp; done) | fail) (by first | rfl | fail) (by first | rfl | fail), by first | simp [plainHf, plainB], by first | rfl | fail, ?_⟩
 conv => whnf
 repeat (fail)
 refine SWp.weak (R0 := [(8, .p 5 0), (11, .p 7 0), (28, .fn 102 [.p 8 0, .p 9 0])]) (H0 := [some (.ro (sbx.map .u8 ++ [.sl 1 0 n 4 fl])), some (.ro (w.map .u8)), some (.ro [.sl 3 o b.length 1 f2]), some (.ro ((D).map .u8)), none, some (.box [.sl 6 0 b.length 1 false]), some (.row 5 (b.map .u8)), some (.box [.i 0]), some (.box [.p 0 0]), some (.box (c.map .u8))]) (L0 := 10) ?_ ?_
 ·
  refine Weak.sel [0, 1, 2, 3, 4, 5, 6, 7, 8, 9] rfl rfl ?_ ?_ rfl rfl
  ·
   (repeat' (first | exact trivial | refine And.intro ?_ ?_ | fail)) <;> first | rfl | fail
  ·
   (repeat' (first | exact trivial | exact ren_eq (plainL_u8 _) hb0 | refine And.intro ?_ ?_ | (refine wk_cons ?_ ?_))) <;> first | rfl | exact ren_eq (by first | (simp; done) | fail) (by first | rfl | fail) | exact ren_app2 (by first | (simp; done) | fail) (by first | rfl | fail) rfl | fail
 refine range_named rfl rfl rfl (by kernel_rfl : Try.prog.funcs[102]? = some Try.f102) rfl rfl rfl rfl ?_
 intro asq bdq hasq hbdq
 refine sw_ok ttOk mixed (by kernel_rfl) ?_
 conv => whnf
 repeat (fail)
 refine loop_rule ttOk mixed (by kernel_rfl) (ι := { k : Nat // k = 0 ∨ 16 * k < b.length }) (fun k => [(0, .yld 10), (1, .p 8 0), (2, .p 9 0)]) (fun k => [some (.ro (sbx.map .u8 ++ [.sl 1 0 n 4 fl])), some (.ro (w.map .u8)), some (.ro [.sl 3 o b.length 1 f2]), some (.ro ((D).map .u8)), none, some (.box [.sl 6 0 b.length 1 false]), some (.row 5 ((fil b.length (16 * k.1) (trn w R c b) (fun j => b.getD j 0)).map .u8)), some (.box [.i ((16 * k.1 : Nat) : Int)]), some (.box [.p 0 0]), some (.box ((ctrN c k.1).map .u8)), some (.obj (.loop [(8, .p 5 0), (11, .p 7 0)] Try.f53.ntmps [29] asq bdq))]) (fun _ => 11) (fun k => b.length - 16 * k.1) ⟨0, .inl rfl⟩ ?_ ?_
 ·
  have hz : fil b.length (16 * 0) (trn w R c b) (fun j => b.getD j 0) = b := fil_of_list rfl
  refine Weak.sel [0, 1, 2, 3, 4, 5, 6, 7, 8, 9, 10] rfl rfl ?_ ?_ rfl rfl
  ·
   (repeat' (first | exact trivial | refine And.intro ?_ ?_ | fail)) <;> first | rfl | fail
  ·
   (repeat' (first | exact trivial | refine And.intro ?_ ?_ | (refine wk_cons ?_ ?_))) <;> first | exact ren_m8 (by first | exact hz | fail) | rfl | exact ren_eq (by first | (simp; done) | fail) (by first | rfl | fail) | exact ren_app2 (by first | (simp; done) | fail) (by first | rfl | fail) rfl | fail
 ·
  rintro ⟨k, hk⟩
  have hf := fil_len b.length (16 * k) (trn w R c b) (fun j => b.getD j 0)
  have hcl := ctrN_len hc k
  have hse := f47L n fl w R hn hw hR1 hR2 (ctrN c k) hcl
  have h54 := f54L (ctrN c k) hcl
  rw [ksB_eq] at hse
  have hkl := ksB_len (w := w) (R := R) hc k
  dsimp only
  conv => whnf
  repeat (first | (refine brT rfl ?_; conv => whnf) | (refine Exists.intro _ (And.intro (sload_all rfl (by first | rfl | (simp; omega))) ?_); conv => whnf) | (refine Exists.intro _ (And.intro rfl ?_); conv => whnf) | (refine And.intro (by kernel_rfl) ?_; conv => whnf) | fail)
  refine ok1_callF [0, 1] [false, false] true (hse) rfl rfl ⟨⟨rfl, by first | ((repeat' (first | exact wk_nil | exact ren_m8 rfl | exact rfl | (refine wk_agg ?_) | (refine wk_cons ?_ ?_))); done) | fail⟩, by (repeat' (first | exact trivial | refine And.intro ?_ ?_)) <;> first | exact ren_eq (by first | (simp; done) | fail) (by first | rfl | fail) | exact ren_app2 (by first | (simp; done) | fail) (by first | rfl | fail) (by first | rfl | fail), by first | rfl | fail, by first | simp [plainRf, plainR, plainT, plainW], ?_⟩
  conv => whnf
  repeat (first | (refine brT rfl ?_; conv => whnf) | fail)
  have hcase : b.length ≤ 16 * (k + 1) ∨ 16 * (k + 1) < b.length := by omega
  rcases hcase with hca | hca
  ·
   refine ok1_yield 10 [5, 6, 7] [false, false, true, true] (syield_of (ps := [29]) (N := Try.f53.ntmps) (R0 := [(8, .p 1 0), (11, .p 3 0)]) (args0 := [.agg ((ksB w R c k).map .u8)]) (ex := (.exit 2)) (H0t := [some (.box [.sl 2 0 b.length 1 false]), some (.row 5 ((fil b.length (16 * k) (trn w R c b) (fun j => b.getD j 0)).map .u8)), some (.box [.i ((16 * k : Nat) : Int)])]) (H1t := [some (.box [.sl 2 0 b.length 1 false]), some (.row 5 ((fil b.length (b.length) (trn w R c b) (fun j => b.getD j 0)).map .u8)), some (.box [.i ((b.length : Nat) : Int)])]) (.inr (.inr ⟨2, rfl⟩)) rfl rfl rfl ?_) rfl rfl ⟨⟨rfl, by first | ((repeat' (first | exact wk_nil | exact ren_m8 rfl | (refine wk_agg ?_) | (refine wk_cons ?_ ?_))); done)⟩, by (repeat' (first | exact trivial | refine And.intro ?_ ?_)) <;> first | exact ren_m8 rfl | rfl | fail, by first | (simp [plainHf, plainB]; done) | fail, ?_⟩
   ·
    subst hasq
    subst hbdq
    refine sw_ok ttOk mixed (by kernel_rfl) ?_
    conv => whnf
    repeat (first | (refine Exists.intro _ (And.intro (sput_all rfl (by first | rfl | (simp [hkl]; done) | fail)) ?_); conv => whnf) | (refine And.intro (by first | omega | (simp; done) | (simp; omega) | fail) ?_; conv => whnf) | (refine And.intro (by kernel_rfl) ?_; conv => whnf) | fail)
    refine sw_ok ttOk mixed (by kernel_rfl) ?_
    conv => whnf
    repeat (fail)
    refine loop_rule ttOk mixed (by kernel_rfl) (ι := { i : Nat // i ≤ 16 ∧ 16 * k + i ≤ b.length }) (fun i => [(8, .p 1 0), (11, .p 3 0), (12, .p 4 0), (13, .i (i.1 : Int))]) (fun i => [none, some (.box [.sl 2 0 b.length 1 false]), some (.row 5 ((fil b.length (16 * k + i.1) (trn w R c b) (fun j => b.getD j 0)).map .u8)), some (.box [.i ((16 * k + i.1 : Nat) : Int)]), some (.box ((ksB w R c k).map .u8))]) (fun _ => 5) (fun i => 16 - i.1) ⟨0, by omega, by omega⟩ ?_ ?_
    ·
     refine Weak.sel [0, 1, 2, 3, 4] rfl rfl ?_ ?_ rfl rfl
     ·
      (repeat' (first | exact trivial | refine And.intro ?_ ?_ | fail)) <;> first | rfl | fail
     ·
      (repeat' (first | exact trivial | refine And.intro ?_ ?_ | (refine wk_cons ?_ ?_))) <;> first | rfl | exact ren_eq (by first | (simp; done) | fail) (by first | rfl | fail) | fail
    ·
     rintro ⟨i, hi, him⟩
     have hf := fil_len b.length (16 * k + i) (trn w R c b) (fun j => b.getD j 0)
     dsimp only
     by_cases hi2 : i < 16
     ·
      have hl1 : decide ((i : Int) < 16) = true := by simp; omega
      by_cases hm2 : 16 * k + i < b.length
      ·
       have hl2 : decide (((16 * k + i : Nat) : Int) < (b.length : Int)) = true := by simp; omega
       have hp1 := wp1 i (by omega)
       have hp2 := wp1 (16 * k + i) (by omega)
       have hx : (fil b.length (16 * k + i) (trn w R c b) (fun j => b.getD j 0)).getD (16 * k + i) 0 ^^^ (ksB w R c k).getD i 0 = trn w R c b (16 * k + i) := by
        rw [fil_getD hm2, if_neg (by omega)]
        unfold trn
        rw [show (16 * k + i) / 16 = k by omega, show (16 * k + i) % 16 = i by omega]
       have hst := fil_setx (g := fun j => b.getD j 0) hm2 hx
       conv => whnf
       repeat (first | (refine gdT hl1 ?_; conv => whnf) | (refine pkT hl1 ?_; conv => whnf) | (refine gdT hl2 ?_; conv => whnf) | (refine Exists.intro _ (And.intro (sput_m8 (i := 16 * k + i) (by first | rfl | omega | fail)) ?_); conv => whnf) | (refine Exists.intro _ (And.intro (sload_u8 (i := 16 * k + i) (by first | rfl | omega | fail) (by first | omega | fail)) ?_); conv => whnf) | (refine Exists.intro _ (And.intro (idx_i (m := 16 * k + i) (by first | rfl | fail)) ?_); conv => whnf) | (refine Exists.intro _ (And.intro (sload_u8 (i := i) (by first | rfl | (simp; done) | fail) (by first | omega | fail)) ?_); conv => whnf) | (refine Exists.intro _ (And.intro (idx_i (m := i) (by first | rfl | fail)) ?_); conv => whnf) | (refine Exists.intro _ (And.intro rfl ?_); conv => whnf) | (refine And.intro (by first | omega | (simp; done) | fail) ?_; conv => whnf) | (refine And.intro (by kernel_rfl) ?_; conv => whnf) | (refine And.intro ⟨by first | exact @rfl Nat _ | fail, by first | (simp only [hf, hkl, ti5, List.length_map]; omega) | fail⟩ ?_; conv => whnf) | fail)
       refine ⟨⟨i + 1, by omega, by omega⟩, by simp only; omega, ?_⟩
       refine Weak.sel [0, 1, 2, 3, 4] rfl rfl ?_ ?_ rfl rfl
       ·
        (repeat' (first | exact trivial | refine And.intro ?_ ?_ | fail)) <;> first | rfl | exact wk_i (by first | exact hp1.symm | fail) | fail
       ·
        (repeat' (first | exact trivial | refine And.intro ?_ ?_ | (refine wk_cons ?_ ?_))) <;> first | exact ren_m8 (by first | exact hst | exact hst.symm | fail) | rfl | exact wk_i (by first | rfl | exact hp2.symm | fail) | exact ren_eq (by first | (simp; done) | fail) (by first | rfl | fail) | fail
      ·
       have hl2 : decide (((16 * k + i : Nat) : Int) < (b.length : Int)) = false := by simp; omega
       have hmm : 16 * k + i = b.length := by omega
       have hl3 : (((16 * k + i : Nat) : Int) == (b.length : Int)) = true := by simp; omega
       conv => whnf
       repeat (first | (refine gdT hl1 ?_; conv => whnf) | (refine pkT hl1 ?_; conv => whnf) | (refine gdF hl2 ?_; conv => whnf) | (refine gdT hl3 ?_; conv => whnf) | (refine Exists.intro _ (And.intro rfl ?_); conv => whnf) | (refine And.intro (by first | omega | (simp; done) | fail) ?_; conv => whnf) | (refine And.intro (by kernel_rfl) ?_; conv => whnf) | fail)
       have hfm : fil b.length (16 * k + i) (trn w R c b) (fun j => b.getD j 0) = fil b.length (b.length) (trn w R c b) (fun j => b.getD j 0) := by rw [hmm]
       exact ⟨[0, 1, 2, 3], rfl, rfl, by (repeat' (first | exact trivial | refine And.intro ?_ ?_)) <;> first | exact ren_m8 (by first | rfl | exact hfm.symm | fail) | rfl | exact wk_cons (wk_i (by first | omega)) rfl, rfl⟩
     ·
      obtain rfl : i = 16 := by omega
      have hl1 : decide (((16 : Nat) : Int) < 16) = false := by decide
      have hmm : 16 * k + 16 = b.length := by omega
      have hl3 : (((16 * k + 16 : Nat) : Int) == (b.length : Int)) = true := by simp; omega
      conv => whnf
      repeat (first | (refine brF rfl ?_; conv => whnf) | (refine pkF hl1 ?_; conv => whnf) | (refine gdT hl3 ?_; conv => whnf) | (refine And.intro (by first | omega | (simp; done) | fail) ?_; conv => whnf) | (refine And.intro (by kernel_rfl) ?_; conv => whnf) | fail)
      have hfm : fil b.length (16 * k + 16) (trn w R c b) (fun j => b.getD j 0) = fil b.length (b.length) (trn w R c b) (fun j => b.getD j 0) := by rw [hmm]
      exact ⟨[0, 1, 2, 3], rfl, rfl, by (repeat' (first | exact trivial | refine And.intro ?_ ?_)) <;> first | exact ren_m8 (by first | rfl | exact hfm.symm | fail) | rfl | exact wk_cons (wk_i (by first | omega)) rfl, rfl⟩
   ·
    conv => whnf
    repeat (first | (refine brF rfl ?_; conv => whnf) | (refine Exists.intro _ (And.intro rfl ?_); conv => whnf) | fail)
    have htl : fil b.length b.length (trn w R c b) (fun j => b.getD j 0) = turnL w R c b := fil_full ..
    refine ⟨[0, 1, 2, 3, 6], ?_, rfl, rfl, ?_, rfl⟩
    ·
     (repeat' (first | (refine wk_tup ?_) | (refine wk_cons ?_ ?_))) <;> first | rfl | fail
    ·
     (repeat' (first | exact trivial | refine And.intro ?_ ?_ | (refine wk_cons ?_ ?_))) <;> first | exact ren_m8 (by first | exact htl | exact htl.symm | fail) | rfl | exact ren_eq (by first | (simp; done) | fail) (by first | rfl | fail) | exact ren_app2 (by first | (simp; done) | fail) (by first | rfl | fail) rfl | fail
  ·
   refine ok1_yield 10 [5, 6, 7] [false, false, true, true] (syield_of (ps := [29]) (N := Try.f53.ntmps) (R0 := [(8, .p 1 0), (11, .p 3 0)]) (args0 := [.agg ((ksB w R c k).map .u8)]) (ex := .normal) (H0t := [some (.box [.sl 2 0 b.length 1 false]), some (.row 5 ((fil b.length (16 * k) (trn w R c b) (fun j => b.getD j 0)).map .u8)), some (.box [.i ((16 * k : Nat) : Int)])]) (H1t := [some (.box [.sl 2 0 b.length 1 false]), some (.row 5 ((fil b.length (16 * (k + 1)) (trn w R c b) (fun j => b.getD j 0)).map .u8)), some (.box [.i ((16 * (k + 1) : Nat) : Int)])]) (.inl rfl) rfl rfl rfl ?_) rfl rfl ⟨⟨rfl, by first | ((repeat' (first | exact wk_nil | exact ren_m8 rfl | (refine wk_agg ?_) | (refine wk_cons ?_ ?_))); done)⟩, by (repeat' (first | exact trivial | refine And.intro ?_ ?_)) <;> first | exact ren_m8 rfl | rfl | fail, by first | (simp [plainHf, plainB]; done) | fail, ?_⟩
   ·
    subst hasq
    subst hbdq
    refine sw_ok ttOk mixed (by kernel_rfl) ?_
    conv => whnf
    repeat (first | (refine Exists.intro _ (And.intro (sput_all rfl (by first | rfl | (simp [hkl]; done) | fail)) ?_); conv => whnf) | (refine And.intro (by first | omega | (simp; done) | (simp; omega) | fail) ?_; conv => whnf) | (refine And.intro (by kernel_rfl) ?_; conv => whnf) | fail)
    refine sw_ok ttOk mixed (by kernel_rfl) ?_
    conv => whnf
    repeat (fail)
    refine loop_rule ttOk mixed (by kernel_rfl) (ι := { i : Nat // i ≤ 16 ∧ 16 * k + i ≤ b.length }) (fun i => [(8, .p 1 0), (11, .p 3 0), (12, .p 4 0), (13, .i (i.1 : Int))]) (fun i => [none, some (.box [.sl 2 0 b.length 1 false]), some (.row 5 ((fil b.length (16 * k + i.1) (trn w R c b) (fun j => b.getD j 0)).map .u8)), some (.box [.i ((16 * k + i.1 : Nat) : Int)]), some (.box ((ksB w R c k).map .u8))]) (fun _ => 5) (fun i => 16 - i.1) ⟨0, by omega, by omega⟩ ?_ ?_
    ·
     refine Weak.sel [0, 1, 2, 3, 4] rfl rfl ?_ ?_ rfl rfl
     ·
      (repeat' (first | exact trivial | refine And.intro ?_ ?_ | fail)) <;> first | rfl | fail
     ·
      (repeat' (first | exact trivial | refine And.intro ?_ ?_ | (refine wk_cons ?_ ?_))) <;> first | rfl | exact ren_eq (by first | (simp; done) | fail) (by first | rfl | fail) | fail
    ·
     rintro ⟨i, hi, him⟩
     have hf := fil_len b.length (16 * k + i) (trn w R c b) (fun j => b.getD j 0)
     dsimp only
     by_cases hi2 : i < 16
     ·
      have hl1 : decide ((i : Int) < 16) = true := by simp; omega
      by_cases hm2 : 16 * k + i < b.length
      ·
       have hl2 : decide (((16 * k + i : Nat) : Int) < (b.length : Int)) = true := by simp; omega
       have hp1 := wp1 i (by omega)
       have hp2 := wp1 (16 * k + i) (by omega)
       have hx : (fil b.length (16 * k + i) (trn w R c b) (fun j => b.getD j 0)).getD (16 * k + i) 0 ^^^ (ksB w R c k).getD i 0 = trn w R c b (16 * k + i) := by
        rw [fil_getD hm2, if_neg (by omega)]
        unfold trn
        rw [show (16 * k + i) / 16 = k by omega, show (16 * k + i) % 16 = i by omega]
       have hst := fil_setx (g := fun j => b.getD j 0) hm2 hx
       conv => whnf
       repeat (first | (refine gdT hl1 ?_; conv => whnf) | (refine pkT hl1 ?_; conv => whnf) | (refine gdT hl2 ?_; conv => whnf) | (refine Exists.intro _ (And.intro (sput_m8 (i := 16 * k + i) (by first | rfl | omega | fail)) ?_); conv => whnf) | (refine Exists.intro _ (And.intro (sload_u8 (i := 16 * k + i) (by first | rfl | omega | fail) (by first | omega | fail)) ?_); conv => whnf) | (refine Exists.intro _ (And.intro (idx_i (m := 16 * k + i) (by first | rfl | fail)) ?_); conv => whnf) | (refine Exists.intro _ (And.intro (sload_u8 (i := i) (by first | rfl | (simp; done) | fail) (by first | omega | fail)) ?_); conv => whnf) | (refine Exists.intro _ (And.intro (idx_i (m := i) (by first | rfl | fail)) ?_); conv => whnf) | (refine Exists.intro _ (And.intro rfl ?_); conv => whnf) | (refine And.intro (by first | omega | (simp; done) | fail) ?_; conv => whnf) | (refine And.intro (by kernel_rfl) ?_; conv => whnf) | (refine And.intro ⟨by first | exact @rfl Nat _ | fail, by first | (simp only [hf, hkl, ti5, List.length_map]; omega) | fail⟩ ?_; conv => whnf) | fail)
       refine ⟨⟨i + 1, by omega, by omega⟩, by simp only; omega, ?_⟩
       refine Weak.sel [0, 1, 2, 3, 4] rfl rfl ?_ ?_ rfl rfl
       ·
        (repeat' (first | exact trivial | refine And.intro ?_ ?_ | fail)) <;> first | rfl | exact wk_i (by first | exact hp1.symm | fail) | fail
       ·
        (repeat' (first | exact trivial | refine And.intro ?_ ?_ | (refine wk_cons ?_ ?_))) <;> first | exact ren_m8 (by first | exact hst | exact hst.symm | fail) | rfl | exact wk_i (by first | rfl | exact hp2.symm | fail) | exact ren_eq (by first | (simp; done) | fail) (by first | rfl | fail) | fail
      ·
       have hl2 : decide (((16 * k + i : Nat) : Int) < (b.length : Int)) = false := by simp; omega
       exact absurd hca (by omega)
     ·
      obtain rfl : i = 16 := by omega
      have hl1 : decide (((16 : Nat) : Int) < 16) = false := by decide
      have hmm : 16 * k + 16 = 16 * (k + 1) := by omega
      have hl3 : (((16 * k + 16 : Nat) : Int) == (b.length : Int)) = false := by simp; omega
      conv => whnf
      repeat (first | (refine brF rfl ?_; conv => whnf) | (refine pkF hl1 ?_; conv => whnf) | (refine gdF hl3 ?_; conv => whnf) | (refine And.intro (by first | omega | (simp; done) | fail) ?_; conv => whnf) | (refine And.intro (by kernel_rfl) ?_; conv => whnf) | fail)
      have hfm : fil b.length (16 * k + 16) (trn w R c b) (fun j => b.getD j 0) = fil b.length (16 * (k + 1)) (trn w R c b) (fun j => b.getD j 0) := by rw [hmm]
      exact ⟨[0, 1, 2, 3], rfl, rfl, by (repeat' (first | exact trivial | refine And.intro ?_ ?_)) <;> first | exact ren_m8 (by first | rfl | fail) | rfl | fail, rfl⟩
   ·
    conv => whnf
    repeat (first | (refine brT rfl ?_; conv => whnf) | (refine Exists.intro _ (And.intro (sload_all rfl (by first | rfl | (simp; omega))) ?_); conv => whnf) | (refine Exists.intro _ (And.intro rfl ?_); conv => whnf) | fail)
    refine ok1_callF [] [] true (h54) rfl rfl ⟨⟨rfl, by first | ((repeat' (first | exact wk_nil | exact ren_m8 rfl | (refine wk_agg ?_) | (refine wk_cons ?_ ?_))); done) | fail⟩, trivial, by first | rfl | fail, by first | simp [plainRf, plainR, plainT, plainW], ?_⟩
    conv => whnf
    have hnl := nextC_len hcl
    repeat (first | (refine Exists.intro _ (And.intro (sput_all rfl (by first | rfl | (simp [hcl, hnl]; done) | fail)) ?_); conv => whnf) | (refine And.intro (by first | omega | (simp; omega) | fail) ?_; conv => whnf) | fail)
    refine ⟨⟨k + 1, .inr (by omega)⟩, by simp only; omega, ?_⟩
    refine Weak.sel [0, 1, 2, 3, 4, 5, 6, 7, 8, 9, 10] rfl rfl ?_ ?_ rfl rfl
    ·
     (repeat' (first | exact trivial | refine And.intro ?_ ?_ | fail)) <;> first | rfl | fail
    ·
     (repeat' (first | exact trivial | refine And.intro ?_ ?_ | (refine wk_cons ?_ ?_))) <;> first | rfl | exact ren_eq (by first | (simp; done) | fail) (by first | rfl | fail) | exact ren_app2 (by first | (simp; done) | fail) (by first | rfl | fail) rfl | fail
theorem f53_3 (n : Nat) (fl : Bool) (w : List UInt8) (R : Nat) (hn : n = 4 * (R + 1)) (hw : w.length = 16 * (R + 1)) (hR1 : 1 ≤ R) (hR2 : R ≤ 20) (c b : List UInt8) (n1 n2 : Nat) (h12 : n1 + n2 = b.length) (hc : c.length = 16) (hb : b.length < 100000000000000) (f1 f2 f3 : Bool) :
  SCall Try.prog 53 [.p 0 0, .agg (c.map .u8), .sl 2 0 3 1 f1] [some (.ro (sbx.map .u8 ++ [.sl 1 0 n 4 fl])), some (.ro (w.map .u8)), some (.ro [.sl 3 0 n1 1 f2, .slnil, .sl 3 n1 n2 1 f3]), some (.ro (b.map .u8))]
   (.tup [.sl 4 0 b.length 1 false, .i 0]) [some (.ro (sbx.map .u8 ++ [.sl 1 0 n 4 fl])), some (.ro (w.map .u8)), some (.ro [.sl 3 0 n1 1 f2, .slnil, .sl 3 n1 n2 1 f3]), some (.ro (b.map .u8)), some (.row 5 ((turnL w R c b).map .u8))] := by
 have h89 := f89 n fl w c
 have hb0 : b.map SV.u8 = List.take (n1 * 1) (List.drop 0 (List.take (n1 * 1) (List.drop 0 (b.map SV.u8)))) ++ List.take (n2 * 1) (List.drop n1 (b.map SV.u8)) := by
  rw [Nat.mul_one, Nat.mul_one, List.drop_zero, List.drop_zero, List.take_take, Nat.min_self, List.take_of_length_le (i := n2) (by simp; omega), List.take_append_drop]
 refine scall_of ttOk (by kernel_rfl : Try.prog.funcs[53]? = some Try.f53) rfl rfl rfl ?_
 refine sw_ok ttOk mixed (by kernel_rfl) ?_
 conv => whnf
 repeat (first | (refine brF rfl ?_; conv => whnf) | (refine And.intro (by kernel_rfl) ?_; conv => whnf) | fail)
 refine loop_rounds ttOk mixed (by kernel_rfl) 4 ?_
 conv => whnf
 repeat (first | (refine brT rfl ?_; conv => whnf) | (refine brF rfl ?_; conv => whnf) | (refine Exists.intro _ (And.intro (sload_all rfl (by first | rfl | (simp; omega))) ?_); conv => whnf) | (refine Exists.intro _ (And.intro rfl ?_); conv => whnf) | (refine And.intro (by first | omega | (simp; done) | (simp [ti5]; omega)) ?_; conv => whnf) | (refine And.intro (Nat.le_of_ble_eq_true rfl) ?_; conv => whnf) | (refine And.intro ⟨rfl, Nat.le_of_ble_eq_true rfl⟩ ?_; conv => whnf) | fail)
 refine ok1_callF [0, 1] [false, true, false, true] false (h89) rfl rfl ⟨⟨rfl, by first | ((repeat' (first | exact wk_nil | exact ren_m8 rfl | exact rfl | (refine wk_agg ?_) | (refine wk_cons ?_ ?_))); done) | fail⟩, by (repeat' (first | exact trivial | refine And.intro ?_ ?_)) <;> first | exact ren_eq (by first | (simp; done) | fail) (by first | rfl | fail) | exact ren_app2 (by first | (simp; done) | fail) (by first | rfl | fail) (by first | rfl | fail), by first | simp [plainHf, plainB], by first | rfl | fail, ?_⟩
 conv => whnf
 repeat (fail)
 refine SWp.weak (R0 := [(8, .p 5 0), (11, .p 7 0), (28, .fn 102 [.p 8 0, .p 9 0])]) (H0 := [some (.ro (sbx.map .u8 ++ [.sl 1 0 n 4 fl])), some (.ro (w.map .u8)), some (.ro [.sl 3 0 n1 1 f2, .slnil, .sl 3 n1 n2 1 f3]), some (.ro ((b).map .u8)), none, some (.box [.sl 6 0 b.length 1 false]), some (.row 5 (b.map .u8)), some (.box [.i 0]), some (.box [.p 0 0]), some (.box (c.map .u8))]) (L0 := 10) ?_ ?_
 ·
  refine Weak.sel [0, 1, 2, 3, 4, 5, 7, 8, 9, 10] rfl rfl ?_ ?_ rfl rfl
  ·
   (repeat' (first | exact trivial | refine And.intro ?_ ?_ | fail)) <;> first | rfl | fail
  ·
   (repeat' (first | exact trivial | exact ren_eq (plainL_u8 _) hb0 | refine And.intro ?_ ?_ | (refine wk_cons ?_ ?_))) <;> first | rfl | exact wk_sl rfl (by first | rfl | fail) (by first | rfl | omega | fail) | exact ren_eq (by first | (simp; done) | fail) (by first | rfl | fail) | exact ren_app2 (by first | (simp; done) | fail) (by first | rfl | fail) rfl | fail
 refine range_named rfl rfl rfl (by kernel_rfl : Try.prog.funcs[102]? = some Try.f102) rfl rfl rfl rfl ?_
 intro asq bdq hasq hbdq
 refine sw_ok ttOk mixed (by kernel_rfl) ?_
 conv => whnf
 repeat (fail)
 refine loop_rule ttOk mixed (by kernel_rfl) (ι := { k : Nat // k = 0 ∨ 16 * k < b.length }) (fun k => [(0, .yld 10), (1, .p 8 0), (2, .p 9 0)]) (fun k => [some (.ro (sbx.map .u8 ++ [.sl 1 0 n 4 fl])), some (.ro (w.map .u8)), some (.ro [.sl 3 0 n1 1 f2, .slnil, .sl 3 n1 n2 1 f3]), some (.ro ((b).map .u8)), none, some (.box [.sl 6 0 b.length 1 false]), some (.row 5 ((fil b.length (16 * k.1) (trn w R c b) (fun j => b.getD j 0)).map .u8)), some (.box [.i ((16 * k.1 : Nat) : Int)]), some (.box [.p 0 0]), some (.box ((ctrN c k.1).map .u8)), some (.obj (.loop [(8, .p 5 0), (11, .p 7 0)] Try.f53.ntmps [29] asq bdq))]) (fun _ => 11) (fun k => b.length - 16 * k.1) ⟨0, .inl rfl⟩ ?_ ?_
 ·
  have hz : fil b.length (16 * 0) (trn w R c b) (fun j => b.getD j 0) = b := fil_of_list rfl
  refine Weak.sel [0, 1, 2, 3, 4, 5, 6, 7, 8, 9, 10] rfl rfl ?_ ?_ rfl rfl
  ·
   (repeat' (first | exact trivial | refine And.intro ?_ ?_ | fail)) <;> first | rfl | fail
  ·
   (repeat' (first | exact trivial | refine And.intro ?_ ?_ | (refine wk_cons ?_ ?_))) <;> first | exact ren_m8 (by first | exact hz | fail) | rfl | exact ren_eq (by first | (simp; done) | fail) (by first | rfl | fail) | exact ren_app2 (by first | (simp; done) | fail) (by first | rfl | fail) rfl | fail
 ·
  rintro ⟨k, hk⟩
  have hf := fil_len b.length (16 * k) (trn w R c b) (fun j => b.getD j 0)
  have hcl := ctrN_len hc k
  have hse := f47L n fl w R hn hw hR1 hR2 (ctrN c k) hcl
  have h54 := f54L (ctrN c k) hcl
  rw [ksB_eq] at hse
  have hkl := ksB_len (w := w) (R := R) hc k
  dsimp only
  conv => whnf
  repeat (first | (refine brT rfl ?_; conv => whnf) | (refine Exists.intro _ (And.intro (sload_all rfl (by first | rfl | (simp; omega))) ?_); conv => whnf) | (refine Exists.intro _ (And.intro rfl ?_); conv => whnf) | (refine And.intro (by kernel_rfl) ?_; conv => whnf) | fail)
  refine ok1_callF [0, 1] [false, false] true (hse) rfl rfl ⟨⟨rfl, by first | ((repeat' (first | exact wk_nil | exact ren_m8 rfl | exact rfl | (refine wk_agg ?_) | (refine wk_cons ?_ ?_))); done) | fail⟩, by (repeat' (first | exact trivial | refine And.intro ?_ ?_)) <;> first | exact ren_eq (by first | (simp; done) | fail) (by first | rfl | fail) | exact ren_app2 (by first | (simp; done) | fail) (by first | rfl | fail) (by first | rfl | fail), by first | rfl | fail, by first | simp [plainRf, plainR, plainT, plainW], ?_⟩
  conv => whnf
  repeat (first | (refine brT rfl ?_; conv => whnf) | fail)
  have hcase : b.length ≤ 16 * (k + 1) ∨ 16 * (k + 1) < b.length := by omega
  rcases hcase with hca | hca
  ·
   refine ok1_yield 10 [5, 6, 7] [false, false, true, true] (syield_of (ps := [29]) (N := Try.f53.ntmps) (R0 := [(8, .p 1 0), (11, .p 3 0)]) (args0 := [.agg ((ksB w R c k).map .u8)]) (ex := (.exit 2)) (H0t := [some (.box [.sl 2 0 b.length 1 false]), some (.row 5 ((fil b.length (16 * k) (trn w R c b) (fun j => b.getD j 0)).map .u8)), some (.box [.i ((16 * k : Nat) : Int)])]) (H1t := [some (.box [.sl 2 0 b.length 1 false]), some (.row 5 ((fil b.length (b.length) (trn w R c b) (fun j => b.getD j 0)).map .u8)), some (.box [.i ((b.length : Nat) : Int)])]) (.inr (.inr ⟨2, rfl⟩)) rfl rfl rfl ?_) rfl rfl ⟨⟨rfl, by first | ((repeat' (first | exact wk_nil | exact ren_m8 rfl | (refine wk_agg ?_) | (refine wk_cons ?_ ?_))); done)⟩, by (repeat' (first | exact trivial | refine And.intro ?_ ?_)) <;> first | exact ren_m8 rfl | rfl | fail, by first | (simp [plainHf, plainB]; done) | fail, ?_⟩
   ·
    subst hasq
    subst hbdq
    refine sw_ok ttOk mixed (by kernel_rfl) ?_
    conv => whnf
    repeat (first | (refine Exists.intro _ (And.intro (sput_all rfl (by first | rfl | (simp [hkl]; done) | fail)) ?_); conv => whnf) | (refine And.intro (by first | omega | (simp; done) | (simp; omega) | fail) ?_; conv => whnf) | (refine And.intro (by kernel_rfl) ?_; conv => whnf) | fail)
    refine sw_ok ttOk mixed (by kernel_rfl) ?_
    conv => whnf
    repeat (fail)
    refine loop_rule ttOk mixed (by kernel_rfl) (ι := { i : Nat // i ≤ 16 ∧ 16 * k + i ≤ b.length }) (fun i => [(8, .p 1 0), (11, .p 3 0), (12, .p 4 0), (13, .i (i.1 : Int))]) (fun i => [none, some (.box [.sl 2 0 b.length 1 false]), some (.row 5 ((fil b.length (16 * k + i.1) (trn w R c b) (fun j => b.getD j 0)).map .u8)), some (.box [.i ((16 * k + i.1 : Nat) : Int)]), some (.box ((ksB w R c k).map .u8))]) (fun _ => 5) (fun i => 16 - i.1) ⟨0, by omega, by omega⟩ ?_ ?_
    ·
     refine Weak.sel [0, 1, 2, 3, 4] rfl rfl ?_ ?_ rfl rfl
     ·
      (repeat' (first | exact trivial | refine And.intro ?_ ?_ | fail)) <;> first | rfl | fail
     ·
      (repeat' (first | exact trivial | refine And.intro ?_ ?_ | (refine wk_cons ?_ ?_))) <;> first | rfl | exact ren_eq (by first | (simp; done) | fail) (by first | rfl | fail) | fail
    ·
     rintro ⟨i, hi, him⟩
     have hf := fil_len b.length (16 * k + i) (trn w R c b) (fun j => b.getD j 0)
     dsimp only
     by_cases hi2 : i < 16
     ·
      have hl1 : decide ((i : Int) < 16) = true := by simp; omega
      by_cases hm2 : 16 * k + i < b.length
      ·
       have hl2 : decide (((16 * k + i : Nat) : Int) < (b.length : Int)) = true := by simp; omega
       have hp1 := wp1 i (by omega)
       have hp2 := wp1 (16 * k + i) (by omega)
       have hx : (fil b.length (16 * k + i) (trn w R c b) (fun j => b.getD j 0)).getD (16 * k + i) 0 ^^^ (ksB w R c k).getD i 0 = trn w R c b (16 * k + i) := by
        rw [fil_getD hm2, if_neg (by omega)]
        unfold trn
        rw [show (16 * k + i) / 16 = k by omega, show (16 * k + i) % 16 = i by omega]
       have hst := fil_setx (g := fun j => b.getD j 0) hm2 hx
       conv => whnf
       repeat (first | (refine gdT hl1 ?_; conv => whnf) | (refine pkT hl1 ?_; conv => whnf) | (refine gdT hl2 ?_; conv => whnf) | (refine Exists.intro _ (And.intro (sput_m8 (i := 16 * k + i) (by first | rfl | omega | fail)) ?_); conv => whnf) | (refine Exists.intro _ (And.intro (sload_u8 (i := 16 * k + i) (by first | rfl | omega | fail) (by first | omega | fail)) ?_); conv => whnf) | (refine Exists.intro _ (And.intro (idx_i (m := 16 * k + i) (by first | rfl | fail)) ?_); conv => whnf) | (refine Exists.intro _ (And.intro (sload_u8 (i := i) (by first | rfl | (simp; done) | fail) (by first | omega | fail)) ?_); conv => whnf) | (refine Exists.intro _ (And.intro (idx_i (m := i) (by first | rfl | fail)) ?_); conv => whnf) | (refine Exists.intro _ (And.intro rfl ?_); conv => whnf) | (refine And.intro (by first | omega | (simp; done) | fail) ?_; conv => whnf) | (refine And.intro (by kernel_rfl) ?_; conv => whnf) | (refine And.intro ⟨by first | exact @rfl Nat _ | fail, by first | (simp only [hf, hkl, ti5, List.length_map]; omega) | fail⟩ ?_; conv => whnf) | fail)
       refine ⟨⟨i + 1, by omega, by omega⟩, by simp only; omega, ?_⟩
       refine Weak.sel [0, 1, 2, 3, 4] rfl rfl ?_ ?_ rfl rfl
       ·
        (repeat' (first | exact trivial | refine And.intro ?_ ?_ | fail)) <;> first | rfl | exact wk_i (by first | exact hp1.symm | fail) | fail
       ·
        (repeat' (first | exact trivial | refine And.intro ?_ ?_ | (refine wk_cons ?_ ?_))) <;> first | exact ren_m8 (by first | exact hst | exact hst.symm | fail) | rfl | exact wk_i (by first | rfl | exact hp2.symm | fail) | exact ren_eq (by first | (simp; done) | fail) (by first | rfl | fail) | fail
      ·
       have hl2 : decide (((16 * k + i : Nat) : Int) < (b.length : Int)) = false := by simp; omega
       have hmm : 16 * k + i = b.length := by omega
       have hl3 : (((16 * k + i : Nat) : Int) == (b.length : Int)) = true := by simp; omega
       conv => whnf
       repeat (first | (refine gdT hl1 ?_; conv => whnf) | (refine pkT hl1 ?_; conv => whnf) | (refine gdF hl2 ?_; conv => whnf) | (refine gdT hl3 ?_; conv => whnf) | (refine Exists.intro _ (And.intro rfl ?_); conv => whnf) | (refine And.intro (by first | omega | (simp; done) | fail) ?_; conv => whnf) | (refine And.intro (by kernel_rfl) ?_; conv => whnf) | fail)
       have hfm : fil b.length (16 * k + i) (trn w R c b) (fun j => b.getD j 0) = fil b.length (b.length) (trn w R c b) (fun j => b.getD j 0) := by rw [hmm]
       exact ⟨[0, 1, 2, 3], rfl, rfl, by (repeat' (first | exact trivial | refine And.intro ?_ ?_)) <;> first | exact ren_m8 (by first | rfl | exact hfm.symm | fail) | rfl | exact wk_cons (wk_i (by first | omega)) rfl, rfl⟩
     ·
      obtain rfl : i = 16 := by omega
      have hl1 : decide (((16 : Nat) : Int) < 16) = false := by decide
      have hmm : 16 * k + 16 = b.length := by omega
      have hl3 : (((16 * k + 16 : Nat) : Int) == (b.length : Int)) = true := by simp; omega
      conv => whnf
      repeat (first | (refine brF rfl ?_; conv => whnf) | (refine pkF hl1 ?_; conv => whnf) | (refine gdT hl3 ?_; conv => whnf) | (refine And.intro (by first | omega | (simp; done) | fail) ?_; conv => whnf) | (refine And.intro (by kernel_rfl) ?_; conv => whnf) | fail)
      have hfm : fil b.length (16 * k + 16) (trn w R c b) (fun j => b.getD j 0) = fil b.length (b.length) (trn w R c b) (fun j => b.getD j 0) := by rw [hmm]
      exact ⟨[0, 1, 2, 3], rfl, rfl, by (repeat' (first | exact trivial | refine And.intro ?_ ?_)) <;> first | exact ren_m8 (by first | rfl | exact hfm.symm | fail) | rfl | exact wk_cons (wk_i (by first | omega)) rfl, rfl⟩
   ·
    conv => whnf
    repeat (first | (refine brF rfl ?_; conv => whnf) | (refine Exists.intro _ (And.intro rfl ?_); conv => whnf) | fail)
    have htl : fil b.length b.length (trn w R c b) (fun j => b.getD j 0) = turnL w R c b := fil_full ..
    refine ⟨[0, 1, 2, 3, 6], ?_, rfl, rfl, ?_, rfl⟩
    ·
     (repeat' (first | (refine wk_tup ?_) | (refine wk_cons ?_ ?_))) <;> first | rfl | fail
    ·
     (repeat' (first | exact trivial | refine And.intro ?_ ?_ | (refine wk_cons ?_ ?_))) <;> first | exact ren_m8 (by first | exact htl | exact htl.symm | fail) | rfl | exact ren_eq (by first | (simp; done) | fail) (by first | rfl | fail) | exact ren_app2 (by first | (simp; done) | fail) (by first | rfl | fail) rfl | fail
  ·
   refine ok1_yield 10 [5, 6, 7] [false, false, true, true] (syield_of (ps := [29]) (N := Try.f53.ntmps) (R0 := [(8, .p 1 0), (11, .p 3 0)]) (args0 := [.agg ((ksB w R c k).map .u8)]) (ex := .normal) (H0t := [some (.box [.sl 2 0 b.length 1 false]), some (.row 5 ((fil b.length (16 * k) (trn w R c b) (fun j => b.getD j 0)).map .u8)), some (.box [.i ((16 * k : Nat) : Int)])]) (H1t := [some (.box [.sl 2 0 b.length 1 false]), some (.row 5 ((fil b.length (16 * (k + 1)) (trn w R c b) (fun j => b.getD j 0)).map .u8)), some (.box [.i ((16 * (k + 1) : Nat) : Int)])]) (.inl rfl) rfl rfl rfl ?_) rfl rfl ⟨⟨rfl, by first | ((repeat' (first | exact wk_nil | exact ren_m8 rfl | (refine wk_agg ?_) | (refine wk_cons ?_ ?_))); done)⟩, by (repeat' (first | exact trivial | refine And.intro ?_ ?_)) <;> first | exact ren_m8 rfl | rfl | fail, by first | (simp [plainHf, plainB]; done) | fail, ?_⟩
   ·
    subst hasq
    subst hbdq
    refine sw_ok ttOk mixed (by kernel_rfl) ?_
    conv => whnf
    repeat (first | (refine Exists.intro _ (And.intro (sput_all rfl (by first | rfl | (simp [hkl]; done) | fail)) ?_); conv => whnf) | (refine And.intro (by first | omega | (simp; done) | (simp; omega) | fail) ?_; conv => whnf) | (refine And.intro (by kernel_rfl) ?_; conv => whnf) | fail)
    refine sw_ok ttOk mixed (by kernel_rfl) ?_
    conv => whnf
    repeat (fail)
    refine loop_rule ttOk mixed (by kernel_rfl) (ι := { i : Nat // i ≤ 16 ∧ 16 * k + i ≤ b.length }) (fun i => [(8, .p 1 0), (11, .p 3 0), (12, .p 4 0), (13, .i (i.1 : Int))]) (fun i => [none, some (.box [.sl 2 0 b.length 1 false]), some (.row 5 ((fil b.length (16 * k + i.1) (trn w R c b) (fun j => b.getD j 0)).map .u8)), some (.box [.i ((16 * k + i.1 : Nat) : Int)]), some (.box ((ksB w R c k).map .u8))]) (fun _ => 5) (fun i => 16 - i.1) ⟨0, by omega, by omega⟩ ?_ ?_
    ·
     refine Weak.sel [0, 1, 2, 3, 4] rfl rfl ?_ ?_ rfl rfl
     ·
      (repeat' (first | exact trivial | refine And.intro ?_ ?_ | fail)) <;> first | rfl | fail
     ·
      (repeat' (first | exact trivial | refine And.intro ?_ ?_ | (refine wk_cons ?_ ?_))) <;> first | rfl | exact ren_eq (by first | (simp; done) | fail) (by first | rfl | fail) | fail
    ·
     rintro ⟨i, hi, him⟩
     have hf := fil_len b.length (16 * k + i) (trn w R c b) (fun j => b.getD j 0)
     dsimp only
     by_cases hi2 : i < 16
     ·
      have hl1 : decide ((i : Int) < 16) = true := by simp; omega
      by_cases hm2 : 16 * k + i < b.length
      ·
       have hl2 : decide (((16 * k + i : Nat) : Int) < (b.length : Int)) = true := by simp; omega
       have hp1 := wp1 i (by omega)
       have hp2 := wp1 (16 * k + i) (by omega)
       have hx : (fil b.length (16 * k + i) (trn w R c b) (fun j => b.getD j 0)).getD (16 * k + i) 0 ^^^ (ksB w R c k).getD i 0 = trn w R c b (16 * k + i) := by
        rw [fil_getD hm2, if_neg (by omega)]
        unfold trn
        rw [show (16 * k + i) / 16 = k by omega, show (16 * k + i) % 16 = i by omega]
       have hst := fil_setx (g := fun j => b.getD j 0) hm2 hx
       conv => whnf
       repeat (first | (refine gdT hl1 ?_; conv => whnf) | (refine pkT hl1 ?_; conv => whnf) | (refine gdT hl2 ?_; conv => whnf) | (refine Exists.intro _ (And.intro (sput_m8 (i := 16 * k + i) (by first | rfl | omega | fail)) ?_); conv => whnf) | (refine Exists.intro _ (And.intro (sload_u8 (i := 16 * k + i) (by first | rfl | omega | fail) (by first | omega | fail)) ?_); conv => whnf) | (refine Exists.intro _ (And.intro (idx_i (m := 16 * k + i) (by first | rfl | fail)) ?_); conv => whnf) | (refine Exists.intro _ (And.intro (sload_u8 (i := i) (by first | rfl | (simp; done) | fail) (by first | omega | fail)) ?_); conv => whnf) | (refine Exists.intro _ (And.intro (idx_i (m := i) (by first | rfl | fail)) ?_); conv => whnf) | (refine Exists.intro _ (And.intro rfl ?_); conv => whnf) | (refine And.intro (by first | omega | (simp; done) | fail) ?_; conv => whnf) | (refine And.intro (by kernel_rfl) ?_; conv => whnf) | (refine And.intro ⟨by first | exact @rfl Nat _ | fail, by first | (simp only [hf, hkl, ti5, List.length_map]; omega) | fail⟩ ?_; conv => whnf) | fail)
       refine ⟨⟨i + 1, by omega, by omega⟩, by simp only; omega, ?_⟩
       refine Weak.sel [0, 1, 2, 3, 4] rfl rfl ?_ ?_ rfl rfl
       ·
        (repeat' (first | exact trivial | refine And.intro ?_ ?_ | fail)) <;> first | rfl | exact wk_i (by first | exact hp1.symm | fail) | fail
       ·
        (repeat' (first | exact trivial | refine And.intro ?_ ?_ | (refine wk_cons ?_ ?_))) <;> first | exact ren_m8 (by first | exact hst | exact hst.symm | fail) | rfl | exact wk_i (by first | rfl | exact hp2.symm | fail) | exact ren_eq (by first | (simp; done) | fail) (by first | rfl | fail) | fail
      ·
       have hl2 : decide (((16 * k + i : Nat) : Int) < (b.length : Int)) = false := by simp; omega
       exact absurd hca (by omega)
     ·
      obtain rfl : i = 16 := by omega
      have hl1 : decide (((16 : Nat) : Int) < 16) = false := by decide
      have hmm : 16 * k + 16 = 16 * (k + 1) := by omega
      have hl3 : (((16 * k + 16 : Nat) : Int) == (b.length : Int)) = false := by simp; omega
      conv => whnf
      repeat (first | (refine brF rfl ?_; conv => whnf) | (refine pkF hl1 ?_; conv => whnf) | (refine gdF hl3 ?_; conv => whnf) | (refine And.intro (by first | omega | (simp; done) | fail) ?_; conv => whnf) | (refine And.intro (by kernel_rfl) ?_; conv => whnf) | fail)
      have hfm : fil b.length (16 * k + 16) (trn w R c b) (fun j => b.getD j 0) = fil b.length (16 * (k + 1)) (trn w R c b) (fun j => b.getD j 0) := by rw [hmm]
      exact ⟨[0, 1, 2, 3], rfl, rfl, by (repeat' (first | exact trivial | refine And.intro ?_ ?_)) <;> first | exact ren_m8 (by first | rfl | fail) | rfl | fail, rfl⟩
   ·
    conv => whnf
    repeat (first | (refine brT rfl ?_; conv => whnf) | (refine Exists.intro _ (And.intro (sload_all rfl (by first | rfl | (simp; omega))) ?_); conv => whnf) | (refine Exists.intro _ (And.intro rfl ?_); conv => whnf) | fail)
    refine ok1_callF [] [] true (h54) rfl rfl ⟨⟨rfl, by first | ((repeat' (first | exact wk_nil | exact ren_m8 rfl | (refine wk_agg ?_) | (refine wk_cons ?_ ?_))); done) | fail⟩, trivial, by first | rfl | fail, by first | simp [plainRf, plainR, plainT, plainW], ?_⟩
    conv => whnf
    have hnl := nextC_len hcl
    repeat (first | (refine Exists.intro _ (And.intro (sput_all rfl (by first | rfl | (simp [hcl, hnl]; done) | fail)) ?_); conv => whnf) | (refine And.intro (by first | omega | (simp; omega) | fail) ?_; conv => whnf) | fail)
    refine ⟨⟨k + 1, .inr (by omega)⟩, by simp only; omega, ?_⟩
    refine Weak.sel [0, 1, 2, 3, 4, 5, 6, 7, 8, 9, 10] rfl rfl ?_ ?_ rfl rfl
    ·
     (repeat' (first | exact trivial | refine And.intro ?_ ?_ | fail)) <;> first | rfl | fail
    ·
     (repeat' (first | exact trivial | refine And.intro ?_ ?_ | (refine wk_cons ?_ ?_))) <;> first | rfl | exact ren_eq (by first | (simp; done) | fail) (by first | rfl | fail) | exact ren_app2 (by first | (simp; done) | fail) (by first | rfl | fail) rfl | fail
end Go.Sh
namespace Go.Sh
open Go.Proofs
set_option maxHeartbeats 8000000
theorem f53n (c b : List UInt8) (n : Nat) (f1 f2 : Bool) : SCall Try.prog 53 [.pnil, .agg (c.map .u8), .sl 0 0 1 1 f1] [some (.ro [.sl 1 0 n 1 f2]), some (.ro (b.map .u8))] (.tup [.slnil, .i 1]) [some (.ro [.sl 1 0 n 1 f2]), some (.ro (b.map .u8))] := by
 refine scall_of ttOk (by kernel_rfl : Try.prog.funcs[53]? = some Try.f53) rfl rfl rfl ?_
 refine sw_ok ttOk mixed (by kernel_rfl) ?_
 conv => whnf
 repeat (first | (refine brT rfl ?_; conv => whnf) | (refine And.intro (by kernel_rfl) ?_; conv => whnf) | fail)
 refine ⟨[0, 1], ?_, rfl, rfl, ?_, rfl⟩
 ·
  (repeat' (first | (refine wk_tup ?_) | (refine wk_cons ?_ ?_))) <;> first | rfl | fail
 ·
  (repeat' (first | exact trivial | refine And.intro ?_ ?_ | (refine wk_cons ?_ ?_))) <;> first | rfl | exact ren_eq (by first | (simp; done) | fail) (by first | rfl | fail) | fail
def fullJ (j : Nat) : UInt8 := if j = 0 then 1 else 255
def full51 : List UInt8 := [1, 255, 255, 255, 255, 255, 255, 255, 255, 255, 255, 255, 255, 255, 255, 255]
def z16 : List UInt8 := List.replicate 16 0
theorem f51 : SCall Try.prog 51 [] [] (.b true) [] := by
 obtain ⟨w, hw⟩ : ∃ w, w = wSt (List.replicate 16 0) 4 44 := ⟨_, rfl⟩
 have hn := f45s_4 true (List.replicate 16 0) (List.replicate 16 0) 0 rfl rfl
 rw [← hw] at hn
 have hwl : w.length = 176 := by rw [hw]; exact wSt_4 _
 have h53 := f53_1 44 false w 10 rfl hwl (by omega) (by omega) (List.replicate 16 0) (List.replicate 16 0) (List.replicate 16 0) 0 rfl (by decide) rfl (by decide) true true
 have ht : turnL w 10 (List.replicate 16 0) (List.replicate 16 0) = [0x66, 0xe9, 0x4b, 0xd4, 0xef, 0x8a, 0x2c, 0x3b, 0x88, 0x4c, 0xfa, 0x59, 0xca, 0x34, 0x2b, 0x2e] := by rw [hw]; kernel_rfl
 rw [ht] at h53
 have h54a := f54L [0, 0, 0, 0, 0, 0, 0, 0, 0, 0, 0, 0, 0, 0, 0, 255] rfl
 have ha : nextC [0, 0, 0, 0, 0, 0, 0, 0, 0, 0, 0, 0, 0, 0, 0, 255] = [0, 0, 0, 0, 0, 0, 0, 0, 0, 0, 0, 0, 0, 0, 1, 0] := by kernel_rfl
 rw [ha] at h54a
 have h54b := f54L full51 rfl
 have hb : nextC full51 = [1, 255, 255, 255, 255, 255, 255, 255, 255, 255, 255, 255, 0, 0, 0, 0] := by kernel_rfl
 rw [hb] at h54b
 refine scall_of ttOk (by kernel_rfl : Try.prog.funcs[51]? = some Try.f51) rfl rfl rfl ?_
 refine sw_ok ttOk mixed (by kernel_rfl) ?_
 conv => whnf
 repeat (first | (refine And.intro ⟨by first | omega | fail, by first | decide | fail⟩ ?_; conv => whnf) | fail)
 refine ok1_callE [0] [some (.ro ((List.replicate 16 0).map .u8)), some (.box (sbx.map .u8 ++ [.sl 2 0 44 4 false])), some (.row 137 (w.map .u8))] (.tup [.p 1 0, .i 0]) (hn) rfl rfl ⟨⟨rfl, by first | rfl | fail⟩, by (repeat' (first | exact trivial | refine And.intro ?_ ?_)) <;> first | exact ren_m8 rfl | fail, by (repeat' (first | exact trivial | refine And.intro ?_ ?_)) <;> first | exact renB_plain _ (by first | (simp; done) | fail) | exact rb_boxa (by first | (simp; done) | fail) rfl | rfl, by first | rfl, ?_⟩
 conv => whnf
 repeat (first | (refine Exists.intro _ (And.intro rfl ?_); conv => whnf) | (refine And.intro ⟨by first | omega | fail, by first | decide | fail⟩ ?_; conv => whnf) | fail)
 refine ok1_callF [1, 2, 4, 3] [false, false, false, false, true] false (h53) rfl rfl ⟨⟨rfl, by first | rfl | fail⟩, by (repeat' (first | exact trivial | refine And.intro ?_ ?_)) <;> first | rfl | exact ren_eq (by first | (simp; done) | fail) (by first | rfl | fail) | exact ren_app2 (by first | (simp; done) | fail) (by first | rfl | fail) (by first | rfl | fail) | fail, by first | rfl | fail, by first | rfl | fail, ?_⟩
 conv => whnf
 repeat (first | (refine Exists.intro _ (And.intro (sput_all rfl (by first | rfl | fail)) ?_); conv => whnf) | (refine Exists.intro _ (And.intro rfl ?_); conv => whnf) | (refine And.intro (by first | omega | (simp; done) | fail) ?_; conv => whnf) | fail)
 refine loop_rule ttOk mixed (by kernel_rfl) (ι := { i : Nat // 1 ≤ i ∧ i ≤ 16 }) (fun i => [(2, .i 0), (3, .sl 5 0 16 1 false), (4, .i 0), (5, .p 6 0), (6, .i (i.1 : Int))]) (fun i => [none, none, none, none, none, some (.row 5 (([0x66, 0xe9, 0x4b, 0xd4, 0xef, 0x8a, 0x2c, 0x3b, 0x88, 0x4c, 0xfa, 0x59, 0xca, 0x34, 0x2b, 0x2e] : List UInt8).map .u8)), some (.box ((fil 16 i.1 fullJ (fun _ => 0)).map .u8))]) (fun _ => 7) (fun i => 16 - i.1) ⟨1, by omega, by omega⟩ ?_ ?_
 ·
  have hz : (fil 16 1 fullJ (fun _ => 0)).map SV.u8 = [.u8 1, .u8 0, .u8 0, .u8 0, .u8 0, .u8 0, .u8 0, .u8 0, .u8 0, .u8 0, .u8 0, .u8 0, .u8 0, .u8 0, .u8 0, .u8 0] := rfl
  refine Weak.sel [0, 1, 2, 3, 4, 5, 6] rfl rfl ?_ ?_ rfl rfl
  ·
   (repeat' (first | exact trivial | refine And.intro ?_ ?_ | fail)) <;> first | rfl | fail
  ·
   (repeat' (first | exact trivial | exact ren_eq (plainL_u8 _) hz | refine And.intro ?_ ?_ | (refine wk_cons ?_ ?_))) <;> first | rfl | fail
 ·
  rintro ⟨i, hi1, hi⟩
  have hf := fil_len 16 i fullJ (fun _ => (0 : UInt8))
  dsimp only
  by_cases hi2 : i < 16
  ·
   have hlt : decide ((i : Int) < 16) = true := by simp; omega
   have hp1 := w6_p1 i (by omega)
   have hx : (255 : UInt8) = fullJ i := by unfold fullJ; rw [if_neg (by omega)]
   have hs := fil_setx (g := fun _ => (0 : UInt8)) hi2 hx
   conv => whnf
   first | refine brT (by exact hlt) ?_ | fail
   conv => whnf
   repeat (first | (refine Exists.intro _ (And.intro (sput_m8 (i := i) (by first | rfl | (simp; done) | fail)) ?_); conv => whnf) | (refine Exists.intro _ (And.intro (idx_i (m := i) (by first | rfl | fail)) ?_); conv => whnf) | (refine And.intro (by first | omega | (simp; omega) | fail) ?_; conv => whnf) | fail)
   refine ⟨⟨i + 1, by omega, by omega⟩, by simp only; omega, ?_⟩
   refine Weak.sel [0, 1, 2, 3, 4, 5, 6] rfl rfl ?_ ?_ rfl rfl
   ·
    (repeat' (first | exact trivial | refine And.intro ?_ ?_ | fail)) <;> first | rfl | exact wk_i (by first | exact hp1.symm | fail) | fail
   ·
    (repeat' (first | exact trivial | refine And.intro ?_ ?_ | (refine wk_cons ?_ ?_))) <;> first | exact ren_m8 (by first | exact hs | exact hs.symm | fail) | rfl | fail
  ·
   obtain rfl : i = 16 := by omega
   have hfu : fil 16 16 fullJ (fun _ => 0) = full51 := by decide
   have h53n := f53n full51 [1] 1 true true
   rw [hfu]
   conv => whnf
   first | refine brF (by rfl) ?_ | fail
   conv => whnf
   repeat (first | (refine Exists.intro _ (And.intro (sload_all rfl (by first | rfl | fail)) ?_); conv => whnf) | (refine Exists.intro _ (And.intro (sput_all rfl (by first | rfl | fail)) ?_); conv => whnf) | (refine Exists.intro _ (And.intro rfl ?_); conv => whnf) | (refine And.intro (by first | omega | fail) ?_; conv => whnf) | (refine And.intro ⟨rfl, Nat.le_of_ble_eq_true rfl⟩ ?_; conv => whnf) | fail)
   refine ok1_callF [9, 8] [false, true] true (h53n) rfl rfl ⟨⟨rfl, by first | rfl | fail⟩, by (repeat' (first | exact trivial | refine And.intro ?_ ?_)) <;> first | rfl | fail, by first | rfl | fail, by first | rfl | fail, ?_⟩
   conv => whnf
   repeat (first | (refine Exists.intro _ (And.intro (bytesOf_cut rfl) ?_); conv => whnf) | (refine brT rfl ?_; conv => whnf) | (refine Exists.intro _ (And.intro rfl ?_); conv => whnf) | (refine And.intro (by first | omega | (simp; done) | fail) ?_; conv => whnf) | fail)
   refine ok1_callF [] [] true (h54a) rfl rfl ⟨⟨rfl, by first | rfl | fail⟩, trivial, by first | rfl | fail, by first | rfl | fail, ?_⟩
   conv => whnf
   repeat (first | (refine brT rfl ?_; conv => whnf) | (refine Exists.intro _ (And.intro (sload_all rfl (by first | rfl | fail)) ?_); conv => whnf) | (refine Exists.intro _ (And.intro rfl ?_); conv => whnf) | (refine And.intro ⟨rfl, rfl⟩ ?_; conv => whnf) | fail)
   refine ok1_callF [] [] true (h54b) rfl rfl ⟨⟨rfl, by first | rfl | fail⟩, trivial, by first | rfl | fail, by first | rfl | fail, ?_⟩
   conv => whnf
   repeat (first | (refine brT rfl ?_; conv => whnf) | (refine Exists.intro _ (And.intro (sload_all rfl (by first | rfl | fail)) ?_); conv => whnf) | (refine Exists.intro _ (And.intro rfl ?_); conv => whnf) | (refine And.intro ⟨rfl, rfl⟩ ?_; conv => whnf) | (refine And.intro (by kernel_rfl) ?_; conv => whnf) | fail)
   refine ⟨[], ?_, rfl, rfl, ?_, rfl⟩
   ·
    (repeat' (fail)) <;> first | rfl | fail
   ·
    (repeat' (first | exact trivial | fail)) <;> fail
end Go.Sh
namespace Go.Sh
open Go.Proofs
theorem lt_ext {P : Program} {H : Heap} {o : Oper} {R : Env} {x : Operand} {args : Array Operand} {tys : Array TypeId} {f : Nat} {zs : List SV} {z : SV} (ho : o.op = .call ⟨.value x, args, tys⟩)
  (hx : evO R x = some (.fn f [])) (hargs : args.toList.map (evO R) = zs.map some)
  (hrun : ∀ (ρ : Ren) (w : World) (vs : List Value), Rels ρ zs vs → ∃ rv, (callFunc f ⟨vs⟩).run P w = .ok (.value rv) w ∧ Rel ρ z rv) : LT P o R H [] [] (some z) := by
 refine LT.pure (by simp [ho]) fun e w ρ h1 _ => ?_
 have hxr := h1 x (by simp [ho, Op.operands, Call.operands]) _ hx
 simp only [Rel] at hxr
 obtain ⟨cs, he, hcs⟩ := hxr
 rw [Rels.nil_iff] at hcs; subst hcs
 have hv : Rels ρ zs (args.toList.map e) := by
  have : ∀ (l : List Operand) (zs : List SV), (∀ y ∈ l, y ∈ args.toList) → l.map (evO R) = zs.map some → Rels ρ zs (l.map e) := by
   intro l
   induction l with
   | nil => intro zs _ h; cases zs with
    | nil => exact Rels.nil_iff.2 rfl
    | cons _ _ => simp at h
   | cons y l ih =>
    intro zs hm h
    cases zs with
    | nil => simp at h
    | cons z zs =>
     simp only [List.map_cons, List.cons.injEq] at h
     exact Rels.cons (h1 y (by have := hm y (by simp); simp [ho, Op.operands, Call.operands]; exact .inr (by simpa using this)) _ h.1) (ih zs (fun y hy => hm y (by simp [hy])) h.2)
  exact this _ _ (fun _ h => h) hargs
 obtain ⟨rv, hr, hz⟩ := hrun ρ w _ hv
 refine ⟨rv, ?_, hz⟩
 have ea : (⟨args.toList.map e⟩ : Array Value) = args.map e := by
  apply Array.ext'; simp
 rw [ea] at hr
 unfold execOp
 simp only [ho, resolve, he, Deferred.ofValue, Sem.run_bind, Sem.run_pure, Result.andThen, invoke]
 simpa [Result.andThen] using hr
theorem run_add64F {P : Program} {f : FuncId} {fn : Func} (hf : P.funcs[f]? = some fn) (hname : (fn.name == "runtime.NumGoroutine") = false)
  (hb : fn.body.isNone = true) (hn : Extern.findNext fn = none) (he : Extern.find fn = some add64Entry) (x y c : UInt64) (hc : c.toNat ≤ 1) (w : World) :
  (callFunc f #[.int .u64 (x.toNat : Int), .int .u64 (y.toNat : Int), .int .u64 (c.toNat : Int)]).run P w =
   .ok (.value (.tuple #[.int .u64 (((x.toNat + y.toNat + c.toNat) % 18446744073709551616 : Nat) : Int), .int .u64 (((x.toNat + y.toNat + c.toNat) / 18446744073709551616 : Nat) : Int)])) w := by
 rw [run_callFunc_extern hf hname hb hn he, run_add64 _ _ _ (by omega) (by omega) (by omega) (by omega)]
 simp only [Result.andThen]
 congr 5 <;> omega
theorem ok1_add64 {P : Program} {o : Oper} {R : RL} {H : HL} {L : Nat} {k : K1} {x : Operand} {args : Array Operand} {tys : Array TypeId} {f : Nat} (fn : Func) (a b c s t : UInt64)
  (hf : P.funcs[f]? = some fn) (hname : (fn.name == "runtime.NumGoroutine") = false) (hb : fn.body.isNone = true) (hn : Extern.findNext fn = none) (he : Extern.find fn = some add64Entry)
  (ho : o.op = .call ⟨.value x, args, tys⟩) (hx : ev R x = some (.fn f [])) (hargs : evs R args.toList = some [.u64 a, .u64 b, .u64 c]) (hc : c.toNat ≤ 1)
  (hs : s.toNat = (a.toNat + b.toNat + c.toNat) % 18446744073709551616) (ht : t.toNat = (a.toNat + b.toNat + c.toNat) / 18446744073709551616)
  (h : k (some (.tup [.u64 s, .u64 t])) [] [] L) : Ok1 P o R H L k := by
 refine ⟨_, [], [], L, lt_ext (z := .tup [.u64 s, .u64 t]) ho (ev_some hx) (evs_eq hargs) ?_, Nat.le_refl _, by simp, h⟩
 intro ρ w vs hv
 have hv2 : vs = [.int .u64 (a.toNat : Int), .int .u64 (b.toNat : Int), .int .u64 (c.toNat : Int)] := by
  simp only [Rels, Rel] at hv
  obtain ⟨_, _, rfl, rfl, _, _, rfl, rfl, _, _, rfl, rfl, rfl⟩ := hv
  rfl
 subst hv2
 refine ⟨_, run_add64F hf hname hb hn he a b c hc w, ?_⟩
 rw [← hs, ← ht]
 simp only [Rel]
 exact ⟨_, rfl, Rels.cons (by simp only [Rel]) (Rels.cons (by simp only [Rel]) (Rels.nil_iff.2 rfl))⟩
end Go.Sh
namespace Go.Sh
open Go.Proofs
theorem digits_u8 : ∀ (n t : Nat) (acc : Array Value), ∃ l : List UInt8, (Extern.BytealgMakeNoZero.digits n t acc).toList = acc.toList ++ l.map (fun x => Value.int .u8 (x.toNat : Int)) ∧ l.length = n
 | 0, t, acc => ⟨[], by simp [Extern.BytealgMakeNoZero.digits], rfl⟩
 | n + 1, t, acc => by
  obtain ⟨l, h1, h2⟩ := digits_u8 n (t / 256) (acc.push (.int .u8 (Int.ofNat (t % 256))))
  refine ⟨(UInt8.ofNat (t % 256)) :: l, ?_, by simp [h2]⟩
  rw [Extern.BytealgMakeNoZero.digits, h1]
  have : (UInt8.ofNat (t % 256)).toNat = t % 256 := by
   rw [UInt8.toNat_ofNat']; omega
  simp [this]
theorem rels_u8 (ρ : Ren) : ∀ l : List UInt8, Rels ρ (l.map .u8) (l.map (fun x => Value.int .u8 (x.toNat : Int)))
 | [] => Rels.nil_iff.2 rfl
 | x :: l => Rels.cons (by simp only [Rel]) (rels_u8 ρ l)
theorem atoms_u8m (l : List UInt8) : atoms (l.map SV.u8) = true := by simp [atoms, SV.atom]
theorem run_mnz0 {P : Program} {ps : Array TypeId} {t e : TypeId} (ht : P.underlying t = some (.slice e)) (n : Nat) (hn2 : n ≤ 281474976710656) (w : World) :
  ∃ b : Nat, (Extern.BytealgMakeNoZero.makeNoZero ps #[t] #[.int .i64 n]).run P w = .ok (.slice (some ⟨w.heap.size, 0, none⟩) n (Extern.BytealgMakeNoZero.digits (grownCap w n 0 e) b #[]).size) (w.drew.drew.alloc (.cells (Extern.BytealgMakeNoZero.digits (grownCap w n 0 e) b #[]) e)) := by
 have hdef : ∃ q : Question, q.forced = false ∧ Extern.BytealgMakeNoZero.makeNoZero ps #[t] #[.int .i64 n] =
   (do
    let .slice elem ← underlying t | stuck "bytealg.MakeNoZero: slice type expected"
    if (n : Int) < 0 || (n : Int) > 2 ^ 48 then runtimePanic (.error "makeslice: len out of range")
    let cap ← choose (.appendCap (n : Int).toNat 0 elem)
    askRoom cap
    let bytes ← choose q
    let a ← newRow elem (Extern.BytealgMakeNoZero.digits cap bytes #[])
    pure (.slice (some a) (n : Int).toNat cap)) := by
  refine ⟨_, ?_, rfl⟩
  rfl
 obtain ⟨q, hqf, hdef⟩ := hdef
 refine ⟨q.cut (w.tape (w.drawn + 1) q), ?_⟩
 rw [hdef]
 have h1 : ¬ (n : Int) < 0 := by omega
 have h2 : ¬ (281474976710656 : Int) < (n : Int) := by omega
 have hq2 : (Question.appendCap n 0 e).forced = false := rfl
 simp [run_underlying ht, h1, h2, hqf, hq2, newRow, Lib.size_digits, grownCap]
theorem run_mnz {P : Program} {f : FuncId} {fn : Func} {t e : TypeId} (hf : P.funcs[f]? = some fn) (hname : (fn.name == "runtime.NumGoroutine") = false) (hb : fn.body.isNone = true) (hn : Extern.findNext fn = none)
  (he : Extern.find fn = some (Extern.BytealgMakeNoZero.makeNoZero fn.params #[t])) (ht : P.underlying t = some (.slice e)) (n : Nat) (hn2 : n ≤ 281474976710656) (w : World) :
  ∃ (cs : Array Value) (l : List UInt8), (callFunc f #[.int .i64 (n : Int)]).run P w = .ok (.value (.slice (some ⟨w.heap.size, 0, none⟩) n cs.size)) (w.drew.drew.alloc (.cells cs e)) ∧ n ≤ cs.size ∧ l.length = n ∧ cs.toList.take n = l.map (fun x => Value.int .u8 (x.toNat : Int)) := by
 obtain ⟨b, hr⟩ := run_mnz0 (ps := fn.params) ht n hn2 w
 obtain ⟨l, hl1, hl2⟩ := digits_u8 (grownCap w n 0 e) b #[]
 have hge : n ≤ grownCap w n 0 e := by simpa using grownCap_ge w n 0 e
 refine ⟨Extern.BytealgMakeNoZero.digits (grownCap w n 0 e) b #[], l.take n, ?_, ?_, ?_, ?_⟩
 ·
  rw [run_callFunc_extern hf hname hb hn he, hr]; rfl
 ·
  rw [Lib.size_digits]; simpa using hge
 ·
  rw [List.length_take, hl2]; omega
 ·
  rw [hl1]; simp [List.map_take]
section
variable {P : Program} {ops : Array Oper} {N B : Nat}
theorem good_step_at {o : Oper} {i : Nat} {R Ri : Env} {H Hi : Heap} {e : En} {L L' n : Nat} {r : Option Nat} {ρ : Ren} {a : Act} {w : World} {K : Act → World → Prop} {Q : Exit → Act → World → Prop}
  (hi : ops[i]? = some o) (hd : e.lg.dst = o.dst) (hWi : e.lg.Wi = e.W.map (·.1)) (hgd : o.guard = none) (hN : ∀ d, o.dst = some d → d < N)
  (hlt : (∀ t ∈ readsOf o, ∀ v, Ri t = some v → Rel ρ v (a.tmps.getD t undef)) → ∀ next : Act → World → Prop, (∀ rv w' ρ', Chg ρ Hi w e.W ρ' w' → (∀ v, e.out = some v → Rel ρ' v rv) → next (a.put o.dst rv) w') → o.wpIn (Fw r) n P a w next Q)
  (hR : ∀ t, R t = Ri t) (hH : ∀ id, (id ∈ e.lg.F ∨ id ∈ e.lg.Wi) → H id = Hi id) (hs : Sim N B L ρ R H a w)
  (hfresh : ∀ id ob, (id, ob) ∈ e.W → id ∉ e.lg.F → ρ id = none) (hL : L ≤ L') (hW : ∀ id ob, (id, ob) ∈ e.W → id < L')
  (hk : ∀ a' w' ρ', Sim N B L' ρ' (appL R (wr e)) (appL H e.W) a' w' → Ev ρ H w ρ' (appL H e.W) w' → (∀ id rb, ρ' id = some rb → ρ id = some rb ∨ ∃ ob, (id, ob) ∈ e.W) → K a' w') :
  wpOpIn (Fw r) n P ops Q i K a w := by
 have put : ∀ (rv : Value) (w' : World) (ρ' : Ren), Chg ρ Hi w e.W ρ' w' → (∀ v, e.out = some v → Rel ρ' v rv) → K (a.put o.dst rv) w' := by
  intro rv w' ρ' hc hv
  have hev := hc.evo (H := H) (fun id ob hm => (hH id (.inr (by rw [hWi]; exact List.mem_map.2 ⟨_, hm, rfl⟩))).symm) hs.heap hs.sep
  rw [updW_app] at hev
  refine hk _ _ ρ' ⟨?_, ?_, hev.heap, hev.sep, ?_, ?_⟩ hev.ev hc.dom
  ·
   cases hdst : o.dst <;> simp [Act.put, hdst, hs.size]
  ·
   intro t v ht
   cases hdst : o.dst with
   | none =>
    rw [hdst] at hd
    simp only [wr, hd, appL, List.lookup_nil] at ht
    simp only [Act.put]
    exact (hs.regs t v ht).ext hev.ext
   | some d =>
    rw [hdst] at hd
    have hdN : d < a.tmps.size := by rw [hs.size]; exact hN d hdst
    simp only [wr, hd, appL, List.lookup_cons, List.lookup_nil] at ht
    simp only [Act.put]
    by_cases htd : t = d
    ·
     subst htd
     simp at ht
     rw [Array.getD_eq_getD_getElem?, Array.getElem?_setIfInBounds_self_of_lt hdN]
     exact hv v ht
    ·
     have : (t == d) = false := by simpa using htd
     simp only [this] at ht
     rw [Array.getD_eq_getD_getElem?, Array.getElem?_setIfInBounds_ne (fun e => htd e.symm), ← Array.getD_eq_getD_getElem?]
     exact (hs.regs t v ht).ext hev.ext
  ·
   intro id hid
   cases hr : ρ' id with
   | none => rfl
   | some rb =>
    rcases hc.dom id rb hr with h | ⟨ob, hm⟩
    ·
     rw [hs.fresh id (by omega)] at h; cases h
    ·
     have := hW id ob hm; omega
  ·
   have : (a.put o.dst rv).defers = a.defers := by cases hdst : o.dst <;> simp [Act.put]
   rw [this]
   exact hs.dfr.fr hev.fr
 unfold wpOpIn
 simp only [hi]
 have hw : Region.wanted o (yielded ops a.tmps) = true := by unfold Region.wanted; simp only [hgd]
 simp only [hw, if_true]
 exact hlt (fun t ht v hv => hs.regs t v ((hR t).trans hv)) K put
end
def swx (j : Nat) (T : TT) (P : Program) (M : Option Nat → Prop) (N A : Nat) (c : Code) : (Exit → RL → HL → Nat → Prop) → RL → HL → Nat → Prop :=
 @Code.rec (fun _ => (Exit → RL → HL → Nat → Prop) → RL → HL → Nat → Prop)
  (fun Q => Q .normal)
  (fun id ops draw Q R H L => match Nat.beq id j with
   | true => SWp P M N A (.region id ops draw) Q R H L
   | false => sw T P M N A (.region id ops draw) Q R H L)
  (fun _ _ iha ihb Q => iha fun e => match e with | .normal => ihb Q | e => Q e)
  (fun c _ _ ihx ihy Q R H L => match ev R c with
   | some (.b t) => (t = true → ihx Q R H L) ∧ (t = false → ihy Q R H L)
   | _ => False)
  (fun id _ ih Q => ih fun e => match e with
   | .exit i => match Nat.beq i id with | true => Q .normal | false => Q (.exit i)
   | e => Q e)
  (fun c _ Q => SWp P M N A (.loop c) Q)
  (fun f ps x y _ _ Q => SWp P M N A (.rangeFunc f ps x y) Q)
  (fun id Q => Q (.exit id))
  (fun c _ Q => SWp P M N A (.scope c) Q)
  (fun l Q => SWp P M N A (.label l) Q)
  (fun l Q => SWp P M N A (.goto l) Q)
  (fun Q => Q .ret)
  (fun s Q => SWp P M N A (.refuse s) Q) c
theorem swx_ok {j : Nat} {T : TT} {P : Program} {M : Option Nat → Prop} {N A : Nat} (hT : TOk P T) (hm : P.follows .mixedOrders = true) : ∀ {c : Code} {Q : Exit → RL → HL → Nat → Prop} {R : RL} {H : HL} {L : Nat}, codeOk N c = true →
  swx j T P M N A c Q R H L → SWp P M N A c Q R H L
 | .skip, Q, R, H, L, _, h => ⟨fun r n B ρ a w hM hs hl => wpIn_skip ⟨R, H, L, ρ, h, hl, hs, EvA.refl _ _ _ _⟩⟩
 | .exit id, Q, R, H, L, _, h => ⟨fun r n B ρ a w hM hs hl => wpIn_exit ⟨R, H, L, ρ, h, hl, hs, EvA.refl _ _ _ _⟩⟩
 | .ret, Q, R, H, L, _, h => ⟨fun r n B ρ a w hM hs hl => wpIn_ret ⟨R, H, L, ρ, h, hl, hs, EvA.refl _ _ _ _⟩⟩
 | .region id ops draw, Q, R, H, L, hc, h => by
  have h : (match Nat.beq id j with
   | true => SWp P M N A (.region id ops draw) Q R H L
   | false => sw T P M N A (.region id ops draw) Q R H L) := h
  cases hb : Nat.beq id j with
  | true => rw [hb] at h; exact h
  | false => rw [hb] at h; exact sw_ok hT hm hc h
 | .seq x y, Q, R, H, L, hc, h => by
  simp only [codeOk, Bool.and_eq_true] at hc
  have h : swx j T P M N A x (fun e => match e with | .normal => swx j T P M N A y Q | e => Q e) R H L := h
  exact (swx_ok hT hm hc.1 h).seq (fun R H L h => swx_ok hT hm hc.2 h) (fun e R H L hne h => by cases e <;> first | exact absurd rfl hne | exact h)
 | .cond c x y, Q, R, H, L, hc, h => by
  simp only [codeOk, Bool.and_eq_true] at hc
  have h : (match ev R c with
   | some (.b t) => (t = true → swx j T P M N A x Q R H L) ∧ (t = false → swx j T P M N A y Q R H L)
   | _ => False) := h
  split at h
  ·
   rename_i t ht
   refine ⟨fun r n B ρ a w hM hs hl => ?_⟩
   have hcv : a.eval c = .bool t := by
    cases c with
    | tmp k =>
     have h1 := hs.regs k (.b t) (by rw [rg, ← lk_eq]; exact ht)
     simp only [Rel] at h1
     exact h1
    | const v =>
     have h1 := (ofVal_rel (ρ := ρ) ht).1
     simp only [Rel] at h1
     exact h1
    | func f => cases ht
    | global g => cases ht
   refine wpIn_cond_split hcv (fun ht => (swx_ok hT hm hc.1 (h.1 ht)).run r n B ρ a w hM hs hl) (fun ht => (swx_ok hT hm hc.2 (h.2 ht)).run r n B ρ a w hM hs hl)
  ·
   exact h.elim
 | .block id c, Q, R, H, L, hc, h => by
  refine ⟨fun r n B ρ a w hM hs hl => ?_⟩
  have h : swx j T P M N A c (fun e => match e with
   | .exit i => match Nat.beq i id with | true => Q .normal | false => Q (.exit i)
   | e => Q e) R H L := h
  simp only [codeOk] at hc
  refine wpIn_block (wpIn_mono ((swx_ok hT hm hc h).run r n B ρ a w hM hs hl) ?_)
  rintro e a2 w2 ⟨R2, H2, L2, ρ2, hq2, rest⟩
  cases e with
  | exit i =>
   simp only [Exit.inBlock]
   cases hb : Nat.beq i id with
   | true => simp only [hb] at hq2; rw [if_pos (beqE hb)]; exact ⟨R2, H2, L2, ρ2, hq2, rest⟩
   | false => simp only [hb] at hq2; rw [if_neg (fun e => by subst e; simp at hb)]; exact ⟨R2, H2, L2, ρ2, hq2, rest⟩
  | _ => exact ⟨R2, H2, L2, ρ2, hq2, rest⟩
 | .loop c, Q, R, H, L, _, h => h
 | .rangeFunc f ps x y, Q, R, H, L, _, h => h
 | .scope c, Q, R, H, L, _, h => h
 | .label l, Q, R, H, L, _, h => h
 | .goto l, Q, R, H, L, _, h => h
 | .refuse s, Q, R, H, L, _, h => h
theorem swp_mnz {T : TT} {P : Program} {M : Option Nat → Prop} {N A : Nat} {id : Nat} {ops : Array Oper} {o1 o2 : Oper} {post : List Oper} {Q : Exit → RL → HL → Nat → Prop} {R R1 : RL} {H H1 : HL} {L L1 n f : Nat} {x : Operand} {tys : Array TypeId} {fn : Func} {t e d : TypeId}
  (hT : TOk P T) (hd : dstOk N ops = true) (hops : ops.toList = o1 :: o2 :: post)
  (h1 : rops T P ops [o1] R H L [] fun R' H' L' _ => R' = R1 ∧ H' = H1 ∧ L' = L1)
  (ho : o2.op = .call ⟨.value (.func f), #[x], tys⟩) (hgd : o2.guard = none) (hdst : o2.dst = some d) (hx : evO (rg R1) x = some (.i (n : Int))) (hn2 : n ≤ 281474976710656)
  (hf : P.funcs[f]? = some fn) (hname : (fn.name == "runtime.NumGoroutine") = false) (hb : fn.body.isNone = true) (hn : Extern.findNext fn = none)
  (he : Extern.find fn = some (Extern.BytealgMakeNoZero.makeNoZero fn.params #[t])) (ht : P.underlying t = some (.slice e))
  (h2 : ∀ l : List UInt8, l.length = n → rops T P ops post ((d, .sl L1 0 n 1 false) :: R1) (hupd H1 [(L1, some (.row e (l.map .u8)))]) (L1 + 1) [] fun R' H' L' _ => Q .normal R' H' L') :
  SWp P M N A (.region id ops false) Q R H L := by
 refine ⟨fun r nn B ρ a w hM hs hl => ?_⟩
 have hN : ∀ (i : Nat) (o : Oper) (d : Nat), ops[i]? = some o → o.dst = some d → d < N := by
  intro i o d ho hdst
  simp only [dstOk, List.all_eq_true] at hd
  have := hd o (by simpa using Array.mem_of_getElem? ho)
  simpa [hdst] using this
 have hget : ∀ j, ops[j]? = (o1 :: o2 :: post)[j]? := fun j => by rw [← hops, Array.getElem?_toList]
 obtain ⟨es, R', H', L', hr, hl', hq1, hq2, hq3⟩ := rops_ok hT h1 hl
 subst hq1 hq2 hq3
 obtain ⟨e1, es1, L0, rfl, hg1, hL1, hW1, hr0⟩ := hr
 obtain ⟨rfl, hR1, hH1, hLL⟩ := hr0
 subst hLL
 refine wpIn_region ?_
 have hsz : ops.size = post.length + 1 + 1 := by rw [← Array.length_toList, hops]; simp
 rw [List.range_eq_range', hsz, List.range'_succ, List.range'_succ, wpOpsIn_cons]
 refine good_step (L' := L0) (hget 0) hg1 (fun d hd => hN 0 o1 d (hget 0) hd) (fun _ _ => rfl) (fun _ _ => rfl) hs (fun id ob hm hF => hs.fresh id ((hW1 id ob hm).2 hF)) hL1 (fun id ob hm => (hW1 id ob hm).1) ?_
 intro a1 w1 ρ1 hs1 hev1 _
 rw [wpOpsIn_cons]
 rw [hR1, hH1] at hs1
 rw [hH1] at hev1
 obtain ⟨cs, l, hrun, hcs, hll, hlt⟩ := run_mnz hf hname hb hn he ht n hn2 w1
 have hch : ∀ Hx : Heap, Chg ρ1 Hx w1 [(L0, some (.row e (l.map .u8)))] (setR ρ1 L0 ⟨w1.heap.size, 0, cs.size, false⟩) (w1.drew.drew.alloc (.cells cs e)) := fun Hx =>
  Chg.row (H := Hx) (w := w1) (fz := (0, 0)) (t := e) (w1.drawn + 2) (hs1.fresh L0 (Nat.le_refl _)) (atoms_u8m l) (by rw [List.length_map, hll, hlt]; exact rels_u8 ρ1 l) (by rw [List.length_map, hll]; exact hcs) (.inl rfl)
 refine good_step_at (L' := L0 + 1) (Ri := rg R') (Hi := hg H') (e := ⟨⟨o2.dst, [], [], [L0]⟩, some (.sl L0 0 n 1 false), [(L0, some (.row e (l.map .u8)))]⟩) (hget 1) rfl rfl hgd (fun d hd => hN 1 o2 d (hget 1) hd) ?_ (fun _ => rfl) (fun _ _ => rfl) hs1 ?_ (by omega) ?_ ?_
 ·
  intro hreg next hnext
  refine ⟨fun _ _ => trivial, ?_⟩
  rw [Oper.semAt_eq _ _ _ (by simp [ho])]
  have hxv : a1.eval x = .int .i64 (n : Int) := by
   have hrel : Rel ρ1 (.i (n : Int)) (a1.eval x) := by
    cases x with
    | tmp t => exact hreg t (by simp only [readsOf, List.mem_filterMap]; exact ⟨.tmp t, by simp [ho, Op.operands, Call.operands], rfl⟩) _ hx
    | const u => exact (ofVal_rel hx).1
    | func f => simp only [evO, Option.some.injEq] at hx; cases hx
    | global g => cases hx
   simpa only [Rel] using hrel
  have hexe : (execOp a1.eval o2).run P w1 = .ok (.value (.slice (some ⟨w1.heap.size, 0, none⟩) n cs.size)) (w1.drew.drew.alloc (.cells cs e)) := by
   unfold execOp
   have hr := hrun
   rw [← hxv] at hr
   have hfe : a1.eval (.func f) = .func (.func f) #[] #[] := rfl
   simp only [ho, resolve, hfe, Deferred.ofValue, Sem.run_bind, Sem.run_pure, Result.andThen, invoke]
   simpa [Result.andThen] using hr
  rw [hexe]
  refine hnext _ _ _ (hch _) ?_
  intro v hv
  cases hv
  simp only [Rel]
  refine ⟨⟨w1.heap.size, 0, cs.size, false⟩, some ⟨w1.heap.size, 0, none⟩, cs.size, by simp [setR], rfl, hcs, by simp, .inr ⟨rfl, by simp, by simp⟩⟩
 ·
  intro id ob hm hF
  simp at hm
  rw [hm.1]; exact hs1.fresh L0 (Nat.le_refl _)
 ·
  intro id ob hm
  simp at hm
  rw [hm.1]; omega
 ·
  intro a2 w2 ρ2 hs2 hev2 _
  rw [appL_wr rfl, ← updW_app, ← hg_hupd] at hs2
  rw [← updW_app, ← hg_hupd] at hev2
  have hrp : rput R' o2.dst (some (.sl L0 0 n 1 false)) = (d, .sl L0 0 n 1 false) :: R' := by rw [hdst]; rfl
  rw [hrp] at hs2
  obtain ⟨es, R2, H2, L2, hr2, hl2, hq2⟩ := rops_ok hT (h2 l hll) (hupd_le (by omega) (fun id ob hm => by simp at hm; rw [hm.1]; omega))
  have hfin := region_text (r := r) (n := nn) (Q := fun e a' w' => ∃ R' H' L' ρ', Q e R' H' L' ∧ H'.length ≤ L' ∧ Sim N B L' ρ' (rg R') (hg H') a' w' ∧ EvA A ρ (hg H) w ρ' (hg H') w') hN post 2 _ _ _ es ρ2 a2 w2 (fun j => by rw [hget]; simp [Nat.add_comm 2 j]) hr2 hs2
   (fun a' w' ρ' hs' hev => ⟨R2, H2, L2, ρ', hq2, hl2, hs', ((hev1.trans hev2).trans hev).toA⟩)
  exact hfin
end Go.Sh
namespace Go.Sh
open Go.Proofs
section
variable {P : Program} {ops : Array Oper} {N B : Nat}
theorem step_put {o : Oper} {R : Env} {H : Heap} {e : En} {L L' : Nat} {ρ : Ren} {a : Act} {w : World} (hd : e.lg.dst = o.dst) (hN : ∀ d, o.dst = some d → d < N) (hs : Sim N B L ρ R H a w) (hL : L ≤ L') (hW : ∀ id ob, (id, ob) ∈ e.W → id < L')
  {rv : Value} {w' : World} {ρ' : Ren} (hc : Chg ρ H w e.W ρ' w') (hv : ∀ v, e.out = some v → Rel ρ' v rv) : Sim N B L' ρ' (appL R (wr e)) (appL H e.W) (a.put o.dst rv) w' ∧ Ev ρ H w ρ' (appL H e.W) w' := by
  have hev := hc.evo (H := H) (fun id ob hm => rfl) hs.heap hs.sep
  rw [updW_app] at hev
  refine ⟨⟨?_, ?_, hev.heap, hev.sep, ?_, ?_⟩, hev.ev⟩
  ·
   cases hdst : o.dst <;> simp [Act.put, hdst, hs.size]
  ·
   intro t v ht
   cases hdst : o.dst with
   | none =>
    rw [hdst] at hd
    simp only [wr, hd, appL, List.lookup_nil] at ht
    simp only [Act.put]
    exact (hs.regs t v ht).ext hev.ext
   | some d =>
    rw [hdst] at hd
    have hdN : d < a.tmps.size := by rw [hs.size]; exact hN d hdst
    simp only [wr, hd, appL, List.lookup_cons, List.lookup_nil] at ht
    simp only [Act.put]
    by_cases htd : t = d
    ·
     subst htd
     simp at ht
     rw [Array.getD_eq_getD_getElem?, Array.getElem?_setIfInBounds_self_of_lt hdN]
     exact hv v ht
    ·
     have : (t == d) = false := by simpa using htd
     simp only [this] at ht
     rw [Array.getD_eq_getD_getElem?, Array.getElem?_setIfInBounds_ne (fun e => htd e.symm), ← Array.getD_eq_getD_getElem?]
     exact (hs.regs t v ht).ext hev.ext
  ·
   intro id hid
   cases hr : ρ' id with
   | none => rfl
   | some rb =>
    rcases hc.dom id rb hr with h | ⟨ob, hm⟩
    ·
     rw [hs.fresh id (by omega)] at h; cases h
    ·
     have := hW id ob hm; omega
  ·
   have : (a.put o.dst rv).defers = a.defers := by cases hdst : o.dst <;> simp [Act.put]
   rw [this]
   exact hs.dfr.fr hev.fr
theorem region_pre {r : Option Nat} {n : Nat} {Q : Exit → Act → World → Prop} {R' : Env} {H' : Heap} {Lf : Nat} {rest : List Nat} (hN : ∀ (i : Nat) (o : Oper) (d : Nat), ops[i]? = some o → o.dst = some d → d < N) :
  ∀ (os : List Oper) (k : Nat) (R : Env) (H : Heap) (L : Nat) (es : List En) (ρ : Ren) (a : Act) (w : World), (∀ j, j < os.length → os[j]? = ops[k + j]?) → RunT P ops os R H L es R' H' Lf → Sim N B L ρ R H a w →
   (∀ a' w' ρ', Sim N B Lf ρ' R' H' a' w' → Ev ρ H w ρ' H' w' → wpOpsIn (Fw r) n P ops Q rest a' w') → wpOpsIn (Fw r) n P ops Q (List.range' k os.length ++ rest) a w
 | [], k, R, H, L, es, ρ, a, w, _, hr, hs, hk => by
  obtain ⟨rfl, rfl, rfl, rfl⟩ := hr
  exact hk a w ρ hs (Ev.refl _ _ _)
 | o :: os, k, R, H, L, es, ρ, a, w, hos, hr, hs, hk => by
  obtain ⟨e, es', L', rfl, hg, hL, hW, hr'⟩ := hr
  have h0 : ops[k]? = some o := by have := hos 0 (by simp); simpa using this.symm
  rw [List.length_cons, List.range'_succ, List.cons_append, wpOpsIn_cons]
  refine good_step (L' := L') h0 hg (fun d hd => hN k o d h0 hd) (fun _ _ => rfl) (fun _ _ => rfl) hs (fun id ob hm hF => hs.fresh id ((hW id ob hm).2 hF)) hL (fun id ob hm => (hW id ob hm).1) ?_
  intro a' w' ρ' hs' hev _
  refine region_pre hN os (k + 1) _ _ L' es' ρ' a' w' (fun j hj => by have := hos (j + 1) (by simp; omega); simp only [List.getElem?_cons_succ] at this; rw [this]; congr 1; omega) hr' hs' ?_
  intro a2 w2 ρ2 hs2 hev2
  exact hk a2 w2 ρ2 hs2 (hev.trans hev2)
end
structure SOps (P : Program) (N : Nat) (ops : Array Oper) (Q : RL → HL → Nat → Prop) (os : List Oper) (R : RL) (H : HL) (L : Nat) : Prop where
 run : ∀ (r : Option Nat) (n B : Nat) (ρ : Ren) (a : Act) (w : World) (k : Nat) (K : Exit → Act → World → Prop), (∀ j, os[j]? = ops[k + j]?) → Sim N B L ρ (rg R) (hg H) a w → H.length ≤ L →
  (∀ a' w' R' H' L' ρ', Q R' H' L' → H'.length ≤ L' → Sim N B L' ρ' (rg R') (hg H') a' w' → Ev ρ (hg H) w ρ' (hg H') w' → K .normal a' w') → wpOpsIn (Fw r) n P ops K (List.range' k os.length) a w
section
variable {T : TT} {P : Program} {N : Nat} {ops : Array Oper}
theorem sops_end {Q : RL → HL → Nat → Prop} {os : List Oper} {R : RL} {H : HL} {L : Nat} (hT : TOk P T) (hd : dstOk N ops = true) (h : rops T P ops os R H L [] fun R' H' L' _ => Q R' H' L') : SOps P N ops Q os R H L := by
 refine ⟨fun r n B ρ a w k K hos hs hl hK => ?_⟩
 have hN : ∀ (i : Nat) (o : Oper) (d : Nat), ops[i]? = some o → o.dst = some d → d < N := by
  intro i o d ho hdst
  simp only [dstOk, List.all_eq_true] at hd
  have := hd o (by simpa using Array.mem_of_getElem? ho)
  simpa [hdst] using this
 obtain ⟨es, R2, H2, L2, hr2, hl2, hq2⟩ := rops_ok hT h hl
 exact region_text hN os k _ _ _ es ρ a w hos hr2 hs (fun a' w' ρ' hs' hev => hK a' w' R2 H2 L2 ρ' hq2 hl2 hs' hev)
theorem sops_pre {Q : RL → HL → Nat → Prop} {pre os : List Oper} {R : RL} {H : HL} {L : Nat} (hT : TOk P T) (hd : dstOk N ops = true) (h : rops T P ops pre R H L [] fun R' H' L' _ => SOps P N ops Q os R' H' L') : SOps P N ops Q (pre ++ os) R H L := by
 refine ⟨fun r n B ρ a w k K hos hs hl hK => ?_⟩
 have hN : ∀ (i : Nat) (o : Oper) (d : Nat), ops[i]? = some o → o.dst = some d → d < N := by
  intro i o d ho hdst
  simp only [dstOk, List.all_eq_true] at hd
  have := hd o (by simpa using Array.mem_of_getElem? ho)
  simpa [hdst] using this
 obtain ⟨es, R2, H2, L2, hr2, hl2, hq2⟩ := rops_ok hT h hl
 rw [List.length_append, List.range'_append_1.symm]
 refine region_pre hN pre k _ _ _ es ρ a w (fun j hj => by rw [← hos, List.getElem?_append_left hj]) hr2 hs (fun a' w' ρ' hs' hev => ?_)
 refine hq2.run r n B ρ' a' w' (k + pre.length) K (fun j => ?_) hs' hl2 (fun a2 w2 R3 H3 L3 ρ3 hq3 hl3 hs3 hev3 => hK a2 w2 R3 H3 L3 ρ3 hq3 hl3 hs3 (hev.trans hev3))
 have := hos (pre.length + j)
 rw [List.getElem?_append_right (by omega), show pre.length + j - pre.length = j by omega] at this
 rw [this]; congr 1; omega
theorem swp_sops {M : Option Nat → Prop} {A id : Nat} {Q : Exit → RL → HL → Nat → Prop} {R : RL} {H : HL} {L : Nat} {os : List Oper} (ho : ops.toList = os) (h : SOps P N ops (fun R' H' L' => Q .normal R' H' L') os R H L) : SWp P M N A (.region id ops false) Q R H L := by
 refine ⟨fun r nn B ρ a w hM hs hl => ?_⟩
 refine wpIn_region ?_
 have hsz : ops.size = os.length := by rw [← ho]; simp
 rw [List.range_eq_range', hsz]
 exact h.run r nn B ρ a w 0 _ (fun j => by rw [← ho, Array.getElem?_toList, Nat.zero_add]) hs hl (fun a' w' R' H' L' ρ' hq hl' hs' hev => ⟨R', H', L', ρ', hq, hl', hs', hev.toA⟩)
theorem run_conv_same {t el : TypeId} {b n : Nat} {cs : Array Value} (hu : P.underlying t = some (.slice el)) (he : P.underlying el = some (.int .u8)) (w : World) :
  (convert t t (.slice (some ⟨w.heap.size, 0, none⟩) n n)).run P (w.alloc (.cells cs el)) = .ok (.slice (some ⟨w.heap.size, 0, none⟩) n n) (w.alloc (.cells cs el (cs.size, cs.size + 1))) := by
 have hfrz : (w.alloc (.cells cs el)).freeze ⟨w.heap.size, cs.size, none⟩ 1 = w.alloc (.cells cs el (cs.size, cs.size + 1)) := by
  have hh : ((w.alloc (.cells cs el)).freeze ⟨w.heap.size, cs.size, none⟩ 1).heap = (w.alloc (.cells cs el (cs.size, cs.size + 1))).heap := by
   simp only [World.freeze, World.alloc, Nat.one_ne_zero, if_false]
   apply Array.ext_getElem?
   intro j
   rw [Array.getElem?_modify]
   by_cases hj : w.heap.size = j
   ·
    subst hj; simp
   ·
    rw [if_neg hj, Array.getElem?_push, Array.getElem?_push, if_neg (fun e => hj e.symm), if_neg (fun e => hj e.symm)]
  simp only [World.freeze, World.alloc, Nat.one_ne_zero, if_false] at hh ⊢
  rw [hh]
 have hsh : (w.alloc (.cells cs el)).shape? w.heap.size = some (el, cs.size) := by
  have hh := alloc_heap_new w (.cells cs el)
  simp only [World.shape?]
  rw [show (w.alloc (.cells cs el)).heap[w.heap.size]? = some (.cells cs el) from hh]
 have hmark : (markStringish ⟨w.heap.size, 0, none⟩).run P (w.alloc (.cells cs el)) = .ok () ((w.alloc (.cells cs el)).freeze ⟨w.heap.size, cs.size, none⟩ 1) := by
  simp only [markStringish, Sem.run_bind, run_shape, hsh, Result.andThen_ok, run_freeze]
 have hbe : (t == t) = true := by simp
 simp only [convert, Sem.run_bind, run_und hu, run_und he, Result.andThen_ok, hbe, hmark, hfrz, Sem.run_pure]
theorem sops_lit {Q : RL → HL → Nat → Prop} {o1 o2 : Oper} {os : List Oper} {R : RL} {H : HL} {L d1 d2 t n el sz : Nat} {parts : Array (Nat × Operand)} {xs : List (Nat × SV)} {z : SV} {l : List SV} (hd : dstOk N ops = true)
  (ho1 : o1.op = .buildSlice t n parts) (hg1 : o1.guard = none) (hd1 : o1.dst = some d1) (ho2 : o2.op = .convert t t (.tmp d1)) (hg2 : o2.guard = none) (hd2 : o2.dst = some d2)
  (hx : parts.toList.map (fun p => (p.1, evO (rg R) p.2)) = xs.map (fun p => (p.1, some p.2))) (hu : P.underlying t = some (.slice el)) (he : P.underlying el = some (.int .u8)) (hz : pzero P el = some z) (hs : psz P el = some sz) (hzs : z.cells.length = sz)
  (hn : n * sz ≤ 16777216) (hf : sfill (fun i => some (i * sz, sz)) (reps n z.cells) xs = some l)
  (h : SOps P N ops Q os ((d2, .sl L 0 n sz true) :: (d1, .sl L 0 n sz true) :: R) (hupd H [(L, some (.row el l))]) (L + 1)) : SOps P N ops Q (o1 :: o2 :: os) R H L := by
 refine ⟨fun r nn B ρ a w k K hos hsim hl hK => ?_⟩
 have hN : ∀ (i : Nat) (o : Oper) (d : Nat), ops[i]? = some o → o.dst = some d → d < N := by
  intro i o d ho hdst
  simp only [dstOk, List.all_eq_true] at hd
  have := hd o (by simpa using Array.mem_of_getElem? ho)
  simpa [hdst] using this
 have e1 : ops[k]? = some o1 := by have := hos 0; simpa using this.symm
 have e2 : ops[k + 1]? = some o2 := by have := hos 1; simpa using this.symm
 have h1 : ∀ x ∈ o1.op.operands, ∀ v, evO (rg R) x = some v → Rel ρ v (a.eval x) := fun x hx v hv => by
  cases x with
  | tmp t => exact hsim.regs t v hv
  | const u => exact (ofVal_rel hv).1
  | func f => simp only [evO, Option.some.injEq] at hv; subst hv; simp only [Rel]; exact ⟨[], rfl, Rels.nil_iff.2 rfl⟩
  | global g => cases hv
 obtain ⟨e, hee⟩ : ∃ e : Operand → Value, e = a.eval := ⟨_, rfl⟩
 rw [← hee] at h1
 obtain ⟨i, v, hi, hv, hr, ht⟩ := zero_of hz
 obtain ⟨zr, za⟩ := (hr ρ).cells_rel ht
 have hzl := zr.length
 simp only [Array.length_toList] at hzl
 obtain ⟨mr, ma⟩ := made_rel zr za n
 rw [hzl, hzs] at mr
 obtain ⟨cs, g1, g2, g3⟩ := fill_ok (relParts_map (parts_ops (fun x hx => by obtain ⟨p, hp, rfl⟩ := hx; simp [ho1, Op.operands]; exact ⟨p.1, by simpa using hp⟩) h1) hx) mr ma hf
 have hcl := g2.length
 simp only [Array.length_toList] at hcl
 have hlen : l.length = n * sz := by
  have : ∀ (ys : List (Nat × SV)) (l l' : List SV), sfill (fun i => some (i * sz, sz)) l ys = some l' → l'.length = l.length := by
   intro ys
   induction ys with
   | nil => intro l l' h; simp only [sfill, Option.some.injEq] at h; rw [h]
   | cons y ys ih =>
    intro l l' h
    obtain ⟨i, y⟩ := y
    simp only [sfill] at h
    split at h
    ·
     rename_i hc
     rw [ih _ _ h, sput_eq _ _ _ (by omega)]
     simp; omega
    ·
     cases h
  rw [this _ _ _ hf, reps_length, hzs]
 rw [← map_parts] at g1
 have hrun1 : (execOp a.eval o1).run P w = .ok (.value (.slice (some ⟨w.heap.size, 0, none⟩) n n)) (w.alloc (.cells cs el)) := by
  rw [← hee]
  simp only [execOp, ho1, Sem.run_bind, run_buildSlice' hu hs hi hv hn g1, Result.andThen_ok, Sem.run_pure]
 have hch : Chg ρ (hg H) w [(L, some (.row el l))] (setR ρ L ⟨w.heap.size, 0, cs.size, false⟩) (w.alloc (.cells cs el (cs.size, cs.size + 1))) :=
  Chg.row w.drawn (hsim.fresh L (Nat.le_refl _)) g3 (by rw [List.take_of_length_le (by simp; omega)]; exact g2) (by omega) (.inr (Nat.le_refl _))
 have hrel : Rel (setR ρ L ⟨w.heap.size, 0, cs.size, false⟩) (.sl L 0 n sz true) (.slice (some ⟨w.heap.size, 0, none⟩) n n) := by
  simp only [Rel]
  exact ⟨_, _, n, setR_same _ _ _, rfl, Nat.le_refl _, fun _ => rfl, .inr ⟨rfl, rfl, by simp only; omega⟩⟩
 rw [List.length_cons, List.length_cons, List.range'_succ, List.range'_succ, wpOpsIn_cons]
 have hw1 : Region.wanted o1 (yielded ops a.tmps) = true := by unfold Region.wanted; simp only [hg1]
 unfold wpOpIn
 simp only [e1, hw1, if_true]
 refine ⟨fun _ _ => trivial, ?_⟩
 rw [Oper.semAt_eq _ _ _ (by simp [ho1]), hrun1]
 show wpOpsIn (Fw r) nn P ops K ((k + 1) :: List.range' (k + 1 + 1) os.length) (a.put o1.dst (.slice (some ⟨w.heap.size, 0, none⟩) n n)) (w.alloc (.cells cs el))
 rw [wpOpsIn_cons]
 obtain ⟨a1, ha1⟩ : ∃ a1, a1 = a.put o1.dst (.slice (some ⟨w.heap.size, 0, none⟩) n n) := ⟨_, rfl⟩
 rw [← ha1]
 have hw2 : Region.wanted o2 (yielded ops a1.tmps) = true := by unfold Region.wanted; simp only [hg2]
 unfold wpOpIn
 simp only [e2, hw2, if_true]
 refine ⟨fun _ _ => trivial, ?_⟩
 have hd1N : d1 < a.tmps.size := by rw [hsim.size]; exact hN k o1 d1 e1 hd1
 have hev : a1.eval (.tmp d1) = .slice (some ⟨w.heap.size, 0, none⟩) n n := by
  rw [ha1, hd1]
  show (a.tmps.setIfInBounds d1 _).getD d1 undef = _
  rw [Array.getD_eq_getD_getElem?, Array.getElem?_setIfInBounds_self_of_lt hd1N]; rfl
 have hrun2 : (execOp a1.eval o2).run P (w.alloc (.cells cs el)) = .ok (.value (.slice (some ⟨w.heap.size, 0, none⟩) n n)) (w.alloc (.cells cs el (cs.size, cs.size + 1))) := by
  simp only [execOp, ho2, hev, Sem.run_bind, run_conv_same (b := 0) hu he w, Result.andThen_ok, Sem.run_pure]
 rw [Oper.semAt_eq _ _ _ (by simp [ho2]), hrun2]
 show wpOpsIn (Fw r) nn P ops K (List.range' (k + 1 + 1) os.length) (a1.put o2.dst (.slice (some ⟨w.heap.size, 0, none⟩) n n)) (w.alloc (.cells cs el (cs.size, cs.size + 1)))
 have hnL : ∀ id ob, (id, ob) ∈ [(L, some (SB.row el l))] → id < L + 1 := fun id ob hm => by simp at hm; omega
 obtain ⟨s1, ev1⟩ := step_put (o := o1) (e := ⟨⟨o1.dst, [], [], [L]⟩, some (.sl L 0 n sz true), [(L, some (.row el l))]⟩) (L' := L + 1) rfl (fun d hd => hN k o1 d e1 hd) hsim (by omega) hnL hch (rv := .slice (some ⟨w.heap.size, 0, none⟩) n n) (fun v hv => by cases hv; exact hrel)
 rw [appL_wr rfl, ← updW_app, ← hg_hupd, ← ha1] at s1
 rw [← updW_app, ← hg_hupd] at ev1
 obtain ⟨s2, ev2⟩ := step_put (o := o2) (e := ⟨⟨o2.dst, [], [], []⟩, some (.sl L 0 n sz true), []⟩) (L' := L + 1) rfl (fun d hd => hN (k + 1) o2 d e2 hd) s1 (Nat.le_refl _) (fun id ob hm => by simp at hm) (Chg.zero _ _ _) (rv := .slice (some ⟨w.heap.size, 0, none⟩) n n) (fun v hv => by cases hv; exact hrel)
 rw [appL_wr rfl, ← updW_app, ← hg_hupd] at s2
 rw [← updW_app, ← hg_hupd] at ev2
 have hr1 : rput R o1.dst (some (.sl L 0 n sz true)) = (d1, .sl L 0 n sz true) :: R := by rw [hd1]; rfl
 have hr2 : ∀ R', rput R' o2.dst (some (.sl L 0 n sz true)) = (d2, .sl L 0 n sz true) :: R' := fun R' => by rw [hd2]; rfl
 rw [hr1, hr2] at s2
 have hz0 : hupd (hupd H [(L, some (.row el l))]) [] = hupd H [(L, some (.row el l))] := rfl
 rw [hz0] at s2 ev2
 refine h.run r nn B _ _ _ (k + 1 + 1) K (fun j => ?_) s2 (hupd_le (by omega) hnL) (fun a2 w2 R3 H3 L3 ρ3 hq3 hl3 hs3 hev3 => hK a2 w2 R3 H3 L3 ρ3 hq3 hl3 hs3 ((ev1.trans ev2).trans hev3))
 have := hos (j + 2)
 simp only [List.getElem?_cons_succ] at this
 rw [this]; congr 1; omega
end
def memN : Nat → List Nat → Bool
 | _, [] => false
 | x, y :: ys => match Nat.beq x y with | true => true | false => memN x ys
def swxs (J : List Nat) (T : TT) (P : Program) (M : Option Nat → Prop) (N A : Nat) (c : Code) : (Exit → RL → HL → Nat → Prop) → RL → HL → Nat → Prop :=
 @Code.rec (fun _ => (Exit → RL → HL → Nat → Prop) → RL → HL → Nat → Prop)
  (fun Q => Q .normal)
  (fun id ops draw Q R H L => match memN id J with
   | true => SWp P M N A (.region id ops draw) Q R H L
   | false => sw T P M N A (.region id ops draw) Q R H L)
  (fun _ _ iha ihb Q => iha fun e => match e with | .normal => ihb Q | e => Q e)
  (fun c _ _ ihx ihy Q R H L => match ev R c with
   | some (.b t) => (t = true → ihx Q R H L) ∧ (t = false → ihy Q R H L)
   | _ => False)
  (fun id _ ih Q => ih fun e => match e with
   | .exit i => match Nat.beq i id with | true => Q .normal | false => Q (.exit i)
   | e => Q e)
  (fun c _ Q => SWp P M N A (.loop c) Q)
  (fun f ps x y _ _ Q => SWp P M N A (.rangeFunc f ps x y) Q)
  (fun id Q => Q (.exit id))
  (fun c _ Q => SWp P M N A (.scope c) Q)
  (fun l Q => SWp P M N A (.label l) Q)
  (fun l Q => SWp P M N A (.goto l) Q)
  (fun Q => Q .ret)
  (fun s Q => SWp P M N A (.refuse s) Q) c
theorem swxs_ok {J : List Nat} {T : TT} {P : Program} {M : Option Nat → Prop} {N A : Nat} (hT : TOk P T) (hm : P.follows .mixedOrders = true) : ∀ {c : Code} {Q : Exit → RL → HL → Nat → Prop} {R : RL} {H : HL} {L : Nat}, codeOk N c = true →
  swxs J T P M N A c Q R H L → SWp P M N A c Q R H L
 | .skip, Q, R, H, L, _, h => ⟨fun r n B ρ a w hM hs hl => wpIn_skip ⟨R, H, L, ρ, h, hl, hs, EvA.refl _ _ _ _⟩⟩
 | .exit id, Q, R, H, L, _, h => ⟨fun r n B ρ a w hM hs hl => wpIn_exit ⟨R, H, L, ρ, h, hl, hs, EvA.refl _ _ _ _⟩⟩
 | .ret, Q, R, H, L, _, h => ⟨fun r n B ρ a w hM hs hl => wpIn_ret ⟨R, H, L, ρ, h, hl, hs, EvA.refl _ _ _ _⟩⟩
 | .region id ops draw, Q, R, H, L, hc, h => by
  have h : (match memN id J with
   | true => SWp P M N A (.region id ops draw) Q R H L
   | false => sw T P M N A (.region id ops draw) Q R H L) := h
  cases hb : memN id J with
  | true => rw [hb] at h; exact h
  | false => rw [hb] at h; exact sw_ok hT hm hc h
 | .seq x y, Q, R, H, L, hc, h => by
  simp only [codeOk, Bool.and_eq_true] at hc
  have h : swxs J T P M N A x (fun e => match e with | .normal => swxs J T P M N A y Q | e => Q e) R H L := h
  exact (swxs_ok hT hm hc.1 h).seq (fun R H L h => swxs_ok hT hm hc.2 h) (fun e R H L hne h => by cases e <;> first | exact absurd rfl hne | exact h)
 | .cond c x y, Q, R, H, L, hc, h => by
  simp only [codeOk, Bool.and_eq_true] at hc
  have h : (match ev R c with
   | some (.b t) => (t = true → swxs J T P M N A x Q R H L) ∧ (t = false → swxs J T P M N A y Q R H L)
   | _ => False) := h
  split at h
  ·
   rename_i t ht
   refine ⟨fun r n B ρ a w hM hs hl => ?_⟩
   have hcv : a.eval c = .bool t := by
    cases c with
    | tmp k =>
     have h1 := hs.regs k (.b t) (by rw [rg, ← lk_eq]; exact ht)
     simp only [Rel] at h1
     exact h1
    | const v =>
     have h1 := (ofVal_rel (ρ := ρ) ht).1
     simp only [Rel] at h1
     exact h1
    | func f => cases ht
    | global g => cases ht
   refine wpIn_cond_split hcv (fun ht => (swxs_ok hT hm hc.1 (h.1 ht)).run r n B ρ a w hM hs hl) (fun ht => (swxs_ok hT hm hc.2 (h.2 ht)).run r n B ρ a w hM hs hl)
  ·
   exact h.elim
 | .block id c, Q, R, H, L, hc, h => by
  refine ⟨fun r n B ρ a w hM hs hl => ?_⟩
  have h : swxs J T P M N A c (fun e => match e with
   | .exit i => match Nat.beq i id with | true => Q .normal | false => Q (.exit i)
   | e => Q e) R H L := h
  simp only [codeOk] at hc
  refine wpIn_block (wpIn_mono ((swxs_ok hT hm hc h).run r n B ρ a w hM hs hl) ?_)
  rintro e a2 w2 ⟨R2, H2, L2, ρ2, hq2, rest⟩
  cases e with
  | exit i =>
   simp only [Exit.inBlock]
   cases hb : Nat.beq i id with
   | true => simp only [hb] at hq2; rw [if_pos (beqE hb)]; exact ⟨R2, H2, L2, ρ2, hq2, rest⟩
   | false => simp only [hb] at hq2; rw [if_neg (fun e => by subst e; simp at hb)]; exact ⟨R2, H2, L2, ρ2, hq2, rest⟩
  | _ => exact ⟨R2, H2, L2, ρ2, hq2, rest⟩
 | .loop c, Q, R, H, L, _, h => h
 | .rangeFunc f ps x y, Q, R, H, L, _, h => h
 | .scope c, Q, R, H, L, _, h => h
 | .label l, Q, R, H, L, _, h => h
 | .goto l, Q, R, H, L, _, h => h
 | .refuse s, Q, R, H, L, _, h => h
end Go.Sh
namespace Go.Sh
open Go.Proofs
section
variable {P : Program} {ρ : Ren} {H : Heap} {w : World}
theorem app_row2 {o : Oper} {x y : Operand} {t xT el sz by_ id nid n m : Nat} {full : Bool} {z : SV} {l ys : List SV} {rb : RB} {e : Operand → Value} (ho : o.op = .call { callee := .builtin .append, args := #[x, y], argTypes := #[t, xT] })
  (hty : AppTy P t xT el sz by_ z) (hx : Rel ρ (.sl id 0 n sz full) (e x)) (hid : H id = some (.row el l)) (hr : ρ id = some rb) (hb : BRel ρ w rb (.row el l)) (hln : n * sz = l.length) (hsrc : Src P ρ w (e y) sz m ys)
  (hm : (n + m) * by_ ≤ 140737488355328) (hm0 : 0 < m) (hn : ρ nid = none) :
  ∃ v w', (execOp e o).run P w = .ok (.value v) w' ∧ ((Chg ρ H w [(id, some (.row el (l ++ ys)))] ρ w' ∧ Rel ρ (.sl id 0 (n + m) sz false) v) ∨ (∃ ρ', Chg ρ H w [(nid, some (.row el (l ++ ys)))] ρ' w' ∧ Rel ρ' (.sl nid 0 (n + m) sz false) v)) := by
 obtain ⟨i, v, dx, hi, hv, hvs, his, hib, hdx, hdx2⟩ := hty.facts
 have hsrcx : Src P ρ w (e x) sz n ((l.drop 0).take (n * sz)) := src_sl hx hr hb (by show 0 + n * sz ≤ l.length; omega)
 rw [List.drop_zero, hln, List.take_length] at hsrcx
 obtain ⟨news, hl, hf, hrn, ha, hlen, _⟩ := hsrc
 obtain ⟨olds, _, hfo, hro, hao, hleno, _⟩ := hsrcx
 have hl0 := hl w.drawn
 have hf0 := hf w.drawn
 have hf1 := hf (w.drawn + 1)
 have hfo1 := hfo (w.drawn + 1)
 have hnl := hrn.length
 have hx0 := hx
 simp only [Rel] at hx
 obtain ⟨rb', a, c, hr', he, hnc, hfull, hdis⟩ := hx
 rw [hr] at hr'; cases hr'
 by_cases hroom : n + m ≤ c
 ·
  have hc0 : c ≠ 0 := by omega
  obtain ⟨hvirt, ha2, hcap⟩ := hdis.resolve_left hc0
  rcases hb with ⟨hv1, _⟩ | ⟨_, ca, fz, hca, hz, hcs, hla, hlr, hll⟩
  ·
   rw [hvirt] at hv1; cases hv1
  have hcm : (n + m) * sz ≤ c * sz := Nat.mul_le_mul_right _ hroom
  rw [Nat.add_mul] at hcm
  have hst := run_puts (P := P) (o := rb.off + n * sz) news 0 hca hz (by omega) (hrn.oneCell ha)
  have hps : (putAt ca (rb.off + n * sz) news).size = ca.size := putAt_size _ _ _ (by omega)
  refine ⟨.slice a (n + m) c, World.putCells w rb.blk (rb.off + n * sz) news, app_run ho ?_, .inl ⟨?_, ?_⟩⟩
  ·
   rw [he, app_room hty.hT hdx hdx2 hty.hs hl0 hf0 hroom, ha2]
   simp only [add_addr, Nat.add_zero, hst]
   rfl
  ·
   refine Chg.put hid hr rfl ?_ (.inr ⟨hvirt, _, fz, World.putCells_heap w rb.blk _ news hca, hz.put _ _ (by omega), ?_, ?_, ?_, ?_⟩) ?_
   ·
    rintro i o2 ⟨h1, h2, h3⟩
    exact ⟨h1, h2, h3⟩
   ·
    rw [hps]; omega
   ·
    simp [atoms] at hao ha ⊢; exact ⟨hao, ha⟩
   ·
    have e1 : ((putAt ca (rb.off + n * sz) news).toList.drop rb.off).take (l ++ ys).length = List.take l.length (ca.toList.drop rb.off) ++ news := by
     have h1 : (l ++ ys).length = n * sz + news.length := by rw [List.length_append, hnl, hln]
     rw [h1]
     apply List.ext_getElem?
     intro j
     by_cases hj : j < n * sz + news.length
     ·
      rw [drop_take_get hj, Array.getElem?_toList, putAt_getElem? _ _ _ (by omega)]
      by_cases h2 : j < n * sz
      ·
       rw [if_neg (by omega)]
       rw [List.getElem?_append_left (by simp; omega), List.getElem?_take_of_lt (by omega), List.getElem?_drop, Array.getElem?_toList]
      ·
       rw [if_pos (by omega)]
       rw [List.getElem?_append_right (by simp; omega)]
       congr 1
       simp; omega
     ·
      rw [List.getElem?_eq_none (by simp; omega)]
      rw [List.getElem?_eq_none (by simp; omega)]
    rw [e1]
    exact hlr.append hrn
   ·
    simp only [List.length_append, hlen]; omega
   ·
    exact Fr.putCells _ _ _ _ _ hca (by omega) (fun o2 h1 h2 => ⟨hvirt, rfl, by omega⟩)
  ·
   simp only [Rel]
   refine ⟨_, a, c, hr, rfl, hroom, fun h => (by cases h), .inr ⟨hvirt, by rw [ha2], by omega⟩⟩
 ·
  rw [he] at hfo1
  have hg := app_grow (ty := o.type) (a := a) (n := n) (c := c) hty.hT hdx hdx2 hi hv his hl0 hf1 hfo1 (by omega) (by rw [hib]; exact hty.hb0) (by rw [hib]; exact growslice_fits (by omega) hm)
  have hge := grownCap_ge w (n + m) c el
  obtain ⟨g1, g2⟩ := grown_row (ρ := ρ) (w := w) (nid := nid) (el := el) hro hao hrn ha hln.symm hlen hvs hge
  exact ⟨_, _, app_run ho (by rw [he]; exact hg), .inr ⟨_, Chg.new (w.drawn + 1) hn rfl g1, g2⟩⟩
end
section
variable {T : TT} {P : Program} {N : Nat} {ops : Array Oper}
theorem wanted_of_gpass {B L : Nat} {o : Oper} {R : Env} {H : Heap} {ρ : Ren} {a : Act} {w : World} {t : Bool} (hs : Sim N B L ρ R H a w) (ht : gpass ops o R = some t) : Region.wanted o (yielded ops a.tmps) = t := by
 unfold gpass at ht
 unfold Region.wanted
 split at ht
 ·
  rename_i hgd; simp only [hgd]; cases ht; rfl
 ·
  rename_i j want hgd
  simp only [hgd]
  cases hsl : (ops[j]?).bind (·.dst) with
  | none => rw [hsl] at ht; cases ht
  | some s =>
   rw [hsl] at ht
   simp only [Option.bind_some] at ht
   cases hRs : R s with
   | none => rw [hRs] at ht; cases ht
   | some v =>
    rw [hRs] at ht
    cases v with
    | b b =>
     have hrel := hs.regs s _ hRs
     simp only [Rel] at hrel
     have hyi : yielded ops a.tmps j = some b := by
      unfold yielded
      rw [hsl, Option.bind_some]
      have hsz : s < a.tmps.size := by
       refine Nat.lt_of_not_le fun hlt => ?_
       rw [Array.getD_eq_getD_getElem?, Array.getElem?_eq_none hlt] at hrel
       cases hrel
      have : a.tmps[s]? = some (.bool b) := by
       rw [Array.getD_eq_getD_getElem?, Array.getElem?_eq_getElem hsz] at hrel
       rw [Array.getElem?_eq_getElem hsz]; exact congrArg some hrel
      rw [this]
     rw [hyi]
     cases ht
     cases b <;> cases want <;> rfl
    | tup l =>
     cases l with
     | cons _ _ => cases ht
     | nil =>
      cases ht
      have hrel := hs.regs s _ hRs
      simp only [Rel, Rels] at hrel
      obtain ⟨cs, e, rfl⟩ := hrel
      have hyi : yielded ops a.tmps j = none := by
       unfold yielded
       rw [hsl, Option.bind_some]
       cases hg : a.tmps[s]? with
       | none => rfl
       | some x => rw [Array.getD_eq_getD_getElem?, hg] at e; simp only [Option.getD_some] at e; subst e; rfl
      rw [hyi]
      cases want <;> rfl
    | _ => cases ht
theorem sops_app2 {Q : RL → HL → Nat → Prop} {o : Oper} {os : List Oper} {R : RL} {H : HL} {L d t xT el sz by_ id id2 n m o2 : Nat} {full full2 : Bool} {x y : Operand} {z : SV} {l : List SV} {b : SB} (hd : dstOk N ops = true)
  (ho : o.op = .call { callee := .builtin .append, args := #[x, y], argTypes := #[t, xT] }) (hgp : gpass ops o (rg R) = some true) (hdst : o.dst = some d) (hty : AppTy P t xT el sz by_ z)
  (hx : evO (rg R) x = some (.sl id 0 n sz full)) (hid : hg H id = some (.row el l)) (hln : n * sz = l.length) (hy : evO (rg R) y = some (.sl id2 o2 m sz full2)) (hb : hg H id2 = some b) (hin : o2 + m * sz ≤ b.cells.length)
  (hm : (n + m) * by_ ≤ 140737488355328) (hm0 : 0 < m) (hidL : id < L)
  (hA : SOps P N ops Q os ((d, .sl id 0 (n + m) sz false) :: R) (hupd H [(id, some (.row el (l ++ (b.cells.drop o2).take (m * sz))))]) L)
  (hB : SOps P N ops Q os ((d, .sl L 0 (n + m) sz false) :: R) (hupd H [(L, some (.row el (l ++ (b.cells.drop o2).take (m * sz))))]) (L + 1)) : SOps P N ops Q (o :: os) R H L := by
 refine ⟨fun r nn B ρ a w k K hos hsim hl hK => ?_⟩
 have hN : ∀ (i : Nat) (o : Oper) (d : Nat), ops[i]? = some o → o.dst = some d → d < N := by
  intro i o d ho hdst
  simp only [dstOk, List.all_eq_true] at hd
  have := hd o (by simpa using Array.mem_of_getElem? ho)
  simpa [hdst] using this
 have e1 : ops[k]? = some o := by have := hos 0; simpa using this.symm
 have h1 : ∀ x v, evO (rg R) x = some v → Rel ρ v (a.eval x) := fun x v hv => by
  cases x with
  | tmp t => exact hsim.regs t v hv
  | const u => exact (ofVal_rel hv).1
  | func f => simp only [evO, Option.some.injEq] at hv; subst hv; simp only [Rel]; exact ⟨[], rfl, Rels.nil_iff.2 rfl⟩
  | global g => cases hv
 obtain ⟨rb, hr, hbr⟩ := hsim.heap id _ hid
 obtain ⟨rb2, hr2, hbr2⟩ := hsim.heap id2 _ hb
 obtain ⟨v, w', hrun, hcase⟩ := app_row2 (e := a.eval) (nid := L) ho hty (h1 x _ hx) hid hr hbr hln (src_sl (h1 y _ hy) hr2 hbr2 hin) hm hm0 (hsim.fresh L (Nat.le_refl _))
 rw [List.length_cons, List.range'_succ, wpOpsIn_cons]
 have hw1 := wanted_of_gpass hsim hgp
 unfold wpOpIn
 simp only [e1, hw1, if_true]
 refine ⟨fun _ _ => trivial, ?_⟩
 rw [Oper.semAt_eq _ _ _ (by simp [ho]), hrun]
 show wpOpsIn (Fw r) nn P ops K (List.range' (k + 1) os.length) (a.put o.dst v) w'
 have hos' : ∀ j, os[j]? = ops[k + 1 + j]? := fun j => by
  have := hos (j + 1)
  simp only [List.getElem?_cons_succ] at this
  rw [this]; congr 1; omega
 rcases hcase with ⟨hch, hrel⟩ | ⟨ρ', hch, hrel⟩
 ·
  have hnL : ∀ i ob, (i, ob) ∈ [(id, some (SB.row el (l ++ (b.cells.drop o2).take (m * sz))))] → i < L := fun i ob hm => by simp at hm; omega
  obtain ⟨s1, ev1⟩ := step_put (o := o) (e := ⟨⟨o.dst, [], [], [id]⟩, some (.sl id 0 (n + m) sz false), [(id, some (.row el (l ++ (b.cells.drop o2).take (m * sz))))]⟩) (L' := L) rfl (fun d hd => hN k o d e1 hd) hsim (Nat.le_refl _) hnL hch (rv := v) (fun v hv => by cases hv; exact hrel)
  rw [appL_wr rfl, ← updW_app, ← hg_hupd] at s1
  rw [← updW_app, ← hg_hupd] at ev1
  have hr1 : rput R o.dst (some (.sl id 0 (n + m) sz false)) = (d, .sl id 0 (n + m) sz false) :: R := by rw [hdst]; rfl
  rw [hr1] at s1
  exact hA.run r nn B _ _ _ (k + 1) K hos' s1 (hupd_le hl hnL) (fun a2 w2 R3 H3 L3 ρ3 hq3 hl3 hs3 hev3 => hK a2 w2 R3 H3 L3 ρ3 hq3 hl3 hs3 (ev1.trans hev3))
 ·
  have hnL : ∀ i ob, (i, ob) ∈ [(L, some (SB.row el (l ++ (b.cells.drop o2).take (m * sz))))] → i < L + 1 := fun i ob hm => by simp at hm; omega
  obtain ⟨s1, ev1⟩ := step_put (o := o) (e := ⟨⟨o.dst, [], [], [L]⟩, some (.sl L 0 (n + m) sz false), [(L, some (.row el (l ++ (b.cells.drop o2).take (m * sz))))]⟩) (L' := L + 1) rfl (fun d hd => hN k o d e1 hd) hsim (by omega) hnL hch (rv := v) (fun v hv => by cases hv; exact hrel)
  rw [appL_wr rfl, ← updW_app, ← hg_hupd] at s1
  rw [← updW_app, ← hg_hupd] at ev1
  have hr1 : rput R o.dst (some (.sl L 0 (n + m) sz false)) = (d, .sl L 0 (n + m) sz false) :: R := by rw [hdst]; rfl
  rw [hr1] at s1
  exact hB.run r nn B _ _ _ (k + 1) K hos' s1 (hupd_le (by omega) hnL) (fun a2 w2 R3 H3 L3 ρ3 hq3 hl3 hs3 hev3 => hK a2 w2 R3 H3 L3 ρ3 hq3 hl3 hs3 (ev1.trans hev3))
end
end Go.Sh
namespace Go.Sh
open Go.MapKept
def valO : SV → Option Value
 | .i n => some (.int .i64 n)
 | .u8 x => some (.int .u8 (x.toNat : Int))
 | .u16 x => some (.int .u16 (x.toNat : Int))
 | .u32 x => some (.int .u32 (x.toNat : Int))
 | .u64 x => some (.int .u64 (x.toNat : Int))
 | .b x => some (.bool x)
 | .s l => some (.string ⟨⟨l⟩⟩)
 | _ => none
def valL : List SV → Option (List Value)
 | [] => some []
 | x :: xs => match valO x with
  | some v => match valL xs with | some vs => some (v :: vs) | none => none
  | none => none
def valOf : SV → Option Value
 | .agg l => match valL l with | some c => some (.agg ⟨c⟩) | none => none
 | x => valO x
theorem valO_rel {ρ : Ren} {x : SV} {u : Value} (h : valO x = some u) : (∀ v, Rel ρ x v ↔ v = u) ∧ x.atom = true := by
 cases x <;> simp only [valO, Option.some.injEq] at h <;> first | (subst h; exact ⟨fun v => by simp only [Rel], rfl⟩) | cases h
theorem valL_rel {ρ : Ren} : ∀ {l : List SV} {c : List Value}, valL l = some c → (∀ vs, Rels ρ l vs ↔ vs = c) ∧ atoms l = true
 | [], c, h => by simp only [valL, Option.some.injEq] at h; subst h; exact ⟨fun vs => by simp only [Rels], rfl⟩
 | x :: xs, c, h => by
  simp only [valL] at h
  split at h
  ·
   rename_i v hv
   split at h
   ·
    rename_i vs hvs
    cases h
    obtain ⟨h1, a1⟩ := valO_rel (ρ := ρ) hv
    obtain ⟨h2, a2⟩ := valL_rel (ρ := ρ) hvs
    refine ⟨fun us => ?_, by simp only [atoms, List.all_cons, a1, Bool.true_and]; exact a2⟩
    simp only [Rels]
    constructor
    ·
     rintro ⟨y, ys, rfl, hy, hys⟩; rw [(h1 y).1 hy, (h2 ys).1 hys]
    ·
     rintro rfl; exact ⟨v, vs, rfl, (h1 v).2 rfl, (h2 vs).2 rfl⟩
   ·
    cases h
  ·
   cases h
theorem valOf_rel {ρ : Ren} {x : SV} {u v : Value} (h : valOf x = some u) : Rel ρ x v ↔ v = u := by
 cases x with
 | agg l =>
  simp only [valOf] at h
  split at h
  ·
   rename_i c hc
   cases h
   obtain ⟨h1, a1⟩ := valL_rel (ρ := ρ) hc
   simp only [Rel, a1, true_and]
   constructor
   ·
    rintro ⟨cs, rfl, hr⟩; rw [(h1 cs).1 hr]
   ·
    rintro rfl; exact ⟨c, rfl, (h1 c).2 rfl⟩
  ·
   cases h
 | _ => simp only [valOf] at h; exact (valO_rel (ρ := ρ) h).1 v
section
variable {P : Program} {ρ : Ren} {H : Heap} {w w' : World}
theorem Chg.newObj {nid : Nat} {o : Obj} (hn : ρ nid = none) (ho : 2 ≤ mutK o) : Chg ρ H w [(nid, some (.ext (.lit o)))] (setR ρ nid ⟨w.heap.size, 0, 0, false⟩) (w.alloc o) := by
 have he : Ext ρ (setR ρ nid ⟨w.heap.size, 0, 0, false⟩) := Ext.setR _ hn
 refine ⟨he, ?_, ?_, Fr.alloc _ _ _, ?_, ?_⟩
 ·
  intro id r hr
  by_cases e : id = nid
  ·
   subst e; exact .inr ⟨_, List.mem_singleton.2 rfl⟩
  ·
   rw [setR_other ρ _ e] at hr; exact .inl hr
 ·
  intro id x hx
  simp at hx
  obtain ⟨rfl, rfl⟩ := hx
  exact ⟨_, setR_same _ _ _, ho, alloc_heap_new w o⟩
 ·
  intro id x r k o2 hm hr hf
  simp at hm
  obtain ⟨rfl, rfl⟩ := hm
  rw [setR_same] at hr; cases hr
  right
  simp only [foot, YB.foot] at hf
  omega
 ·
  intro i j bi bj ri rj hne hi hj
  simp at hi hj
  exact absurd (hi.1.trans hj.1.symm) hne
theorem Chg.putObj {id : Nat} {o o' : Obj} {rb : RB} (hid : H id = some (.ext (.lit o))) (hr : ρ id = some rb) (hb : w.heap[rb.blk]? = some o) (ho : 2 ≤ mutK o) (hk : mutK o' = mutK o) :
  Chg ρ H w [(id, some (.ext (.lit o')))] ρ { w with heap := w.heap.setIfInBounds rb.blk o' } := by
 obtain ⟨s1, s2⟩ := heap_set (o' := o') hb
 refine Chg.put hid hr rfl (fun k o h => h) ⟨by omega, s1⟩ ⟨rfl, rfl, rfl, by simp, fun k x hx => ?_⟩
 by_cases hk2 : k = rb.blk
 ·
  subst hk2
  rw [hb] at hx; cases hx
  show FrO _ o (w.heap.setIfInBounds rb.blk o')[rb.blk]?
  rw [s1]
  cases o with
  | cells c t fz => simp [mutK] at ho
  | _ => exact .inr ⟨⟨0, rfl⟩, by omega, _, rfl, hk⟩
 ·
  show FrO _ x (w.heap.setIfInBounds rb.blk o')[k]?
  rw [s2 k hk2, hx]; exact FrO.refl _ _
theorem lt_makeMap {o : Oper} {R : Env} {t nid : Nat} (ho : o.op = .makeMap t none) : LT P o R H [] [(nid, some (.ext (.lit (.map #[] 0))))] (some (.mp nid)) := by
 refine LT.of_run (by simp [ho]) fun e w ρ _ _ _ hn => ?_
 refine ⟨.value (.map (some w.heap.size)), w.alloc (.map #[] 0), _, by simp only [execOp, ho, Option.map_none]; rfl, Chg.newObj (hn nid (some (.ext (.lit (.map #[] 0)))) (by simp) (by simp)) (by simp [mutK]), .inl ⟨_, rfl, ?_⟩⟩
 intro v hv; cases hv
 simp only [Rel]
 exact ⟨_, setR_same _ _ _, rfl⟩
theorem lt_insert {o : Oper} {R : Env} {t kt et id : Nat} {m k x : Operand} {d : TypeDesc} {zk zx : SV} {vk vx : Value} {es : Array MapEntry} {clock : Nat} (ho : o.op = .insert t m k x ∨ o.op = .mapUpdate t m k x)
  (hm : P.underlying t = some (.map kt et)) (hd : P.underlying kt = some d) (em : evO R m = some (.mp id)) (ek : evO R k = some zk) (ex : evO R x = some zx) (hvk : valOf zk = some vk) (hx : valOf zx = some vx)
  (hb : H id = some (.ext (.lit (.map es clock)))) (hkey : IsKey d vk) (hf : Instr.findNow d vk es.toList 0 = some none) :
  LT P o R H [id] [(id, some (.ext (.lit (.map (es.push ⟨vk, vx, clock⟩) (clock + 1)))))] none := by
 refine LT.of_run (by rcases ho with h | h <;> simp [h]) fun e w ρ h1 h2 _ _ => ?_
 have g1 := h1 m (by rcases ho with h | h <;> simp [h, Op.operands]) _ em
 have g2 := (valOf_rel hvk).1 (h1 k (by rcases ho with h | h <;> simp [h, Op.operands]) _ ek)
 have g3 := (valOf_rel hx).1 (h1 x (by rcases ho with h | h <;> simp [h, Op.operands]) _ ex)
 simp only [Rel] at g1
 obtain ⟨rb, hr, he⟩ := g1
 obtain ⟨rb', hr', hbr⟩ := h2 id (by simp) _ hb
 rw [hr] at hr'; cases hr'
 obtain ⟨_, hw⟩ := hbr
 refine ⟨.skip, _, ρ, ?_, Chg.putObj hb hr hw (by simp [mutK]) (by simp [mutK]), .inr ⟨rfl, rfl⟩⟩
 have hun : ∀ (t : TypeId) (d : TypeDesc), P.underlying t = some d → (underlying t).run P w = .ok d w := fun t d h => run_und h
 have key : (Instr.mapUpdate t (.map (some rb.blk)) vk vx).run P w = .ok () { w with heap := w.heap.setIfInBounds rb.blk (.map (es.push ⟨vk, vx, clock⟩) (clock + 1)) } := by
  simp only [Instr.mapUpdate, Sem.run_bind, hun _ _ hm, MapKept.run_getObj_map hw, MapKept.run_checkKey hd hkey, MapKept.run_findKey hd hf, MapKept.run_setObj_map _ hw, Result.andThen_ok]
 rcases ho with h | h <;> simp only [execOp, h, he, g2, g3, Sem.run_bind, key, Result.andThen_ok, Sem.run_pure]
theorem lt_lookup {o : Oper} {R : Env} {t kt et id : Nat} {m k : Operand} {d : TypeDesc} {zk zv : SV} {vk v : Value} {i : Nat} {es : Array MapEntry} {clock : Nat} (ho : o.op = .lookup t m k true)
  (hm : P.underlying t = some (.map kt et)) (hd : P.underlying kt = some d) (em : evO R m = some (.mp id)) (ek : evO R k = some zk) (hvk : valOf zk = some vk)
  (hb : H id = some (.ext (.lit (.map es clock)))) (hkey : IsKey d vk) (hf : Instr.findNow d vk es.toList 0 = some (some (i, v))) (hz : valOf zv = some v) :
  LT P o R H [id] [] (some (.tup [zv, .b true])) := by
 refine LT.pure (by simp [ho]) fun e w ρ h1 h2 => ?_
 have g1 := h1 m (by simp [ho, Op.operands]) _ em
 have g2 := (valOf_rel hvk).1 (h1 k (by simp [ho, Op.operands]) _ ek)
 simp only [Rel] at g1
 obtain ⟨rb, hr, he⟩ := g1
 obtain ⟨rb', hr', hbr⟩ := h2 id (by simp) _ hb
 rw [hr] at hr'; cases hr'
 obtain ⟨_, hw⟩ := hbr
 have hun : ∀ (t : TypeId) (d : TypeDesc), P.underlying t = some d → (underlying t).run P w = .ok d w := fun t d h => run_und h
 refine ⟨.tuple #[v, .bool true], ?_, ?_⟩
 ·
  simp only [execOp, ho, he, g2, Instr.lookup, Sem.run_bind, hun _ _ hm, MapKept.run_getObj_map hw, MapKept.run_checkKey hd hkey, MapKept.run_findKey hd hf, Result.andThen_ok, Sem.run_pure, if_true]
 ·
  simp only [Rel]
  exact ⟨[v, .bool true], rfl, Rels.cons ((valOf_rel hz).2 rfl) (Rels.cons (by simp only [Rel]) (Rels.nil_iff.2 rfl))⟩
theorem lt_lookup_none {o : Oper} {R : Env} {t kt et id : Nat} {m k : Operand} {d : TypeDesc} {zk zv : SV} {vk : Value} {es : Array MapEntry} {clock : Nat} (ho : o.op = .lookup t m k true)
  (hm : P.underlying t = some (.map kt et)) (hd : P.underlying kt = some d) (em : evO R m = some (.mp id)) (ek : evO R k = some zk) (hvk : valOf zk = some vk)
  (hb : H id = some (.ext (.lit (.map es clock)))) (hkey : IsKey d vk) (hf : Instr.findNow d vk es.toList 0 = some none) (hz : pzero P et = some zv) :
  LT P o R H [id] [] (some (.tup [zv, .b false])) := by
 refine LT.pure (by simp [ho]) fun e w ρ h1 h2 => ?_
 have g1 := h1 m (by simp [ho, Op.operands]) _ em
 have g2 := (valOf_rel hvk).1 (h1 k (by simp [ho, Op.operands]) _ ek)
 simp only [Rel] at g1
 obtain ⟨rb, hr, he⟩ := g1
 obtain ⟨rb', hr', hbr⟩ := h2 id (by simp) _ hb
 rw [hr] at hr'; cases hr'
 obtain ⟨_, hw⟩ := hbr
 have hun : ∀ (t : TypeId) (d : TypeDesc), P.underlying t = some d → (underlying t).run P w = .ok d w := fun t d h => run_und h
 obtain ⟨v, hv, hrv, _⟩ := run_zero (P := P) (w := w) hz
 refine ⟨.tuple #[v, .bool false], ?_, ?_⟩
 ·
  simp only [execOp, ho, he, g2, Instr.lookup, Sem.run_bind, hun _ _ hm, MapKept.run_getObj_map hw, MapKept.run_checkKey hd hkey, MapKept.run_findKey hd hf, Result.andThen_ok, Sem.run_pure, if_true, hv]
 ·
  simp only [Rel]
  exact ⟨[v, .bool false], rfl, Rels.cons (hrv ρ) (Rels.cons (by simp only [Rel]) (Rels.nil_iff.2 rfl))⟩
end
section
variable {P : Program} {o : Oper} {R : RL} {H : HL} {L : Nat} {k : K1}
theorem ok1_makeMap {t : Nat} (ho : o.op = .makeMap t none) (h : k (some (.mp L)) [(L, some (.ext (.lit (.map #[] 0))))] [] (L + 1)) : Ok1 P o R H L k := ok1_new (lt_makeMap ho) h
theorem ok1_insert {t kt et : Nat} (id : Nat) (vk vx : Value) {m x y : Operand} {d : TypeDesc} {zk zx : SV} {es : Array MapEntry} {clock : Nat} (hl : Nat.ble H.length L = true) (ho : o.op = .insert t m x y ∨ o.op = .mapUpdate t m x y)
  (hm : P.underlying t = some (.map kt et)) (hd : P.underlying kt = some d) (em : ev R m = some (.mp id)) (ek : ev R x = some zk) (ex : ev R y = some zx) (hvk : valOf zk = some vk) (hx : valOf zx = some vx)
  (hb : hk H id = some (.ext (.lit (.map es clock)))) (hkey : IsKey d vk) (hf : Instr.findNow d vk es.toList 0 = some none)
  (h : k none [(id, some (.ext (.lit (.map (es.push ⟨vk, vx, clock⟩) (clock + 1)))))] [id] L) : Ok1 P o R H L k :=
 ok1_put (hk_lt (Nat.le_of_ble_eq_true hl) hb) (by simp) (lt_insert ho hm hd (ev_some em) (ev_some ek) (ev_some ex) hvk hx (hk_some hb) hkey hf) h
theorem ok1_lookup {t kt et : Nat} (id i : Nat) (vk v : Value) {m x : Operand} {d : TypeDesc} {zk : SV} (zv : SV) {es : Array MapEntry} {clock : Nat} (ho : o.op = .lookup t m x true)
  (hm : P.underlying t = some (.map kt et)) (hd : P.underlying kt = some d) (em : ev R m = some (.mp id)) (ek : ev R x = some zk) (hvk : valOf zk = some vk)
  (hb : hk H id = some (.ext (.lit (.map es clock)))) (hkey : IsKey d vk) (hf : Instr.findNow d vk es.toList 0 = some (some (i, v))) (hz : valOf zv = some v)
  (h : k (some (.tup [zv, .b true])) [] [id] L) : Ok1 P o R H L k := ok1_pure (lt_lookup ho hm hd (ev_some em) (ev_some ek) hvk (hk_some hb) hkey hf hz) h
theorem ok1_lookup_none {t kt et : Nat} (id : Nat) (vk : Value) {m x : Operand} {d : TypeDesc} {zk : SV} (zv : SV) {es : Array MapEntry} {clock : Nat} (ho : o.op = .lookup t m x true)
  (hm : P.underlying t = some (.map kt et)) (hd : P.underlying kt = some d) (em : ev R m = some (.mp id)) (ek : ev R x = some zk) (hvk : valOf zk = some vk)
  (hb : hk H id = some (.ext (.lit (.map es clock)))) (hkey : IsKey d vk) (hf : Instr.findNow d vk es.toList 0 = some none) (hz : pzero P et = some zv)
  (h : k (some (.tup [zv, .b false])) [] [id] L) : Ok1 P o R H L k := ok1_pure (lt_lookup_none ho hm hd (ev_some em) (ev_some ek) hvk (hk_some hb) hkey hf hz) h
end
end Go.Sh
namespace Go.Sh
theorem loop_rulex (J : List Nat) {T : TT} {P : Program} {M : Option Nat → Prop} {N A : Nat} {c : Code} {Q : Exit → RL → HL → Nat → Prop} {R : RL} {H : HL} {L : Nat} (hT : TOk P T) (hm : P.follows .mixedOrders = true) (hc : codeOk N c = true)
  {ι : Type} (IR : ι → RL) (IH : ι → HL) (IL : ι → Nat) (μ : ι → Nat) (i0 : ι) (h0 : Weak A R H L (IR i0) (IH i0) (IL i0))
  (round : ∀ i, swxs J T P M N A c (fun e R H L => match e with | .normal => ∃ j, μ j < μ i ∧ Weak A R H L (IR j) (IH j) (IL j) | e => Q e R H L) (IR i) (IH i) (IL i)) : SWp P M N A (.loop c) Q R H L := by
 refine SWp.weak h0 ?_
 refine ⟨fun r n B ρ a w hM hs hl => ?_⟩
 let K := fun (a' : Act) (w' : World) (k : Nat) => ∃ i ρ', μ i = k ∧ (IH i).length ≤ IL i ∧ Sim N B (IL i) ρ' (rg (IR i)) (hg (IH i)) a' w' ∧ EvA A ρ (hg (IH i0)) w ρ' (hg (IH i)) w'
 refine wpIn_loop (fun a' w' => ∃ k, K a' w' k) (fun a' w' => leastK (K a' w')) ⟨μ i0, i0, ρ, rfl, hl, hs, EvA.refl _ _ _ _⟩ ?_
 rintro a1 w1 ⟨k, hk⟩
 obtain ⟨⟨i, ρ1, hi, hl1, hs1, he1⟩, _⟩ := leastK_spec hk
 refine wpIn_mono ((swxs_ok hT hm hc (round i)).run r n B ρ1 a1 w1 hM hs1 hl1) ?_
 rintro e a2 w2 ⟨R2, H2, L2, ρ2, hq, hl2, hs2, he2⟩
 cases e with
 | normal =>
  obtain ⟨j, hj, hw⟩ := hq
  obtain ⟨ρ3, hs3, hl3, he3⟩ := hw N B ρ2 a2 w2 hs2 hl2
  have hJ : K a2 w2 (μ j) := ⟨j, ρ3, rfl, hl3, hs3, (he1.trans he2).trans he3⟩
  have := (leastK_spec hJ).2
  exact ⟨⟨μ j, hJ⟩, by omega⟩
 | _ => exact ⟨R2, H2, L2, ρ2, hq, hl2, hs2, he1.trans he2⟩
theorem focus_ev {R : RL} {H : HL} {L : Nat} (t q : Nat) {l : List FE} {e : FE} (hq : hk H q = some (.ext (.fam l))) (he : e ∈ l) (ht : lk t R = some (.lit e.v))
  {N B : Nat} {ρ : Ren} {a : Act} {w : World} (hs : Sim N B L ρ (rg R) (hg H) a w) (hl : H.length ≤ L) :
  ∃ ρ0, Sim N B (L + 1) ρ0 (rg ((t, .sl L 0 e.n e.sz false) :: R)) (hg (hupd H [(L, some (.ro e.cells))])) a w ∧ (hupd H [(L, some (.ro e.cells))]).length ≤ L + 1 ∧ Ev ρ (hg H) w ρ0 (hg (hupd H [(L, some (.ro e.cells))])) w := by
 rw [hk_eq] at hq
 obtain ⟨rq, hrq, hfam⟩ := hs.heap q _ hq
 obtain ⟨⟨ad, c, hv, hnc, hc⟩, hcells⟩ := hfam e he
 have hn := hs.fresh L (Nat.le_refl _)
 have hext : Ext ρ (setR ρ L e.rb) := Ext.setR e.rb hn
 have hg2 : ∀ id, hg (hupd H [(L, some (.ro e.cells))]) id = if id = L then some (.ro e.cells) else hg H id := fun id => by
  rw [hg_hupd]
  by_cases h : id = L
  ·
   subst h; simp [updW]
  ·
   have : (id == L) = false := by simpa using h
   simp [updW, List.lookup_cons, this, h]
 have hlt : ∀ id b, hg H id = some b → id ≠ L := fun id b hb he2 => by
  have := hk_lt hl (by rw [hk_eq]; exact hb : hk H id = some b)
  omega
 have hnew : BRel (setR ρ L e.rb) w e.rb (.ro e.cells) := hcells.imp id fun h => ⟨h.1.ext (fun i r h => by cases h), h.2⟩
 have hfoot : ∀ k o, foot e.rb (.ro e.cells) k o → foot rq (.ext (.fam l)) k o := fun k o h => ⟨e, he, h.1, h.2.1, h.2.2⟩
 have hown : ∀ k o, Owned (setR ρ L e.rb) (hg (hupd H [(L, some (.ro e.cells))])) k o → Owned ρ (hg H) k o := by
  rintro k o ⟨id, b, rb, h1, h2, h3, h4⟩
  rw [hg2] at h1
  by_cases h : id = L
  ·
   rw [if_pos h] at h1; cases h1; cases h3
  ·
   rw [if_neg h] at h1; rw [setR_other ρ e.rb h] at h2; exact ⟨id, b, rb, h1, h2, h3, h4⟩
 refine ⟨setR ρ L e.rb, ⟨hs.size, ?_, ?_, ?_, ?_, hs.dfr⟩, ?_, Ev.mk hext (Fr.refl _ _) (fun k o h => .inl (hown k o h))⟩
 ·
  intro t2 v hv2
  simp only [rg, List.lookup_cons] at hv2
  split at hv2
  ·
   rename_i e2
   have : t2 = t := by simpa using e2
   subst this
   cases hv2
   have h1 := hs.regs t2 (.lit e.v) (by rw [rg, ← lk_eq]; exact ht)
   simp only [Rel] at h1 ⊢
   exact ⟨e.rb, ad, c, setR_same _ _ _, by rw [h1.1, hv], hnc, fun h => (by cases h), hc.imp id fun ⟨g1, g2, g3⟩ => ⟨g1, by rw [g2]; rfl, by omega⟩⟩
  ·
   exact (hs.regs t2 v hv2).ext hext
 ·
  intro id b hb
  rw [hg2] at hb
  by_cases h : id = L
  ·
   rw [if_pos h] at hb; cases hb; subst h; exact ⟨e.rb, setR_same _ _ _, hnew⟩
  ·
   rw [if_neg h] at hb
   obtain ⟨rb, h1, h2⟩ := hs.heap id b hb
   exact ⟨rb, hext _ _ h1, h2.ext hext⟩
 ·
  intro i j bi bj ri rj hne hi hj hri hrj hb k o ⟨hfi, hfj⟩
  rw [hg2] at hi hj
  by_cases h1 : i = L
  ·
   rw [if_pos h1] at hi; cases hi; cases hb
  ·
   rw [if_neg h1] at hi
   rw [setR_other ρ e.rb h1] at hri
   by_cases h2 : j = L
   ·
    rw [if_pos h2] at hj; cases hj
    subst h2
    rw [setR_same] at hrj; cases hrj
    have hiq : i ≠ q := fun e2 => by subst e2; rw [hq] at hi; cases hi; cases hb
    exact hs.sep i q bi _ ri rq hiq hi hq hri hrq hb k o ⟨hfi, hfoot k o hfj⟩
   ·
    rw [if_neg h2] at hj
    rw [setR_other ρ e.rb h2] at hrj
    exact hs.sep i j bi bj ri rj hne hi hj hri hrj hb k o ⟨hfi, hfj⟩
 ·
  intro id hid
  rw [setR_other _ _ (by omega)]
  exact hs.fresh id (by omega)
 ·
  exact hupd_le (by omega) (fun id ob hm => by simp at hm; omega)
theorem Weak.focus {A : Nat} {R : RL} {H : HL} {L : Nat} (t q : Nat) {l : List FE} {e : FE} (hq : hk H q = some (.ext (.fam l))) (he : e ∈ l) (ht : lk t R = some (.lit e.v)) :
  Weak A R H L ((t, .sl L 0 e.n e.sz false) :: R) (hupd H [(L, some (.ro e.cells))]) (L + 1) := fun N B ρ a w hs hl =>
 let ⟨ρ0, h1, h2, h3⟩ := focus_ev t q hq he ht hs hl
 ⟨ρ0, h1, h2, h3.toA⟩
theorem sops_focus {P : Program} {N : Nat} {ops : Array Oper} {Q : RL → HL → Nat → Prop} {os : List Oper} {R : RL} {H : HL} {L : Nat} (t q : Nat) {l : List FE} {e : FE} (hq : hk H q = some (.ext (.fam l))) (he : e ∈ l) (ht : lk t R = some (.lit e.v))
  (h : SOps P N ops Q os ((t, .sl L 0 e.n e.sz false) :: R) (hupd H [(L, some (.ro e.cells))]) (L + 1)) : SOps P N ops Q os R H L :=
 ⟨fun r n B ρ a w k K hos hs hl hK =>
  let ⟨ρ0, h1, h2, h3⟩ := focus_ev t q hq he ht hs hl
  h.run r n B ρ0 a w k K hos h1 h2 fun a2 w2 R2 H2 L2 ρ2 hq2 hl2 hs2 hev2 => hK a2 w2 R2 H2 L2 ρ2 hq2 hl2 hs2 (h3.trans hev2)⟩
end Go.Sh
namespace Go.Sh
open Go.ChangeShapes Go.WideShapes Go.ChangeAt Go.RowKit
theorem Rels.of_get {ρ : Ren} : ∀ {xs : List SV} {vs : List Value}, xs.length = vs.length → (∀ (i : Nat) x, xs[i]? = some x → ∃ v, vs[i]? = some v ∧ Rel ρ x v) → Rels ρ xs vs
 | [], vs, hl, _ => by
  have : vs = [] := List.eq_nil_of_length_eq_zero (by simpa using hl.symm)
  subst this; exact Rels.nil_iff.2 rfl
 | x :: xs, [], hl, _ => by simp at hl
 | x :: xs, v :: vs, hl, h => by
  obtain ⟨u, hu, hr⟩ := h 0 x rfl
  simp at hu; subst hu
  exact Rels.cons hr (Rels.of_get (by simpa using hl) (fun i y hy => by simpa using h (i + 1) y (by simpa using hy)))
theorem calls_of_scall {P : Program} {f : Nat} {args : List SV} {H0 H1 : HL} (hc : SCall P f args H0 (.b true) H1) (hro : ∀ (id : Nat) b, hg H0 id = some b → b.own = false) {vs : List Value} {W : World} {ρ : Ren}
  (hvs : Rels ρ args vs) (hh : HRel ρ (hg H0) W) (hfr : ∀ id, H0.length ≤ id → ρ id = none) : Calls P f ⟨vs⟩ W fun e w' => e = .returned (.bool true) ∧ RowKit.Below W.heap.size W w' := by
 have h := hc.call 0 ρ W vs hvs hh (fun i j bi bj ri rj _ hi _ _ _ hown => by rw [hro i bi hi] at hown; cases hown) hfr
 refine (callsIn_wide.1 h).mono ?_
 intro e w' hr
 cases e with
 | returned v =>
  obtain ⟨ρ', h1, _, _, _, h5⟩ := hr
  simp only [Rel] at h1
  refine ⟨by rw [h1], h5.fr.below (fun x o _ hown => ?_)⟩
  obtain ⟨id, b, rb, g1, _, g3, _⟩ := hown
  rw [hro id b g1] at g3; cases g3
 | _ => exact hr.elim
theorem trodAll_stays {H : Type} {enc : TypeId × Value → H} {P : Program} (hl : laidOutB P = true) {W W' : World} (hb : RowKit.Below W.heap.size W W') : ∀ {ts : List TypeId} {vs : List Value} {ds : List (DataW H)} {ps : List MemPlace},
  (∀ t ∈ ts, P.readableRec t = true ∧ t < P.types.size) → DataW.TrodAll enc P W 0 (fun _ => true) true ts vs ds ps → (∀ x ∈ ps, x.block < W.heap.size) → ∀ sp : Nat → Bool, (∀ x ∈ ps, sp x.block = true) →
  DataW.TrodAll enc P W' 0 sp true ts vs ds ps
 | [], vs, ds, ps, _, h, _, sp, _ => by
  obtain ⟨rfl, rfl, rfl⟩ := trodAll_nil h
  exact trodAll_mk0
 | t :: ts, vs, ds, ps, ht, h, hlt, sp, hsp => by
  obtain ⟨v, vs', d, ds', p, q, rfl, rfl, rfl, h1, h2⟩ := trodAll_cons h
  obtain ⟨r1, r2⟩ := ht t (List.mem_cons_self ..)
  exact trodAll_cons_mk (WideElems.Trod_stays hl r1 r2 h1 (fun x hx => hb.same (hlt x (List.mem_append_left _ hx))) (fun x hx => hsp x (List.mem_append_left _ hx)))
   (trodAll_stays hl hb (fun u hu => ht u (List.mem_cons_of_mem _ hu)) h2 (fun x hx => hlt x (List.mem_append_right _ hx)) sp (fun x hx => hsp x (List.mem_append_right _ hx)))
theorem same_post {H : Type} {enc : TypeId × Value → H} {P : Program} {fn : Func} {s : ChangeSpec} {W W' : World} {args : Array Value} {ds gs : List (DataW H)} {before : List MemPlace} {bt : TypeId} {apart fresh handsOn again : Bool}
  (hl : laidOutB P = true) (hparams : ∀ t ∈ fn.params.toList, P.readableRec t = true ∧ t < P.types.size) (hbt : P.underlying bt = some .bool) (hrt : fn.resultTypes = #[bt]) (hvars : s.vars = [])
  (hW : DataW.Whole enc P fn.params.toList s.vars apart W args.toList ds gs before) (hspec : s.fn H ds = { results := [.lit (.bool true)], args := ds }) (hb : RowKit.Below W.heap.size W W') :
  s.post enc P fn apart fresh handsOn again W args (.bool true) W' := by
 have hlt := hW.lt
 have hW' := hW
 obtain ⟨p, q, hA, hV, rfl, hfz, hnd⟩ := hW
 rw [hvars] at hV
 obtain ⟨rfl, rfl⟩ := trodVars_none hV
 have hargs : ∀ sp : Nat → Bool, (∀ x ∈ p, sp x.block = true) → DataW.TrodAll enc P W' 0 sp true fn.params.toList args.toList ds p := fun sp hsp =>
  trodAll_stays hl hb hparams hA (fun x hx => hlt x (by simpa using hx)) sp hsp
 have hres : ∀ (b : Nat) (sp : Nat → Bool) (hd : Bool), DataW.TrodAll enc P W' b sp hd fn.resultTypes.toList ((Value.bool true).resultList fn.resultTypes.size) [.lit (.bool true)] [] := fun b sp hd => by
  rw [hrt]
  exact trodAll_cons_mk (shut_bool hbt _) trodAll_mk0
 refine ⟨ds, [], p ++ [], [], p, [], hW', ?_, ?_, ?_, World.keptBut_mono (fun x hx => ⟨hx, ?_⟩) (hb.frame (fun x => x ∈ p ++ [])), fun _ => ?_⟩
 ·
  rw [List.append_nil, hspec]; exact hres _ _ _
 ·
  rw [List.append_nil, hspec]
  exact hargs _ (fun x hx => by simpa using hlt x (by simpa using hx))
 ·
  rw [List.append_nil, hspec, hvars]
  rfl
 ·
  exact .inr (.inl (by simpa using hx))
 ·
  refine ⟨ok_one hrt rfl (okWide_bool_mk hbt _), _, [], ([] ++ p) ++ [], ⟨[] ++ p, [], trodAll_append (hargs _ (fun _ _ => rfl)) (hres _ _ _), by rw [hvars]; rfl, rfl, ?_, ?_⟩, ?_⟩
  ·
   intro b off hp
   have hpl := hlt (.cell b off) (by simpa using hp)
   rw [hb.frozen (p := ⟨b, off, none⟩) hpl]
   exact hfz b off (by simpa using hp)
  ·
   intro ha
   simpa using hnd ha
  ·
   intro x hx _
   simpa using hx
/-! ### What comes in, opened -/
theorem open_u64 {H : Type} {enc : TypeId × Value → H} {P : Program} {w : World} {base : Nat} {spare : Nat → Bool} {held : Bool} {r : Reach} {b0 : Nat} {t : TypeId} {v : Value} {d : DataW H} {ps : List MemPlace}
  (ht : P.underlying t = some (.int .u64)) (hval : Value.okWide P w r b0 t v) (hd : DataW.Trod enc P w base spare held t v d ps) : ∃ x : UInt64, ∀ ρ, Rel ρ (.u64 x) v := by
 obtain ⟨n, rfl, _, _, hw⟩ := open_int ht hval hd
 have hx : 0 ≤ n ∧ n < 18446744073709551616 := by
  simp only [Lit.wf, Bool.and_eq_true, decide_eq_true_eq, IntKind.min, IntKind.max, IntKind.signed, IntKind.bits] at hw
  have h2 := hw.2
  simp at h2 hw
  omega
 refine ⟨UInt64.ofNat n.toNat, fun ρ => ?_⟩
 simp only [Rel]
 congr 1
 simp only [UInt64.toNat_ofNat']
 omega
theorem atoms_u8 (l : List UInt8) : atoms (l.map .u8) = true := by induction l <;> simp_all [atoms, SV.atom]
theorem lits_length {H : Type} (k : IntKind) (zs : List Int) : (lits (H := H) k zs).length = zs.length := by simp [lits]
theorem open_bytes {H : Type} {enc : TypeId × Value → H} {P : Program} {w : World} {base : Nat} {r : Reach} {b0 : Nat} {t e : TypeId} {v : Value} {d : DataW H} {ps : List MemPlace}
  (ht : P.underlying t = some (.slice e)) (he : P.underlying e = some (.int .u8)) (hc : P.cellsOf e = 1) (hval : Value.okWide P w r b0 t v) (hd : DataW.Trod enc P w base (fun _ => true) true t v d ps) :
  ∃ (bs : List UInt8) (rb : RB), (∀ ρ id, ρ id = some rb → Rel ρ (.sl id 0 bs.length 1 false) v) ∧ (∀ ρ, BRel ρ w rb (.ro (bs.map .u8))) ∧
   (bs = [] ∨ ∃ zs rest : List Int, d = .slice (lits .u8 zs) (lits .u8 rest) ∧ zs.length = bs.length) := by
 obtain ⟨a, len, cap, rfl⟩ := okWide_slice ht hval
 obtain ⟨fuel, hf⟩ := hd
 have hcs : (Value.slice a len cap).cells.toList = [.slice a len cap] := rfl
 rw [hcs] at hf
 rcases open_ints ht he hc hf with ⟨h1, h2⟩ | ⟨a', len', cap', zs, h1, _, hlc, _, hzl, h2, hcell, hwf⟩
 ·
  cases h1
  refine ⟨[], ⟨0, 0, 0, true⟩, fun ρ id hr => ?_, fun ρ => .inl rfl, .inl rfl⟩
  simp only [Rel]
  exact ⟨_, none, 0, hr, rfl, Nat.le_refl _, fun h => (by cases h), .inl rfl⟩
 ·
  cases h1
  simp only [if_true] at hzl
  have hb : ∀ z ∈ zs, 0 ≤ z ∧ z < 256 := by
   intro z hz
   have hw := hwf z hz
   simp only [Lit.wf, Bool.and_eq_true, decide_eq_true_eq, IntKind.min, IntKind.max, IntKind.signed, IntKind.bits] at hw
   have h2 := hw.2
   simp at h2 hw
   omega
  have hbl : ((zs.take len).map fun z => UInt8.ofNat z.toNat).length = len := by simp; omega
  refine ⟨(zs.take len).map fun z => UInt8.ofNat z.toNat, ⟨a'.block, a'.off, cap, false⟩, fun ρ id hr => ?_, fun ρ => ?_, .inr ⟨zs.take len, zs.drop len, ?_, by simp⟩⟩
  ·
   rw [hbl]
   simp only [Rel]
   refine ⟨_, some a', cap, hr, rfl, hlc, fun h => (by cases h), ?_⟩
   by_cases h0 : cap = 0
   ·
    exact .inl h0
   ·
    right
    have := hcell 0 (by omega)
    have hsp : a'.spot = none := by
     unfold World.cell? at this
     split at this
     ·
      split at this
      ·
       cases this
      ·
       rename_i hs
       have : (a'.add 0).spot = a'.spot := by unfold Addr.add; split <;> simp_all
       rw [this] at hs
       simpa using hs
     ·
      cases this
    refine ⟨rfl, ?_, by simp⟩
    cases a'; simp at hsp; simp [hsp]
  ·
   by_cases h0 : len = 0
   ·
    left
    subst h0
    simp
   ·
    right
    have key : ∀ i, i < zs.length → ∃ c t fz, w.heap[a'.block]? = some (.cells c t fz) ∧ c[a'.off + i]? = some (.int .u8 (zs.getD i 0)) := by
     intro i hi
     have h := hcell i hi
     unfold World.cell? at h
     have e1 : (a'.add i).block = a'.block := by unfold Addr.add; split <;> rfl
     rw [e1] at h
     split at h
     ·
      rename_i c t fz hh
      split at h
      ·
       cases h
      ·
       rename_i hs
       have e2 : (a'.add i).off = a'.off + i := by
        unfold Addr.add at hs ⊢
        split
        ·
         simp_all
        ·
         rfl
       rw [e2] at h
       exact ⟨c, t, fz, hh, h⟩
     ·
      cases h
    obtain ⟨c, t2, fz, hh, _⟩ := key 0 (by omega)
    have key2 : ∀ i, i < zs.length → c[a'.off + i]? = some (.int .u8 (zs.getD i 0)) := by
     intro i hi
     obtain ⟨c', t', fz', hh', hv⟩ := key i hi
     rw [hh] at hh'; cases hh'
     exact hv
    have hsz : a'.off + len ≤ c.size := by
     have := key2 (len - 1) (by omega)
     have := (Array.getElem?_eq_some_iff.1 this).1
     omega
    refine ⟨⟨c, t2, fz, hh, atoms_u8 _, ?_, fun h => (by cases h), by simp; omega⟩, by simp; omega, rfl⟩
    apply Rels.of_get
    ·
     simp; omega
    ·
     intro i x hx
     have hi : i < len := by have := (List.getElem?_eq_some_iff.1 hx).1; simp at this; omega
     have hzi : i < zs.length := by omega
     have hg : zs.getD i 0 = zs[i] := by simp [hzi]
     simp only [List.map_map, List.getElem?_map, List.getElem?_take_of_lt hi, List.getElem?_eq_getElem hzi, Option.map_some, Option.some.injEq, Function.comp] at hx
     subst hx
     refine ⟨.int .u8 (zs.getD i 0), ?_, ?_⟩
     ·
      rw [List.length_map, hbl, List.getElem?_take_of_lt hi, List.getElem?_drop, Array.getElem?_toList]
      exact key2 i hzi
     ·
      rw [hg]
      simp only [Rel]
      have := hb zs[i] (List.getElem_mem hzi)
      congr 1
      simp only [UInt8.toNat_ofNat']
      omega
  ·
   have := congrArg Prod.fst h2
   exact this
end Go.Sh
namespace Go.Sh
open Go.ChangeShapes Go.WideShapes Go.ChangeAt Go.RowKit
section
variable {H : Type} {enc : TypeId × Value → H} {P : Program} {w : World} {base : Nat} {spare : Nat → Bool} {held : Bool}
def Rd (enc : TypeId × Value → H) (P : Program) (w : World) (base : Nat) (spare : Nat → Bool) (held : Bool) (t : TypeId) (cs : List Value) : Prop := ∃ fuel x, DataW.trod enc P w base spare held fuel t cs = some x
theorem psz_cells {t : TypeId} {n : Nat} (h : psz P t = some n) : P.cellsOf t = n := by
 unfold psz at h; unfold Program.cellsOf; rw [h]; rfl
theorem chunks {ks : List Nat} {R : List Value → Prop} (hR : ∀ c, R c → ∃ xs : List SV, xs.map kd = ks.map some ∧ ∀ ρ, Rels ρ xs c) (cs : List Value) : ∀ n : Nat, n * ks.length ≤ cs.length →
  (∀ i, i < n → R ((cs.drop (i * ks.length)).take ks.length)) → ∃ xs : List SV, xs.map kd = (List.replicate n ks).flatten.map some ∧ ∀ ρ, Rels ρ xs (cs.take (n * ks.length))
 | 0, _, _ => ⟨[], by simp, fun ρ => by simp [Rels]⟩
 | n + 1, hl, h => by
  have hn : (n + 1) * ks.length = n * ks.length + ks.length := by rw [Nat.add_mul]; omega
  obtain ⟨xs, hx, hxr⟩ := chunks hR cs n (by omega) (fun i hi => h i (by omega))
  obtain ⟨ys, hy, hyr⟩ := hR _ (h n (by omega))
  refine ⟨xs ++ ys, ?_, fun ρ => ?_⟩
  ·
   rw [List.map_append, hx, hy, List.replicate_succ', List.flatten_concat, List.map_append]
  ·
   rw [hn, List.take_add]
   exact Rels.append (hxr ρ) (hyr ρ)
theorem int_kd {k : IntKind} {q : Nat} {n : Int} (hk : kdT (.int k) = some q) (hw : (Lit.int k n).wf = true) : ∃ x : SV, kd x = some q ∧ ∀ ρ, Rel ρ x (.int k n) := by
 cases k <;> simp only [kdT] at hk <;> (try (cases hk; done)) <;> simp only [Option.some.injEq] at hk <;> subst hk
 ·
  exact ⟨.i n, rfl, fun ρ => by simp only [Rel]⟩
 all_goals
  simp only [Lit.wf, Bool.and_eq_true, decide_eq_true_eq, IntKind.min, IntKind.max, IntKind.signed, IntKind.bits] at hw
  have h2 := hw.2
  simp at h2 hw
 ·
  exact ⟨.u8 (UInt8.ofNat n.toNat), rfl, fun ρ => by simp only [Rel, UInt8.toNat_ofNat']; congr 1; omega⟩
 ·
  exact ⟨.u16 (UInt16.ofNat n.toNat), rfl, fun ρ => by simp only [Rel, UInt16.toNat_ofNat']; congr 1; omega⟩
 ·
  exact ⟨.u32 (UInt32.ofNat n.toNat), rfl, fun ρ => by simp only [Rel, UInt32.toNat_ofNat']; congr 1; omega⟩
 ·
  exact ⟨.u64 (UInt64.ofNat n.toNat), rfl, fun ρ => by simp only [Rel, UInt64.toNat_ofNat']; congr 1; omega⟩
theorem open_kinds_both : ∀ d : Nat,
  (∀ {t : TypeId} {ks : List Nat}, kinds P d t = some ks → ∀ {cs : List Value}, Rd enc P w base spare held t cs → ∃ xs : List SV, xs.map kd = ks.map some ∧ ∀ ρ, Rels ρ xs cs) ∧
  (∀ {off : Nat} {fs : List Field} {ks : List Nat}, kindsF P d off fs = some ks → ∀ {cs : List Value}, (∀ f ∈ fs, Rd enc P w base spare held f.type ((cs.drop f.offset).take (P.cellsOf f.type))) → off + ks.length ≤ cs.length →
   ∃ xs : List SV, xs.map kd = ks.map some ∧ ∀ ρ, Rels ρ xs ((cs.drop off).take ks.length))
 | 0 => by
  refine ⟨fun h => by simp [kinds] at h, fun {off fs ks} h => ?_⟩
  cases fs with
  | nil => simp [kindsF] at h; subst h; intro cs _ _; exact ⟨[], rfl, fun ρ => by simp [Rels]⟩
  | cons f fs => simp [kindsF] at h
 | d + 1 => by
  obtain ⟨ihA, ihB⟩ := open_kinds_both d
  refine ⟨fun {t ks} h {cs} hr => ?_, fun {off fs ks} h {cs} hr hl => ?_⟩
  ·
   obtain ⟨fuel, x, hx⟩ := hr
   have hsz := kinds_size h
   simp only [kinds] at h
   split at h
   ·
    rename_i fs hu
    split at h
    ·
     cases h
    ·
     obtain ⟨ks', h1, h2⟩ := Option.bind_eq_some_iff.1 h
     split at h2
     ·
      cases h2
      obtain ⟨xs, n, rfl, rfl, hcl, hxl, hf⟩ := DataW.trod_struct hu hx
      have hcs : cs.length = ks.length := by rw [hcl, psz_cells hsz]
      obtain ⟨ys, hy, hyr⟩ := ihB h1 (cs := cs) (fun f hfm => by
       obtain ⟨i, hi, hfi⟩ := List.getElem_of_mem hfm
       have hi' : i < fs.size := by simpa using hi
       have hget : fs[i]? = some f := by rw [Array.getElem?_eq_getElem hi']; simpa using hfi
       have := hf i f hget
       rw [List.getElem?_eq_getElem (by omega : i < xs.length)] at this
       exact ⟨n, _, this⟩) (by omega)
      refine ⟨ys, hy, fun ρ => ?_⟩
      have := hyr ρ
      rwa [List.drop_zero, List.take_of_length_le (by omega)] at this
     ·
      cases h2
   ·
    rename_i n e hu
    obtain ⟨ks', h1, h2⟩ := Option.bind_eq_some_iff.1 h
    split at h2
    ·
     rename_i hps
     cases h2
     obtain ⟨xs, m, rfl, rfl, hcl, hxl, hf⟩ := DataW.trod_array hu hx
     have hcs : cs.length = n * ks'.length := by rw [hcl, psz_cells hps]
     have he : P.cellsOf e = ks'.length := psz_cells (kinds_size h1)
     obtain ⟨ys, hy, hyr⟩ := chunks (R := fun c => Rd enc P w base spare held e c) (fun c hc => ihA h1 hc) cs n (by omega) (fun i hi => by
      have := hf i hi
      rw [he, List.getElem?_eq_getElem (by omega : i < xs.length)] at this
      exact ⟨m, _, this⟩)
     refine ⟨ys, hy, fun ρ => ?_⟩
     have := hyr ρ
     rwa [List.take_of_length_le (by omega)] at this
    ·
     cases h2
   ·
    rename_i ds hns hna hu
    obtain ⟨k, h1, h2⟩ := Option.bind_eq_some_iff.1 h
    split at h2
    ·
     cases h2
     cases ds with
     | int kk =>
      obtain ⟨n, rfl, _, hw⟩ := DataW.trod_int hu hx
      obtain ⟨y, hy, hyr⟩ := int_kd h1 hw
      exact ⟨[y], by simp [hy], fun ρ => Rels.cons (hyr ρ) (Rels.nil_iff.2 rfl)⟩
     | bool =>
      obtain ⟨b, rfl, _⟩ := DataW.trod_bool hu hx
      simp only [kdT, Option.some.injEq] at h1; subst h1
      exact ⟨[.b b], rfl, fun ρ => Rels.cons (by simp only [Rel]) (Rels.nil_iff.2 rfl)⟩
     | string =>
      obtain ⟨s, rfl, _, _⟩ := DataW.trod_string hu hx
      simp only [kdT, Option.some.injEq] at h1; subst h1
      exact ⟨[.s s.data.toList], rfl, fun ρ => Rels.cons (by simp only [Rel]) (Rels.nil_iff.2 rfl)⟩
     | _ => simp [kdT] at h1
    ·
     cases h2
   ·
    cases h
  ·
   cases fs with
   | nil => simp [kindsF] at h; subst h; exact ⟨[], rfl, fun ρ => by simp [Rels]⟩
   | cons f fs =>
    simp only [kindsF] at h
    split at h
    ·
     rename_i hf
     obtain ⟨k1, h1, h2⟩ := Option.bind_eq_some_iff.1 h
     obtain ⟨k2, h3, h4⟩ := Option.map_eq_some_iff.1 h2
     subst h4
     have he : P.cellsOf f.type = k1.length := psz_cells (kinds_size h1)
     have hr1 := hr f (List.mem_cons_self ..)
     rw [hf.2, he] at hr1
     simp only [List.length_append] at hl
     obtain ⟨xs, hx, hxr⟩ := ihA h1 hr1
     obtain ⟨ys, hy, hyr⟩ := ihB h3 (cs := cs) (fun g hg => hr g (List.mem_cons_of_mem _ hg)) (by omega)
     refine ⟨xs ++ ys, by simp [hx, hy], fun ρ => ?_⟩
     rw [List.length_append, List.take_add, List.drop_drop]
     exact Rels.append (hxr ρ) (hyr ρ)
    ·
     cases h
theorem open_kinds {d : Nat} {t : TypeId} {ks : List Nat} (h : kinds P d t = some ks) {cs : List Value} (hr : Rd enc P w base spare held t cs) : ∃ xs : List SV, xs.map kd = ks.map some ∧ ∀ ρ, Rels ρ xs cs :=
 (open_kinds_both d).1 h hr
/-! ### Kinds, told -/
theorem kd_0 {x : SV} (h : kd x = some 0) : ∃ n, x = .i n := by cases x <;> simp [kd] at h; exact ⟨_, rfl⟩
theorem kd_1 {x : SV} (h : kd x = some 1) : ∃ n, x = .u8 n := by cases x <;> simp [kd] at h; exact ⟨_, rfl⟩
theorem kd_2 {x : SV} (h : kd x = some 2) : ∃ n, x = .u16 n := by cases x <;> simp [kd] at h; exact ⟨_, rfl⟩
theorem kd_3 {x : SV} (h : kd x = some 3) : ∃ n, x = .u32 n := by cases x <;> simp [kd] at h; exact ⟨_, rfl⟩
theorem kd_4 {x : SV} (h : kd x = some 4) : ∃ n, x = .u64 n := by cases x <;> simp [kd] at h; exact ⟨_, rfl⟩
theorem kd_5 {x : SV} (h : kd x = some 5) : ∃ n, x = .b n := by cases x <;> simp [kd] at h; exact ⟨_, rfl⟩
theorem kd_nil {xs : List SV} (h : xs.map kd = ([] : List Nat).map some) : xs = [] := by simpa using h
theorem kd_cons {xs : List SV} {k : Nat} {ks : List Nat} (h : xs.map kd = (k :: ks).map some) : ∃ x ys, xs = x :: ys ∧ kd x = some k ∧ ys.map kd = ks.map some := by
 cases xs with
 | nil => simp at h
 | cons x ys => simp at h; exact ⟨x, ys, rfl, h.1, h.2⟩
theorem kd_append {xs : List SV} {k1 k2 : List Nat} (h : xs.map kd = (k1 ++ k2).map some) : ∃ ys zs, xs = ys ++ zs ∧ ys.map kd = k1.map some ∧ zs.map kd = k2.map some := by
 refine ⟨xs.take k1.length, xs.drop k1.length, (List.take_append_drop ..).symm, ?_, ?_⟩
 ·
  rw [List.map_take, h, List.map_append, List.take_left' (by simp)]
 ·
  rw [List.map_drop, h, List.map_append, List.drop_left' (by simp)]
theorem kd_rep {α : Type} {f : α → SV} {k : Nat} (hf : ∀ x, kd x = some k → ∃ a, x = f a) : ∀ {n : Nat} {xs : List SV}, xs.map kd = (List.replicate n k).map some → ∃ l : List α, xs = l.map f ∧ l.length = n
 | 0, xs, h => by
  have : xs = [] := kd_nil h
  subst this; exact ⟨[], rfl, rfl⟩
 | n + 1, xs, h => by
  rw [List.replicate_succ] at h
  obtain ⟨x, ys, rfl, hx, hy⟩ := kd_cons h
  obtain ⟨a, rfl⟩ := hf x hx
  obtain ⟨l, rfl, hl⟩ := kd_rep hf hy
  exact ⟨a :: l, rfl, by simp [hl]⟩
theorem kd_atoms : ∀ {xs : List SV} {ks : List Nat}, xs.map kd = ks.map some → atoms xs = true
 | [], _, _ => rfl
 | x :: xs, [], h => by simp at h
 | x :: xs, k :: ks, h => by
  simp only [List.map_cons, List.cons.injEq] at h
  simp only [atoms, List.all_cons, kd_atom h.1, Bool.true_and]
  exact kd_atoms h.2
theorem open_agg_k {r : Reach} {b0 d : Nat} {t : TypeId} {ks : List Nat} {v : Value} {y : DataW H} {ps : List MemPlace} (hk : kinds P d t = some ks) (ha : isRow P t = true) (hval : Value.okWide P w r b0 t v) (hd : DataW.Trod enc P w base spare held t v y ps) :
  ∃ xs : List SV, xs.map kd = ks.map some ∧ ∀ ρ, Rel ρ (.agg xs) v := by
 have : ∃ cs, v = .agg cs := by
  unfold Value.okWide at hval
  unfold isRow at ha
  cases hu : P.underlying t with
  | none => rw [hu] at ha; cases ha
  | some ds =>
   rw [hu] at ha hval
   cases ds <;> first | (simp at ha; done) | (obtain ⟨cs, h, _⟩ := hval; exact ⟨cs, h⟩)
 obtain ⟨cs, rfl⟩ := this
 obtain ⟨fuel, hf⟩ := hd
 obtain ⟨xs, hx, hxr⟩ := open_kinds hk (cs := cs.toList) ⟨fuel, _, hf⟩
 refine ⟨xs, hx, fun ρ => ?_⟩
 simp only [Rel]
 exact ⟨cs.toList, rfl, kd_atoms hx, hxr ρ⟩
theorem open_one_k {r : Reach} {b0 k : Nat} {t : TypeId} {ds : TypeDesc} {v : Value} {y : DataW H} {ps : List MemPlace} (hu : P.underlying t = some ds) (hk : kdT ds = some k) (hk6 : k ≠ 6) (hval : Value.okWide P w r b0 t v) (hd : DataW.Trod enc P w base spare held t v y ps) :
  ∃ x : SV, kd x = some k ∧ ∀ ρ, Rel ρ x v := by
 cases ds with
 | int kk =>
  obtain ⟨n, rfl, _, _, hw⟩ := open_int hu hval hd
  exact int_kd hk hw
 | bool =>
  obtain ⟨b, rfl, _⟩ := open_bool hu hval hd
  simp only [kdT, Option.some.injEq] at hk; subst hk
  exact ⟨.b b, rfl, fun ρ => by simp only [Rel]⟩
 | string => simp only [kdT, Option.some.injEq] at hk; exact absurd hk.symm hk6
 | _ => simp [kdT] at hk
/-! ### Rows -/
theorem cells_get {a : Addr} {n : Nat} {l : List Value} (h : w.cells? base a n = some l) : l.length = n ∧ ∀ i, i < n → w.cell? (a.add i) = l[i]? := by
 unfold World.cells? at h
 split at h
 ·
  refine ⟨by simpa using mapM_some_length h, fun i hi => ?_⟩
  simpa using mapM_some_get h i i (by simp [hi])
 ·
  cases h
theorem addr_add (a : Addr) (i : Nat) (h : a.spot = none) : a.add i = ⟨a.block, a.off + i, none⟩ := by
 cases a; simp only at h; subst h
 unfold Addr.add
 split
 ·
  rename_i h0; subst h0; rfl
 ·
  rfl
theorem addr_block (a : Addr) (i : Nat) : (a.add i).block = a.block := by unfold Addr.add; split <;> rfl
theorem addr_zero (a : Addr) : a.add 0 = a := by simp [Addr.add]
structure Row (enc : TypeId × Value → H) (P : Program) (w : World) (base : Nat) (spare : Nat → Bool) (held : Bool) (e : TypeId) (sz : Nat) (a : Addr) (len cap : Nat) (vs : List Value) : Prop where
 le : len ≤ cap
 most : cap ≤ maxLen
 spot : 0 < cap → a.spot = none
 len : vs.length = cap * sz
 cell : ∀ i, i < cap * sz → w.cell? ⟨a.block, a.off + i, none⟩ = vs[i]?
 read : ∀ i, i < cap → Rd enc P w base spare held e ((vs.drop (i * sz)).take sz)
theorem rows_of {α : Type} (f : Nat → Option (List α)) (sz : Nat) : ∀ n, (∀ i, i < n → ∃ l, f i = some l ∧ l.length = sz) → ∃ vs : List α, vs.length = n * sz ∧ ∀ i, i < n → f i = some ((vs.drop (i * sz)).take sz)
 | 0, _ => ⟨[], by simp, fun i hi => by omega⟩
 | n + 1, h => by
  obtain ⟨vs, h1, h2⟩ := rows_of f sz n (fun i hi => h i (by omega))
  obtain ⟨l, hl, hls⟩ := h n (by omega)
  refine ⟨vs ++ l, by simp [h1, hls, Nat.add_mul], fun i hi => ?_⟩
  by_cases hin : i < n
  ·
   rw [h2 i hin]
   have hle : i * sz + sz ≤ vs.length := by
    rw [h1]; calc i * sz + sz = (i + 1) * sz := by rw [Nat.add_mul]; omega
     _ ≤ n * sz := Nat.mul_le_mul_right _ hin
   rw [List.drop_append_of_le_length (by omega), List.take_append_of_le_length (by simp; omega)]
  ·
   have : i = n := by omega
   subst this
   rw [hl, ← h1, List.drop_left, List.take_of_length_le (by omega)]
theorem open_row {e t : TypeId} {sz : Nat} {cs : List Value} (ht : P.underlying t = some (.slice e)) (hs : psz P e = some sz) (h0 : 0 < sz) (hsp : spare = fun _ => true) (hr : Rd enc P w base spare held t cs) :
  cs = [.slice none 0 0] ∨ ∃ a len cap vs, cs = [.slice (some a) len cap] ∧ Row enc P w base spare held e sz a len cap vs := by
 obtain ⟨fuel, x, hx⟩ := hr
 have he := psz_cells hs
 rcases DataW.trod_slice ht hx with ⟨h, _⟩ | ⟨a, len, cap, elems, rest, n, rfl, rfl, _, hb, hlc, hm, hel, h1, h2, _⟩
 ·
  exact .inl h
 ·
  right
  rw [he] at h1 h2
  obtain ⟨hrl, h2⟩ := h2 (by rw [hsp])
  have all : ∀ i, i < cap → ∃ l, w.cells? base (a.add (i * sz)) sz = some l ∧ Rd enc P w base spare held e l := by
   intro i hi
   by_cases hil : i < len
   ·
    have := h1 i hil
    rw [List.getElem?_eq_getElem (by omega : i < elems.length)] at this
    obtain ⟨l, hl, hr⟩ := Option.bind_eq_some_iff.1 this
    exact ⟨l, hl, n, _, hr⟩
   ·
    have := h2 (i - len) (by omega)
    rw [List.getElem?_eq_getElem (by omega : i - len < rest.length), show len + (i - len) = i from by omega] at this
    obtain ⟨l, hl, hr⟩ := Option.bind_eq_some_iff.1 this
    exact ⟨l, hl, n, _, hr⟩
  obtain ⟨vs, hvl, hv⟩ := rows_of (fun i => w.cells? base (a.add (i * sz)) sz) sz cap (fun i hi => by
   obtain ⟨l, hl, _⟩ := all i hi
   exact ⟨l, hl, (cells_get hl).1⟩)
  have hspot : 0 < cap → a.spot = none := by
   intro hc
   obtain ⟨l, hl, _⟩ := all 0 hc
   obtain ⟨g1, g2⟩ := cells_get hl
   have := g2 0 h0
   rw [List.getElem?_eq_getElem (by omega)] at this
   unfold World.cell? at this
   split at this
   ·
    split at this
    ·
     cases this
    ·
     rename_i hs2
     have h3 : ((a.add (0 * sz)).add 0).spot = none := by simpa using hs2
     rwa [Nat.zero_mul, addr_zero, addr_zero] at h3
   ·
    cases this
  refine ⟨a, len, cap, vs, rfl, hlc, hm, hspot, hvl, fun i hi => ?_, fun i hi => ?_⟩
  ·
   have hc : 0 < cap := by
    rcases Nat.eq_zero_or_pos cap with h | h
    ·
     subst h; omega
    ·
     exact h
   have hi2 : i / sz < cap := by rw [Nat.div_lt_iff_lt_mul h0]; exact hi
   have hl := hv (i / sz) hi2
   obtain ⟨g1, g2⟩ := cells_get hl
   have hmod : i % sz < sz := Nat.mod_lt _ h0
   have := g2 (i % sz) hmod
   rw [addr_add a _ (hspot hc), addr_add _ _ rfl] at this
   have hdm : i / sz * sz + i % sz = i := by rw [Nat.mul_comm]; exact Nat.div_add_mod i sz
   rw [List.getElem?_take_of_lt hmod, List.getElem?_drop, hdm] at this
   simp only [Nat.add_assoc, hdm] at this
   exact this
  ·
   obtain ⟨l, hl, hr⟩ := all i hi
   have := hv i hi
   rw [hl] at this
   rw [← Option.some.inj this]; exact hr
theorem Row.block {e : TypeId} {sz : Nat} {a : Addr} {len cap : Nat} {vs : List Value} (h : Row enc P w base spare held e sz a len cap vs) {ρ : Ren} {ys : List SV} (hr : Rels ρ ys (vs.take (len * sz))) (ha : atoms ys = true) :
  (∀ id, ρ id = some ⟨a.block, a.off, cap * sz, false⟩ → Rel ρ (.sl id 0 len sz false) (.slice (some a) len cap)) ∧ BRel ρ w ⟨a.block, a.off, cap * sz, false⟩ (.ro ys) := by
 have hyl : ys.length = len * sz := by
  have := hr.length
  rw [List.length_take, h.len] at this
  have hle : len * sz ≤ cap * sz := Nat.mul_le_mul_right _ h.le
  omega
 refine ⟨fun id hid => ?_, ?_⟩
 ·
  simp only [Rel]
  refine ⟨_, some a, cap, hid, rfl, h.le, fun h => (by cases h), ?_⟩
  by_cases h0 : cap = 0
  ·
   exact .inl h0
  ·
   right
   refine ⟨rfl, ?_, by simp⟩
   have := h.spot (by omega)
   cases a; simp only at this; subst this; simp
 ·
  by_cases h0 : len * sz = 0
  ·
   left; exact List.eq_nil_of_length_eq_zero (by omega)
  ·
   right
   have hle : len * sz ≤ cap * sz := Nat.mul_le_mul_right _ h.le
   have key : ∀ i, i < cap * sz → ∃ c t fz, w.heap[a.block]? = some (.cells c t fz) ∧ c[a.off + i]? = vs[i]? := by
    intro i hi
    have hc := h.cell i hi
    rw [List.getElem?_eq_getElem (by rw [h.len]; exact hi)] at hc
    unfold World.cell? at hc
    split at hc
    ·
     rename_i c t fz hh
     simp only at hc
     exact ⟨c, t, fz, hh, by rw [List.getElem?_eq_getElem (by rw [h.len]; exact hi)]; simpa using hc⟩
    ·
     cases hc
   obtain ⟨c, t2, fz, hh, _⟩ := key 0 (by omega)
   have key2 : ∀ i, i < cap * sz → c[a.off + i]? = vs[i]? := by
    intro i hi
    obtain ⟨c', t', fz', hh', hv⟩ := key i hi
    rw [hh] at hh'; cases hh'; exact hv
   have hsz : a.off + len * sz ≤ c.size := by
    have := key2 (len * sz - 1) (by omega)
    rw [List.getElem?_eq_getElem (by rw [h.len]; omega)] at this
    have := (Array.getElem?_eq_some_iff.1 this).1
    omega
   refine ⟨⟨c, t2, fz, hh, ha, ?_, fun h => (by cases h), by rw [hyl]; exact hsz⟩, by rw [hyl]; exact hle, rfl⟩
   have e1 : (c.toList.drop a.off).take ys.length = vs.take (len * sz) := by
    apply List.ext_getElem?
    intro i
    rw [hyl]
    by_cases hi : i < len * sz
    ·
     rw [List.getElem?_take_of_lt hi, List.getElem?_take_of_lt hi, List.getElem?_drop, Array.getElem?_toList]
     exact key2 i (by omega)
    ·
     rw [List.getElem?_take_eq_none (by omega), List.getElem?_take_eq_none (by omega)]
   rw [e1]; exact hr
theorem open_row_k {r : Reach} {b0 d : Nat} {e t : TypeId} {ks : List Nat} {v : Value} {y : DataW H} {ps : List MemPlace} (ht : P.underlying t = some (.slice e)) (hk : kinds P d e = some ks) (h0 : 0 < ks.length) (hval : Value.okWide P w r b0 t v)
  (hd : DataW.Trod enc P w base (fun _ => true) held t v y ps) : ∃ (n : Nat) (ys : List SV) (rb : RB), n ≤ maxLen ∧ ys.map kd = (List.replicate n ks).flatten.map some ∧ (∀ ρ id, ρ id = some rb → Rel ρ (.sl id 0 n ks.length false) v) ∧ ∀ ρ, BRel ρ w rb (.ro ys) := by
 obtain ⟨a, len, cap, rfl⟩ := okWide_slice ht hval
 obtain ⟨fuel, hf⟩ := hd
 have hcs : (Value.slice a len cap).cells.toList = [.slice a len cap] := rfl
 rw [hcs] at hf
 rcases open_row ht (kinds_size hk) h0 rfl ⟨fuel, _, hf⟩ with h | ⟨a', len', cap', vs, h, hrow⟩
 ·
  cases h
  refine ⟨0, [], ⟨0, 0, 0, true⟩, Nat.zero_le _, rfl, fun ρ id hr => ?_, fun ρ => .inl rfl⟩
  simp only [Rel]
  exact ⟨_, none, 0, hr, rfl, Nat.le_refl _, fun h => (by cases h), .inl rfl⟩
 ·
  cases h
  have hle : len * ks.length ≤ cap * ks.length := Nat.mul_le_mul_right _ hrow.le
  obtain ⟨ys, hy, hyr⟩ := chunks (R := fun c => Rd enc P w base (fun _ => true) held e c) (fun c hc => open_kinds hk hc) vs len (by rw [hrow.len]; exact hle) (fun i hi => hrow.read i (Nat.lt_of_lt_of_le hi hrow.le))
  exact ⟨len, ys, _, Nat.le_trans hrow.le hrow.most, hy, fun ρ id hid => (hrow.block (hyr ρ) (kd_atoms hy)).1 id hid, fun ρ => (hrow.block (hyr ρ) (kd_atoms hy)).2⟩
theorem flat_rep1 (n k : Nat) : (List.replicate n [k]).flatten = List.replicate n k := by
 induction n with
 | zero => rfl
 | succ n ih => rw [List.replicate_succ, List.flatten_cons, ih]; rfl
theorem open_row1 {α : Type} {f : α → SV} {r : Reach} {b0 d k : Nat} {e t : TypeId} {v : Value} {y : DataW H} {ps : List MemPlace} (ht : P.underlying t = some (.slice e)) (hk : kinds P d e = some [k]) (hf : ∀ x, kd x = some k → ∃ a, x = f a) (hval : Value.okWide P w r b0 t v)
  (hd : DataW.Trod enc P w base (fun _ => true) held t v y ps) : ∃ (l : List α) (rb : RB), l.length ≤ maxLen ∧ (∀ ρ id, ρ id = some rb → Rel ρ (.sl id 0 l.length 1 false) v) ∧ ∀ ρ, BRel ρ w rb (.ro (l.map f)) := by
 obtain ⟨n, ys, rb, hm, hy, h1, h2⟩ := open_row_k ht hk (by simp) hval hd
 rw [flat_rep1] at hy
 obtain ⟨l, rfl, rfl⟩ := kd_rep hf hy
 exact ⟨l, rb, hm, h1, h2⟩
end
end Go.Sh
namespace Go.Sh
open Go.ChangeShapes Go.WideShapes Go.ChangeAt Go.RowKit
abbrev Part := Value × RB × List UInt8
def pFe (p : Part) : FE := ⟨p.1, p.2.1, p.2.2.length, 1, p.2.2.map .u8⟩
def pLit (p : Part) : SV := .lit p.1
def pTx (ps : List Part) (i : Nat) : List UInt8 := ((ps.take i).map (fun p => p.2.2)).flatten
theorem pTx_z (ps : List Part) : pTx ps 0 = [] := rfl
theorem pTx_s {ps : List Part} {i : Nat} {p : Part} (h : ps[i]? = some p) : pTx ps (i + 1) = pTx ps i ++ p.2.2 := by
 unfold pTx
 rw [List.take_add_one, h]; simp
theorem pTx_e (ps : List Part) : pTx ps ps.length = (ps.map (fun p => p.2.2)).flatten := by unfold pTx; rw [List.take_length]
theorem pTx_le (ps : List Part) (i : Nat) : (pTx ps i).length ≤ (pTx ps ps.length).length := by
 have e : pTx ps ps.length = pTx ps i ++ ((ps.drop i).map (fun p => p.2.2)).flatten := by
  unfold pTx; rw [List.take_length, ← List.flatten_append, ← List.map_append, List.take_append_drop]
 rw [e, List.length_append]; omega
@[simp] theorem plainL_lit (ps : List Part) : plainL (ps.map pLit) = true := by
 induction ps with
 | nil => rfl
 | cons p ps ih => rw [List.map_cons, plainL_cons, ih]; rfl
theorem focus_p {A : Nat} {R : RL} {H : HL} {L : Nat} (t q : Nat) {l : List FE} {v : Value} {rb : RB} {b : List UInt8} (hq : hk H q = some (.ext (.fam l))) (he : pFe (v, rb, b) ∈ l) (ht : lk t R = some (.lit v)) :
  Weak A R H L ((t, .sl L 0 b.length 1 false) :: R) (hupd H [(L, some (.ro (b.map .u8)))]) (L + 1) := Weak.focus t q hq he ht
theorem sops_p {P : Program} {N : Nat} {ops : Array Oper} {Q : RL → HL → Nat → Prop} {os : List Oper} {R : RL} {H : HL} {L : Nat} (t q : Nat) {l : List FE} {v : Value} {rb : RB} {b : List UInt8} (hq : hk H q = some (.ext (.fam l))) (he : pFe (v, rb, b) ∈ l) (ht : lk t R = some (.lit v))
  (h : SOps P N ops Q os ((t, .sl L 0 b.length 1 false) :: R) (hupd H [(L, some (.ro (b.map .u8)))]) (L + 1)) : SOps P N ops Q os R H L := sops_focus t q hq he ht h
theorem sload_lit {ps : List Part} {i : Nat} {p : Part} (h : ps[i]? = some p) : sload false 1 (ps.map pLit) (0 + i * 1) = some (.lit p.1) := by
 show (ps.map pLit)[0 + i * 1]? = _
 rw [Nat.zero_add, Nat.mul_one, List.getElem?_map, h]; rfl
section
variable {H : Type} {enc : TypeId × Value → H} {P : Program} {w : World} {base : Nat} {held : Bool}
theorem open_part {d : Nat} {t e : TypeId} {cs : List Value} (ht : P.underlying t = some (.slice e)) (hk : kinds P d e = some [1]) (hr : Rd enc P w base (fun _ => true) held t cs) :
  ∃ p : Part, p.2.2.length ≤ maxLen ∧ cs = [p.1] ∧ (∃ a n c, p.1 = .slice a n c) ∧ FEOk w (pFe p) := by
 rcases open_row ht (kinds_size hk) (by simp) rfl hr with rfl | ⟨a, len, cap, vs, rfl, hrow⟩
 ·
  exact ⟨(.slice none 0 0, ⟨0, 0, 0, true⟩, []), Nat.zero_le _, rfl, ⟨_, _, _, rfl⟩, ⟨none, 0, rfl, Nat.le_refl _, .inl rfl⟩, .inl rfl⟩
 ·
  have hle : len * [1].length ≤ cap * [1].length := Nat.mul_le_mul_right _ hrow.le
  obtain ⟨ys, hy, hyr⟩ := chunks (R := fun c => Rd enc P w base (fun _ => true) held e c) (fun c hc => open_kinds hk hc) vs len (by rw [hrow.len]; exact hle) (fun i hi => hrow.read i (Nat.lt_of_lt_of_le hi hrow.le))
  have hb := (hrow.block (hyr (fun _ => none)) (kd_atoms hy)).2
  rw [flat_rep1] at hy
  obtain ⟨b, rfl, rfl⟩ := kd_rep (f := SV.u8) (fun _ => kd_1) hy
  refine ⟨(.slice (some a) b.length cap, ⟨a.block, a.off, cap * 1, false⟩, b), Nat.le_trans hrow.le hrow.most, rfl, ⟨_, _, _, rfl⟩, ⟨some a, cap, rfl, hrow.le, ?_⟩, ?_⟩
  ·
   by_cases h0 : cap = 0
   ·
    exact .inl h0
   ·
    refine .inr ⟨rfl, ?_, Nat.le_refl _⟩
    have := hrow.spot (by omega)
    cases a; simp only at this; subst this; rfl
  ·
   exact hb
theorem open_parts {d : Nat} {e e2 : TypeId} (ht : P.underlying e = some (.slice e2)) (hk : kinds P d e2 = some [1]) (he : psz P e = some 1) (vs : List Value) : ∀ n : Nat, n ≤ vs.length →
  (∀ i, i < n → Rd enc P w base (fun _ => true) held e ((vs.drop (i * 1)).take 1)) → ∃ ps : List Part, ps.length = n ∧ (∀ p ∈ ps, p.2.2.length ≤ maxLen ∧ FEOk w (pFe p)) ∧ ∀ ρ, Rels ρ (ps.map pLit) (vs.take (n * 1))
 | 0, _, _ => ⟨[], rfl, by simp, fun ρ => by simp [Rels]⟩
 | n + 1, hl, h => by
  obtain ⟨ps, h1, h2, h3⟩ := open_parts ht hk he vs n (by omega) (fun i hi => h i (by omega))
  obtain ⟨p, q1, q2, ⟨a, m, c, q3⟩, q4⟩ := open_part ht hk (h n (by omega))
  refine ⟨ps ++ [p], by rw [List.length_append, h1, List.length_singleton], fun x hx => ?_, fun ρ => ?_⟩
  ·
   rcases List.mem_append.1 hx with hx | hx
   ·
    exact h2 x hx
   ·
    rw [List.mem_singleton] at hx; subst hx; exact ⟨q1, q4⟩
  ·
   rw [show (n + 1) * 1 = n * 1 + 1 from by omega, List.take_add, List.map_append, q2]
   exact Rels.append (h3 ρ) (Rels.cons (by simp only [pLit, Rel, true_and]; exact ⟨a, m, c, q3⟩) (Rels.nil_iff.2 rfl))
theorem atoms_lit (ps : List Part) : atoms (ps.map pLit) = true := by induction ps <;> simp_all [atoms, SV.atom, pLit]
theorem open_row_p {r : Reach} {b0 d : Nat} {e e2 t : TypeId} {v : Value} {y : DataW H} {pl : List MemPlace} (ht : P.underlying t = some (.slice e)) (he : P.underlying e = some (.slice e2)) (hs : psz P e = some 1) (hk : kinds P d e2 = some [1]) (hval : Value.okWide P w r b0 t v)
  (hd : DataW.Trod enc P w base (fun _ => true) held t v y pl) : ∃ (ps : List Part) (rb : RB), ps.length ≤ maxLen ∧ (∀ p ∈ ps, p.2.2.length ≤ maxLen) ∧ (∀ ρ id, ρ id = some rb → Rel ρ (.sl id 0 ps.length 1 false) v) ∧ (∀ ρ, BRel ρ w rb (.ro (ps.map pLit))) ∧ ∀ ρ rb2, BRel ρ w rb2 (.ext (.fam (ps.map pFe))) := by
 obtain ⟨a, len, cap, rfl⟩ := okWide_slice ht hval
 obtain ⟨fuel, hf⟩ := hd
 have hcs : (Value.slice a len cap).cells.toList = [.slice a len cap] := rfl
 rw [hcs] at hf
 rcases open_row ht hs (by decide) rfl ⟨fuel, _, hf⟩ with h | ⟨a', len', cap', vs, h, hrow⟩
 ·
  cases h
  refine ⟨[], ⟨0, 0, 0, true⟩, Nat.zero_le _, by simp, fun ρ id hr => ?_, fun ρ => .inl rfl, fun ρ rb2 e he => by simp at he⟩
  simp only [Rel]
  exact ⟨_, none, 0, hr, rfl, Nat.le_refl _, fun h => (by cases h), .inl rfl⟩
 ·
  cases h
  have hle : len ≤ vs.length := by rw [hrow.len]; have := hrow.le; omega
  obtain ⟨ps, h1, h2, h3⟩ := open_parts he hk hs vs len hle (fun i hi => hrow.read i (Nat.lt_of_lt_of_le hi hrow.le))
  subst h1
  refine ⟨ps, _, Nat.le_trans hrow.le hrow.most, fun p hp => (h2 p hp).1, fun ρ id hid => (hrow.block (h3 ρ) (atoms_lit ps)).1 id hid, fun ρ => (hrow.block (h3 ρ) (atoms_lit ps)).2, fun ρ rb2 e he => ?_⟩
  obtain ⟨p, hp, rfl⟩ := List.mem_map.1 he
  exact (h2 p hp).2
end
end Go.Sh
namespace Go.Sh
open Go.Proofs
set_option maxHeartbeats 4000000
theorem rcatJ {E b : List UInt8} {n m : Nat} (hn : n = E.length) (hm : m = b.length) : (E ++ b).map SV.u8 = List.take (n * 1) (List.drop 0 (E.map SV.u8)) ++ List.take (m * 1) (List.drop 0 (b.map SV.u8)) := by
 subst hn; subst hm
 rw [Nat.mul_one, Nat.mul_one, List.drop_zero, List.drop_zero, List.take_of_length_le (l := b.map SV.u8) (by rw [List.length_map]; exact Nat.le_refl _), List.take_of_length_le (l := E.map SV.u8) (by rw [List.length_map]; exact Nat.le_refl _), List.map_append]
attribute [local irreducible] pTx
theorem f56 (ps : List Part) (hn : ps.length < 1000000) (hT : (pTx ps ps.length).length < 10000000000000) (fl : Bool) : SCall Try.prog 56 [.sl 0 0 ps.length 1 fl] [some (.ro (ps.map pLit)), some (.ext (.fam (ps.map pFe)))] (.sl 2 0 (pTx ps ps.length).length 1 false) [some (.ro (ps.map pLit)), some (.ext (.fam (ps.map pFe))), some (.row 5 ((pTx ps ps.length).map .u8))] := by
 refine scall_of ttOk (by kernel_rfl : Try.prog.funcs[56]? = some Try.f56) rfl rfl rfl ?_
 try simp only [List.length_cons, List.length_nil, Nat.zero_add, Nat.reduceAdd]
 refine sw_ok ttOk mixed (by kernel_rfl) ?_
 conv => whnf
 repeat (fail)
 refine SWp.weak (Weak.virt 3 5 1 rfl) ?_
 refine loop_rulex [5] ttOk mixed (by kernel_rfl) (ι := { i : Nat // i ≤ ps.length }) (fun i => [(0, .sl 0 0 ps.length 1 fl), (3, .sl 2 0 (pTx ps i.1).length 1 false), (4, .i (i.1 : Int))]) (fun i => [some (.ro (ps.map pLit)), some (.ext (.fam (ps.map pFe))), some (.row 5 ((pTx ps i.1).map .u8))]) (fun _ => 3) (fun i => ps.length - i.1) ⟨0, by omega⟩ ?_ ?_
 ·
  have hz := pTx_z ps
  dsimp only
  rw [hz]
  refine Weak.sel [0, 1, 2] rfl rfl ?_ ?_ rfl rfl
  ·
   (repeat' (first | exact trivial | refine And.intro ?_ ?_ | fail)) <;> first | rfl | fail
  ·
   (repeat' (first | exact trivial | refine And.intro ?_ ?_ | fail)) <;> first | rfl | exact ren_eq (by first | (simp; done) | fail) (by first | rfl | fail) | fail
 ·
  rintro ⟨i, hi⟩
  dsimp only
  have hle := pTx_le ps i
  by_cases hi2 : i < ps.length
  ·
   obtain ⟨p, hp⟩ : ∃ p, ps[i]? = some p := ⟨_, List.getElem?_eq_getElem hi2⟩
   have hld := sload_lit hp
   have hmem : pFe p ∈ ps.map pFe := List.mem_map_of_mem (List.mem_of_getElem? hp)
   have htxs := pTx_s hp
   have hle1 := pTx_le ps (i + 1)
   have hlt : decide ((i : Int) < (ps.length : Int)) = true := by simp; omega
   have hp1 : w64 ((i : Int) + 1) = ((i + 1 : Nat) : Int) := by simp only [w64_eq]; omega
   obtain ⟨pv, prb, b⟩ := p
   dsimp only at htxs
   obtain ⟨Y, hY⟩ : ∃ Y, Y = pTx ps i := ⟨_, rfl⟩
   rw [← hY] at htxs hle ⊢
   have hl : (pTx ps (i + 1)).length = Y.length + b.length := by rw [htxs, List.length_append]
   have hap := rcatJ (E := Y) (b := b) rfl rfl
   conv => whnf
   first | refine brT (by exact hlt) ?_ | fail
   conv => whnf
   refine swp_sops rfl ?_
   refine sops_pre (pre := [_, _, _, _, _]) ttOk (by kernel_rfl) ?_
   conv => whnf
   repeat (first | (refine Exists.intro _ (And.intro (hld) ?_); conv => whnf) | (refine Exists.intro _ (And.intro rfl ?_); conv => whnf) | (refine And.intro (by first | omega | fail) ?_; conv => whnf) | fail)
   refine sops_p 15 1 rfl hmem rfl ?_
   refine sops_end ttOk (by kernel_rfl) ?_
   conv => whnf
   repeat (first | (refine And.intro (by first | omega | (simp [ti5]; omega)) ?_; conv => whnf) | fail)
   refine ⟨⟨i + 1, by omega⟩, by simp only; omega, ?_⟩
   dsimp only
   rw [hl, htxs]
   refine Weak.sel [0, 1, 4] rfl rfl ?_ ?_ rfl rfl
   ·
    (repeat' (first | exact trivial | refine And.intro ?_ ?_ | fail)) <;> first | exact wk_i (by first | exact hp1 | exact hp1.symm | fail) | rfl | fail
   ·
    (repeat' (first | exact trivial | exact ren_eq (plainL_u8 _) hap | refine And.intro ?_ ?_ | fail)) <;> first | rfl | exact ren_eq (by first | (simp; done) | fail) (by first | rfl | fail) | fail
  ·
   obtain rfl : i = ps.length := by omega
   have hlt : decide ((ps.length : Int) < (ps.length : Int)) = false := by simp
   conv => whnf
   first | refine brF (by exact hlt) ?_ | fail
   conv => whnf
   repeat (fail)
   refine ⟨[0, 1, 2], ?_, rfl, rfl, ?_, rfl⟩
   ·
    (repeat' (fail)) <;> first | rfl | fail
   ·
    (repeat' (first | exact trivial | refine And.intro ?_ ?_ | fail)) <;> first | rfl | exact ren_eq (by first | (simp; done) | fail) (by first | rfl | fail) | fail
theorem f52 (ps : List Part) (hn : ps.length < 1000000000000000) (hT : ∀ p ∈ ps, p.2.2.length < 1000000000000000) (most : Nat) (hm : most < 1000000) (fl : Bool) : SCall Try.prog 52 [.sl 0 0 ps.length 1 fl, .i (most : Int)] [some (.ro (ps.map pLit)), some (.ext (.fam (ps.map pFe)))] (.b (decide (((ps.length + (pTx ps ps.length).length : Nat) : Int) > (most : Int)))) [some (.ro (ps.map pLit)), some (.ext (.fam (ps.map pFe)))] := by
 refine scall_of ttOk (by kernel_rfl : Try.prog.funcs[52]? = some Try.f52) rfl rfl rfl ?_
 try simp only [List.length_cons, List.length_nil, Nat.zero_add, Nat.reduceAdd]
 refine sw_ok ttOk mixed (by kernel_rfl) ?_
 conv => whnf
 repeat (fail)
 refine loop_rulex [5] ttOk mixed (by kernel_rfl) (ι := { i : Nat // i ≤ ps.length }) (fun i => [(0, .sl 0 0 ps.length 1 fl), (1, .i (most : Int)), (5, .i ((ps.length + (pTx ps i.1).length : Nat) : Int)), (6, .i (i.1 : Int))]) (fun i => [some (.ro (ps.map pLit)), some (.ext (.fam (ps.map pFe)))]) (fun _ => 2) (fun i => ps.length - i.1) ⟨0, by omega⟩ ?_ ?_
 ·
  have hz : ps.length + (pTx ps 0).length = ps.length := by rw [pTx_z]; rfl
  dsimp only
  rw [hz]
  refine Weak.sel [0, 1] rfl rfl ?_ ?_ rfl rfl
  ·
   (repeat' (first | exact trivial | refine And.intro ?_ ?_ | fail)) <;> first | rfl | fail
  ·
   (repeat' (first | exact trivial | refine And.intro ?_ ?_ | fail)) <;> first | rfl | exact ren_eq (by first | (simp; done) | fail) (by first | rfl | fail) | fail
 ·
  rintro ⟨i, hi⟩
  dsimp only
  have hle := pTx_le ps i
  obtain ⟨y, hy⟩ : ∃ y, y = (pTx ps i).length := ⟨_, rfl⟩
  rw [← hy] at hle ⊢
  by_cases hi2 : i < ps.length
  ·
   have hlt : decide ((i : Int) < (ps.length : Int)) = true := by simp; omega
   by_cases hmo : ps.length + y ≤ most
   ·
    have hle2 : decide (((ps.length + y : Nat) : Int) ≤ (most : Int)) = true := by simp; omega
    obtain ⟨p, hp⟩ : ∃ p, ps[i]? = some p := ⟨_, List.getElem?_eq_getElem hi2⟩
    have hld := sload_lit hp
    have hmem : pFe p ∈ ps.map pFe := List.mem_map_of_mem (List.mem_of_getElem? hp)
    have htxs := pTx_s hp
    have hle1 := pTx_le ps (i + 1)
    have hp1 : w64 ((i : Int) + 1) = ((i + 1 : Nat) : Int) := by simp only [w64_eq]; omega
    have hbl := hT p (List.mem_of_getElem? hp)
    obtain ⟨pv, prb, b⟩ := p
    dsimp only at htxs hbl
    have hl : (pTx ps (i + 1)).length = y + b.length := by rw [htxs, List.length_append, hy]
    have hp2 : w64 (((ps.length + y : Nat) : Int) + (b.length : Int)) = ((ps.length + (y + b.length) : Nat) : Int) := by simp only [w64_eq]; omega
    conv => whnf
    repeat (first | (refine gdT hlt ?_; conv => whnf) | (refine pkT hlt ?_; conv => whnf) | (refine gdT hle2 ?_; conv => whnf) | fail)
    refine swp_sops rfl ?_
    refine sops_pre (pre := [_, _, _, _, _]) ttOk (by kernel_rfl) ?_
    conv => whnf
    repeat (first | (refine Exists.intro _ (And.intro (hld) ?_); conv => whnf) | (refine Exists.intro _ (And.intro rfl ?_); conv => whnf) | (refine And.intro (by first | omega | fail) ?_; conv => whnf) | fail)
    refine sops_p 24 1 rfl hmem rfl ?_
    refine sops_end ttOk (by kernel_rfl) ?_
    conv => whnf
    repeat (fail)
    refine ⟨⟨i + 1, by omega⟩, by simp only; omega, ?_⟩
    dsimp only
    rw [hl]
    refine Weak.sel [0, 1] rfl rfl ?_ ?_ rfl rfl
    ·
     (repeat' (first | exact trivial | refine And.intro ?_ ?_ | fail)) <;> first | exact wk_i (by first | exact hp1 | exact hp1.symm | exact hp2.symm | fail) | rfl | fail
    ·
     (repeat' (first | exact trivial | refine And.intro ?_ ?_ | fail)) <;> first | rfl | exact ren_eq (by first | (simp; done) | fail) (by first | rfl | fail) | fail
   ·
    have hle2 : decide (((ps.length + y : Nat) : Int) ≤ (most : Int)) = false := by simp; omega
    have hr : decide (((ps.length + (pTx ps ps.length).length : Nat) : Int) > (most : Int)) = decide (((ps.length + y : Nat) : Int) > (most : Int)) := by
     rw [decide_eq_true (by omega), decide_eq_true (by omega)]
    rw [hr]
    conv => whnf
    repeat (first | (refine gdT hlt ?_; conv => whnf) | (refine pkT hlt ?_; conv => whnf) | (refine gdF hle2 ?_; conv => whnf) | fail)
    refine ⟨[0, 1], ?_, rfl, rfl, ?_, rfl⟩
    ·
     (repeat' (fail)) <;> first | rfl | fail
    ·
     (repeat' (first | exact trivial | refine And.intro ?_ ?_ | fail)) <;> first | rfl | exact ren_eq (by first | (simp; done) | fail) (by first | rfl | fail) | fail
  ·
   obtain rfl : i = ps.length := by omega
   have hlt : decide ((ps.length : Int) < (ps.length : Int)) = false := by simp
   rw [← hy]
   conv => whnf
   repeat (first | (refine brF rfl ?_; conv => whnf) | (refine gdF hlt ?_; conv => whnf) | (refine pkF hlt ?_; conv => whnf) | fail)
   refine ⟨[0, 1], ?_, rfl, rfl, ?_, rfl⟩
   ·
    (repeat' (fail)) <;> first | rfl | fail
   ·
    (repeat' (first | exact trivial | refine And.intro ?_ ?_ | fail)) <;> first | rfl | exact ren_eq (by first | (simp; done) | fail) (by first | rfl | fail) | fail
end Go.Sh
namespace Go.Sh
theorem rels_same {ρ : Ren} {xs : List SV} {vs : List Value} {k : Nat} {x y : SV} (h : Rels ρ xs vs) (hk : xs[k]? = some x) (hy : ∀ v, Rel ρ x v → Rel ρ y v) : Rels ρ (xs.set k y) vs := by
 obtain ⟨v, hv, hr⟩ := h.get hk
 have h2 := h.set (k := k) (hy v hr)
 have e : vs.set k v = vs := by
  apply List.ext_getElem?
  intro j
  rw [List.getElem?_set]
  by_cases hj : k = j
  ·
   subst hj
   obtain ⟨hlt, e⟩ := List.getElem?_eq_some_iff.1 hv
   rw [if_pos rfl, if_pos hlt, hv]
  ·
   rw [if_neg hj]
 rwa [e] at h2
theorem atoms_set {xs : List SV} {k : Nat} {x : SV} (h : atoms xs = true) (hx : x.atom = true) : atoms (xs.set k x) = true := by
 unfold atoms at *
 rw [List.all_eq_true] at *
 intro y hy
 rcases List.mem_or_eq_of_mem_set hy with h2 | h2
 ·
  exact h y h2
 ·
  rw [h2]; exact hx
theorem Weak.cell {A : Nat} {R : RL} {H : HL} {L : Nat} (q k : Nat) (x y : SV) {l : List SV} (hq : hk H q = some (.box l)) (hx : l[k]? = some x) (ha : y.atom = true) (hL : H.length ≤ L)
  (hy : ∀ ρ w, HRel ρ (hg H) w → ∀ v, Rel ρ x v → Rel ρ y v) : Weak A R H L R (hupd H [(q, some (.box (l.set k y)))]) L := by
 intro N B ρ a w hs hl
 have hq0 := hq
 rw [hk_eq] at hq
 have hg2 : ∀ id, hg (hupd H [(q, some (.box (l.set k y)))]) id = if id = q then some (.box (l.set k y)) else hg H id := fun id => by
  rw [hg_hupd]
  by_cases h : id = q
  ·
   subst h; simp [updW]
  ·
   have : (id == q) = false := by simpa using h
   simp [updW, List.lookup_cons, this, h]
 have hf : ∀ rb kk o, foot rb (.box (l.set k y)) kk o ↔ foot rb (.box l) kk o := fun rb kk o => by simp only [foot, List.length_set]
 have hown : ∀ kk o, Owned ρ (hg (hupd H [(q, some (.box (l.set k y)))])) kk o → Owned ρ (hg H) kk o := by
  rintro kk o ⟨id, b, rb, h1, h2, h3, h4⟩
  rw [hg2] at h1
  by_cases h : id = q
  ·
   rw [if_pos h] at h1; cases h1; subst h; exact ⟨id, _, rb, hq, h2, rfl, (hf _ _ _).1 h4⟩
  ·
   rw [if_neg h] at h1; exact ⟨id, b, rb, h1, h2, h3, h4⟩
 refine ⟨ρ, ⟨hs.size, hs.regs, ?_, ?_, hs.fresh, hs.dfr⟩, ?_, ⟨fun id _ rb h => h, Fr.refl _ _, fun kk o h => .inl (hown kk o h)⟩⟩
 ·
  intro id b hb
  rw [hg2] at hb
  by_cases h : id = q
  ·
   rw [if_pos h] at hb; cases hb; subst h
   obtain ⟨rb, h1, ⟨c, t, fz, g1, g2, g3, g4, g5⟩, g6, g7⟩ := hs.heap id _ hq
   refine ⟨rb, h1, ⟨c, t, fz, g1, atoms_set g2 ha, ?_, g4, by rw [List.length_set]; exact g5⟩, by rw [List.length_set]; exact g6, g7⟩
   rw [List.length_set]
   exact rels_same g3 hx (hy ρ w hs.heap)
  ·
   rw [if_neg h] at hb; exact hs.heap id b hb
 ·
  intro i j bi bj ri rj hne hi hj hri hrj hb kk o ⟨hfi, hfj⟩
  rw [hg2] at hi hj
  by_cases h1 : i = q
  ·
   rw [if_pos h1] at hi; cases hi
   rw [if_neg (fun e => hne (by rw [h1, e]))] at hj
   subst h1
   exact hs.sep i j _ bj ri rj hne hq hj hri hrj rfl kk o ⟨(hf _ _ _).1 hfi, hfj⟩
  ·
   rw [if_neg h1] at hi
   by_cases h2 : j = q
   ·
    rw [if_pos h2] at hj; cases hj
    subst h2
    exact hs.sep i j bi _ ri rj hne hi hq hri hrj hb kk o ⟨hfi, (hf _ _ _).1 hfj⟩
   ·
    rw [if_neg h2] at hj
    exact hs.sep i j bi bj ri rj hne hi hj hri hrj hb kk o ⟨hfi, hfj⟩
 ·
  have := hk_lt hl hq0
  exact hupd_le hL (fun id ob hm => by simp at hm; omega)
theorem Weak.virt0 {A : Nat} {R : RL} {H : HL} {L : Nat} (ty : Nat) : Weak A R H L R (hupd H [(L, some (.row ty []))]) (L + 1) := by
 intro N B ρ a w hs hl
 have hc := Chg.virtual (ρ := ρ) (H := hg H) (w := w) (t := ty) (hs.fresh L (Nat.le_refl _))
 have hev := hc.evo (H := hg H) (fun _ _ _ => rfl) hs.heap hs.sep
 rw [← hg_hupd] at hev
 refine ⟨_, ⟨hs.size, fun t v hv => (hs.regs t v hv).ext hev.ext, hev.heap, hev.sep, ?_, hs.dfr⟩, ?_, hev.ev.toA⟩
 ·
  intro id hid
  rw [setR_other _ _ (by omega)]
  exact hs.fresh id (by omega)
 ·
  exact hupd_le (by omega) (fun id ob hm => by simp at hm; omega)
theorem Weak.virtB {A : Nat} {R : RL} {H : HL} {L : Nat} (q k ty sz : Nat) {l : List SV} {H2 : HL} (hH2 : hupd H [(L, some (.row ty []))] = H2) (hl2 : Nat.ble H2.length (L + 1) = true) (hL : hk H2 L = some (.row ty [])) (hq : hk H2 q = some (.box l)) (hx : l[k]? = some .slnil) : Weak A R H L R (hupd H2 [(q, some (.box (l.set k (.sl L 0 0 sz false))))]) (L + 1) := by
 subst hH2
 refine (Weak.virt0 ty).trans (Weak.cell q k .slnil _ hq hx rfl (Nat.le_of_ble_eq_true hl2) ?_)
 intro ρ w hH v hv
 simp only [Rel] at hv ⊢
 rw [hk_eq] at hL
 obtain ⟨rb, h1, _⟩ := hH L _ hL
 exact ⟨rb, none, 0, h1, hv, Nat.le_refl _, fun h => (by cases h), .inl rfl⟩
end Go.Sh
