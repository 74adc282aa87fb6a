/- aes's reference: S (f44), under way. -/
import Derived.Test.YtaknbogocnkmnaaE6
namespace Go.Sh
open Go.Proofs
set_option maxHeartbeats 8000000
set_option linter.unusedSimpArgs false

/-- What b is multiplied by to 1, of the first i bytes. -/
def ySt (b : UInt8) : Nat → UInt8
  | 0 => 0
  | i + 1 => if tmSt 8 0 b (u8i ((i + 1 : Nat) : Int)) = 1 then u8i ((i + 1 : Nat) : Int) else ySt b i

def yAll (b : UInt8) (i : Nat) : UInt8 := if b = 0 then 0 else ySt b i
theorem w6_u8 (i : Nat) (h : i ≤ 255) : UInt8.ofNat ((i : Int) % 256).toNat = UInt8.ofNat i := by
  rw [show ((i : Int) % 256).toNat = i by omega]

theorem tmod_n6 (n k : Nat) : ((n : Int)).tmod (k : Int) = ((n % k : Nat) : Int) := by rw [Int.tmod_eq_emod_of_nonneg (by omega)]; omega
theorem f82z (b : UInt8) (z : Int) (n : Nat) (hz : z = n) (h : n ≤ 7) : SCall Try.prog 82 [.u8 b, .i z] [] (.i ((b / pow2 n % 2).toNat : Int)) [] := by subst hz; exact f82 b n h
theorem w6_k (i k : Nat) (hi : i ≤ 8) (hk : k ≤ 8) : (w64 ((i : Int) + (k : Int))).tmod 8 = (((i + k) % 8 : Nat) : Int) := by
  rw [show w64 ((i : Int) + (k : Int)) = ((i + k : Nat) : Int) by simp only [w64_eq]; omega]
  exact tmod_n6 (i + k) 8
def bitN (y : UInt8) (k : Nat) : Nat := (y / pow2 k % 2).toNat
/-- How many of the bits that a bit is the sum of stand. -/
def cntN (y : UInt8) (i : Nat) : Nat := bitN y ((i + 0) % 8) + bitN y ((i + 4) % 8) + bitN y ((i + 5) % 8) + bitN y ((i + 6) % 8) + bitN y ((i + 7) % 8) + bitN 99 i
def obSt (y : UInt8) : Nat → UInt8
  | 0 => 0
  | i + 1 => if cntN y i % 2 = 1 then obSt y i + pow2 i else obSt y i

theorem w6_add (n a : Nat) (h : n ≤ 10) (ha : a ≤ 1) : w64 ((n : Int) + (a : Int)) = ((n + a : Nat) : Int) := by simp only [w64_eq]; omega
theorem w6_six (a b c d e f : Nat) (ha : a ≤ 1) (hb : b ≤ 1) (hc : c ≤ 1) (hd : d ≤ 1) (he : e ≤ 1) (hf : f ≤ 1) : (w64 (w64 (w64 (w64 (w64 (w64 (0 + (a : Int)) + (b : Int)) + (c : Int)) + (d : Int)) + (e : Int)) + (f : Int))).tmod 2 = (((a + b + c + d + e + f) % 2 : Nat) : Int) := by
  rw [show (0 : Int) + (a : Int) = ((0 + a : Nat) : Int) by omega, show w64 ((0 + a : Nat) : Int) = ((0 + a : Nat) : Int) by simp only [w64_eq]; omega]
  rw [w6_add _ b (by omega) hb, w6_add _ c (by omega) hc, w6_add _ d (by omega) hd, w6_add _ e (by omega) he, w6_add _ f (by omega) hf, Nat.zero_add]
  exact tmod_n6 _ 2
theorem bitN_le (y : UInt8) (k : Nat) : bitN y k ≤ 1 := by
  unfold bitN
  rw [UInt8.toNat_mod]
  show (y / pow2 k).toNat % 2 ≤ 1
  omega
theorem w6_cnt (y : UInt8) (i : Nat) : (w64 (w64 (w64 (w64 (w64 (w64 (0 + ((y / pow2 ((i + 0) % 8) % 2).toNat : Int)) + ((y / pow2 ((i + 4) % 8) % 2).toNat : Int)) + ((y / pow2 ((i + 5) % 8) % 2).toNat : Int)) + ((y / pow2 ((i + 6) % 8) % 2).toNat : Int)) + ((y / pow2 ((i + 7) % 8) % 2).toNat : Int)) + ((99 / pow2 i % 2 : UInt8).toNat : Int))).tmod 2 = ((cntN y i % 2 : Nat) : Int) :=
  w6_six _ _ _ _ _ _ (bitN_le y _) (bitN_le y _) (bitN_le y _) (bitN_le y _) (bitN_le y _) (bitN_le 99 _)

theorem f44 (b : UInt8) : SCall Try.prog 44 [.u8 b] [] (.u8 (obSt (yAll b 255) 8)) [] := by
  refine scall_of ttOk (by kernel_rfl : Try.prog.funcs[44]? = some Try.f44) rfl rfl rfl ?_
  refine sw_ok ttOk mixed (by kernel_rfl) ?_
  conv => whnf
  refine loop_rule ttOk mixed (by kernel_rfl) (ι := { i : Nat // i ≤ 255 ∧ (b = 0 → i = 0) }) (fun i => [(0, .u8 b), (3, .u8 (yAll b i.1)), (4, .i ((i.1 + 1 : Nat) : Int))]) (fun _ => []) (fun _ => 0) (fun i => 255 - i.1) ⟨0, by omega, fun _ => rfl⟩ ?_ ?_
  · refine Weak.sel [] rfl rfl ?_ ?_ rfl rfl
    · (repeat' (first | exact trivial | refine And.intro ?_ ?_ | fail)) <;> first | rfl | exact wk_u8 (by first | (simp [yAll, ySt]; done) | fail) | fail
    · (repeat' (first | exact trivial | fail)) <;> fail
  · rintro ⟨i, hi, hb0⟩
    dsimp only
    by_cases hb : b = 0
    · subst hb
      obtain rfl : i = 0 := hb0 rfl
      have hlt : decide (((0 + 1 : Nat) : Int) < 256) = true := by decide
      have hb2 : decide ((0 : UInt8) > 0) = false := by decide
      have hy0 : yAll 0 255 = 0 := if_pos rfl
      have hy1 : yAll 0 0 = 0 := if_pos rfl
      simp only [hy0, hy1]
      conv => whnf
      refine gdT (by exact hlt) ?_
      conv => whnf
      refine gdT (by exact hlt) ?_
      conv => whnf
      refine pkT (by exact hlt) ?_
      conv => whnf
      refine brF (by exact hb2) ?_
      conv => whnf
      refine loop_rule ttOk mixed (by kernel_rfl) (ι := { i : Nat // i ≤ 8 }) (fun i => [(3, .u8 (0)), (5, .u8 (obSt (0) i.1)), (6, .i (i.1 : Int))]) (fun _ => []) (fun _ => 0) (fun i => 8 - i.1) ⟨0, by omega⟩ ?_ ?_
      · refine Weak.sel [] rfl rfl ?_ ?_ rfl rfl
        · (repeat' (first | exact trivial | refine And.intro ?_ ?_ | fail)) <;> first | rfl | fail
        · (repeat' (first | exact trivial | fail)) <;> fail
      · rintro ⟨i, hi⟩
        dsimp only
        by_cases hi3 : i < 8
        · have hlt : decide ((i : Int) < 8) = true := by simp; omega
          have hp1 := w6_p1 i (by omega)
          conv => whnf
          refine brT (by exact hlt) ?_
          conv => whnf
          repeat (first | (refine Exists.intro _ (And.intro rfl ?_); conv => whnf) | fail)
          refine loop_rounds ttOk mixed (by kernel_rfl) 6 ?_
          conv => whnf
          repeat (first | (refine brT rfl ?_; conv => whnf) | (refine Exists.intro _ (And.intro rfl ?_); conv => whnf) | (refine And.intro (by first | omega | fail) ?_; conv => whnf) | fail)
          refine ok1_callP [] (f82z (0) ((w64 ((i : Int) + 0)).tmod 8) ((i + 0) % 8) (w6_k i 0 (by omega) (by omega)) (by omega)) rfl rfl ⟨⟨rfl, by first | rfl | fail⟩, trivial, by first | rfl | fail, ?_⟩
          conv => whnf
          repeat (first | (refine brT rfl ?_; conv => whnf) | (refine Exists.intro _ (And.intro rfl ?_); conv => whnf) | (refine And.intro (Nat.le_of_ble_eq_true rfl) ?_; conv => whnf) | fail)
          refine ok1_callP [] (f82z (0) ((w64 ((i : Int) + 4)).tmod 8) ((i + 4) % 8) (w6_k i 4 (by omega) (by omega)) (by omega)) rfl rfl ⟨⟨rfl, by first | rfl | fail⟩, trivial, by first | rfl | fail, ?_⟩
          conv => whnf
          repeat (first | (refine brT rfl ?_; conv => whnf) | (refine Exists.intro _ (And.intro rfl ?_); conv => whnf) | (refine And.intro (Nat.le_of_ble_eq_true rfl) ?_; conv => whnf) | fail)
          refine ok1_callP [] (f82z (0) ((w64 ((i : Int) + 5)).tmod 8) ((i + 5) % 8) (w6_k i 5 (by omega) (by omega)) (by omega)) rfl rfl ⟨⟨rfl, by first | rfl | fail⟩, trivial, by first | rfl | fail, ?_⟩
          conv => whnf
          repeat (first | (refine brT rfl ?_; conv => whnf) | (refine Exists.intro _ (And.intro rfl ?_); conv => whnf) | (refine And.intro (Nat.le_of_ble_eq_true rfl) ?_; conv => whnf) | fail)
          refine ok1_callP [] (f82z (0) ((w64 ((i : Int) + 6)).tmod 8) ((i + 6) % 8) (w6_k i 6 (by omega) (by omega)) (by omega)) rfl rfl ⟨⟨rfl, by first | rfl | fail⟩, trivial, by first | rfl | fail, ?_⟩
          conv => whnf
          repeat (first | (refine brT rfl ?_; conv => whnf) | (refine Exists.intro _ (And.intro rfl ?_); conv => whnf) | (refine And.intro (Nat.le_of_ble_eq_true rfl) ?_; conv => whnf) | fail)
          refine ok1_callP [] (f82z (0) ((w64 ((i : Int) + 7)).tmod 8) ((i + 7) % 8) (w6_k i 7 (by omega) (by omega)) (by omega)) rfl rfl ⟨⟨rfl, by first | rfl | fail⟩, trivial, by first | rfl | fail, ?_⟩
          conv => whnf
          repeat (first | (refine brF rfl ?_; conv => whnf) | fail)
          refine ok1_callP [] (f82 99 i (by omega)) rfl rfl ⟨⟨rfl, by first | rfl | fail⟩, trivial, by first | rfl | fail, ?_⟩
          conv => whnf
          have hcn := w6_cnt (0) i
          by_cases h1 : cntN (0) i % 2 = 1
          · have ht : obSt (0) (i + 1) = obSt (0) i + pow2 i := by simp only [obSt, if_pos h1]
            rw [h1] at hcn
            repeat (first | (refine Exists.intro _ (And.intro rfl ?_); conv => whnf) | fail)
            refine brT (by rw [hcn]; rfl) ?_
            conv => whnf
            refine ok1_callP [] (f83 i (by omega)) rfl rfl ⟨⟨rfl, by first | rfl | fail⟩, trivial, by first | rfl | fail, ?_⟩
            conv => whnf
            repeat (fail)
            refine ⟨⟨i + 1, by omega⟩, by simp only; omega, ?_⟩
            refine Weak.sel [] rfl rfl ?_ ?_ rfl rfl
            · (repeat' (first | exact trivial | refine And.intro ?_ ?_ | fail)) <;> first | rfl | exact wk_i (by first | rfl | exact hp1.symm | fail) | exact wk_u8 (by first | exact ht | fail) | fail
            · (repeat' (first | exact trivial | fail)) <;> fail
          · have ht : obSt (0) (i + 1) = obSt (0) i := by simp only [obSt, if_neg h1]
            rw [show cntN (0) i % 2 = 0 by omega] at hcn
            repeat (first | (refine Exists.intro _ (And.intro rfl ?_); conv => whnf) | fail)
            refine brF (by rw [hcn]; rfl) ?_
            conv => whnf
            repeat (fail)
            refine ⟨⟨i + 1, by omega⟩, by simp only; omega, ?_⟩
            refine Weak.sel [] rfl rfl ?_ ?_ rfl rfl
            · (repeat' (first | exact trivial | refine And.intro ?_ ?_ | fail)) <;> first | rfl | exact wk_i (by first | rfl | exact hp1.symm | fail) | exact wk_u8 (by first | exact ht | fail) | fail
            · (repeat' (first | exact trivial | fail)) <;> fail
        · obtain rfl : i = 8 := by omega
          conv => whnf
          refine brF (by rfl) ?_
          conv => whnf
          repeat (fail)
          refine ⟨[], ?_, rfl, rfl, ?_, rfl⟩
          · (repeat' (fail)) <;> first | rfl | fail
          · (repeat' (first | exact trivial | fail)) <;> fail
    · have hb2 : decide (b > 0) = true := by
        have : b.toNat ≠ 0 := fun h => hb (UInt8.toNat_inj.mp h)
        simp only [decide_eq_true_eq]; show (0 : UInt8).toNat < b.toNat
        simp; omega
      by_cases hi2 : i < 255
      · have hlt : decide (((i + 1 : Nat) : Int) < 256) = true := by simp; omega
        have hp1 := w6_p1 (i + 1) (by omega)
        conv => whnf
        refine gdT (by exact hlt) ?_
        conv => whnf
        refine gdT (by exact hlt) ?_
        conv => whnf
        refine pkT (by exact hlt) ?_
        conv => whnf
        refine brT (by exact hb2) ?_
        conv => whnf
        repeat (fail)
        refine ok1_callP [] (f81 b (u8i ((i + 1 : Nat) : Int))) rfl rfl ⟨⟨rfl, by first | rfl | fail⟩, trivial, by first | rfl | fail, ?_⟩
        conv => whnf
        by_cases h1 : tmSt 8 0 b (u8i ((i + 1 : Nat) : Int)) = 1
        · have hy : yAll b (i + 1) = u8i ((i + 1 : Nat) : Int) := by simp only [yAll, ySt, if_neg hb, if_pos h1]
          have ht : (tmSt 8 0 b (u8i ((i + 1 : Nat) : Int)) == 1) = true := by rw [h1]; rfl
          refine brT (by exact ht) ?_
          conv => whnf
          refine ⟨⟨i + 1, by omega, fun h => absurd h hb⟩, by simp only; omega, ?_⟩
          refine Weak.sel [] rfl rfl ?_ ?_ rfl rfl
          · (repeat' (first | exact trivial | refine And.intro ?_ ?_ | fail)) <;> first | rfl | exact wk_i (by first | rfl | exact hp1.symm | fail) | exact wk_u8 (by first | exact hy | fail) | fail
          · (repeat' (first | exact trivial | fail)) <;> fail
        · have hy : yAll b (i + 1) = yAll b i := by simp only [yAll, ySt, if_neg hb, if_neg h1]
          have ht : (tmSt 8 0 b (u8i ((i + 1 : Nat) : Int)) == 1) = false := beq_eq_false_iff_ne.mpr h1
          refine brF (by exact ht) ?_
          conv => whnf
          refine ⟨⟨i + 1, by omega, fun h => absurd h hb⟩, by simp only; omega, ?_⟩
          refine Weak.sel [] rfl rfl ?_ ?_ rfl rfl
          · (repeat' (first | exact trivial | refine And.intro ?_ ?_ | fail)) <;> first | rfl | exact wk_i (by first | rfl | exact hp1.symm | fail) | exact wk_u8 (by first | exact hy | fail) | fail
          · (repeat' (first | exact trivial | fail)) <;> fail
      · obtain rfl : i = 255 := by omega
        have hlf : decide (((255 + 1 : Nat) : Int) < 256) = false := by decide
        conv => whnf
        refine gdF (by exact hlf) ?_
        conv => whnf
        refine gdF (by exact hlf) ?_
        conv => whnf
        refine pkF (by exact hlf) ?_
        conv => whnf
        refine brF (by rfl) ?_
        conv => whnf
        refine loop_rule ttOk mixed (by kernel_rfl) (ι := { i : Nat // i ≤ 8 }) (fun i => [(3, .u8 (yAll b 255)), (5, .u8 (obSt (yAll b 255) i.1)), (6, .i (i.1 : Int))]) (fun _ => []) (fun _ => 0) (fun i => 8 - i.1) ⟨0, by omega⟩ ?_ ?_
        · refine Weak.sel [] rfl rfl ?_ ?_ rfl rfl
          · (repeat' (first | exact trivial | refine And.intro ?_ ?_ | fail)) <;> first | rfl | fail
          · (repeat' (first | exact trivial | fail)) <;> fail
        · rintro ⟨i, hi⟩
          dsimp only
          by_cases hi3 : i < 8
          · have hlt : decide ((i : Int) < 8) = true := by simp; omega
            have hp1 := w6_p1 i (by omega)
            conv => whnf
            refine brT (by exact hlt) ?_
            conv => whnf
            repeat (first | (refine Exists.intro _ (And.intro rfl ?_); conv => whnf) | fail)
            refine loop_rounds ttOk mixed (by kernel_rfl) 6 ?_
            conv => whnf
            repeat (first | (refine brT rfl ?_; conv => whnf) | (refine Exists.intro _ (And.intro rfl ?_); conv => whnf) | (refine And.intro (by first | omega | fail) ?_; conv => whnf) | fail)
            refine ok1_callP [] (f82z (yAll b 255) ((w64 ((i : Int) + 0)).tmod 8) ((i + 0) % 8) (w6_k i 0 (by omega) (by omega)) (by omega)) rfl rfl ⟨⟨rfl, by first | rfl | fail⟩, trivial, by first | rfl | fail, ?_⟩
            conv => whnf
            repeat (first | (refine brT rfl ?_; conv => whnf) | (refine Exists.intro _ (And.intro rfl ?_); conv => whnf) | (refine And.intro (Nat.le_of_ble_eq_true rfl) ?_; conv => whnf) | fail)
            refine ok1_callP [] (f82z (yAll b 255) ((w64 ((i : Int) + 4)).tmod 8) ((i + 4) % 8) (w6_k i 4 (by omega) (by omega)) (by omega)) rfl rfl ⟨⟨rfl, by first | rfl | fail⟩, trivial, by first | rfl | fail, ?_⟩
            conv => whnf
            repeat (first | (refine brT rfl ?_; conv => whnf) | (refine Exists.intro _ (And.intro rfl ?_); conv => whnf) | (refine And.intro (Nat.le_of_ble_eq_true rfl) ?_; conv => whnf) | fail)
            refine ok1_callP [] (f82z (yAll b 255) ((w64 ((i : Int) + 5)).tmod 8) ((i + 5) % 8) (w6_k i 5 (by omega) (by omega)) (by omega)) rfl rfl ⟨⟨rfl, by first | rfl | fail⟩, trivial, by first | rfl | fail, ?_⟩
            conv => whnf
            repeat (first | (refine brT rfl ?_; conv => whnf) | (refine Exists.intro _ (And.intro rfl ?_); conv => whnf) | (refine And.intro (Nat.le_of_ble_eq_true rfl) ?_; conv => whnf) | fail)
            refine ok1_callP [] (f82z (yAll b 255) ((w64 ((i : Int) + 6)).tmod 8) ((i + 6) % 8) (w6_k i 6 (by omega) (by omega)) (by omega)) rfl rfl ⟨⟨rfl, by first | rfl | fail⟩, trivial, by first | rfl | fail, ?_⟩
            conv => whnf
            repeat (first | (refine brT rfl ?_; conv => whnf) | (refine Exists.intro _ (And.intro rfl ?_); conv => whnf) | (refine And.intro (Nat.le_of_ble_eq_true rfl) ?_; conv => whnf) | fail)
            refine ok1_callP [] (f82z (yAll b 255) ((w64 ((i : Int) + 7)).tmod 8) ((i + 7) % 8) (w6_k i 7 (by omega) (by omega)) (by omega)) rfl rfl ⟨⟨rfl, by first | rfl | fail⟩, trivial, by first | rfl | fail, ?_⟩
            conv => whnf
            repeat (first | (refine brF rfl ?_; conv => whnf) | fail)
            refine ok1_callP [] (f82 99 i (by omega)) rfl rfl ⟨⟨rfl, by first | rfl | fail⟩, trivial, by first | rfl | fail, ?_⟩
            conv => whnf
            have hcn := w6_cnt (yAll b 255) i
            by_cases h1 : cntN (yAll b 255) i % 2 = 1
            · have ht : obSt (yAll b 255) (i + 1) = obSt (yAll b 255) i + pow2 i := by simp only [obSt, if_pos h1]
              rw [h1] at hcn
              repeat (first | (refine Exists.intro _ (And.intro rfl ?_); conv => whnf) | fail)
              refine brT (by rw [hcn]; rfl) ?_
              conv => whnf
              refine ok1_callP [] (f83 i (by omega)) rfl rfl ⟨⟨rfl, by first | rfl | fail⟩, trivial, by first | rfl | fail, ?_⟩
              conv => whnf
              repeat (fail)
              refine ⟨⟨i + 1, by omega⟩, by simp only; omega, ?_⟩
              refine Weak.sel [] rfl rfl ?_ ?_ rfl rfl
              · (repeat' (first | exact trivial | refine And.intro ?_ ?_ | fail)) <;> first | rfl | exact wk_i (by first | rfl | exact hp1.symm | fail) | exact wk_u8 (by first | exact ht | fail) | fail
              · (repeat' (first | exact trivial | fail)) <;> fail
            · have ht : obSt (yAll b 255) (i + 1) = obSt (yAll b 255) i := by simp only [obSt, if_neg h1]
              rw [show cntN (yAll b 255) i % 2 = 0 by omega] at hcn
              repeat (first | (refine Exists.intro _ (And.intro rfl ?_); conv => whnf) | fail)
              refine brF (by rw [hcn]; rfl) ?_
              conv => whnf
              repeat (fail)
              refine ⟨⟨i + 1, by omega⟩, by simp only; omega, ?_⟩
              refine Weak.sel [] rfl rfl ?_ ?_ rfl rfl
              · (repeat' (first | exact trivial | refine And.intro ?_ ?_ | fail)) <;> first | rfl | exact wk_i (by first | rfl | exact hp1.symm | fail) | exact wk_u8 (by first | exact ht | fail) | fail
              · (repeat' (first | exact trivial | fail)) <;> fail
          · obtain rfl : i = 8 := by omega
            conv => whnf
            refine brF (by rfl) ?_
            conv => whnf
            repeat (fail)
            refine ⟨[], ?_, rfl, rfl, ?_, rfl⟩
            · (repeat' (fail)) <;> first | rfl | fail
            · (repeat' (first | exact trivial | fail)) <;> fail
end Go.Sh
