/- aes's reference: Box (f46). -/
import Derived.Test.YtaknbogocnkmnaaE7
import Derived.Test.YtaknbogocnkmnaaSh23
namespace Go.Sh
open Go.Proofs
set_option maxHeartbeats 8000000
set_option linter.unusedSimpArgs false

def upN : Nat → UInt8
  | 0 => 1
  | k + 1 => tmSt 8 0 (upN k) 3
def dnN : Nat → UInt8
  | 0 => 1
  | k + 1 => tmSt 8 0 (dnN k) 246
def invN : Nat → List UInt8
  | 0 => List.replicate 256 0
  | k + 1 => (invN k).set (upN k).toNat (dnN k)
theorem invN_len : ∀ k, (invN k).length = 256
  | 0 => List.length_replicate
  | k + 1 => by show ((invN k).set _ _).length = 256; rw [List.length_set]; exact invN_len k
/-- The inverse that the box is by. -/
def yB (i : Nat) : UInt8 := if i = 0 then 0 else (invN 255).getD i 0
def obB (i : Nat) : UInt8 := obSt (yB i) 8
def outB (i : Nat) : List UInt8 := fil 256 i obB (fun _ => 0)
theorem outB_len (i : Nat) : (outB i).length = 256 := fil_len ..
theorem w6_m8 : ∀ k j : Nat, k < 8 → j < 8 → (w64 ((k : Int) + (j : Int))).tmod 8 = (((k + j) % 8 : Nat) : Int) := fun k j hk hj => w6_k k j (by omega) (by omega)
theorem w6_cnt2 (y : UInt8) (i : Nat) : (w64 (w64 (w64 (w64 (w64 (((y / pow2 i % 2).toNat : Int) + ((y / pow2 ((i + 4) % 8) % 2).toNat : Int)) + ((y / pow2 ((i + 5) % 8) % 2).toNat : Int)) + ((y / pow2 ((i + 6) % 8) % 2).toNat : Int)) + ((y / pow2 ((i + 7) % 8) % 2).toNat : Int)) + ((99 / pow2 i % 2 : UInt8).toNat : Int))).tmod 2 = (((bitN y i + bitN y ((i + 4) % 8) + bitN y ((i + 5) % 8) + bitN y ((i + 6) % 8) + bitN y ((i + 7) % 8) + bitN 99 i) % 2 : Nat) : Int) := by
  have h := w6_six _ _ _ _ _ _ (bitN_le y i) (bitN_le y ((i + 4) % 8)) (bitN_le y ((i + 5) % 8)) (bitN_le y ((i + 6) % 8)) (bitN_le y ((i + 7) % 8)) (bitN_le 99 i)
  have e : w64 (0 + ((bitN y i : Nat) : Int)) = ((bitN y i : Nat) : Int) := by
    have := bitN_le y i
    rw [Int.zero_add]; simp only [w64_eq]; omega
  rw [e] at h
  exact h
theorem cntN_8 (y : UInt8) (i : Nat) (h : i < 8) : cntN y i = bitN y i + bitN y ((i + 4) % 8) + bitN y ((i + 5) % 8) + bitN y ((i + 6) % 8) + bitN y ((i + 7) % 8) + bitN 99 i := by
  unfold cntN; rw [Nat.add_zero, Nat.mod_eq_of_lt h]

theorem upN_z : upN 0 = 1 := rfl
theorem upN_s (k : Nat) : upN (k + 1) = tmSt 8 0 (upN k) 3 := rfl
theorem dnN_z : dnN 0 = 1 := rfl
theorem dnN_s (k : Nat) : dnN (k + 1) = tmSt 8 0 (dnN k) 246 := rfl
theorem invN_z : invN 0 = List.replicate 256 0 := rfl
theorem invN_s (k : Nat) : invN (k + 1) = (invN k).set (upN k).toNat (dnN k) := rfl
theorem outB_z : outB 0 = List.replicate 256 0 := fil_zero ..
theorem outB_s (i : Nat) (h : i < 256) : (outB i).set i (obSt (yB i) 8) = outB (i + 1) := fil_set h
theorem outB_0 (i : Nat) (h : i < 256) : (outB i).set i (obSt (yB i) 0) = outB i := fil_same h rfl
theorem obSt_1 {y : UInt8} {k : Nat} (h : cntN y k % 2 = 1) : obSt y (k + 1) = obSt y k + pow2 k := by simp only [obSt, if_pos h]
theorem obSt_0 {y : UInt8} {k : Nat} (h : ¬ cntN y k % 2 = 1) : obSt y (k + 1) = obSt y k := by simp only [obSt, if_neg h]
theorem yB_0 (i : Nat) (h : i = 0) : yB i = 0 := if_pos h
theorem yB_1 (i : Nat) (h : ¬ i = 0) : yB i = (invN 255).getD i 0 := if_neg h
attribute [local irreducible] upN dnN invN outB yB obSt

theorem f46 : SCall Try.prog 46 [] [] (.sl 0 0 256 1 true) [some (.row 5 ((outB 256).map .u8))] := by
  refine scall_of ttOk (by kernel_rfl : Try.prog.funcs[46]? = some Try.f46) rfl rfl rfl ?_
  refine sw_ok ttOk mixed (by kernel_rfl) ?_
  conv => whnf
  repeat (first | (refine And.intro ⟨by first | omega | fail, by first | decide | fail⟩ ?_; conv => whnf) | fail)
  refine loop_rule ttOk mixed (by kernel_rfl) (ι := { k : Nat // k ≤ 255 }) (fun k => [(1, .sl 0 0 256 1 true), (2, .u8 (upN k.1)), (3, .u8 (dnN k.1)), (4, .i (k.1 : Int))]) (fun k => [some (.row 5 ((invN k.1).map .u8))]) (fun _ => 1) (fun k => 255 - k.1) ⟨0, by omega⟩ ?_ ?_
  · dsimp only
    rw [upN_z, dnN_z, invN_z]
    refine Weak.sel [0] rfl rfl ?_ ?_ rfl rfl
    · (repeat' (first | exact trivial | refine And.intro ?_ ?_ | fail)) <;> first | rfl | fail
    · (repeat' (first | exact trivial | exact ren_z8 | refine And.intro ?_ ?_ | fail)) <;> first | rfl | fail
  · rintro ⟨k, hk⟩
    have hl := invN_len k
    dsimp only
    conv => whnf
    refine ⟨fun hc => ?_, fun hc => ?_⟩
    · have hk2 : k < 255 := by simp at hc; omega
      have hp1 := w6_p1 k (by omega)
      have hu : (upN k).toNat < 256 := UInt8.toNat_lt _
      conv => whnf
      repeat (first | (refine Exists.intro _ (And.intro (sput_m8 (i := (upN k).toNat) (by first | rfl | omega | fail)) ?_); conv => whnf) | (refine Exists.intro _ (And.intro rfl ?_); conv => whnf) | (refine And.intro (by first | omega | (simp; omega) | fail) ?_; conv => whnf) | fail)
      refine ok1_callP [] (f81 (upN k) 3) rfl rfl ⟨⟨rfl, by first | rfl | fail⟩, trivial, by first | rfl | fail, ?_⟩
      conv => whnf
      repeat (fail)
      refine ok1_callP [] (f81 (dnN k) 246) rfl rfl ⟨⟨rfl, by first | rfl | fail⟩, trivial, by first | rfl | fail, ?_⟩
      conv => whnf
      repeat (fail)
      refine ⟨⟨k + 1, by omega⟩, by simp only; omega, ?_⟩
      refine Weak.sel [0] rfl rfl ?_ ?_ rfl rfl
      · (repeat' (first | exact trivial | refine And.intro ?_ ?_ | fail)) <;> first | rfl | exact wk_i (by first | rfl | exact hp1.symm | fail) | exact wk_u8 (by first | (simp [hp1, upN_s, dnN_s, invN_s]; done) | fail) | fail
      · (repeat' (first | exact trivial | refine And.intro ?_ ?_ | fail)) <;> first | rfl | exact ren_eq (by first | (simp; done) | fail) (by first | (simp [hp1, upN_s, dnN_s, invN_s]; done) | fail) | fail
    · obtain rfl : k = 255 := by simp at hc; omega
      conv => whnf
      repeat (first | (refine And.intro ⟨by first | omega | fail, by first | decide | fail⟩ ?_; conv => whnf) | fail)
      refine loop_rule ttOk mixed (by kernel_rfl) (ι := { i : Nat // i ≤ 256 }) (fun i => [(1, .sl 0 0 256 1 true), (5, .sl 1 0 256 1 true), (6, .i (i.1 : Int))]) (fun i => [some (.row 5 ((invN 255).map .u8)), some (.row 5 ((outB i.1).map .u8))]) (fun _ => 2) (fun i => 256 - i.1) ⟨0, by omega⟩ ?_ ?_
      · dsimp only
        rw [outB_z]
        refine Weak.sel [0, 1] rfl rfl ?_ ?_ rfl rfl
        · (repeat' (first | exact trivial | refine And.intro ?_ ?_ | fail)) <;> first | rfl | fail
        · (repeat' (first | exact trivial | exact ren_z8 | refine And.intro ?_ ?_ | fail)) <;> first | rfl | exact ren_eq (by first | (simp; done) | fail) (by first | rfl | fail) | fail
      · rintro ⟨i, hi⟩
        have ho := outB_len i
        dsimp only
        by_cases hi2 : i < 256
        · have hlt : decide ((i : Int) < 256) = true := by simp; omega
          have hp1 := w6_p1 i (by omega)
          conv => whnf
          refine brT (by exact hlt) ?_
          conv => whnf
          repeat (first | (refine Exists.intro _ (And.intro (sload_u8 (i := i) (by first | rfl | omega | fail) (by first | omega | fail)) ?_); conv => whnf) | (refine Exists.intro _ (And.intro (idx_i (m := i) (by first | rfl | fail)) ?_); conv => whnf) | (refine And.intro (by first | omega | fail) ?_; conv => whnf) | fail)
          by_cases h0 : i = 0
          · have hy : yB i = 0 := by first | exact yB_0 i h0 | fail
            refine brT (by simp; omega) ?_
            conv => whnf
            repeat (fail)
            refine loop_rule ttOk mixed (by kernel_rfl) (ι := { k : Nat // k ≤ 8 }) (fun k => [(1, .sl 0 0 256 1 true), (5, .sl 1 0 256 1 true), (6, .i (i : Int)), (7, .u8 (yB i)), (8, .i (k.1 : Int))]) (fun k => [some (.row 5 ((invN 255).map .u8)), some (.row 5 (((outB i).set i (obSt (yB i) k.1)).map .u8))]) (fun _ => 2) (fun k => 8 - k.1) ⟨0, by omega⟩ ?_ ?_
            · have hs : (outB i).set i (obSt (yB i) 0) = outB i := outB_0 i hi2
              refine Weak.sel [0, 1] rfl rfl ?_ ?_ rfl rfl
              · (repeat' (first | exact trivial | refine And.intro ?_ ?_ | fail)) <;> first | rfl | exact wk_u8 (by first | exact hy | fail) | fail
              · (repeat' (first | exact trivial | refine And.intro ?_ ?_ | fail)) <;> first | rfl | exact ren_eq (by first | (simp; done) | fail) (by first | rfl | fail) | exact ren_m8 (by first | exact hs | fail) | fail
            · rintro ⟨k, hk⟩
              have hl2 : ((outB i).set i (obSt (yB i) k)).length = 256 := by simp [ho]
              dsimp only
              by_cases hk2 : k < 8
              · have hlt2 : decide ((k : Int) < 8) = true := by simp; omega
                have hp2 := w6_p1 k (by omega)
                conv => whnf
                refine brT (by exact hlt2) ?_
                conv => whnf
                refine ok1_callP [] (f82 (yB i) k (by omega)) rfl rfl ⟨⟨rfl, by first | rfl | fail⟩, trivial, by first | rfl | fail, ?_⟩
                conv => whnf
                repeat (first | (refine Exists.intro _ (And.intro rfl ?_); conv => whnf) | fail)
                refine ok1_callP [] (f82z (yB i) ((w64 ((k : Int) + 4)).tmod 8) ((k + 4) % 8) (w6_m8 k 4 (by omega) (by omega)) (by omega)) rfl rfl ⟨⟨rfl, by first | rfl | fail⟩, trivial, by first | rfl | fail, ?_⟩
                conv => whnf
                repeat (first | (refine Exists.intro _ (And.intro rfl ?_); conv => whnf) | fail)
                refine ok1_callP [] (f82z (yB i) ((w64 ((k : Int) + 5)).tmod 8) ((k + 5) % 8) (w6_m8 k 5 (by omega) (by omega)) (by omega)) rfl rfl ⟨⟨rfl, by first | rfl | fail⟩, trivial, by first | rfl | fail, ?_⟩
                conv => whnf
                repeat (first | (refine Exists.intro _ (And.intro rfl ?_); conv => whnf) | fail)
                refine ok1_callP [] (f82z (yB i) ((w64 ((k : Int) + 6)).tmod 8) ((k + 6) % 8) (w6_m8 k 6 (by omega) (by omega)) (by omega)) rfl rfl ⟨⟨rfl, by first | rfl | fail⟩, trivial, by first | rfl | fail, ?_⟩
                conv => whnf
                repeat (first | (refine Exists.intro _ (And.intro rfl ?_); conv => whnf) | fail)
                refine ok1_callP [] (f82z (yB i) ((w64 ((k : Int) + 7)).tmod 8) ((k + 7) % 8) (w6_m8 k 7 (by omega) (by omega)) (by omega)) rfl rfl ⟨⟨rfl, by first | rfl | fail⟩, trivial, by first | rfl | fail, ?_⟩
                conv => whnf
                repeat (fail)
                refine ok1_callP [] (f82 99 k (by omega)) rfl rfl ⟨⟨rfl, by first | rfl | fail⟩, trivial, by first | rfl | fail, ?_⟩
                conv => whnf
                have hcn := w6_cnt2 (yB i) k
                rw [← cntN_8 (yB i) k hk2] at hcn
                by_cases h1 : cntN (yB i) k % 2 = 1
                · have ht : obSt (yB i) (k + 1) = obSt (yB i) k + pow2 k := obSt_1 h1
                  have hs : ((outB i).set i (obSt (yB i) k)).set i (((outB i).set i (obSt (yB i) k)).getD i 0 + pow2 k) = (outB i).set i (obSt (yB i) (k + 1)) := by rw [set_get_set (by omega), ht]
                  rw [h1] at hcn
                  repeat (first | (refine Exists.intro _ (And.intro rfl ?_); conv => whnf) | fail)
                  refine brT (by rw [hcn]; rfl) ?_
                  conv => whnf
                  repeat (first | (refine Exists.intro _ (And.intro (sload_u8 (i := i) (by first | rfl | omega | fail) (by first | omega | fail)) ?_); conv => whnf) | (refine Exists.intro _ (And.intro (idx_i (m := i) (by first | rfl | fail)) ?_); conv => whnf) | (refine And.intro (by first | omega | fail) ?_; conv => whnf) | fail)
                  refine ok1_callP [] (f83 k (by omega)) rfl rfl ⟨⟨rfl, by first | rfl | fail⟩, trivial, by first | rfl | fail, ?_⟩
                  conv => whnf
                  repeat (first | (refine Exists.intro _ (And.intro (sput_m8 (i := i) (by first | rfl | omega | fail)) ?_); conv => whnf) | (refine Exists.intro _ (And.intro (idx_i (m := i) (by first | rfl | fail)) ?_); conv => whnf) | (refine And.intro (by first | omega | (simp; omega) | fail) ?_; conv => whnf) | (refine And.intro (by kernel_rfl) ?_; conv => whnf) | fail)
                  refine ⟨⟨k + 1, by omega⟩, by simp only; omega, ?_⟩
                  refine Weak.sel [0, 1] rfl rfl ?_ ?_ rfl rfl
                  · (repeat' (first | exact trivial | refine And.intro ?_ ?_ | fail)) <;> first | rfl | exact wk_i (by first | exact hp2.symm | fail) | fail
                  · (repeat' (first | exact trivial | refine And.intro ?_ ?_ | fail)) <;> first | rfl | exact ren_eq (by first | (simp; done) | fail) (by first | rfl | fail) | exact ren_m8 (by first | exact hs.symm | fail) | fail
                · have ht : obSt (yB i) (k + 1) = obSt (yB i) k := obSt_0 h1
                  rw [show cntN (yB i) k % 2 = 0 by omega] at hcn
                  repeat (first | (refine Exists.intro _ (And.intro rfl ?_); conv => whnf) | fail)
                  refine brF (by rw [hcn]; rfl) ?_
                  conv => whnf
                  repeat (fail)
                  refine ⟨⟨k + 1, by omega⟩, by simp only; omega, ?_⟩
                  refine Weak.sel [0, 1] rfl rfl ?_ ?_ rfl rfl
                  · (repeat' (first | exact trivial | refine And.intro ?_ ?_ | fail)) <;> first | rfl | exact wk_i (by first | exact hp2.symm | fail) | fail
                  · (repeat' (first | exact trivial | refine And.intro ?_ ?_ | fail)) <;> first | rfl | exact ren_eq (by first | (simp; done) | fail) (by first | rfl | fail) | exact ren_m8 (by first | (simp [hp2, ht]; done) | fail) | fail
              · obtain rfl : k = 8 := by omega
                have hs : (outB i).set i (obSt (yB i) 8) = outB (i + 1) := outB_s i hi2
                conv => whnf
                refine brF (by rfl) ?_
                conv => whnf
                repeat (fail)
                refine ⟨⟨i + 1, by omega⟩, by simp only; omega, ?_⟩
                refine Weak.sel [0, 1] rfl rfl ?_ ?_ rfl rfl
                · (repeat' (first | exact trivial | refine And.intro ?_ ?_ | fail)) <;> first | rfl | exact wk_i (by first | exact hp1.symm | fail) | fail
                · (repeat' (first | exact trivial | refine And.intro ?_ ?_ | fail)) <;> first | rfl | exact ren_eq (by first | (simp; done) | fail) (by first | rfl | (simp [hp1, hs]; done) | fail) | fail
          · have hy : yB i = (invN 255).getD i 0 := by first | exact yB_1 i h0
            refine brF (by simp; omega) ?_
            conv => whnf
            repeat (fail)
            refine loop_rule ttOk mixed (by kernel_rfl) (ι := { k : Nat // k ≤ 8 }) (fun k => [(1, .sl 0 0 256 1 true), (5, .sl 1 0 256 1 true), (6, .i (i : Int)), (7, .u8 (yB i)), (8, .i (k.1 : Int))]) (fun k => [some (.row 5 ((invN 255).map .u8)), some (.row 5 (((outB i).set i (obSt (yB i) k.1)).map .u8))]) (fun _ => 2) (fun k => 8 - k.1) ⟨0, by omega⟩ ?_ ?_
            · have hs : (outB i).set i (obSt (yB i) 0) = outB i := outB_0 i hi2
              refine Weak.sel [0, 1] rfl rfl ?_ ?_ rfl rfl
              · (repeat' (first | exact trivial | refine And.intro ?_ ?_ | fail)) <;> first | rfl | exact wk_u8 (by first | exact hy | fail) | fail
              · (repeat' (first | exact trivial | refine And.intro ?_ ?_ | fail)) <;> first | rfl | exact ren_eq (by first | (simp; done) | fail) (by first | rfl | fail) | exact ren_m8 (by first | exact hs | fail) | fail
            · rintro ⟨k, hk⟩
              have hl2 : ((outB i).set i (obSt (yB i) k)).length = 256 := by simp [ho]
              dsimp only
              by_cases hk2 : k < 8
              · have hlt2 : decide ((k : Int) < 8) = true := by simp; omega
                have hp2 := w6_p1 k (by omega)
                conv => whnf
                refine brT (by exact hlt2) ?_
                conv => whnf
                refine ok1_callP [] (f82 (yB i) k (by omega)) rfl rfl ⟨⟨rfl, by first | rfl | fail⟩, trivial, by first | rfl | fail, ?_⟩
                conv => whnf
                repeat (first | (refine Exists.intro _ (And.intro rfl ?_); conv => whnf) | fail)
                refine ok1_callP [] (f82z (yB i) ((w64 ((k : Int) + 4)).tmod 8) ((k + 4) % 8) (w6_m8 k 4 (by omega) (by omega)) (by omega)) rfl rfl ⟨⟨rfl, by first | rfl | fail⟩, trivial, by first | rfl | fail, ?_⟩
                conv => whnf
                repeat (first | (refine Exists.intro _ (And.intro rfl ?_); conv => whnf) | fail)
                refine ok1_callP [] (f82z (yB i) ((w64 ((k : Int) + 5)).tmod 8) ((k + 5) % 8) (w6_m8 k 5 (by omega) (by omega)) (by omega)) rfl rfl ⟨⟨rfl, by first | rfl | fail⟩, trivial, by first | rfl | fail, ?_⟩
                conv => whnf
                repeat (first | (refine Exists.intro _ (And.intro rfl ?_); conv => whnf) | fail)
                refine ok1_callP [] (f82z (yB i) ((w64 ((k : Int) + 6)).tmod 8) ((k + 6) % 8) (w6_m8 k 6 (by omega) (by omega)) (by omega)) rfl rfl ⟨⟨rfl, by first | rfl | fail⟩, trivial, by first | rfl | fail, ?_⟩
                conv => whnf
                repeat (first | (refine Exists.intro _ (And.intro rfl ?_); conv => whnf) | fail)
                refine ok1_callP [] (f82z (yB i) ((w64 ((k : Int) + 7)).tmod 8) ((k + 7) % 8) (w6_m8 k 7 (by omega) (by omega)) (by omega)) rfl rfl ⟨⟨rfl, by first | rfl | fail⟩, trivial, by first | rfl | fail, ?_⟩
                conv => whnf
                repeat (fail)
                refine ok1_callP [] (f82 99 k (by omega)) rfl rfl ⟨⟨rfl, by first | rfl | fail⟩, trivial, by first | rfl | fail, ?_⟩
                conv => whnf
                have hcn := w6_cnt2 (yB i) k
                rw [← cntN_8 (yB i) k hk2] at hcn
                by_cases h1 : cntN (yB i) k % 2 = 1
                · have ht : obSt (yB i) (k + 1) = obSt (yB i) k + pow2 k := obSt_1 h1
                  have hs : ((outB i).set i (obSt (yB i) k)).set i (((outB i).set i (obSt (yB i) k)).getD i 0 + pow2 k) = (outB i).set i (obSt (yB i) (k + 1)) := by rw [set_get_set (by omega), ht]
                  rw [h1] at hcn
                  repeat (first | (refine Exists.intro _ (And.intro rfl ?_); conv => whnf) | fail)
                  refine brT (by rw [hcn]; rfl) ?_
                  conv => whnf
                  repeat (first | (refine Exists.intro _ (And.intro (sload_u8 (i := i) (by first | rfl | omega | fail) (by first | omega | fail)) ?_); conv => whnf) | (refine Exists.intro _ (And.intro (idx_i (m := i) (by first | rfl | fail)) ?_); conv => whnf) | (refine And.intro (by first | omega | fail) ?_; conv => whnf) | fail)
                  refine ok1_callP [] (f83 k (by omega)) rfl rfl ⟨⟨rfl, by first | rfl | fail⟩, trivial, by first | rfl | fail, ?_⟩
                  conv => whnf
                  repeat (first | (refine Exists.intro _ (And.intro (sput_m8 (i := i) (by first | rfl | omega | fail)) ?_); conv => whnf) | (refine Exists.intro _ (And.intro (idx_i (m := i) (by first | rfl | fail)) ?_); conv => whnf) | (refine And.intro (by first | omega | (simp; omega) | fail) ?_; conv => whnf) | (refine And.intro (by kernel_rfl) ?_; conv => whnf) | fail)
                  refine ⟨⟨k + 1, by omega⟩, by simp only; omega, ?_⟩
                  refine Weak.sel [0, 1] rfl rfl ?_ ?_ rfl rfl
                  · (repeat' (first | exact trivial | refine And.intro ?_ ?_ | fail)) <;> first | rfl | exact wk_i (by first | exact hp2.symm | fail) | fail
                  · (repeat' (first | exact trivial | refine And.intro ?_ ?_ | fail)) <;> first | rfl | exact ren_eq (by first | (simp; done) | fail) (by first | rfl | fail) | exact ren_m8 (by first | exact hs.symm | fail) | fail
                · have ht : obSt (yB i) (k + 1) = obSt (yB i) k := obSt_0 h1
                  rw [show cntN (yB i) k % 2 = 0 by omega] at hcn
                  repeat (first | (refine Exists.intro _ (And.intro rfl ?_); conv => whnf) | fail)
                  refine brF (by rw [hcn]; rfl) ?_
                  conv => whnf
                  repeat (fail)
                  refine ⟨⟨k + 1, by omega⟩, by simp only; omega, ?_⟩
                  refine Weak.sel [0, 1] rfl rfl ?_ ?_ rfl rfl
                  · (repeat' (first | exact trivial | refine And.intro ?_ ?_ | fail)) <;> first | rfl | exact wk_i (by first | exact hp2.symm | fail) | fail
                  · (repeat' (first | exact trivial | refine And.intro ?_ ?_ | fail)) <;> first | rfl | exact ren_eq (by first | (simp; done) | fail) (by first | rfl | fail) | exact ren_m8 (by first | (simp [hp2, ht]; done) | fail) | fail
              · obtain rfl : k = 8 := by omega
                have hs : (outB i).set i (obSt (yB i) 8) = outB (i + 1) := outB_s i hi2
                conv => whnf
                refine brF (by rfl) ?_
                conv => whnf
                repeat (fail)
                refine ⟨⟨i + 1, by omega⟩, by simp only; omega, ?_⟩
                refine Weak.sel [0, 1] rfl rfl ?_ ?_ rfl rfl
                · (repeat' (first | exact trivial | refine And.intro ?_ ?_ | fail)) <;> first | rfl | exact wk_i (by first | exact hp1.symm | fail) | fail
                · (repeat' (first | exact trivial | refine And.intro ?_ ?_ | fail)) <;> first | rfl | exact ren_eq (by first | (simp; done) | fail) (by first | rfl | (simp [hp1, hs]; done) | fail) | fail
        · obtain rfl : i = 256 := by omega
          have hlf : decide (((256 : Nat) : Int) < 256) = false := by decide
          conv => whnf
          refine brF (by exact hlf) ?_
          conv => whnf
          repeat (fail)
          refine ⟨[1], ?_, rfl, rfl, ?_, rfl⟩
          · (repeat' (fail)) <;> first | rfl | fail
          · (repeat' (first | exact trivial | refine And.intro ?_ ?_ | fail)) <;> first | rfl | exact ren_eq (by first | (simp; done) | fail) (by first | rfl | fail) | fail
end Go.Sh
