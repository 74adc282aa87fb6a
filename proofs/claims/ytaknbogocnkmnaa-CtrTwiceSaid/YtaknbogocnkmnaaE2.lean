/- aes.box, aes.S, walked. -/
import Derived.Test.YtaknbogocnkmnaaE1
namespace Go.Sh
open Go.Proofs
set_option maxHeartbeats 4000000
set_option maxRecDepth 100000
set_option linter.unusedSimpArgs false

def pwL : List UInt8 := [1, 3, 5, 15, 17, 51, 85, 255, 26, 46, 114, 150, 161, 248, 19, 53, 95, 225, 56, 72, 216, 115, 149, 164, 247, 2, 6, 10, 30, 34, 102, 170, 229, 52, 92, 228, 55, 89, 235, 38, 106, 190, 217, 112, 144, 171, 230, 49, 83, 245, 4, 12, 20, 60, 68, 204, 79, 209, 104, 184, 211, 110, 178, 205, 76, 212, 103, 169, 224, 59, 77, 215, 98, 166, 241, 8, 24, 40, 120, 136, 131, 158, 185, 208, 107, 189, 220, 127, 129, 152, 179, 206, 73, 219, 118, 154, 181, 196, 87, 249, 16, 48, 80, 240, 11, 29, 39, 105, 187, 214, 97, 163, 254, 25, 43, 125, 135, 146, 173, 236, 47, 113, 147, 174, 233, 32, 96, 160, 251, 22, 58, 78, 210, 109, 183, 194, 93, 231, 50, 86, 250, 21, 63, 65, 195, 94, 226, 61, 71, 201, 64, 192, 91, 237, 44, 116, 156, 191, 218, 117, 159, 186, 213, 100, 172, 239, 42, 126, 130, 157, 188, 223, 122, 142, 137, 128, 155, 182, 193, 88, 232, 35, 101, 175, 234, 37, 111, 177, 200, 67, 197, 84, 252, 31, 33, 99, 165, 244, 7, 9, 27, 45, 119, 153, 176, 203, 70, 202, 69, 207, 74, 222, 121, 139, 134, 145, 168, 227, 62, 66, 198, 81, 243, 14, 18, 54, 90, 238, 41, 123, 141, 140, 143, 138, 133, 148, 167, 242, 13, 23, 57, 75, 221, 124, 132, 151, 162, 253, 28, 36, 108, 180, 199, 82, 246]
def lgL : List Int := [0, 0, 25, 1, 50, 2, 26, 198, 75, 199, 27, 104, 51, 238, 223, 3, 100, 4, 224, 14, 52, 141, 129, 239, 76, 113, 8, 200, 248, 105, 28, 193, 125, 194, 29, 181, 249, 185, 39, 106, 77, 228, 166, 114, 154, 201, 9, 120, 101, 47, 138, 5, 33, 15, 225, 36, 18, 240, 130, 69, 53, 147, 218, 142, 150, 143, 219, 189, 54, 208, 206, 148, 19, 92, 210, 241, 64, 70, 131, 56, 102, 221, 253, 48, 191, 6, 139, 98, 179, 37, 226, 152, 34, 136, 145, 16, 126, 110, 72, 195, 163, 182, 30, 66, 58, 107, 40, 84, 250, 133, 61, 186, 43, 121, 10, 21, 155, 159, 94, 202, 78, 212, 172, 229, 243, 115, 167, 87, 175, 88, 168, 80, 244, 234, 214, 116, 79, 174, 233, 213, 231, 230, 173, 232, 44, 215, 117, 122, 235, 22, 11, 245, 89, 203, 95, 176, 156, 169, 81, 160, 127, 12, 246, 111, 23, 196, 73, 236, 216, 67, 31, 45, 164, 118, 123, 183, 204, 187, 62, 90, 251, 96, 177, 134, 59, 82, 161, 108, 170, 85, 41, 157, 151, 178, 135, 144, 97, 190, 220, 252, 188, 149, 207, 205, 55, 63, 91, 209, 83, 57, 132, 60, 65, 162, 109, 71, 20, 42, 158, 93, 86, 242, 211, 171, 68, 17, 146, 217, 35, 32, 46, 137, 180, 124, 184, 38, 119, 153, 227, 165, 103, 74, 237, 222, 197, 49, 254, 24, 13, 99, 140, 128, 192, 247, 112, 7]
def sbx : List UInt8 := [99, 124, 119, 123, 242, 107, 111, 197, 48, 1, 103, 43, 254, 215, 171, 118, 202, 130, 201, 125, 250, 89, 71, 240, 173, 212, 162, 175, 156, 164, 114, 192, 183, 253, 147, 38, 54, 63, 247, 204, 52, 165, 229, 241, 113, 216, 49, 21, 4, 199, 35, 195, 24, 150, 5, 154, 7, 18, 128, 226, 235, 39, 178, 117, 9, 131, 44, 26, 27, 110, 90, 160, 82, 59, 214, 179, 41, 227, 47, 132, 83, 209, 0, 237, 32, 252, 177, 91, 106, 203, 190, 57, 74, 76, 88, 207, 208, 239, 170, 251, 67, 77, 51, 133, 69, 249, 2, 127, 80, 60, 159, 168, 81, 163, 64, 143, 146, 157, 56, 245, 188, 182, 218, 33, 16, 255, 243, 210, 205, 12, 19, 236, 95, 151, 68, 23, 196, 167, 126, 61, 100, 93, 25, 115, 96, 129, 79, 220, 34, 42, 144, 136, 70, 238, 184, 20, 222, 94, 11, 219, 224, 50, 58, 10, 73, 6, 36, 92, 194, 211, 172, 98, 145, 149, 228, 121, 231, 200, 55, 109, 141, 213, 78, 169, 108, 86, 244, 234, 101, 122, 174, 8, 186, 120, 37, 46, 28, 166, 180, 198, 232, 221, 116, 31, 75, 189, 139, 138, 112, 62, 181, 102, 72, 3, 246, 14, 97, 53, 87, 185, 134, 193, 29, 158, 225, 248, 152, 17, 105, 217, 142, 148, 155, 30, 135, 233, 206, 85, 40, 223, 140, 161, 137, 13, 191, 230, 66, 104, 65, 153, 45, 15, 176, 84, 187, 22]
theorem pw_eq : (lgSt 255).2.1 = pwL := by kernel_rfl
theorem lg_eq : (lgSt 255).2.2 = lgL := by kernel_rfl
theorem lg_all : lgL.all (fun n => decide (0 ≤ n ∧ n ≤ 254)) = true := by kernel_rfl
theorem pwL_len : pwL.length = 255 := by kernel_rfl
theorem lgL_len : lgL.length = 256 := by kernel_rfl
theorem sbx_len : sbx.length = 256 := by kernel_rfl
def rot1 (y : UInt8) : UInt8 := shl8 y 1 ||| shr8 y 7
def aff (y : UInt8) : UInt8 := 99 ^^^ y ^^^ rot1 y ^^^ rot1 (rot1 y) ^^^ rot1 (rot1 (rot1 y)) ^^^ rot1 (rot1 (rot1 (rot1 y)))
def binv (i : Nat) : UInt8 := if 0 < i then pwL.getD ((255 - (lgL.getD i 0).toNat) % 255) 0 else 0
def bxSt : Nat → List UInt8
  | 0 => List.replicate 256 0
  | i + 1 => (bxSt i).set i (aff (binv i))
theorem bx_eq : bxSt 256 = sbx := by kernel_rfl
theorem bxSt_len : ∀ i, (bxSt i).length = 256
  | 0 => List.length_replicate
  | i + 1 => (List.length_set ..).trans (bxSt_len i)
theorem bx1 (i : Nat) : bxSt (i + 1) = (bxSt i).set i (aff (binv i)) := rfl
theorem bx0 : bxSt 0 = List.replicate 256 0 := rfl
attribute [irreducible] bxSt pwL lgL sbx

theorem lg_lt (i : Nat) (h : i < 256) : ∃ v : Nat, lgL.getD i 0 = (v : Int) ∧ v ≤ 254 := by
  have hm := List.all_eq_true.1 lg_all (lgL.getD i 0) (by
    rw [List.getD_eq_getElem?_getD, List.getElem?_eq_getElem (by rw [lgL_len]; exact h)]
    exact List.getElem_mem _)
  simp only [decide_eq_true_eq] at hm
  exact ⟨(lgL.getD i 0).toNat, by omega, by omega⟩

theorem f80 : SCall Try.prog 80 [] [] (.agg (sbx.map .u8)) [] := by
  have h100 := f100
  rw [pw_eq, lg_eq] at h100
  have lp := pwL_len
  have ll := lgL_len
  refine scall_of ttOk (by kernel_rfl : Try.prog.funcs[80]? = some Try.f80) rfl rfl rfl ?_
  refine sw_ok ttOk mixed (by kernel_rfl) ?_
  conv => whnf
  repeat (fail)
  refine ok1_callF [] [true, true, true, true, true, true, true, true, true, true, true, true] true (h100) rfl rfl ⟨⟨rfl, by first | rfl⟩, trivial, by first | rfl, by first | simp [plainRf, plainR, plainT, plainW], ?_⟩
  conv => whnf
  repeat (first | (refine Exists.intro _ (And.intro (sput_all rfl (by first | rfl | (simp; omega))) ?_); conv => whnf) | (refine And.intro (by first | omega | (simp; omega)) ?_; conv => whnf))
  refine loop_rule ttOk mixed (by kernel_rfl) (ι := { i : Nat // i ≤ 256 }) (fun i => [(0, .p 0 0), (1, .p 1 0), (2, .p 2 0), (3, .p 3 0), (11, .i (i.1 : Int))]) (fun i => [some (.box (List.replicate 256 (.u8 0))), some (.box (pwL.map .u8)), some (.box (lgL.map .i)), some (.box ((bxSt i.1).map .u8))]) (fun _ => 4) (fun i => 256 - i.1) ⟨0, by omega⟩ ?_ ?_
  · refine Weak.sel [0, 1, 2, 3] rfl rfl ?_ ?_ rfl rfl
    · (repeat' (first | exact trivial | refine And.intro ?_ ?_)) <;> first | rfl
    · (repeat' (first | exact trivial | refine And.intro ?_ ?_ | (refine wk_cons ?_ ?_))) <;> first | rfl | exact ren_eq (by first | (simp; done)) (by first | rfl | (simp [bx0, pwL_len, lgL_len]; done))
  · rintro ⟨i, hi⟩
    have l3 := bxSt_len i
    dsimp only
    conv => whnf
    refine ⟨fun hc => ?_, fun hc => ?_⟩
    · have hi2 : i < 256 := by simp at hc; omega
      have hw : w64 ((i : Int) + 1) = ((i + 1 : Nat) : Int) := by simp only [w64_eq]; omega
      obtain ⟨v, hv, hv2⟩ := lg_lt i hi2
      have hw2 : (w64 (255 - lgL.getD i 0)).tmod 255 = (((255 - v) % 255 : Nat) : Int) := by
        rw [hv, w64_of (by omega) (by omega)]
        rw [Int.tmod_eq_emod_of_nonneg (by omega)]; omega
      have hb := bx1 i
      by_cases h0 : 0 < i
      · have hbi : binv i = pwL.getD ((255 - v) % 255) 0 := by unfold binv; first | (rw [if_pos h0, hv]; rfl)
        rw [hbi] at hb
        conv => whnf
        refine brT (by simp; omega) ?_
        conv => whnf
        repeat (first | (refine Exists.intro _ (And.intro (idx_i (m := i) (by first | rfl)) ?_); conv => whnf) | (refine Exists.intro _ (And.intro (sload_i (i := i) (by first | rfl | (simp; done)) (by first | omega)) ?_); conv => whnf) | (refine Exists.intro _ (And.intro (sload_u8 (i := (255 - v) % 255) (by first | rfl | (simp; done)) (by first | omega)) ?_); conv => whnf) | (refine Exists.intro _ (And.intro (idx_i (m := (255 - v) % 255) (by first | rfl | omega)) ?_); conv => whnf) | (refine Exists.intro _ (And.intro rfl ?_); conv => whnf) | (refine And.intro (by first | omega) ?_; conv => whnf))
        obtain ⟨y, hy⟩ : ∃ y, y = pwL.getD ((255 - v) % 255) 0 := ⟨_, rfl⟩
        refine loop_rounds ttOk mixed (by kernel_rfl) 6 ?_
        conv => whnf
        repeat (first | (refine brT rfl ?_; conv => whnf) | (refine brF rfl ?_; conv => whnf) | (refine Exists.intro _ (And.intro (sput_m8 (i := i) (by first | rfl | (simp; done))) ?_); conv => whnf) | (refine Exists.intro _ (And.intro (idx_i (m := i) (by first | rfl)) ?_); conv => whnf) | (refine And.intro (by first | omega | (simp; omega)) ?_; conv => whnf))
        refine ⟨⟨i + 1, by omega⟩, by simp only; omega, ?_⟩
        refine Weak.sel [0, 1, 2, 3] rfl rfl ?_ ?_ rfl rfl
        · (repeat' (first | exact trivial | refine And.intro ?_ ?_)) <;> first | rfl | exact wk_i (by first | exact hw.symm)
        · (repeat' (first | exact trivial | refine And.intro ?_ ?_ | (refine wk_cons ?_ ?_))) <;> first | rfl | exact ren_eq (by first | (simp; done)) (by first | rfl | (simp [hw, hb, aff, rot1]; done))
      · have hbi : binv i = 0 := by unfold binv; first | rw [if_neg h0]
        rw [hbi] at hb
        conv => whnf
        refine brF (by simp; omega) ?_
        conv => whnf
        repeat (fail)
        obtain ⟨y, hy⟩ : ∃ y, y = 0 := ⟨_, rfl⟩
        refine loop_rounds ttOk mixed (by kernel_rfl) 6 ?_
        conv => whnf
        repeat (first | (refine brT rfl ?_; conv => whnf) | (refine brF rfl ?_; conv => whnf) | (refine Exists.intro _ (And.intro (sput_m8 (i := i) (by first | rfl | (simp; done))) ?_); conv => whnf) | (refine Exists.intro _ (And.intro (idx_i (m := i) (by first | rfl)) ?_); conv => whnf) | (refine And.intro (by first | omega | (simp; omega)) ?_; conv => whnf))
        refine ⟨⟨i + 1, by omega⟩, by simp only; omega, ?_⟩
        refine Weak.sel [0, 1, 2, 3] rfl rfl ?_ ?_ rfl rfl
        · (repeat' (first | exact trivial | refine And.intro ?_ ?_)) <;> first | rfl | exact wk_i (by first | exact hw.symm)
        · (repeat' (first | exact trivial | refine And.intro ?_ ?_ | (refine wk_cons ?_ ?_))) <;> first | rfl | exact ren_eq (by first | (simp; done)) (by first | rfl | (simp [hw, hb, aff, rot1]; done))
    · have hi2 : i = 256 := by simp at hc; omega
      subst hi2
      conv => whnf
      repeat (first | (refine Exists.intro _ (And.intro (sload_all rfl (by first | rfl | (simp [l3]; done))) ?_); conv => whnf) | (refine Exists.intro _ (And.intro (sput_all rfl (by first | rfl | (simp [l3]; done))) ?_); conv => whnf) | (refine And.intro (by first | omega | (simp; omega)) ?_; conv => whnf))
      rw [bx_eq]
      refine ⟨[], ?_, rfl, rfl, ?_, rfl⟩
      · (repeat' (first | (refine wk_agg ?_))) <;> first | exact ren_eq (by first | (simp; done)) (by first | rfl)
      · (repeat' (first | exact trivial)) <;> fail

def sb (x : UInt8) : UInt8 := sbx.getD x.toNat 0

theorem f43 (x : UInt8) : SCall Try.prog 43 [.u8 x] [] (.u8 (sb x)) [] := by
  have hl := sbx_len
  have hx : x.toNat < 256 := UInt8.toNat_lt _
  refine scall_of ttOk (by kernel_rfl : Try.prog.funcs[43]? = some Try.f43) rfl rfl rfl ?_
  refine sw_ok ttOk mixed (by kernel_rfl) ?_
  conv => whnf
  repeat (fail)
  refine ok1_callF [] [true, true, true, true, true, true, true, true, true, true, true, true] true (f80) rfl rfl ⟨⟨rfl, by first | rfl⟩, trivial, by first | rfl, by first | simp [plainRf, plainR, plainT, plainW], ?_⟩
  conv => whnf
  repeat (first | (refine Exists.intro _ (And.intro (sput_all rfl (by first | rfl | (simp [hl]; done))) ?_); conv => whnf) | (refine Exists.intro _ (And.intro (sload_u8 (i := x.toNat) (by first | rfl | (simp; done)) (by first | omega)) ?_); conv => whnf) | (refine Exists.intro _ (And.intro rfl ?_); conv => whnf) | (refine And.intro (by first | omega | (simp; omega)) ?_; conv => whnf))
  refine ⟨[], ?_, rfl, rfl, ?_, rfl⟩
  · (repeat' (fail)) <;> first | rfl
  · (repeat' (first | exact trivial)) <;> fail
end Go.Sh
