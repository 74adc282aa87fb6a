/- aes's law: the document's rows (f42). -/
import Derived.Test.YtaknbogocnkmnaaE12a
namespace Go.Sh
open Go.Proofs
set_option maxHeartbeats 8000000
set_option linter.unusedSimpArgs false

def b42 (j : Nat) : UInt8 := u8i (w64 (17 * (j : Int)))
def blk42 : List UInt8 := (List.range 16).map b42
def k42 (j : Nat) : UInt8 := u8i (j : Int)
def key42 : List UInt8 := (List.range 32).map k42
theorem f42 : SCall Try.prog 42 [] [] (.b true) [] := by
  refine scall_of ttOk (by kernel_rfl : Try.prog.funcs[42]? = some Try.f42) rfl rfl rfl ?_
  refine sw_ok ttOk mixed (by kernel_rfl) ?_
  conv => whnf
  repeat (fail)
  refine loop_rule ttOk mixed (by kernel_rfl) (ι := { i : Nat // i ≤ 16 }) (fun i => [(14, .i (i.1 : Int)), (2, .slnil), (1, .p 0 0)]) (fun i => [some (.box ((fil 16 i.1 b42 (fun _ => 0)).map .u8))]) (fun _ => 1) (fun i => 16 - i.1) ⟨0, by omega⟩ ?_ ?_
  · have hz : fil 16 0 b42 (fun _ => (0 : UInt8)) = List.replicate 16 0 := fil_zero ..
    refine Weak.sel [0] rfl rfl ?_ ?_ rfl rfl
    · (repeat' (first | exact trivial | refine And.intro ?_ ?_ | fail)) <;> first | rfl | fail
    · (repeat' (first | exact trivial | refine And.intro ?_ ?_ | (refine wk_cons ?_ ?_))) <;> first | rfl | fail
  · rintro ⟨i, hi⟩
    have hf := fil_len 16 i b42 (fun _ => (0 : UInt8))
    dsimp only
    by_cases hi2 : i < 16
    · have hlt : decide ((i : Int) < 16) = true := by simp; omega
      have hp1 := w6_p1 i (by omega)
      have hs := fil_set (f := fun j => u8i (w64 (17 * (j : Int)))) (g := fun _ => (0 : UInt8)) hi2
      conv => whnf
      first | refine brT (by exact hlt) ?_ | fail
      conv => whnf
      repeat (first | (refine Exists.intro _ (And.intro (sput_m8 (i := i) (by first | rfl | (simp; done) | fail)) ?_); conv => whnf) | (refine Exists.intro _ (And.intro (idx_i (m := i) (by first | rfl | fail)) ?_); conv => whnf) | (refine And.intro (by first | omega | (simp; omega) | fail) ?_; conv => whnf) | fail)
      refine ⟨⟨i + 1, by omega⟩, by simp only; omega, ?_⟩
      refine Weak.sel [0] rfl rfl ?_ ?_ rfl rfl
      · (repeat' (first | exact trivial | refine And.intro ?_ ?_ | fail)) <;> first | rfl | exact wk_i (by first | exact hp1.symm | fail) | fail
      · (repeat' (first | exact trivial | refine And.intro ?_ ?_ | fail)) <;> first | exact ren_m8 (by first | exact hs.symm | fail) | fail
    · obtain rfl : i = 16 := by omega
      have hb : fil 16 16 b42 (fun _ => (0 : UInt8)) = blk42 := fil_full ..
      rw [hb]
      conv => whnf
      first | refine brF (by rfl) ?_ | fail
      conv => whnf
      repeat (fail)
      refine SWp.weak (Weak.virt 2 5 1 rfl) ?_
      refine loop_rule ttOk mixed (by kernel_rfl) (ι := { i : Nat // i ≤ 32 }) (fun i => [(23, .i (i.1 : Int)), (2, .sl 1 0 i.1 1 false), (1, .p 0 0)]) (fun i => [some (.box (blk42.map .u8)), some (.row 5 (((List.range i.1).map k42).map .u8))]) (fun _ => 2) (fun i => 32 - i.1) ⟨0, by omega⟩ ?_ ?_
      · refine Weak.sel [0, 1] rfl rfl ?_ ?_ rfl rfl
        · (repeat' (first | exact trivial | refine And.intro ?_ ?_ | fail)) <;> first | rfl | fail
        · (repeat' (first | exact trivial | refine And.intro ?_ ?_ | (refine wk_cons ?_ ?_))) <;> first | rfl | fail
      · rintro ⟨i, hi⟩
        have hf : ((List.range i).map k42).length = i := rng_len
        dsimp only
        by_cases hi2 : i < 32
        · have hlt : decide ((i : Int) < 32) = true := by simp; omega
          have hp1 := w6_p1 i (by omega)
          have hs : (List.range (i + 1)).map k42 = (List.range i).map k42 ++ [k42 i] := rng_succ
          have happ : List.take (i * 1) (List.drop 0 (((List.range i).map k42).map SV.u8)) ++ List.take (1 * 1) (List.drop 0 [SV.u8 (k42 i)]) = ((List.range (i + 1)).map k42).map SV.u8 := by rw [app_one hf, hs]
          conv => whnf
          first | refine brT (by exact hlt) ?_ | fail
          conv => whnf
          repeat (first | (refine Exists.intro _ (And.intro rfl ?_); conv => whnf) | (refine And.intro (by first | omega | (simp [ti5]; omega)) ?_; conv => whnf) | fail)
          refine ⟨⟨i + 1, by omega⟩, by simp only; omega, ?_⟩
          refine Weak.sel [0, 3] rfl rfl ?_ ?_ rfl rfl
          · (repeat' (first | exact trivial | refine And.intro ?_ ?_ | fail)) <;> first | rfl | exact wk_i (by first | exact hp1.symm | fail) | fail
          · (repeat' (first | exact trivial | refine And.intro ?_ ?_ | (refine wk_cons ?_ ?_))) <;> first | rfl | exact ren_eq (plainL_u8 _) happ.symm | fail
        · obtain rfl : i = 32 := by omega
          conv => whnf
          first | refine brF (by rfl) ?_ | fail
          conv => whnf
          repeat (first | (refine Exists.intro _ (And.intro rfl ?_); conv => whnf) | (refine And.intro (by first | omega | fail) ?_; conv => whnf) | fail)
          have hk32 : (List.range 32).map k42 = key42 := rfl
          rw [hk32]
          obtain ⟨w1, hw1⟩ : ∃ w1, w1 = wSt (key42.take 16) 4 44 := ⟨_, rfl⟩
          obtain ⟨w2, hw2⟩ : ∃ w2, w2 = wSt key42 8 60 := ⟨_, rfl⟩
          have hn1 := f45s_4 false key42 (key42.take 16) 0 rfl rfl
          have hn2 := f45s_8 false key42 key42 0 rfl rfl
          rw [← hw1] at hn1
          rw [← hw2] at hn2
          refine ok1_callE [1] [some (.ro (key42.map .u8)), some (.box (sbx.map .u8 ++ [.sl 3 0 44 4 false])), some (.row 137 (w1.map .u8))] (.tup [.p 2 0, .i 0]) (hn1) rfl rfl ⟨⟨rfl, by first | rfl | fail⟩, by (repeat' (first | exact trivial | refine And.intro ?_ ?_)) <;> first | exact ren_m8 rfl | fail, by (repeat' (first | exact trivial | refine And.intro ?_ ?_)) <;> first | exact renB_plain _ (by first | (simp; done) | fail) | exact rb_boxa (by first | (simp; done) | fail) rfl | rfl, by first | rfl, ?_⟩
          conv => whnf
          repeat (fail)
          refine ok1_callE [1] [some (.ro (key42.map .u8)), some (.box (sbx.map .u8 ++ [.sl 5 0 60 4 false])), some (.row 137 (w2.map .u8))] (.tup [.p 4 0, .i 0]) (hn2) rfl rfl ⟨⟨rfl, by first | rfl | fail⟩, by (repeat' (first | exact trivial | refine And.intro ?_ ?_)) <;> first | exact ren_m8 rfl | fail, by (repeat' (first | exact trivial | refine And.intro ?_ ?_)) <;> first | exact renB_plain _ (by first | (simp; done) | fail) | exact rb_boxa (by first | (simp; done) | fail) rfl | rfl, by first | rfl, ?_⟩
          conv => whnf
          repeat (first | (refine Exists.intro _ (And.intro rfl ?_); conv => whnf) | (refine And.intro (by first | omega | fail) ?_; conv => whnf) | fail)
          refine ok1_callP [1] (f45ns false key42 (key42.take 24) 0 rfl (by decide) (by decide)) rfl rfl ⟨⟨rfl, by first | rfl | fail⟩, by (repeat' (first | exact trivial | refine And.intro ?_ ?_)) <;> first | rfl | fail, by first | rfl | fail, ?_⟩
          conv => whnf
          repeat (first | (refine gdT rfl ?_; conv => whnf) | (refine Exists.intro _ (And.intro rfl ?_); conv => whnf) | fail)
          refine ok1_callP [] (f48n) rfl rfl ⟨⟨rfl, by first | rfl | fail⟩, trivial, by first | rfl | fail, ?_⟩
          conv => whnf
          repeat (first | (refine gdT rfl ?_; conv => whnf) | (refine Exists.intro _ (And.intro (sload_all rfl (by first | rfl | fail)) ?_); conv => whnf) | (refine Exists.intro _ (And.intro rfl ?_); conv => whnf) | fail)
          refine ok1_callP [] (f47n blk42) rfl rfl ⟨⟨rfl, by first | rfl | fail⟩, trivial, by first | rfl | fail, ?_⟩
          conv => whnf
          repeat (first | (refine brF rfl ?_; conv => whnf) | (refine gdT rfl ?_; conv => whnf) | (refine Exists.intro _ (And.intro (sload_all rfl (by first | rfl | fail)) ?_); conv => whnf) | (refine Exists.intro _ (And.intro rfl ?_); conv => whnf) | (refine And.intro ⟨rfl, rfl⟩ ?_; conv => whnf) | fail)
          have hs1 := f47L 44 false w1 10 rfl (by rw [hw1]; exact wSt_4 _) (by omega) (by omega) blk42 rfl
          have hs2 := f47L 60 false w2 14 rfl (by rw [hw2]; exact wSt_8 _) (by omega) (by omega) blk42 rfl
          have hx1 : sealSt w1 10 blk42 10 = [0x69, 0xc4, 0xe0, 0xd8, 0x6a, 0x7b, 0x04, 0x30, 0xd8, 0xcd, 0xb7, 0x80, 0x70, 0xb4, 0xc5, 0x5a] := by rw [hw1]; kernel_rfl
          have hx2 : sealSt w2 14 blk42 14 = [0x8e, 0xa2, 0xb7, 0xca, 0x51, 0x67, 0x45, 0xbf, 0xea, 0xfc, 0x49, 0x90, 0x4b, 0x49, 0x60, 0x89] := by rw [hw2]; kernel_rfl
          rw [hx1] at hs1
          rw [hx2] at hs2
          refine ok1_callF [2, 3] [false, false] true (hs1) rfl rfl ⟨⟨rfl, by first | rfl | fail⟩, by (repeat' (first | exact trivial | refine And.intro ?_ ?_)) <;> first | exact ren_eq (by first | (simp; done) | fail) (by first | rfl | fail) | exact ren_app2 (by first | (simp; done) | fail) (by first | rfl | fail) (by first | rfl | fail), by first | rfl | fail, by first | rfl | fail, ?_⟩
          conv => whnf
          repeat (first | (refine Exists.intro _ (And.intro (sload_all rfl (by first | rfl | fail)) ?_); conv => whnf) | fail)
          refine ok1_callF [4, 5] [false, false] true (hs2) rfl rfl ⟨⟨rfl, by first | rfl | fail⟩, by (repeat' (first | exact trivial | refine And.intro ?_ ?_)) <;> first | exact ren_eq (by first | (simp; done) | fail) (by first | rfl | fail) | exact ren_app2 (by first | (simp; done) | fail) (by first | rfl | fail) (by first | rfl | fail), by first | rfl | fail, by first | rfl | fail, ?_⟩
          conv => whnf
          repeat (first | (refine Exists.intro _ (And.intro (bytesOf_cut rfl) ?_); conv => whnf) | (refine brT rfl ?_; conv => whnf) | (refine Exists.intro _ (And.intro (sput_all rfl (by first | rfl | fail)) ?_); conv => whnf) | (refine Exists.intro _ (And.intro rfl ?_); conv => whnf) | (refine And.intro (by first | omega | (simp; done) | fail) ?_; conv => whnf) | (refine And.intro (by kernel_rfl) ?_; conv => whnf) | fail)
          have h48a := f48 44 (by omega) false w1
          have h48b := f48 60 (by omega) false w2
          unfold ciB ciW at h48a h48b
          refine ok1_callF [2, 3] [false, false] true (h48a) rfl rfl ⟨⟨rfl, by first | rfl | fail⟩, by (repeat' (first | exact trivial | refine And.intro ?_ ?_)) <;> first | exact ren_eq (by first | (simp; done) | fail) (by first | rfl | fail) | exact ren_app2 (by first | (simp; done) | fail) (by first | rfl | fail) (by first | rfl | fail), by first | rfl | fail, by first | rfl | fail, ?_⟩
          conv => whnf
          repeat (first | (refine brT rfl ?_; conv => whnf) | (refine Exists.intro _ (And.intro rfl ?_); conv => whnf) | fail)
          refine ok1_callF [4, 5] [false, false] true (h48b) rfl rfl ⟨⟨rfl, by first | rfl | fail⟩, by (repeat' (first | exact trivial | refine And.intro ?_ ?_)) <;> first | exact ren_eq (by first | (simp; done) | fail) (by first | rfl | fail) | exact ren_app2 (by first | (simp; done) | fail) (by first | rfl | fail) (by first | rfl | fail), by first | rfl | fail, by first | rfl | fail, ?_⟩
          conv => whnf
          repeat (first | (refine brT rfl ?_; conv => whnf) | (refine Exists.intro _ (And.intro rfl ?_); conv => whnf) | fail)
          refine ⟨[], ?_, rfl, rfl, ?_, rfl⟩
          · (repeat' (fail)) <;> first | rfl | fail
          · (repeat' (first | exact trivial | fail)) <;> fail
end Go.Sh
