/- ctr's law: the document's rows (f51). -/
import Derived.Test.YtaknbogocnkmnaaF4
namespace Go.Sh
open Go.Proofs
set_option maxHeartbeats 8000000
set_option linter.unusedSimpArgs false

theorem f53n (c b : List UInt8) (n : Nat) (f1 f2 : Bool) : SCall Try.prog 53 [.pnil, .agg (c.map .u8), .sl 0 0 1 1 f1] [some (.ro [.sl 1 0 n 1 f2]), some (.ro (b.map .u8))] (.tup [.slnil, .i 1]) [some (.ro [.sl 1 0 n 1 f2]), some (.ro (b.map .u8))] := by
  refine scall_of ttOk (by kernel_rfl : Try.prog.funcs[53]? = some Try.f53) rfl rfl rfl ?_
  refine sw_ok ttOk mixed (by kernel_rfl) ?_
  conv => whnf
  repeat (first | (refine brT rfl ?_; conv => whnf) | (refine And.intro (by kernel_rfl) ?_; conv => whnf) | fail)
  refine ⟨[0, 1], ?_, rfl, rfl, ?_, rfl⟩
  · (repeat' (first | (refine wk_tup ?_) | (refine wk_cons ?_ ?_))) <;> first | rfl | fail
  · (repeat' (first | exact trivial | refine And.intro ?_ ?_ | (refine wk_cons ?_ ?_))) <;> first | rfl | exact ren_eq (by first | (simp; done) | fail) (by first | rfl | fail) | fail

def fullJ (j : Nat) : UInt8 := if j = 0 then 1 else 255
def full51 : List UInt8 := [1, 255, 255, 255, 255, 255, 255, 255, 255, 255, 255, 255, 255, 255, 255, 255]
def z16 : List UInt8 := List.replicate 16 0
theorem f51 : SCall Try.prog 51 [] [] (.b true) [] := by
  obtain ⟨w, hw⟩ : ∃ w, w = wSt (List.replicate 16 0) 4 44 := ⟨_, rfl⟩
  have hn := f45s_4 true (List.replicate 16 0) (List.replicate 16 0) 0 rfl rfl
  rw [← hw] at hn
  have hwl : w.length = 176 := by rw [hw]; exact wSt_4 _
  have h53 := f53_1 44 false w 10 rfl hwl (by omega) (by omega) (List.replicate 16 0) (List.replicate 16 0) (List.replicate 16 0) 0 rfl (by decide) rfl (by decide) true true
  have ht : turnL w 10 (List.replicate 16 0) (List.replicate 16 0) = [0x66, 0xe9, 0x4b, 0xd4, 0xef, 0x8a, 0x2c, 0x3b, 0x88, 0x4c, 0xfa, 0x59, 0xca, 0x34, 0x2b, 0x2e] := by rw [hw]; kernel_rfl
  rw [ht] at h53
  have h54a := f54L [0, 0, 0, 0, 0, 0, 0, 0, 0, 0, 0, 0, 0, 0, 0, 255] rfl
  have ha : nextC [0, 0, 0, 0, 0, 0, 0, 0, 0, 0, 0, 0, 0, 0, 0, 255] = [0, 0, 0, 0, 0, 0, 0, 0, 0, 0, 0, 0, 0, 0, 1, 0] := by kernel_rfl
  rw [ha] at h54a
  have h54b := f54L full51 rfl
  have hb : nextC full51 = [1, 255, 255, 255, 255, 255, 255, 255, 255, 255, 255, 255, 0, 0, 0, 0] := by kernel_rfl
  rw [hb] at h54b
  refine scall_of ttOk (by kernel_rfl : Try.prog.funcs[51]? = some Try.f51) rfl rfl rfl ?_
  refine sw_ok ttOk mixed (by kernel_rfl) ?_
  conv => whnf
  repeat (first | (refine And.intro ⟨by first | omega | fail, by first | decide | fail⟩ ?_; conv => whnf) | fail)
  refine ok1_callE [0] [some (.ro ((List.replicate 16 0).map .u8)), some (.box (sbx.map .u8 ++ [.sl 2 0 44 4 false])), some (.row 137 (w.map .u8))] (.tup [.p 1 0, .i 0]) (hn) rfl rfl ⟨⟨rfl, by first | rfl | fail⟩, by (repeat' (first | exact trivial | refine And.intro ?_ ?_)) <;> first | exact ren_m8 rfl | fail, by (repeat' (first | exact trivial | refine And.intro ?_ ?_)) <;> first | exact renB_plain _ (by first | (simp; done) | fail) | exact rb_boxa (by first | (simp; done) | fail) rfl | rfl, by first | rfl, ?_⟩
  conv => whnf
  repeat (first | (refine Exists.intro _ (And.intro rfl ?_); conv => whnf) | (refine And.intro ⟨by first | omega | fail, by first | decide | fail⟩ ?_; conv => whnf) | fail)
  refine ok1_callF [1, 2, 4, 3] [false, false, false, false, true] false (h53) rfl rfl ⟨⟨rfl, by first | rfl | fail⟩, by (repeat' (first | exact trivial | refine And.intro ?_ ?_)) <;> first | rfl | exact ren_eq (by first | (simp; done) | fail) (by first | rfl | fail) | exact ren_app2 (by first | (simp; done) | fail) (by first | rfl | fail) (by first | rfl | fail) | fail, by first | rfl | fail, by first | rfl | fail, ?_⟩
  conv => whnf
  repeat (first | (refine Exists.intro _ (And.intro (sput_all rfl (by first | rfl | fail)) ?_); conv => whnf) | (refine Exists.intro _ (And.intro rfl ?_); conv => whnf) | (refine And.intro (by first | omega | (simp; done) | fail) ?_; conv => whnf) | fail)
  refine loop_rule ttOk mixed (by kernel_rfl) (ι := { i : Nat // 1 ≤ i ∧ i ≤ 16 }) (fun i => [(2, .i 0), (3, .sl 5 0 16 1 false), (4, .i 0), (5, .p 6 0), (6, .i (i.1 : Int))]) (fun i => [none, none, none, none, none, some (.row 5 (([0x66, 0xe9, 0x4b, 0xd4, 0xef, 0x8a, 0x2c, 0x3b, 0x88, 0x4c, 0xfa, 0x59, 0xca, 0x34, 0x2b, 0x2e] : List UInt8).map .u8)), some (.box ((fil 16 i.1 fullJ (fun _ => 0)).map .u8))]) (fun _ => 7) (fun i => 16 - i.1) ⟨1, by omega, by omega⟩ ?_ ?_
  · have hz : (fil 16 1 fullJ (fun _ => 0)).map SV.u8 = [.u8 1, .u8 0, .u8 0, .u8 0, .u8 0, .u8 0, .u8 0, .u8 0, .u8 0, .u8 0, .u8 0, .u8 0, .u8 0, .u8 0, .u8 0, .u8 0] := rfl
    refine Weak.sel [0, 1, 2, 3, 4, 5, 6] rfl rfl ?_ ?_ rfl rfl
    · (repeat' (first | exact trivial | refine And.intro ?_ ?_ | fail)) <;> first | rfl | fail
    · (repeat' (first | exact trivial | exact ren_eq (plainL_u8 _) hz | refine And.intro ?_ ?_ | (refine wk_cons ?_ ?_))) <;> first | rfl | fail
  · rintro ⟨i, hi1, hi⟩
    have hf := fil_len 16 i fullJ (fun _ => (0 : UInt8))
    dsimp only
    by_cases hi2 : i < 16
    · have hlt : decide ((i : Int) < 16) = true := by simp; omega
      have hp1 := w6_p1 i (by omega)
      have hx : (255 : UInt8) = fullJ i := by unfold fullJ; rw [if_neg (by omega)]
      have hs := fil_setx (g := fun _ => (0 : UInt8)) hi2 hx
      conv => whnf
      first | refine brT (by exact hlt) ?_ | fail
      conv => whnf
      repeat (first | (refine Exists.intro _ (And.intro (sput_m8 (i := i) (by first | rfl | (simp; done) | fail)) ?_); conv => whnf) | (refine Exists.intro _ (And.intro (idx_i (m := i) (by first | rfl | fail)) ?_); conv => whnf) | (refine And.intro (by first | omega | (simp; omega) | fail) ?_; conv => whnf) | fail)
      refine ⟨⟨i + 1, by omega, by omega⟩, by simp only; omega, ?_⟩
      refine Weak.sel [0, 1, 2, 3, 4, 5, 6] rfl rfl ?_ ?_ rfl rfl
      · (repeat' (first | exact trivial | refine And.intro ?_ ?_ | fail)) <;> first | rfl | exact wk_i (by first | exact hp1.symm | fail) | fail
      · (repeat' (first | exact trivial | refine And.intro ?_ ?_ | (refine wk_cons ?_ ?_))) <;> first | exact ren_m8 (by first | exact hs | exact hs.symm | fail) | rfl | fail
    · obtain rfl : i = 16 := by omega
      have hfu : fil 16 16 fullJ (fun _ => 0) = full51 := by decide
      have h53n := f53n full51 [1] 1 true true
      rw [hfu]
      conv => whnf
      first | refine brF (by rfl) ?_ | fail
      conv => whnf
      repeat (first | (refine Exists.intro _ (And.intro (sload_all rfl (by first | rfl | fail)) ?_); conv => whnf) | (refine Exists.intro _ (And.intro (sput_all rfl (by first | rfl | fail)) ?_); conv => whnf) | (refine Exists.intro _ (And.intro rfl ?_); conv => whnf) | (refine And.intro (by first | omega | fail) ?_; conv => whnf) | (refine And.intro ⟨rfl, Nat.le_of_ble_eq_true rfl⟩ ?_; conv => whnf) | fail)
      refine ok1_callF [9, 8] [false, true] true (h53n) rfl rfl ⟨⟨rfl, by first | rfl | fail⟩, by (repeat' (first | exact trivial | refine And.intro ?_ ?_)) <;> first | rfl | fail, by first | rfl | fail, by first | rfl | fail, ?_⟩
      conv => whnf
      repeat (first | (refine Exists.intro _ (And.intro (bytesOf_cut rfl) ?_); conv => whnf) | (refine brT rfl ?_; conv => whnf) | (refine Exists.intro _ (And.intro rfl ?_); conv => whnf) | (refine And.intro (by first | omega | (simp; done) | fail) ?_; conv => whnf) | fail)
      refine ok1_callF [] [] true (h54a) rfl rfl ⟨⟨rfl, by first | rfl | fail⟩, trivial, by first | rfl | fail, by first | rfl | fail, ?_⟩
      conv => whnf
      repeat (first | (refine brT rfl ?_; conv => whnf) | (refine Exists.intro _ (And.intro (sload_all rfl (by first | rfl | fail)) ?_); conv => whnf) | (refine Exists.intro _ (And.intro rfl ?_); conv => whnf) | (refine And.intro ⟨rfl, rfl⟩ ?_; conv => whnf) | fail)
      refine ok1_callF [] [] true (h54b) rfl rfl ⟨⟨rfl, by first | rfl | fail⟩, trivial, by first | rfl | fail, by first | rfl | fail, ?_⟩
      conv => whnf
      repeat (first | (refine brT rfl ?_; conv => whnf) | (refine Exists.intro _ (And.intro (sload_all rfl (by first | rfl | fail)) ?_); conv => whnf) | (refine Exists.intro _ (And.intro rfl ?_); conv => whnf) | (refine And.intro ⟨rfl, rfl⟩ ?_; conv => whnf) | (refine And.intro (by kernel_rfl) ?_; conv => whnf) | fail)
      refine ⟨[], ?_, rfl, rfl, ?_, rfl⟩
      · (repeat' (fail)) <;> first | rfl | fail
      · (repeat' (first | exact trivial | fail)) <;> fail
end Go.Sh
