/- Merged for a claim: M3, M4, M5, M5c, M5b, M5o, M5d, M5w. -/
import Derived.Test.YtannakicfkjhbaaUa1
set_option linter.unusedSimpArgs false
set_option linter.unusedVariables false
namespace Go.Sh
open Go.Proofs
set_option maxHeartbeats 8000000
theorem tdiv4 : ∀ i : Nat, i < 64 → w64 ((i : Int).tdiv 4) = ((i / 4 : Nat) : Int) := by decide +kernel
theorem tdiv8 : ∀ i : Nat, i < 128 → w64 ((i : Int).tdiv 8) = ((i / 8 : Nat) : Int) := by decide +kernel
theorem wp1i (i : Nat) (h : i < 1000) : w64 ((i : Int) + 1) = ((i + 1 : Nat) : Int) := by simp only [w64_eq]; omega
theorem wm16 (t a : Nat) (h : t < 1000) (ha : a ≤ 16) : w64 (((t + 16 : Nat) : Int) - (a : Int)) = ((t + (16 - a) : Nat) : Int) := by simp only [w64_eq]; omega
theorem ex8u {α : Type} {l : List α} (h : l.length = 8) : ∃ a b c d e f g i, l = [a, b, c, d, e, f, g, i] := by
 match l, h with
 | [a, b, c, d, e, f, g, i], _ => exact ⟨a, b, c, d, e, f, g, i, rfl⟩
theorem win_n_z (b : List UInt8) : win_n b 0 = List.replicate 64 0 := rfl
theorem win_n_s (b : List UInt8) (i : Nat) : win_n b (i + 1) = (win_n b i).set (i / 4) (shl32 ((win_n b i).getD (i / 4) 0) (UInt64.ofNat (Int.toNat 8)).toNat ||| (b.getD i 0).toUInt32) := rfl
theorem wex_n_z (b : List UInt8) : wex_n b 0 = win_n b 64 := rfl
theorem wex_n_s (b : List UInt8) (t : Nat) : wex_n b (t + 1) = (wex_n b t).set (t + 16) (small_n ((wex_n b t).getD (t + 14) 0) 17 19 10 + (wex_n b t).getD (t + 9) 0 + small_n ((wex_n b t).getD (t + 1) 0) 7 18 3 + (wex_n b t).getD t 0) := rfl
theorem rnds_n_z (k h : List UInt32) (b : List UInt8) : rnds_n k h b 0 = h := rfl
theorem rnds_n_s (k h : List UInt32) (b : List UInt8) (t : Nat) : rnds_n k h b (t + 1) = rnd_n (rnds_n k h b t) (k.getD t 0) ((wex_n b (64 - 16)).getD t 0) := rfl
theorem addw_n_z (h x : List UInt32) : addw_n h x 0 = h := rfl
theorem addw_n_s (h x : List UInt32) (i : Nat) : addw_n h x (i + 1) = (addw_n h x i).set i ((addw_n h x i).getD i 0 + x.getD i 0) := rfl
theorem comp_n_e (k h : List UInt32) (b : List UInt8) : comp_n k h b = addw_n h (rnds_n k h b 64) 8 := rfl
section
attribute [local irreducible] win_n wex_n rnds_n addw_n comp_n big_n small_n
theorem f139 (h k : List UInt32) (b : List UInt8) (hh : h.length = 8) (hk : k.length = 64) (hb : b.length = 64) (fl : Bool) : SCall Try.prog 139 [.p 0 0, .sl 3 0 64 1 fl] [some (.ro (mach_n 1 2)), some (.row 23 (h.map .u32)), some (.ro (k.map .u32)), some (.ro (b.map .u8))] (.tup []) [some (.ro (mach_n 1 2)), some (.row 23 ((comp_n k h b).map .u32)), some (.ro (k.map .u32)), some (.ro (b.map .u8))] := by
 rw [comp_n_e]
 refine scall_of ttOk (by kernel_rfl : Try.prog.funcs[139]? = some Try.f139) rfl rfl rfl ?_
 try simp only [List.length_cons, List.length_nil, Nat.zero_add, Nat.reduceAdd]
 refine sw_ok ttOk mixed (by kernel_rfl) ?_
 conv => whnf
 repeat (first | (refine Exists.intro _ (And.intro rfl ?_); conv => whnf) | (refine And.intro ⟨by first | omega | fail, by first | decide | fail⟩ ?_; conv => whnf) | fail)
 refine loop_rule ttOk mixed (by kernel_rfl) (ι := { i : Nat // i ≤ 64 }) (fun i => [(0, .p 0 0), (1, .sl 3 0 64 1 fl), (4, .sl 4 0 64 1 true), (24, .i 64), (25, .i (i.1 : Int))]) (fun i => [some (.ro (mach_n 1 2)), some (.row 23 (h.map .u32)), some (.ro (k.map .u32)), some (.ro (b.map .u8)), some (.row 23 ((win_n b i.1).map .u32))]) (fun _ => 5) (fun i => 64 - i.1) ⟨0, by omega⟩ ?_ ?_
 ·
  have hz := win_n_z b
  dsimp only
  rw [hz]
  refine Weak.sel [0, 1, 2, 3, 4] rfl rfl ?_ ?_ rfl rfl
  ·
   (repeat' (first | exact trivial | refine And.intro ?_ ?_ | fail)) <;> first | rfl | fail
  ·
   (repeat' (first | exact trivial | exact ren_z32 | refine And.intro ?_ ?_ | (refine wk_cons ?_ ?_))) <;> first | rfl | exact ren_eq (by first | (simp; done) | fail) (by first | rfl | fail) | fail
 ·
  rintro ⟨i, hi⟩
  dsimp only
  have hwl := win_len_n b i
  by_cases hi2 : i < 64
  ·
   have hd := tdiv4 i hi2
   have hi4 : i / 4 < 64 := by omega
   have hlt : decide ((i : Int) < 64) = true := by simp; omega
   have hp := wp1i i (by omega)
   have hs := win_n_s b i
   conv => whnf
   first | refine brT (by exact hlt) ?_ | fail
   conv => whnf
   repeat (first | (refine Exists.intro _ (And.intro (idx_i (m := i / 4) (by first | rfl | omega | fail)) ?_); conv => whnf) | (refine Exists.intro _ (And.intro (sput_m32 (i := i / 4) (by first | rfl | omega | fail)) ?_); conv => whnf) | (refine Exists.intro _ (And.intro (sload_u32 (i := i / 4) (by first | rfl | omega | fail) (by first | omega | fail)) ?_); conv => whnf) | (refine Exists.intro _ (And.intro (sload_u8 (i := i) (by first | rfl | omega | fail) (by first | omega | fail)) ?_); conv => whnf) | (refine Exists.intro _ (And.intro (idx_i (m := i) (by first | rfl | fail)) ?_); conv => whnf) | (refine Exists.intro _ (And.intro rfl ?_); conv => whnf) | (refine And.intro (by first | omega | (simp; omega) | fail) ?_; conv => whnf) | (refine And.intro (by kernel_rfl) ?_; conv => whnf) | fail)
   refine ⟨⟨i + 1, by omega⟩, by simp only; omega, ?_⟩
   dsimp only
   rw [hs]
   refine Weak.sel [0, 1, 2, 3, 4] rfl rfl ?_ ?_ rfl rfl
   ·
    (repeat' (first | exact trivial | refine And.intro ?_ ?_ | fail)) <;> first | exact wk_i (by first | exact hp | exact hp.symm | fail) | rfl | fail
   ·
    (repeat' (first | exact trivial | refine And.intro ?_ ?_ | (refine wk_cons ?_ ?_))) <;> first | rfl | exact ren_eq (by first | (simp; done) | fail) (by first | rfl | fail) | exact ren_m32 (by first | rfl | fail) | fail
  ·
   obtain rfl : i = 64 := by omega
   conv => whnf
   first | refine brF (by rfl) ?_ | fail
   conv => whnf
   repeat (fail)
   refine loop_rule ttOk mixed (by kernel_rfl) (ι := { t : Nat // t ≤ 64 - 16 }) (fun t => [(0, .p 0 0), (4, .sl 4 0 64 1 true), (6, .i ((t.1 + 16 : Nat) : Int))]) (fun t => [some (.ro (mach_n 1 2)), some (.row 23 (h.map .u32)), some (.ro (k.map .u32)), some (.ro (b.map .u8)), some (.row 23 ((wex_n b t.1).map .u32))]) (fun _ => 5) (fun t => 64 - t.1) ⟨0, by omega⟩ ?_ ?_
   ·
    have hz := wex_n_z b
    dsimp only
    rw [hz]
    refine Weak.sel [0, 1, 2, 3, 4] rfl rfl ?_ ?_ rfl rfl
    ·
     (repeat' (first | exact trivial | refine And.intro ?_ ?_ | fail)) <;> first | rfl | fail
    ·
     (repeat' (first | exact trivial | refine And.intro ?_ ?_ | (refine wk_cons ?_ ?_))) <;> first | rfl | exact ren_eq (by first | (simp; done) | fail) (by first | rfl | fail) | fail
   ·
    rintro ⟨t, ht⟩
    dsimp only
    have hwl := wex_len_n b t
    by_cases ht2 : t < 64 - 16
    ·
     have hlt : decide (((t + 16 : Nat) : Int) < 64) = true := by simp; omega
     have h14 : w64 (((t + 16 : Nat) : Int) - 2) = ((t + 14 : Nat) : Int) := wm16 t 2 (by omega) (by omega)
     have h9 : w64 (((t + 16 : Nat) : Int) - 7) = ((t + 9 : Nat) : Int) := wm16 t 7 (by omega) (by omega)
     have h1 : w64 (((t + 16 : Nat) : Int) - 15) = ((t + 1 : Nat) : Int) := wm16 t 15 (by omega) (by omega)
     have h0 : w64 (((t + 16 : Nat) : Int) - 16) = ((t : Nat) : Int) := wm16 t 16 (by omega) (by omega)
     have hp : w64 (((t + 16 : Nat) : Int) + 1) = ((t + 1 + 16 : Nat) : Int) := by simp only [w64_eq]; omega
     have hs := wex_n_s b t
     obtain ⟨X, hX⟩ : ∃ X, X = wex_n b t := ⟨_, rfl⟩
     rw [← hX] at hs hwl ⊢
     have qa := f154 (X.getD (t + 14) 0) 17 19 10 (by omega) (by omega) h k
     have qb := f154 (X.getD (t + 1) 0) 7 18 3 (by omega) (by omega) h k
     conv => whnf
     first | refine brT (by exact hlt) ?_ | fail
     conv => whnf
     repeat (first | (refine Exists.intro _ (And.intro (sload_u32 (i := t + 14) (by first | rfl | omega | fail) (by first | omega | fail)) ?_); conv => whnf) | (refine Exists.intro _ (And.intro (idx_i (m := t + 14) (by first | rfl | omega | fail)) ?_); conv => whnf) | (refine Exists.intro _ (And.intro rfl ?_); conv => whnf) | (refine And.intro (by first | omega | fail) ?_; conv => whnf) | fail)
     refine ok1_callF [0, 1, 2] [false, false, false] true (qa) rfl rfl ⟨⟨rfl, by first | rfl | fail⟩, by (repeat' (first | exact trivial | refine And.intro ?_ ?_)) <;> first | rfl | exact ren_eq (by first | (simp; done) | fail) (by first | rfl | fail) | fail, by first | rfl | fail, by first | rfl | fail, ?_⟩
     conv => whnf
     repeat (first | (refine Exists.intro _ (And.intro (sload_u32 (i := t + 9) (by first | rfl | omega | fail) (by first | omega | fail)) ?_); conv => whnf) | (refine Exists.intro _ (And.intro (idx_i (m := t + 9) (by first | rfl | omega | fail)) ?_); conv => whnf) | (refine Exists.intro _ (And.intro (sload_u32 (i := t + 1) (by first | rfl | omega | fail) (by first | omega | fail)) ?_); conv => whnf) | (refine Exists.intro _ (And.intro (idx_i (m := t + 1) (by first | rfl | omega | fail)) ?_); conv => whnf) | (refine Exists.intro _ (And.intro rfl ?_); conv => whnf) | (refine And.intro (by first | omega | fail) ?_; conv => whnf) | fail)
     refine ok1_callF [0, 1, 2] [false, false, false] true (qb) rfl rfl ⟨⟨rfl, by first | rfl | fail⟩, by (repeat' (first | exact trivial | refine And.intro ?_ ?_)) <;> first | rfl | exact ren_eq (by first | (simp; done) | fail) (by first | rfl | fail) | fail, by first | rfl | fail, by first | rfl | fail, ?_⟩
     conv => whnf
     repeat (first | (refine Exists.intro _ (And.intro (sload_u32 (i := t) (by first | rfl | omega | fail) (by first | omega | fail)) ?_); conv => whnf) | (refine Exists.intro _ (And.intro (idx_i (m := t) (by first | rfl | omega | fail)) ?_); conv => whnf) | (refine Exists.intro _ (And.intro (sput_m32 (i := t + 16) (by first | rfl | omega | fail)) ?_); conv => whnf) | (refine Exists.intro _ (And.intro (idx_i (m := t + 16) (by first | rfl | fail)) ?_); conv => whnf) | (refine And.intro (by first | omega | (simp; omega) | fail) ?_; conv => whnf) | (refine And.intro (by kernel_rfl) ?_; conv => whnf) | fail)
     refine ⟨⟨t + 1, by omega⟩, by simp only; omega, ?_⟩
     dsimp only
     rw [hs]
     refine Weak.sel [0, 1, 2, 3, 4] rfl rfl ?_ ?_ rfl rfl
     ·
      (repeat' (first | exact trivial | refine And.intro ?_ ?_ | fail)) <;> first | exact wk_i (by first | exact hp | exact hp.symm | fail) | rfl | fail
     ·
      (repeat' (first | exact trivial | refine And.intro ?_ ?_ | (refine wk_cons ?_ ?_))) <;> first | rfl | exact ren_eq (by first | (simp; done) | fail) (by first | rfl | fail) | exact ren_m32 (by first | rfl | fail) | fail
    ·
     obtain rfl : t = 64 - 16 := by omega
     conv => whnf
     first | refine brF (by rfl) ?_ | fail
     conv => whnf
     repeat (first | (refine Exists.intro _ (And.intro rfl ?_); conv => whnf) | (refine And.intro (by first | omega | (simp; done) | (simp; omega) | fail) ?_; conv => whnf) | (refine And.intro (by kernel_rfl) ?_; conv => whnf) | fail)
     refine loop_rule ttOk mixed (by kernel_rfl) (ι := { t : Nat // t ≤ 64 }) (fun t => [(0, .p 0 0), (4, .sl 4 0 64 1 true), (7, .p 5 0), (108, .sl 2 0 64 1 false), (109, .i 64), (110, .i (t.1 : Int))]) (fun t => [some (.ro (mach_n 1 2)), some (.row 23 (h.map .u32)), some (.ro (k.map .u32)), some (.ro (b.map .u8)), some (.row 23 ((wex_n b (64 - 16)).map .u32)), some (.box ((rnds_n k h b t.1).map .u32))]) (fun _ => 6) (fun t => 64 - t.1) ⟨0, by omega⟩ ?_ ?_
     ·
      have hz := rnds_n_z k h b
      dsimp only
      rw [hz]
      obtain ⟨h0, h1, h2, h3, h4, h5, h6, h7, rfl⟩ := ex8u hh
      refine Weak.sel [0, 1, 2, 3, 4, 5] rfl rfl ?_ ?_ rfl rfl
      ·
       (repeat' (first | exact trivial | refine And.intro ?_ ?_ | fail)) <;> first | rfl | fail
      ·
       (repeat' (first | exact trivial | refine And.intro ?_ ?_ | (refine wk_cons ?_ ?_))) <;> first | rfl | exact ren_eq (by first | (simp; done) | fail) (by first | rfl | fail) | fail
     ·
      rintro ⟨t, ht⟩
      dsimp only
      have hrl := rnds_len_n (k := k) hh b t
      by_cases ht3 : t < 64
      ·
       have hlt : decide ((t : Int) < 64) = true := by simp; omega
       have hs := rnds_n_s k h b t
       have hp := wp1i t (by omega)
       obtain ⟨X, hX⟩ : ∃ X, X = rnds_n k h b t := ⟨_, rfl⟩
       obtain ⟨Y, hY⟩ : ∃ Y, Y = wex_n b (64 - 16) := ⟨_, rfl⟩
       rw [← hX, ← hY] at hs
       rw [← hX] at hrl
       rw [← hY] at hwl
       rw [← hX, ← hY]
       clear hX hY
       obtain ⟨x0, x1, x2, x3, x4, x5, x6, x7, rfl⟩ := ex8u hrl
       have qa := f155 x4 6 11 25 (by omega) (by omega) (by omega) h k
       have qb := f155 x0 2 13 22 (by omega) (by omega) (by omega) h k
       conv => whnf
       first | refine brT (by exact hlt) ?_ | fail
       conv => whnf
       repeat (first | (refine Exists.intro _ (And.intro (sload_u32 (i := t) (by first | rfl | omega | fail) (by first | omega | fail)) ?_); conv => whnf) | (refine Exists.intro _ (And.intro (idx_i (m := t) (by first | rfl | fail)) ?_); conv => whnf) | (refine Exists.intro _ (And.intro rfl ?_); conv => whnf) | (refine And.intro (by first | omega | fail) ?_; conv => whnf) | (refine And.intro (by kernel_rfl) ?_; conv => whnf) | fail)
       refine ok1_callF [0, 1, 2] [false, false, false] true (qa) rfl rfl ⟨⟨rfl, by first | rfl | fail⟩, by (repeat' (first | exact trivial | refine And.intro ?_ ?_)) <;> first | rfl | exact ren_eq (by first | (simp; done) | fail) (by first | rfl | fail) | fail, by first | rfl | fail, by first | rfl | fail, ?_⟩
       conv => whnf
       repeat (first | (refine Exists.intro _ (And.intro (sload_u32 (i := t) (by first | rfl | omega | fail) (by first | omega | fail)) ?_); conv => whnf) | (refine Exists.intro _ (And.intro (idx_i (m := t) (by first | rfl | fail)) ?_); conv => whnf) | (refine Exists.intro _ (And.intro rfl ?_); conv => whnf) | (refine And.intro (by first | omega | fail) ?_; conv => whnf) | (refine And.intro (by kernel_rfl) ?_; conv => whnf) | fail)
       refine ok1_callF [0, 1, 2] [false, false, false] true (qb) rfl rfl ⟨⟨rfl, by first | rfl | fail⟩, by (repeat' (first | exact trivial | refine And.intro ?_ ?_)) <;> first | rfl | exact ren_eq (by first | (simp; done) | fail) (by first | rfl | fail) | fail, by first | rfl | fail, by first | rfl | fail, ?_⟩
       conv => whnf
       repeat (first | (refine Exists.intro _ (And.intro (sput_all rfl (by first | rfl | fail)) ?_); conv => whnf) | (refine Exists.intro _ (And.intro rfl ?_); conv => whnf) | (refine And.intro (by first | omega | (simp; done) | fail) ?_; conv => whnf) | fail)
       refine ⟨⟨t + 1, by omega⟩, by simp only; omega, ?_⟩
       dsimp only
       rw [hs]
       refine Weak.sel [0, 1, 2, 3, 4, 5] rfl rfl ?_ ?_ rfl rfl
       ·
        (repeat' (first | exact trivial | refine And.intro ?_ ?_ | fail)) <;> first | exact wk_i (by first | exact hp | exact hp.symm | fail) | rfl | fail
       ·
        (repeat' (first | exact trivial | refine And.intro ?_ ?_ | (refine wk_cons ?_ ?_))) <;> first | rfl | exact ren_eq (by first | (simp; done) | fail) (by first | rfl | fail) | fail
      ·
       obtain rfl : t = 64 := by omega
       conv => whnf
       first | refine brF (by rfl) ?_ | fail
       conv => whnf
       repeat (fail)
       refine loop_rule ttOk mixed (by kernel_rfl) (ι := { i : Nat // i ≤ 8 }) (fun i => [(0, .p 0 0), (7, .p 5 0), (189, .i (i.1 : Int))]) (fun i => [some (.ro (mach_n 1 2)), some (.row 23 ((addw_n h (rnds_n k h b 64) i.1).map .u32)), some (.ro (k.map .u32)), some (.ro (b.map .u8)), none, some (.ro ((rnds_n k h b 64).map .u32))]) (fun _ => 6) (fun i => 8 - i.1) ⟨0, by omega⟩ ?_ ?_
       ·
        have hz := addw_n_z h (rnds_n k h b 64)
        dsimp only
        rw [hz]
        refine Weak.sel [0, 1, 2, 3, 4, 5] rfl rfl ?_ ?_ rfl rfl
        ·
         (repeat' (first | exact trivial | refine And.intro ?_ ?_ | fail)) <;> first | rfl | fail
        ·
         (repeat' (first | exact trivial | refine And.intro ?_ ?_ | (refine wk_cons ?_ ?_))) <;> first | rfl | exact ren_eq (by first | (simp; done) | fail) (by first | rfl | fail) | fail
       ·
        rintro ⟨i, hi⟩
        dsimp only
        have hal := addw_len_n hh (rnds_n k h b 64) i
        by_cases hi3 : i < 8
        ·
         have hlt : decide ((i : Int) < 8) = true := by simp; omega
         have hs := addw_n_s h (rnds_n k h b 64) i
         have hp := wp1i i (by omega)
         conv => whnf
         first | refine brT (by exact hlt) ?_ | fail
         conv => whnf
         repeat (first | (refine Exists.intro _ (And.intro (sput_m32 (i := i) (by first | rfl | omega | fail)) ?_); conv => whnf) | (refine Exists.intro _ (And.intro (sload_u32 (i := i) (by first | rfl | omega | (simp; done) | fail) (by first | omega | fail)) ?_); conv => whnf) | (refine Exists.intro _ (And.intro (idx_i (m := i) (by first | rfl | fail)) ?_); conv => whnf) | (refine Exists.intro _ (And.intro rfl ?_); conv => whnf) | (refine And.intro (by first | omega | (simp; omega) | fail) ?_; conv => whnf) | (refine And.intro (by kernel_rfl) ?_; conv => whnf) | fail)
         refine ⟨⟨i + 1, by omega⟩, by simp only; omega, ?_⟩
         dsimp only
         rw [hs]
         refine Weak.sel [0, 1, 2, 3, 4, 5] rfl rfl ?_ ?_ rfl rfl
         ·
          (repeat' (first | exact trivial | refine And.intro ?_ ?_ | fail)) <;> first | exact wk_i (by first | exact hp | exact hp.symm | fail) | rfl | fail
         ·
          (repeat' (first | exact trivial | refine And.intro ?_ ?_ | (refine wk_cons ?_ ?_))) <;> first | rfl | exact ren_eq (by first | (simp; done) | fail) (by first | rfl | fail) | exact ren_m32 (by first | rfl | fail) | fail
        ·
         obtain rfl : i = 8 := by omega
         conv => whnf
         first | refine brF (by rfl) ?_ | fail
         conv => whnf
         repeat (fail)
         refine ⟨[0, 1, 2, 3], ?_, rfl, rfl, ?_, rfl⟩
         ·
          (repeat' (first | (refine wk_tup ?_) | fail)) <;> first | rfl | fail
         ·
          (repeat' (first | exact trivial | refine And.intro ?_ ?_ | (refine wk_cons ?_ ?_))) <;> first | rfl | exact ren_eq (by first | (simp; done) | fail) (by first | rfl | fail) | fail
end
theorem win_w_z (b : List UInt8) : win_w b 0 = List.replicate 80 0 := rfl
theorem win_w_s (b : List UInt8) (i : Nat) : win_w b (i + 1) = (win_w b i).set (i / 8) (shl64 ((win_w b i).getD (i / 8) 0) (UInt64.ofNat (Int.toNat 8)).toNat ||| (b.getD i 0).toUInt64) := rfl
theorem wex_w_z (b : List UInt8) : wex_w b 0 = win_w b 128 := rfl
theorem wex_w_s (b : List UInt8) (t : Nat) : wex_w b (t + 1) = (wex_w b t).set (t + 16) (small_w ((wex_w b t).getD (t + 14) 0) 19 61 6 + (wex_w b t).getD (t + 9) 0 + small_w ((wex_w b t).getD (t + 1) 0) 1 8 7 + (wex_w b t).getD t 0) := rfl
theorem rnds_w_z (k h : List UInt64) (b : List UInt8) : rnds_w k h b 0 = h := rfl
theorem rnds_w_s (k h : List UInt64) (b : List UInt8) (t : Nat) : rnds_w k h b (t + 1) = rnd_w (rnds_w k h b t) (k.getD t 0) ((wex_w b (80 - 16)).getD t 0) := rfl
theorem addw_w_z (h x : List UInt64) : addw_w h x 0 = h := rfl
theorem addw_w_s (h x : List UInt64) (i : Nat) : addw_w h x (i + 1) = (addw_w h x i).set i ((addw_w h x i).getD i 0 + x.getD i 0) := rfl
theorem comp_w_e (k h : List UInt64) (b : List UInt8) : comp_w k h b = addw_w h (rnds_w k h b 80) 8 := rfl
section
attribute [local irreducible] win_w wex_w rnds_w addw_w comp_w big_w small_w
theorem f140 (h k : List UInt64) (b : List UInt8) (hh : h.length = 8) (hk : k.length = 80) (hb : b.length = 128) (fl : Bool) : SCall Try.prog 140 [.p 0 0, .sl 3 0 128 1 fl] [some (.ro (mach_w 1 2)), some (.row 25 (h.map .u64)), some (.ro (k.map .u64)), some (.ro (b.map .u8))] (.tup []) [some (.ro (mach_w 1 2)), some (.row 25 ((comp_w k h b).map .u64)), some (.ro (k.map .u64)), some (.ro (b.map .u8))] := by
 rw [comp_w_e]
 refine scall_of ttOk (by kernel_rfl : Try.prog.funcs[140]? = some Try.f140) rfl rfl rfl ?_
 try simp only [List.length_cons, List.length_nil, Nat.zero_add, Nat.reduceAdd]
 refine sw_ok ttOk mixed (by kernel_rfl) ?_
 conv => whnf
 repeat (first | (refine Exists.intro _ (And.intro rfl ?_); conv => whnf) | (refine And.intro ⟨by first | omega | fail, by first | decide | fail⟩ ?_; conv => whnf) | fail)
 refine loop_rule ttOk mixed (by kernel_rfl) (ι := { i : Nat // i ≤ 128 }) (fun i => [(0, .p 0 0), (1, .sl 3 0 128 1 fl), (4, .sl 4 0 80 1 true), (24, .i 128), (25, .i (i.1 : Int))]) (fun i => [some (.ro (mach_w 1 2)), some (.row 25 (h.map .u64)), some (.ro (k.map .u64)), some (.ro (b.map .u8)), some (.row 25 ((win_w b i.1).map .u64))]) (fun _ => 5) (fun i => 128 - i.1) ⟨0, by omega⟩ ?_ ?_
 ·
  have hz := win_w_z b
  dsimp only
  rw [hz]
  refine Weak.sel [0, 1, 2, 3, 4] rfl rfl ?_ ?_ rfl rfl
  ·
   (repeat' (first | exact trivial | refine And.intro ?_ ?_ | fail)) <;> first | rfl | fail
  ·
   (repeat' (first | exact trivial | exact ren_z64 | refine And.intro ?_ ?_ | (refine wk_cons ?_ ?_))) <;> first | rfl | exact ren_eq (by first | (simp; done) | fail) (by first | rfl | fail) | fail
 ·
  rintro ⟨i, hi⟩
  dsimp only
  have hwl := win_len_w b i
  by_cases hi2 : i < 128
  ·
   have hd := tdiv8 i hi2
   have hi4 : i / 8 < 80 := by omega
   have hlt : decide ((i : Int) < 128) = true := by simp; omega
   have hp := wp1i i (by omega)
   have hs := win_w_s b i
   conv => whnf
   first | refine brT (by exact hlt) ?_ | fail
   conv => whnf
   repeat (first | (refine Exists.intro _ (And.intro (idx_i (m := i / 8) (by first | rfl | omega | fail)) ?_); conv => whnf) | (refine Exists.intro _ (And.intro (sput_m64 (i := i / 8) (by first | rfl | omega | fail)) ?_); conv => whnf) | (refine Exists.intro _ (And.intro (sload_u64 (i := i / 8) (by first | rfl | omega | fail) (by first | omega | fail)) ?_); conv => whnf) | (refine Exists.intro _ (And.intro (sload_u8 (i := i) (by first | rfl | omega | fail) (by first | omega | fail)) ?_); conv => whnf) | (refine Exists.intro _ (And.intro (idx_i (m := i) (by first | rfl | fail)) ?_); conv => whnf) | (refine Exists.intro _ (And.intro rfl ?_); conv => whnf) | (refine And.intro (by first | omega | (simp; omega) | fail) ?_; conv => whnf) | (refine And.intro (by kernel_rfl) ?_; conv => whnf) | fail)
   refine ⟨⟨i + 1, by omega⟩, by simp only; omega, ?_⟩
   dsimp only
   rw [hs]
   refine Weak.sel [0, 1, 2, 3, 4] rfl rfl ?_ ?_ rfl rfl
   ·
    (repeat' (first | exact trivial | refine And.intro ?_ ?_ | fail)) <;> first | exact wk_i (by first | exact hp | exact hp.symm | fail) | rfl | fail
   ·
    (repeat' (first | exact trivial | refine And.intro ?_ ?_ | (refine wk_cons ?_ ?_))) <;> first | rfl | exact ren_eq (by first | (simp; done) | fail) (by first | rfl | fail) | exact ren_m64 (by first | rfl | fail) | fail
  ·
   obtain rfl : i = 128 := by omega
   conv => whnf
   first | refine brF (by rfl) ?_ | fail
   conv => whnf
   repeat (fail)
   refine loop_rule ttOk mixed (by kernel_rfl) (ι := { t : Nat // t ≤ 80 - 16 }) (fun t => [(0, .p 0 0), (4, .sl 4 0 80 1 true), (6, .i ((t.1 + 16 : Nat) : Int))]) (fun t => [some (.ro (mach_w 1 2)), some (.row 25 (h.map .u64)), some (.ro (k.map .u64)), some (.ro (b.map .u8)), some (.row 25 ((wex_w b t.1).map .u64))]) (fun _ => 5) (fun t => 80 - t.1) ⟨0, by omega⟩ ?_ ?_
   ·
    have hz := wex_w_z b
    dsimp only
    rw [hz]
    refine Weak.sel [0, 1, 2, 3, 4] rfl rfl ?_ ?_ rfl rfl
    ·
     (repeat' (first | exact trivial | refine And.intro ?_ ?_ | fail)) <;> first | rfl | fail
    ·
     (repeat' (first | exact trivial | refine And.intro ?_ ?_ | (refine wk_cons ?_ ?_))) <;> first | rfl | exact ren_eq (by first | (simp; done) | fail) (by first | rfl | fail) | fail
   ·
    rintro ⟨t, ht⟩
    dsimp only
    have hwl := wex_len_w b t
    by_cases ht2 : t < 80 - 16
    ·
     have hlt : decide (((t + 16 : Nat) : Int) < 80) = true := by simp; omega
     have h14 : w64 (((t + 16 : Nat) : Int) - 2) = ((t + 14 : Nat) : Int) := wm16 t 2 (by omega) (by omega)
     have h9 : w64 (((t + 16 : Nat) : Int) - 7) = ((t + 9 : Nat) : Int) := wm16 t 7 (by omega) (by omega)
     have h1 : w64 (((t + 16 : Nat) : Int) - 15) = ((t + 1 : Nat) : Int) := wm16 t 15 (by omega) (by omega)
     have h0 : w64 (((t + 16 : Nat) : Int) - 16) = ((t : Nat) : Int) := wm16 t 16 (by omega) (by omega)
     have hp : w64 (((t + 16 : Nat) : Int) + 1) = ((t + 1 + 16 : Nat) : Int) := by simp only [w64_eq]; omega
     have hs := wex_w_s b t
     obtain ⟨X, hX⟩ : ∃ X, X = wex_w b t := ⟨_, rfl⟩
     rw [← hX] at hs hwl ⊢
     have qa := f156 (X.getD (t + 14) 0) 19 61 6 (by omega) (by omega) h k
     have qb := f156 (X.getD (t + 1) 0) 1 8 7 (by omega) (by omega) h k
     conv => whnf
     first | refine brT (by exact hlt) ?_ | fail
     conv => whnf
     repeat (first | (refine Exists.intro _ (And.intro (sload_u64 (i := t + 14) (by first | rfl | omega | fail) (by first | omega | fail)) ?_); conv => whnf) | (refine Exists.intro _ (And.intro (idx_i (m := t + 14) (by first | rfl | omega | fail)) ?_); conv => whnf) | (refine Exists.intro _ (And.intro rfl ?_); conv => whnf) | (refine And.intro (by first | omega | fail) ?_; conv => whnf) | fail)
     refine ok1_callF [0, 1, 2] [false, false, false] true (qa) rfl rfl ⟨⟨rfl, by first | rfl | fail⟩, by (repeat' (first | exact trivial | refine And.intro ?_ ?_)) <;> first | rfl | exact ren_eq (by first | (simp; done) | fail) (by first | rfl | fail) | fail, by first | rfl | fail, by first | rfl | fail, ?_⟩
     conv => whnf
     repeat (first | (refine Exists.intro _ (And.intro (sload_u64 (i := t + 9) (by first | rfl | omega | fail) (by first | omega | fail)) ?_); conv => whnf) | (refine Exists.intro _ (And.intro (idx_i (m := t + 9) (by first | rfl | omega | fail)) ?_); conv => whnf) | (refine Exists.intro _ (And.intro (sload_u64 (i := t + 1) (by first | rfl | omega | fail) (by first | omega | fail)) ?_); conv => whnf) | (refine Exists.intro _ (And.intro (idx_i (m := t + 1) (by first | rfl | omega | fail)) ?_); conv => whnf) | (refine Exists.intro _ (And.intro rfl ?_); conv => whnf) | (refine And.intro (by first | omega | fail) ?_; conv => whnf) | fail)
     refine ok1_callF [0, 1, 2] [false, false, false] true (qb) rfl rfl ⟨⟨rfl, by first | rfl | fail⟩, by (repeat' (first | exact trivial | refine And.intro ?_ ?_)) <;> first | rfl | exact ren_eq (by first | (simp; done) | fail) (by first | rfl | fail) | fail, by first | rfl | fail, by first | rfl | fail, ?_⟩
     conv => whnf
     repeat (first | (refine Exists.intro _ (And.intro (sload_u64 (i := t) (by first | rfl | omega | fail) (by first | omega | fail)) ?_); conv => whnf) | (refine Exists.intro _ (And.intro (idx_i (m := t) (by first | rfl | omega | fail)) ?_); conv => whnf) | (refine Exists.intro _ (And.intro (sput_m64 (i := t + 16) (by first | rfl | omega | fail)) ?_); conv => whnf) | (refine Exists.intro _ (And.intro (idx_i (m := t + 16) (by first | rfl | fail)) ?_); conv => whnf) | (refine And.intro (by first | omega | (simp; omega) | fail) ?_; conv => whnf) | (refine And.intro (by kernel_rfl) ?_; conv => whnf) | fail)
     refine ⟨⟨t + 1, by omega⟩, by simp only; omega, ?_⟩
     dsimp only
     rw [hs]
     refine Weak.sel [0, 1, 2, 3, 4] rfl rfl ?_ ?_ rfl rfl
     ·
      (repeat' (first | exact trivial | refine And.intro ?_ ?_ | fail)) <;> first | exact wk_i (by first | exact hp | exact hp.symm | fail) | rfl | fail
     ·
      (repeat' (first | exact trivial | refine And.intro ?_ ?_ | (refine wk_cons ?_ ?_))) <;> first | rfl | exact ren_eq (by first | (simp; done) | fail) (by first | rfl | fail) | exact ren_m64 (by first | rfl | fail) | fail
    ·
     obtain rfl : t = 80 - 16 := by omega
     conv => whnf
     first | refine brF (by rfl) ?_ | fail
     conv => whnf
     repeat (first | (refine Exists.intro _ (And.intro rfl ?_); conv => whnf) | (refine And.intro (by first | omega | (simp; done) | (simp; omega) | fail) ?_; conv => whnf) | (refine And.intro (by kernel_rfl) ?_; conv => whnf) | fail)
     refine loop_rule ttOk mixed (by kernel_rfl) (ι := { t : Nat // t ≤ 80 }) (fun t => [(0, .p 0 0), (4, .sl 4 0 80 1 true), (7, .p 5 0), (108, .sl 2 0 80 1 true), (109, .i 80), (110, .i (t.1 : Int))]) (fun t => [some (.ro (mach_w 1 2)), some (.row 25 (h.map .u64)), some (.ro (k.map .u64)), some (.ro (b.map .u8)), some (.row 25 ((wex_w b (80 - 16)).map .u64)), some (.box ((rnds_w k h b t.1).map .u64))]) (fun _ => 6) (fun t => 80 - t.1) ⟨0, by omega⟩ ?_ ?_
     ·
      have hz := rnds_w_z k h b
      dsimp only
      rw [hz]
      obtain ⟨h0, h1, h2, h3, h4, h5, h6, h7, rfl⟩ := ex8u hh
      refine Weak.sel [0, 1, 2, 3, 4, 5] rfl rfl ?_ ?_ rfl rfl
      ·
       (repeat' (first | exact trivial | refine And.intro ?_ ?_ | fail)) <;> first | rfl | fail
      ·
       (repeat' (first | exact trivial | refine And.intro ?_ ?_ | (refine wk_cons ?_ ?_))) <;> first | rfl | exact ren_eq (by first | (simp; done) | fail) (by first | rfl | fail) | fail
     ·
      rintro ⟨t, ht⟩
      dsimp only
      have hrl := rnds_len_w (k := k) hh b t
      by_cases ht3 : t < 80
      ·
       have hlt : decide ((t : Int) < 80) = true := by simp; omega
       have hs := rnds_w_s k h b t
       have hp := wp1i t (by omega)
       obtain ⟨X, hX⟩ : ∃ X, X = rnds_w k h b t := ⟨_, rfl⟩
       obtain ⟨Y, hY⟩ : ∃ Y, Y = wex_w b (80 - 16) := ⟨_, rfl⟩
       rw [← hX, ← hY] at hs
       rw [← hX] at hrl
       rw [← hY] at hwl
       rw [← hX, ← hY]
       clear hX hY
       obtain ⟨x0, x1, x2, x3, x4, x5, x6, x7, rfl⟩ := ex8u hrl
       have qa := f157 x4 14 18 41 (by omega) (by omega) (by omega) h k
       have qb := f157 x0 28 34 39 (by omega) (by omega) (by omega) h k
       conv => whnf
       first | refine brT (by exact hlt) ?_ | fail
       conv => whnf
       repeat (first | (refine Exists.intro _ (And.intro (sload_u64 (i := t) (by first | rfl | omega | fail) (by first | omega | fail)) ?_); conv => whnf) | (refine Exists.intro _ (And.intro (idx_i (m := t) (by first | rfl | fail)) ?_); conv => whnf) | (refine Exists.intro _ (And.intro rfl ?_); conv => whnf) | (refine And.intro (by first | omega | fail) ?_; conv => whnf) | (refine And.intro (by kernel_rfl) ?_; conv => whnf) | fail)
       refine ok1_callF [0, 1, 2] [false, false, false] true (qa) rfl rfl ⟨⟨rfl, by first | rfl | fail⟩, by (repeat' (first | exact trivial | refine And.intro ?_ ?_)) <;> first | rfl | exact ren_eq (by first | (simp; done) | fail) (by first | rfl | fail) | fail, by first | rfl | fail, by first | rfl | fail, ?_⟩
       conv => whnf
       repeat (first | (refine Exists.intro _ (And.intro (sload_u64 (i := t) (by first | rfl | omega | fail) (by first | omega | fail)) ?_); conv => whnf) | (refine Exists.intro _ (And.intro (idx_i (m := t) (by first | rfl | fail)) ?_); conv => whnf) | (refine Exists.intro _ (And.intro rfl ?_); conv => whnf) | (refine And.intro (by first | omega | fail) ?_; conv => whnf) | (refine And.intro (by kernel_rfl) ?_; conv => whnf) | fail)
       refine ok1_callF [0, 1, 2] [false, false, false] true (qb) rfl rfl ⟨⟨rfl, by first | rfl | fail⟩, by (repeat' (first | exact trivial | refine And.intro ?_ ?_)) <;> first | rfl | exact ren_eq (by first | (simp; done) | fail) (by first | rfl | fail) | fail, by first | rfl | fail, by first | rfl | fail, ?_⟩
       conv => whnf
       repeat (first | (refine Exists.intro _ (And.intro (sput_all rfl (by first | rfl | fail)) ?_); conv => whnf) | (refine Exists.intro _ (And.intro rfl ?_); conv => whnf) | (refine And.intro (by first | omega | (simp; done) | fail) ?_; conv => whnf) | fail)
       refine ⟨⟨t + 1, by omega⟩, by simp only; omega, ?_⟩
       dsimp only
       rw [hs]
       refine Weak.sel [0, 1, 2, 3, 4, 5] rfl rfl ?_ ?_ rfl rfl
       ·
        (repeat' (first | exact trivial | refine And.intro ?_ ?_ | fail)) <;> first | exact wk_i (by first | exact hp | exact hp.symm | fail) | rfl | fail
       ·
        (repeat' (first | exact trivial | refine And.intro ?_ ?_ | (refine wk_cons ?_ ?_))) <;> first | rfl | exact ren_eq (by first | (simp; done) | fail) (by first | rfl | fail) | fail
      ·
       obtain rfl : t = 80 := by omega
       conv => whnf
       first | refine brF (by rfl) ?_ | fail
       conv => whnf
       repeat (fail)
       refine loop_rule ttOk mixed (by kernel_rfl) (ι := { i : Nat // i ≤ 8 }) (fun i => [(0, .p 0 0), (7, .p 5 0), (189, .i (i.1 : Int))]) (fun i => [some (.ro (mach_w 1 2)), some (.row 25 ((addw_w h (rnds_w k h b 80) i.1).map .u64)), some (.ro (k.map .u64)), some (.ro (b.map .u8)), none, some (.ro ((rnds_w k h b 80).map .u64))]) (fun _ => 6) (fun i => 8 - i.1) ⟨0, by omega⟩ ?_ ?_
       ·
        have hz := addw_w_z h (rnds_w k h b 80)
        dsimp only
        rw [hz]
        refine Weak.sel [0, 1, 2, 3, 4, 5] rfl rfl ?_ ?_ rfl rfl
        ·
         (repeat' (first | exact trivial | refine And.intro ?_ ?_ | fail)) <;> first | rfl | fail
        ·
         (repeat' (first | exact trivial | refine And.intro ?_ ?_ | (refine wk_cons ?_ ?_))) <;> first | rfl | exact ren_eq (by first | (simp; done) | fail) (by first | rfl | fail) | fail
       ·
        rintro ⟨i, hi⟩
        dsimp only
        have hal := addw_len_w hh (rnds_w k h b 80) i
        by_cases hi3 : i < 8
        ·
         have hlt : decide ((i : Int) < 8) = true := by simp; omega
         have hs := addw_w_s h (rnds_w k h b 80) i
         have hp := wp1i i (by omega)
         conv => whnf
         first | refine brT (by exact hlt) ?_ | fail
         conv => whnf
         repeat (first | (refine Exists.intro _ (And.intro (sput_m64 (i := i) (by first | rfl | omega | fail)) ?_); conv => whnf) | (refine Exists.intro _ (And.intro (sload_u64 (i := i) (by first | rfl | omega | (simp; done) | fail) (by first | omega | fail)) ?_); conv => whnf) | (refine Exists.intro _ (And.intro (idx_i (m := i) (by first | rfl | fail)) ?_); conv => whnf) | (refine Exists.intro _ (And.intro rfl ?_); conv => whnf) | (refine And.intro (by first | omega | (simp; omega) | fail) ?_; conv => whnf) | (refine And.intro (by kernel_rfl) ?_; conv => whnf) | fail)
         refine ⟨⟨i + 1, by omega⟩, by simp only; omega, ?_⟩
         dsimp only
         rw [hs]
         refine Weak.sel [0, 1, 2, 3, 4, 5] rfl rfl ?_ ?_ rfl rfl
         ·
          (repeat' (first | exact trivial | refine And.intro ?_ ?_ | fail)) <;> first | exact wk_i (by first | exact hp | exact hp.symm | fail) | rfl | fail
         ·
          (repeat' (first | exact trivial | refine And.intro ?_ ?_ | (refine wk_cons ?_ ?_))) <;> first | rfl | exact ren_eq (by first | (simp; done) | fail) (by first | rfl | fail) | exact ren_m64 (by first | rfl | fail) | fail
        ·
         obtain rfl : i = 8 := by omega
         conv => whnf
         first | refine brF (by rfl) ?_ | fail
         conv => whnf
         repeat (fail)
         refine ⟨[0, 1, 2, 3], ?_, rfl, rfl, ?_, rfl⟩
         ·
          (repeat' (first | (refine wk_tup ?_) | fail)) <;> first | rfl | fail
         ·
          (repeat' (first | exact trivial | refine And.intro ?_ ?_ | (refine wk_cons ?_ ?_))) <;> first | rfl | exact ren_eq (by first | (simp; done) | fail) (by first | rfl | fail) | fail
end
end Go.Sh
namespace Go.Sh
open Go.Proofs
set_option maxHeartbeats 8000000
theorem blks_add_n (k h : List UInt32) (D : List UInt8) (a : Nat) : ∀ b, blks_n k h D (a + b) = blks_n k (blks_n k h D a) (D.drop (64 * a)) b
 | 0 => rfl
 | b + 1 => by
  show comp_n k (blks_n k h D (a + b)) ((D.drop (64 * (a + b))).take 64) = comp_n k (blks_n k (blks_n k h D a) (D.drop (64 * a)) b) (((D.drop (64 * a)).drop (64 * b)).take 64)
  rw [blks_add_n k h D a b, List.drop_drop, Nat.mul_add]
theorem blks_app_n (k h : List UInt32) (D X : List UInt8) : ∀ j, 64 * j ≤ D.length → blks_n k h (D ++ X) j = blks_n k h D j
 | 0, _ => rfl
 | j + 1, hj => by
  show comp_n k (blks_n k h (D ++ X) j) (((D ++ X).drop (64 * j)).take 64) = comp_n k (blks_n k h D j) ((D.drop (64 * j)).take 64)
  rw [blks_app_n k h D X j (by omega), List.drop_append_of_le_length (by omega), List.take_append_of_le_length (by simp; omega)]
def rest_n (T : List UInt8) : List UInt8 := T.drop (64 * (T.length / 64))
def st_n (k h : List UInt32) (T : List UInt8) : List UInt32 := blks_n k h T (T.length / 64)
theorem rest_len_n (T : List UInt8) : (rest_n T).length = T.length % 64 := by unfold rest_n; rw [List.length_drop]; omega
theorem st_len_n (k : List UInt32) {h : List UInt32} (hh : h.length = 8) (T : List UInt8) : (st_n k h T).length = 8 := blks_len_n k hh _ _
theorem feed_n (k h : List UInt32) (T X : List UInt8) (j : Nat) : blks_n k (st_n k h T) (rest_n T ++ X) j = blks_n k h (T ++ X) (T.length / 64 + j) := by
 have h1 : 64 * (T.length / 64) ≤ T.length := by omega
 rw [blks_add_n, blks_app_n k h T X _ h1, List.drop_append_of_le_length h1]; rfl
theorem feed_st_n (k h : List UInt32) (T X : List UInt8) : blks_n k (st_n k h T) (rest_n T ++ X) ((rest_n T ++ X).length / 64) = st_n k h (T ++ X) := by
 rw [feed_n]; unfold st_n; congr 1
 rw [List.length_append, List.length_append, rest_len_n]; omega
theorem feed_rest_n (T X : List UInt8) : (rest_n T ++ X).drop (64 * ((rest_n T ++ X).length / 64)) = rest_n (T ++ X) := by
 have h1 : 64 * (T.length / 64) ≤ T.length := by omega
 have e : rest_n T ++ X = (T ++ X).drop (64 * (T.length / 64)) := by rw [List.drop_append_of_le_length h1]; rfl
 rw [e, List.drop_drop]; unfold rest_n; congr 1
 rw [List.length_drop, List.length_append]; omega
theorem st_nil_n (k h : List UInt32) : st_n k h [] = h := rfl
theorem rest_nil_n : rest_n [] = [] := rfl
theorem pz_rest_n (T : List UInt8) : pz_n (rest_n T).length = pz_n T.length := by rw [rest_len_n]; unfold pz_n; omega
theorem lset_len_n (n : Nat) : ∀ i, (lset_n n i).length = 8
 | 0 => List.length_replicate
 | i + 1 => by unfold lset_n; rw [List.length_set]; exact lset_len_n n i
def last_n (T : List UInt8) : List UInt8 := rest_n T ++ [128] ++ List.replicate (pz_n T.length) 0 ++ lenb_n T.length
theorem last_len_n (T : List UInt8) : (last_n T).length = 64 * ((last_n T).length / 64) := by
 have h : (last_n T).length = T.length % 64 + 1 + pz_n T.length + 8 := by
  unfold last_n lenb_n
  rw [List.length_append, List.length_append, List.length_append, lset_len_n, rest_len_n, List.length_replicate]; rfl
 have h2 : (last_n T).length % 64 = 0 := by rw [h]; unfold pz_n; omega
 omega
theorem last_st_n (k h : List UInt32) (T : List UInt8) : outb_n (blks_n k (st_n k h T) (last_n T) ((last_n T).length / 64)) = hash_n k h T := by
 have e : last_n T = rest_n T ++ ([128] ++ List.replicate (pz_n T.length) 0 ++ lenb_n T.length) := by unfold last_n; simp only [List.append_assoc]
 have e2 : T ++ ([128] ++ List.replicate (pz_n T.length) 0 ++ lenb_n T.length) = padw_n T := by unfold padw_n; simp only [List.append_assoc]
 unfold hash_n
 rw [e, feed_st_n, e2]; rfl
theorem outl_len_n (h : List UInt32) : ∀ m, (outl_n h m).length = m
 | 0 => rfl
 | m + 1 => by unfold outl_n; rw [List.length_append, outl_len_n h m]; rfl
theorem hash_len_n (k h : List UInt32) (T : List UInt8) : (hash_n k h T).length = 32 := outl_len_n _ _
theorem padz_no_n {r j : Nat} (h : j < pz_n r) : (r + 1 + j + 8) % 64 ≠ 0 := by unfold pz_n at h; omega
theorem padz_yes_n (r : Nat) : (r + 1 + pz_n r + 8) % 64 = 0 := by unfold pz_n; omega
theorem blks_add_w (k h : List UInt64) (D : List UInt8) (a : Nat) : ∀ b, blks_w k h D (a + b) = blks_w k (blks_w k h D a) (D.drop (128 * a)) b
 | 0 => rfl
 | b + 1 => by
  show comp_w k (blks_w k h D (a + b)) ((D.drop (128 * (a + b))).take 128) = comp_w k (blks_w k (blks_w k h D a) (D.drop (128 * a)) b) (((D.drop (128 * a)).drop (128 * b)).take 128)
  rw [blks_add_w k h D a b, List.drop_drop, Nat.mul_add]
theorem blks_app_w (k h : List UInt64) (D X : List UInt8) : ∀ j, 128 * j ≤ D.length → blks_w k h (D ++ X) j = blks_w k h D j
 | 0, _ => rfl
 | j + 1, hj => by
  show comp_w k (blks_w k h (D ++ X) j) (((D ++ X).drop (128 * j)).take 128) = comp_w k (blks_w k h D j) ((D.drop (128 * j)).take 128)
  rw [blks_app_w k h D X j (by omega), List.drop_append_of_le_length (by omega), List.take_append_of_le_length (by simp; omega)]
def rest_w (T : List UInt8) : List UInt8 := T.drop (128 * (T.length / 128))
def st_w (k h : List UInt64) (T : List UInt8) : List UInt64 := blks_w k h T (T.length / 128)
theorem rest_len_w (T : List UInt8) : (rest_w T).length = T.length % 128 := by unfold rest_w; rw [List.length_drop]; omega
theorem st_len_w (k : List UInt64) {h : List UInt64} (hh : h.length = 8) (T : List UInt8) : (st_w k h T).length = 8 := blks_len_w k hh _ _
theorem feed_w (k h : List UInt64) (T X : List UInt8) (j : Nat) : blks_w k (st_w k h T) (rest_w T ++ X) j = blks_w k h (T ++ X) (T.length / 128 + j) := by
 have h1 : 128 * (T.length / 128) ≤ T.length := by omega
 rw [blks_add_w, blks_app_w k h T X _ h1, List.drop_append_of_le_length h1]; rfl
theorem feed_st_w (k h : List UInt64) (T X : List UInt8) : blks_w k (st_w k h T) (rest_w T ++ X) ((rest_w T ++ X).length / 128) = st_w k h (T ++ X) := by
 rw [feed_w]; unfold st_w; congr 1
 rw [List.length_append, List.length_append, rest_len_w]; omega
theorem feed_rest_w (T X : List UInt8) : (rest_w T ++ X).drop (128 * ((rest_w T ++ X).length / 128)) = rest_w (T ++ X) := by
 have h1 : 128 * (T.length / 128) ≤ T.length := by omega
 have e : rest_w T ++ X = (T ++ X).drop (128 * (T.length / 128)) := by rw [List.drop_append_of_le_length h1]; rfl
 rw [e, List.drop_drop]; unfold rest_w; congr 1
 rw [List.length_drop, List.length_append]; omega
theorem st_nil_w (k h : List UInt64) : st_w k h [] = h := rfl
theorem rest_nil_w : rest_w [] = [] := rfl
theorem pz_rest_w (T : List UInt8) : pz_w (rest_w T).length = pz_w T.length := by rw [rest_len_w]; unfold pz_w; omega
theorem lset_len_w (n : Nat) : ∀ i, (lset_w n i).length = 16
 | 0 => List.length_replicate
 | i + 1 => by unfold lset_w; rw [List.length_set]; exact lset_len_w n i
def last_w (T : List UInt8) : List UInt8 := rest_w T ++ [128] ++ List.replicate (pz_w T.length) 0 ++ lenb_w T.length
theorem last_len_w (T : List UInt8) : (last_w T).length = 128 * ((last_w T).length / 128) := by
 have h : (last_w T).length = T.length % 128 + 1 + pz_w T.length + 16 := by
  unfold last_w lenb_w
  rw [List.length_append, List.length_append, List.length_append, lset_len_w, rest_len_w, List.length_replicate]; rfl
 have h2 : (last_w T).length % 128 = 0 := by rw [h]; unfold pz_w; omega
 omega
theorem last_st_w (k h : List UInt64) (T : List UInt8) : outb_w (blks_w k (st_w k h T) (last_w T) ((last_w T).length / 128)) = hash_w k h T := by
 have e : last_w T = rest_w T ++ ([128] ++ List.replicate (pz_w T.length) 0 ++ lenb_w T.length) := by unfold last_w; simp only [List.append_assoc]
 have e2 : T ++ ([128] ++ List.replicate (pz_w T.length) 0 ++ lenb_w T.length) = padw_w T := by unfold padw_w; simp only [List.append_assoc]
 unfold hash_w
 rw [e, feed_st_w, e2]; rfl
theorem outl_len_w (h : List UInt64) : ∀ m, (outl_w h m).length = m
 | 0 => rfl
 | m + 1 => by unfold outl_w; rw [List.length_append, outl_len_w h m]; rfl
theorem hash_len_w (k h : List UInt64) (T : List UInt8) : (hash_w k h T).length = 64 := outl_len_w _ _
theorem padz_no_w {r j : Nat} (h : j < pz_w r) : (r + 1 + j + 16) % 128 ≠ 0 := by unfold pz_w at h; omega
theorem padz_yes_w (r : Nat) : (r + 1 + pz_w r + 16) % 128 = 0 := by unfold pz_w; omega
theorem u64_add_i (a b : Nat) (h : a + b < 2 ^ 62) : UInt64.ofNat a + u64i (b : Int) = UInt64.ofNat (a + b) := by
 have : u64i (b : Int) = UInt64.ofNat b := by
  unfold u64i; congr 1; omega
 rw [this, ← UInt64.ofNat_add]
end Go.Sh
namespace Go.Sh
open Go.Proofs
set_option maxHeartbeats 1000000
attribute [local irreducible] comp_n
theorem f139D (h k : List UInt32) (D : List UInt8) (o : Nat) (hh : h.length = 8) (hk : k.length = 64) (ho : o + 64 ≤ D.length) (fl : Bool) : SCall Try.prog 139 [.p 0 0, .sl 3 o 64 1 fl] [some (.ro (mach_n 1 2)), some (.row 23 (h.map .u32)), some (.ro (k.map .u32)), some (.ro (D.map .u8))] (.tup []) [some (.ro (mach_n 1 2)), some (.row 23 ((comp_n k h ((D.drop o).take 64)).map .u32)), some (.ro (k.map .u32)), some (.ro (D.map .u8))] :=
 have hl : ((D.drop o).take 64).length = 64 := (by rw [List.length_take, List.length_drop]; omega)
 (f139 h k ((D.drop o).take 64) hh hk hl fl).sub 3 o (D.map .u8) (((D.drop o).take 64).map .u8) 4 rfl rfl (by rw [List.length_map, hl, ← List.map_drop, ← List.map_take]) (plainL_u8 _) (plainL_u8 _) (by decide) ⟨.inr ⟨rfl, rfl⟩, .inl rfl, trivial⟩ rfl
  ⟨.inr (.inr rfl), .inr (.inl (by simp [plainB])), .inr (.inl (by simp [plainB])), .inl rfl, trivial⟩ ⟨.inr (.inr rfl), .inr (.inl (by simp [plainB])), .inr (.inl (by simp [plainB])), .inl rfl, trivial⟩
theorem blks_s_n (k h : List UInt32) (D : List UInt8) (j : Nat) : blks_n k h D (j + 1) = comp_n k (blks_n k h D j) ((D.drop (64 * j)).take 64) := rfl
theorem blks_z_n (k h : List UInt32) (D : List UInt8) : blks_n k h D 0 = h := rfl
theorem cat8 {E b : List UInt8} {o n m : Nat} (hn : n = E.length - o) (hm : m = b.length) : List.take (n * 1) (List.drop o (E.map SV.u8)) ++ List.take (m * 1) (List.drop 0 (b.map SV.u8)) = (E.drop o ++ b).map SV.u8 := by
 subst hn; subst hm
 rw [Nat.mul_one, Nat.mul_one, List.drop_zero, List.take_of_length_le (l := b.map SV.u8) (by rw [List.length_map]; exact Nat.le_refl _), List.take_of_length_le (by rw [List.length_drop, List.length_map]; exact Nat.le_refl _), List.map_append, List.map_drop]
theorem outl_z_n (H : List UInt32) : outl_n H (4 * 0) = [] := rfl
theorem outl_s_n (H : List UInt32) (i m : Nat) (hm : m < 4) : outl_n H (4 * i + (m + 1)) = outl_n H (4 * i + m) ++ [(shr32 (H.getD i 0) (8 * (3 - m))).toUInt8] := by
 show outl_n H (4 * i + m) ++ [(shr32 (H.getD ((4 * i + m) / 4) 0) (8 * (4 - 1 - (4 * i + m) % 4))).toUInt8] = _
 rw [show (4 * i + m) / 4 = i by omega, show 4 - 1 - (4 * i + m) % 4 = 3 - m by omega]
theorem outb_e_n (H : List UInt32) : outb_n H = outl_n H (4 * 8) := rfl
theorem lset_z_n (N : Nat) : lset_n N 0 = List.replicate 8 0 := rfl
theorem lset_s_n (N i : Nat) : lset_n N (i + 1) = (lset_n N i).set (7 - i) (shr64 (shl64 (UInt64.ofNat N) (UInt64.ofNat (Int.toNat 3)).toNat) (8 * i)).toUInt8 := rfl
theorem last_e_n (T : List UInt8) : rest_n T ++ [128] ++ List.replicate (pz_n T.length) 0 ++ lset_n T.length 8 = last_n T := rfl
attribute [local irreducible] blks_n st_n rest_n hash_n pz_n outl_n outb_n lset_n last_n
theorem f102_1 (h k : List UInt32) (hh : h.length = 8) (hk : k.length = 64) (b0 : List UInt8) (hb0 : b0.length < 100000000000000) (f0 fl : Bool) : SCall Try.prog 102 [.p 0 0, .sl 3 0 1 1 fl] [some (.ro (mach_n 1 2)), some (.row 23 (h.map .u32)), some (.ro (k.map .u32)), some (.ro [.sl 4 0 b0.length 1 f0]), some (.ro (b0.map .u8))] (.sl 5 0 32 1 false) [some (.ro (mach_n 1 2)), none, some (.ro (k.map .u32)), some (.ro [.sl 4 0 b0.length 1 f0]), some (.ro (b0.map .u8)), some (.row 5 ((hash_n k h b0).map .u8))] := by
 obtain ⟨tx, htx⟩ : ∃ tx : Nat → List UInt8, tx = fun i => ([b0].take i).flatten := ⟨_, rfl⟩
 have tx0 : tx 0 = [] := by rw [htx]; rfl
 have tx1 : tx 1 = tx 0 ++ b0 := by rw [htx]; simp
 have htp : tx 1 = b0 := by rw [tx1, tx0]; rfl
 have he : hash_n k h b0 = hash_n k h (tx 1) := by rw [htp]
 rw [he]
 have hl0 : (tx 0).length = 0 := by rw [tx0]; rfl
 have hl1 : (tx 1).length = b0.length := by rw [tx1, List.length_append, hl0, Nat.zero_add]
 clear htx
 refine scall_of ttOk (by kernel_rfl : Try.prog.funcs[102]? = some Try.f102) rfl rfl rfl ?_
 try simp only [List.length_cons, List.length_nil, Nat.zero_add, Nat.reduceAdd]
 refine sw_ok ttOk mixed (by kernel_rfl) ?_
 conv => whnf
 repeat (first | (refine Exists.intro _ (And.intro rfl ?_); conv => whnf) | fail)
 refine SWp.weak (Weak.virt 6 5 1 rfl) ?_
 refine loop_rule ttOk mixed (by kernel_rfl) (ι := { x : Nat × List UInt8 × Nat // x.1 ≤ 1 ∧ x.2.2 ≤ x.2.1.length ∧ x.2.1.drop x.2.2 = rest_n (tx x.1) }) (fun x => [(0, .p 0 0), (5, .i 64), (6, .sl 5 x.1.2.2 (x.1.2.1.length - x.1.2.2) 1 false), (7, .u64 (UInt64.ofNat (tx x.1.1).length)), (21, .sl 3 0 1 1 fl), (22, .i 1), (23, .i (x.1.1 : Int))]) (fun x => [some (.ro (mach_n 1 2)), some (.row 23 ((st_n k h (tx x.1.1)).map .u32)), some (.ro (k.map .u32)), some (.ro [.sl 4 0 b0.length 1 f0]), some (.ro (b0.map .u8)), some (.row 5 (x.1.2.1.map .u8))]) (fun _ => 6) (fun x => 1 - x.1.1) ⟨(0, [], 0), by omega, by simp, by rw [tx0]; exact rest_nil_n.symm⟩ ?_ ?_
 ·
  dsimp only
  rw [tx0, st_nil_n]
  refine Weak.sel [0, 1, 2, 3, 4, 5] rfl rfl ?_ ?_ rfl rfl
  ·
   (repeat' (first | exact trivial | refine And.intro ?_ ?_ | fail)) <;> first | rfl | fail
  ·
   (repeat' (first | exact trivial | refine And.intro ?_ ?_ | (refine wk_cons ?_ ?_))) <;> first | rfl | exact ren_eq (by first | (simp; done) | fail) (by first | rfl | fail) | fail
 ·
  rintro ⟨⟨i, E, o⟩, hi, ho, hE⟩
  dsimp only at hi ho hE ⊢
  have hsl := st_len_n k hh (tx i)
  have hrl := rest_len_n (tx i)
  obtain ⟨S, hS⟩ : ∃ S, S = st_n k h (tx i) := ⟨_, rfl⟩
  rw [← hS] at hsl ⊢
  have hEl : E.length - o = (rest_n (tx i)).length := by rw [← hE, List.length_drop]
  by_cases hi2 : i < 1
  ·
   obtain rfl : i = 0 := by omega
   have hq := feed_st_n k h (tx 0) b0
   have hq2 := feed_rest_n (tx 0) b0
   rw [← hS] at hq
   rw [← tx1] at hq hq2
   rw [← hE] at hq hq2 hEl
   have hap : (E.drop o ++ b0).map SV.u8 = List.take ((E.length - o) * 1) (List.drop o (E.map SV.u8)) ++ List.take (b0.length * 1) (List.drop 0 (b0.map SV.u8)) := (cat8 rfl rfl).symm
   have hDl : (E.drop o ++ b0).length = E.length - o + b0.length := by rw [List.length_append, List.length_drop]
   have hel : E.length - o < 64 := by rw [← List.length_drop, hE, hrl]; omega
   have hul : UInt64.ofNat (tx 0).length + u64i (b0.length : Int) = UInt64.ofNat (tx 1).length := by rw [u64_add_i _ _ (by omega), tx1, List.length_append]
   clear hS hrl
   conv => whnf
   first | refine brT (by rfl) ?_ | fail
   conv => whnf
   repeat (first | (refine Exists.intro _ (And.intro rfl ?_); conv => whnf) | (refine And.intro (by first | omega | (simp [ti5]; omega)) ?_; conv => whnf) | fail)
   obtain ⟨D, hD⟩ : ∃ D, D = E.drop o ++ b0 := ⟨_, rfl⟩
   rw [← hD] at hq hq2 hap hDl
   refine loop_rule ttOk mixed (by kernel_rfl) (ι := { j : Nat // 64 * j ≤ D.length }) (fun j => [(0, .p 0 0), (5, .i 64), (6, .sl 5 (64 * j.1) (D.length - 64 * j.1) 1 false), (7, .u64 (UInt64.ofNat (tx 1).length)), (21, .sl 3 0 1 1 fl), (22, .i 1), (23, .i 0)]) (fun j => [some (.ro (mach_n 1 2)), some (.row 23 ((blks_n k S D j.1).map .u32)), some (.ro (k.map .u32)), some (.ro [.sl 4 0 b0.length 1 f0]), some (.ro (b0.map .u8)), some (.row 5 (D.map .u8))]) (fun _ => 5 + 1) (fun j => D.length - 64 * j.1) ⟨0, by omega⟩ ?_ ?_
   ·
    have hz := blks_z_n k S D
    have hDn : E.length - o + b0.length = D.length - 64 * 0 := by omega
    dsimp only
    rw [hz]
    refine Weak.sel [0, 1, 2, 3, 4, 6] rfl rfl ?_ ?_ rfl rfl
    ·
     (repeat' (first | exact trivial | refine And.intro ?_ ?_ | fail)) <;> first | exact wk_u64 (by first | exact hul | exact hul.symm | fail) | rfl | exact wk_sl rfl (by first | rfl | fail) (by first | exact hDn.symm | fail) | fail
    ·
     (repeat' (first | exact trivial | exact ren_eq (plainL_u8 _) hap | refine And.intro ?_ ?_ | (refine wk_cons ?_ ?_))) <;> first | rfl | exact ren_eq (by first | (simp; done) | fail) (by first | rfl | fail) | fail
   ·
    rintro ⟨j, hj⟩
    dsimp only
    have hbl := blks_len_n k hsl D j
    by_cases hc : 64 * (j + 1) ≤ D.length
    ·
     have hge : decide (((D.length - 64 * j : Nat) : Int) ≥ 64) = true := by simp; omega
     have hs := blks_s_n k S D j
     have q139 := f139D (blks_n k S D j) k D (64 * j) hbl hk (by omega) false
     rw [← hs] at q139
     conv => whnf
     first | refine brT (by exact hge) ?_ | fail
     conv => whnf
     repeat (first | (refine Exists.intro _ (And.intro rfl ?_); conv => whnf) | (refine And.intro (by first | omega | fail) ?_; conv => whnf) | fail)
     refine ok1_callF [0, 1, 2, 5] [false, true, false, false] true (q139) rfl rfl ⟨⟨rfl, by first | rfl | fail⟩, by (repeat' (first | exact trivial | refine And.intro ?_ ?_)) <;> first | rfl | exact ren_eq (by first | (simp; done) | fail) (by first | rfl | fail) | fail, by first | simp [plainHf, plainB], by first | rfl | fail, ?_⟩
     conv => whnf
     repeat (first | (refine Exists.intro _ (And.intro rfl ?_); conv => whnf) | (refine And.intro (by first | omega | fail) ?_; conv => whnf) | fail)
     refine ⟨⟨j + 1, hc⟩, by simp only; omega, ?_⟩
     dsimp only
     refine Weak.sel [0, 1, 2, 3, 4, 5] rfl rfl ?_ ?_ rfl rfl
     ·
      (repeat' (first | exact trivial | refine And.intro ?_ ?_ | fail)) <;> first | rfl | fail
     ·
      (repeat' (first | exact trivial | refine And.intro ?_ ?_ | (refine wk_cons ?_ ?_))) <;> first | rfl | exact ren_eq (by first | (simp; done) | fail) (by first | rfl | fail) | fail
    ·
     obtain rfl : j = D.length / 64 := by omega
     have hge : decide (((D.length - 64 * (D.length / 64) : Nat) : Int) ≥ 64) = false := by simp; omega
     rw [hq]
     conv => whnf
     first | refine brF (by exact hge) ?_ | fail
     conv => whnf
     repeat (fail)
     refine ⟨⟨(1, D, 64 * (D.length / 64)), by omega, by simp only; omega, hq2⟩, by simp only; omega, ?_⟩
     dsimp only
     refine Weak.sel [0, 1, 2, 3, 4, 5] rfl rfl ?_ ?_ rfl rfl
     ·
      (repeat' (first | exact trivial | refine And.intro ?_ ?_ | fail)) <;> first | rfl | fail
     ·
      (repeat' (first | exact trivial | refine And.intro ?_ ?_ | (refine wk_cons ?_ ?_))) <;> first | rfl | exact ren_eq (by first | (simp; done) | fail) (by first | rfl | fail) | fail
  ·
   obtain rfl : i = 1 := by omega
   obtain ⟨n, hn⟩ : ∃ n, n = E.length - o := ⟨_, rfl⟩
   have hnE : o + n = E.length := by omega
   rw [← hn]
   have hcat : (rest_n (tx 1) ++ [128]).map SV.u8 = List.take (n * 1) (List.drop o (E.map SV.u8)) ++ List.take (1 * 1) (List.drop 0 [SV.u8 128]) := by rw [← hE]; exact (cat8 (b := [128]) hn rfl).symm
   have hdd : decide (((n : Nat) : Int).toNat = ((n : Nat) : Int).toNat) = true := by simp
   conv => whnf
   first | refine brF (by rfl) ?_ | fail
   conv => whnf
   repeat (first | (refine Exists.intro _ (And.intro rfl ?_); conv => whnf) | (refine And.intro (by first | omega | fail) ?_; conv => whnf) | fail)
   rw [hdd]
   rw [Int.toNat_natCast]
   have hnl : n = (rest_n (tx 1)).length := by rw [hn, ← hE, List.length_drop]
   have hn64 : n < 64 := by rw [hnl, hrl]; omega
   have hpz := pz_rest_n (tx 1)
   rw [← hnl] at hpz
   have hpl : pz_n n < 64 := by unfold pz_n; exact Nat.mod_lt _ (by decide)
   conv => whnf
   refine And.intro ⟨by show _ ≤ (E.map SV.u8).length; rw [List.length_map]; omega, by decide, by show _ * 1 ≤ _; omega, by decide⟩ ?_
   conv => whnf
   repeat (fail)
   refine loop_rule ttOk mixed (by kernel_rfl) (ι := { j : Nat // j ≤ pz_n n }) (fun j => [(0, .p 0 0), (5, .i 64), (6, .sl 5 0 (n + 1 + j.1) 1 false), (7, .u64 (UInt64.ofNat (tx 1).length))]) (fun j => [some (.ro (mach_n 1 2)), some (.row 23 (S.map .u32)), some (.ro (k.map .u32)), some (.ro [.sl 4 0 b0.length 1 f0]), some (.ro (b0.map .u8)), some (.row 5 ((rest_n (tx 1) ++ [128] ++ List.replicate j.1 0).map .u8))]) (fun _ => 5 + 1) (fun j => pz_n n - j.1) ⟨0, by omega⟩ ?_ ?_
   ·
    have hz : rest_n (tx 1) ++ [128] ++ List.replicate 0 0 = rest_n (tx 1) ++ [128] := List.append_nil _
    dsimp only
    rw [hz]
    refine Weak.sel [0, 1, 2, 3, 4, 5 + 2] rfl rfl ?_ ?_ rfl rfl
    ·
     (repeat' (first | exact trivial | refine And.intro ?_ ?_ | fail)) <;> first | rfl | fail
    ·
     (repeat' (first | exact trivial | exact ren_eq (plainL_u8 _) hcat | refine And.intro ?_ ?_ | (refine wk_cons ?_ ?_))) <;> first | rfl | exact ren_eq (by first | (simp; done) | fail) (by first | rfl | fail) | fail
   ·
    rintro ⟨j, hj⟩
    dsimp only
    obtain ⟨Y, hY⟩ : ∃ Y, Y = rest_n (tx 1) ++ [128] ++ List.replicate j 0 := ⟨_, rfl⟩
    have hYl : Y.length = n + 1 + j := by rw [hY, List.length_append, List.length_append, ← hnl, List.length_replicate]; rfl
    have hYs : rest_n (tx 1) ++ [128] ++ List.replicate (j + 1) 0 = Y ++ [0] := by rw [hY, List.replicate_succ', List.append_assoc]; simp
    by_cases hj2 : j < pz_n n
    ·
     have hno := padz_no_n hj2
     have hcd : (((w64 (((n + 1 + j : Nat) : Int) + w64 (2 * 4))).tmod 64) != 0) = true := by
      have e : w64 (((n + 1 + j : Nat) : Int) + w64 (2 * 4)) = ((n + 1 + j + 8 : Nat) : Int) := by simp only [w64_eq]; omega
      rw [e, show (((n + 1 + j + 8 : Nat) : Int)).tmod 64 = (((n + 1 + j + 8) % 64 : Nat) : Int) from rfl]
      simp; omega
     rw [← hY]
     conv => whnf
     repeat (first | (refine Exists.intro _ (And.intro rfl ?_); conv => whnf) | fail)
     first | refine brT (by exact hcd) ?_ | fail
     conv => whnf
     repeat (first | (refine Exists.intro _ (And.intro rfl ?_); conv => whnf) | (refine And.intro (by first | omega | (simp [ti5]; omega)) ?_; conv => whnf) | fail)
     have hap2 : (Y ++ [0]).map SV.u8 = List.take ((n + 1 + j) * 1) (List.drop 0 (Y.map SV.u8)) ++ List.take (1 * 1) (List.drop 0 [SV.u8 0]) := (cat8 (o := 0) (n := n + 1 + j) (E := Y) (b := [0]) (by omega) rfl).symm
     refine ⟨⟨j + 1, by omega⟩, by simp only; omega, ?_⟩
     dsimp only
     rw [hYs]
     refine Weak.sel [0, 1, 2, 3, 4, 5 + 2] rfl rfl ?_ ?_ rfl rfl
     ·
      (repeat' (first | exact trivial | refine And.intro ?_ ?_ | fail)) <;> first | rfl | fail
     ·
      (repeat' (first | exact trivial | exact ren_eq (plainL_u8 _) hap2 | refine And.intro ?_ ?_ | (refine wk_cons ?_ ?_))) <;> first | rfl | exact ren_eq (by first | (simp; done) | fail) (by first | rfl | fail) | fail
    ·
     obtain rfl : j = pz_n n := by omega
     have hyes := padz_yes_n n
     have hcd : (((w64 (((n + 1 + pz_n n : Nat) : Int) + w64 (2 * 4))).tmod 64) != 0) = false := by
      have e : w64 (((n + 1 + pz_n n : Nat) : Int) + w64 (2 * 4)) = ((n + 1 + pz_n n + 8 : Nat) : Int) := by simp only [w64_eq]; omega
      rw [e, show (((n + 1 + pz_n n + 8 : Nat) : Int)).tmod 64 = (((n + 1 + pz_n n + 8) % 64 : Nat) : Int) from rfl, hyes]
      rfl
     rw [← hY]
     conv => whnf
     repeat (first | (refine Exists.intro _ (And.intro rfl ?_); conv => whnf) | fail)
     first | refine brF (by exact hcd) ?_ | fail
     conv => whnf
     repeat (first | (refine Exists.intro _ (And.intro rfl ?_); conv => whnf) | (refine And.intro ⟨by first | decide | fail, by first | decide | fail⟩ ?_; conv => whnf) | fail)
     obtain ⟨N, hN⟩ : ∃ N, N = (tx 1).length := ⟨_, rfl⟩
     rw [← hN]
     refine loop_rule ttOk mixed (by kernel_rfl) (ι := { i : Nat // i ≤ 8 }) (fun i => [(0, .p 0 0), (5, .i 64), (6, .sl 5 0 (n + 1 + pz_n n) 1 false), (7, .u64 (UInt64.ofNat N)), (10, .sl (5 + 1) 0 8 1 true), (76, .i (i.1 : Int))]) (fun i => [some (.ro (mach_n 1 2)), some (.row 23 (S.map .u32)), some (.ro (k.map .u32)), some (.ro [.sl 4 0 b0.length 1 f0]), some (.ro (b0.map .u8)), some (.row 5 (Y.map .u8)), some (.row 5 ((lset_n N i.1).map .u8))]) (fun _ => 5 + 2) (fun i => 8 - i.1) ⟨0, by omega⟩ ?_ ?_
     ·
      have hz := lset_z_n N
      dsimp only
      rw [hz]
      refine Weak.sel [0, 1, 2, 3, 4, 5, 5 + 1] rfl rfl ?_ ?_ rfl rfl
      ·
       (repeat' (first | exact trivial | refine And.intro ?_ ?_ | fail)) <;> first | rfl | fail
      ·
       (repeat' (first | exact trivial | exact ren_z8 | refine And.intro ?_ ?_ | (refine wk_cons ?_ ?_))) <;> first | rfl | exact ren_eq (by first | (simp; done) | fail) (by first | rfl | fail) | fail
     ·
      rintro ⟨i, hi⟩
      dsimp only
      have hll := lset_len_n N i
      by_cases hi8 : i < 8
      ·
       have hlt : decide ((i : Int) < 8) = true := by simp; omega
       have hp := wp1i i (by omega)
       have h8 : w64 (8 * (i : Int)) = ((8 * i : Nat) : Int) := by simp only [w64_eq]; omega
       have h7 : w64 (w64 (8 - 1) - (i : Int)) = ((7 - i : Nat) : Int) := by simp only [w64_eq]; omega
       have hs := lset_s_n N i
       conv => whnf
       first | refine brT (by exact hlt) ?_ | fail
       conv => whnf
       repeat (fail)
       refine ⟨_, mshr_64 h8, ?_⟩
       conv => whnf
       repeat (first | (refine Exists.intro _ (And.intro (sput_m8 (i := 7 - i) (by first | rfl | omega | fail)) ?_); conv => whnf) | (refine Exists.intro _ (And.intro (idx_i (m := 7 - i) (by first | rfl | omega | fail)) ?_); conv => whnf) | (refine And.intro (by first | omega | (simp; omega) | fail) ?_; conv => whnf) | fail)
       refine ⟨⟨i + 1, by omega⟩, by simp only; omega, ?_⟩
       dsimp only
       rw [hs]
       refine Weak.sel [0, 1, 2, 3, 4, 5, 5 + 1] rfl rfl ?_ ?_ rfl rfl
       ·
        (repeat' (first | exact trivial | refine And.intro ?_ ?_ | fail)) <;> first | exact wk_i (by first | exact hp | exact hp.symm | fail) | rfl | fail
       ·
        (repeat' (first | exact trivial | refine And.intro ?_ ?_ | (refine wk_cons ?_ ?_))) <;> first | rfl | exact ren_eq (by first | (simp; done) | fail) (by first | rfl | fail) | exact ren_m8 (by first | rfl | fail) | fail
      ·
       obtain rfl : i = 8 := by omega
       have hap3 : (Y ++ lset_n N 8).map SV.u8 = List.take ((n + 1 + pz_n n) * 1) (List.drop 0 (Y.map SV.u8)) ++ List.take (8 * 1) (List.drop 0 ((lset_n N 8).map SV.u8)) := (cat8 (o := 0) (n := n + 1 + pz_n n) (E := Y) (b := lset_n N 8) (by omega) hll.symm).symm
       obtain ⟨D, hD⟩ : ∃ D, D = Y ++ lset_n N 8 := ⟨_, rfl⟩
       have hDl : D.length = n + 1 + pz_n n + 8 := by rw [hD, List.length_append, hYl, hll]
       have hDe : D = last_n (tx 1) := by rw [hD, hY, hpz, hN]; exact last_e_n _
       have hD64 := last_len_n (tx 1)
       have hfin := last_st_n k h (tx 1)
       rw [← hDe] at hD64 hfin
       rw [← hS] at hfin
       rw [← hD] at hap3
       conv => whnf
       first | refine brF (by rfl) ?_ | fail
       conv => whnf
       repeat (first | (refine And.intro (by first | omega | (simp [ti5]; omega)) ?_; conv => whnf) | fail)
       refine loop_rule ttOk mixed (by kernel_rfl) (ι := { j : Nat // 64 * j ≤ D.length }) (fun j => [(0, .p 0 0), (5, .i 64), (6, .sl 5 (64 * j.1) (D.length - 64 * j.1) 1 false)]) (fun j => [some (.ro (mach_n 1 2)), some (.row 23 ((blks_n k S D j.1).map .u32)), some (.ro (k.map .u32)), some (.ro [.sl 4 0 b0.length 1 f0]), some (.ro (b0.map .u8)), some (.row 5 (D.map .u8))]) (fun _ => 5 + 1) (fun j => D.length - 64 * j.1) ⟨0, by omega⟩ ?_ ?_
       ·
        have hz := blks_z_n k S D
        have hDn : n + 1 + pz_n n + 8 = D.length - 64 * 0 := by omega
        dsimp only
        rw [hz]
        refine Weak.sel [0, 1, 2, 3, 4, 5 + 2] rfl rfl ?_ ?_ rfl rfl
        ·
         (repeat' (first | exact trivial | refine And.intro ?_ ?_ | fail)) <;> first | rfl | exact wk_sl rfl (by first | rfl | fail) (by first | exact hDn.symm | fail) | fail
        ·
         (repeat' (first | exact trivial | exact ren_eq (plainL_u8 _) hap3 | refine And.intro ?_ ?_ | (refine wk_cons ?_ ?_))) <;> first | rfl | exact ren_eq (by first | (simp; done) | fail) (by first | rfl | fail) | fail
       ·
        rintro ⟨j, hj⟩
        dsimp only
        have hbl := blks_len_n k hsl D j
        by_cases hc : 64 * (j + 1) ≤ D.length
        ·
         have hge : decide (((D.length - 64 * j : Nat) : Int) > 0) = true := by simp; omega
         have hs := blks_s_n k S D j
         have q139 := f139D (blks_n k S D j) k D (64 * j) hbl hk (by omega) false
         rw [← hs] at q139
         conv => whnf
         first | refine brT (by exact hge) ?_ | fail
         conv => whnf
         repeat (first | (refine Exists.intro _ (And.intro rfl ?_); conv => whnf) | (refine And.intro (by first | omega | fail) ?_; conv => whnf) | fail)
         refine ok1_callF [0, 1, 2, 5] [false, true, false, false] true (q139) rfl rfl ⟨⟨rfl, by first | rfl | fail⟩, by (repeat' (first | exact trivial | refine And.intro ?_ ?_)) <;> first | rfl | exact ren_eq (by first | (simp; done) | fail) (by first | rfl | fail) | fail, by first | simp [plainHf, plainB], by first | rfl | fail, ?_⟩
         conv => whnf
         repeat (first | (refine Exists.intro _ (And.intro rfl ?_); conv => whnf) | (refine And.intro (by first | omega | fail) ?_; conv => whnf) | fail)
         refine ⟨⟨j + 1, hc⟩, by simp only; omega, ?_⟩
         dsimp only
         refine Weak.sel [0, 1, 2, 3, 4, 5] rfl rfl ?_ ?_ rfl rfl
         ·
          (repeat' (first | exact trivial | refine And.intro ?_ ?_ | fail)) <;> first | rfl | fail
         ·
          (repeat' (first | exact trivial | refine And.intro ?_ ?_ | (refine wk_cons ?_ ?_))) <;> first | rfl | exact ren_eq (by first | (simp; done) | fail) (by first | rfl | fail) | fail
        ·
         obtain rfl : j = D.length / 64 := by omega
         have hge : decide (((D.length - 64 * (D.length / 64) : Nat) : Int) > 0) = false := by simp; omega
         obtain ⟨H, hH⟩ : ∃ H, H = blks_n k S D (D.length / 64) := ⟨_, rfl⟩
         rw [← hH] at hbl hfin ⊢
         conv => whnf
         first | refine brF (by exact hge) ?_ | fail
         conv => whnf
         repeat (first | (refine Exists.intro _ (And.intro rfl ?_); conv => whnf) | fail)
         refine SWp.weak (Weak.virt 12 5 1 rfl) ?_
         refine loop_rule ttOk mixed (by kernel_rfl) (ι := { i : Nat // i ≤ 8 }) (fun i => [(0, .p 0 0), (12, .sl 5 0 (4 * i.1) 1 false), (110, .sl 1 0 8 1 false), (111, .i 8), (112, .i (i.1 : Int))]) (fun i => [some (.ro (mach_n 1 2)), some (.row 23 (H.map .u32)), some (.ro (k.map .u32)), some (.ro [.sl 4 0 b0.length 1 f0]), some (.ro (b0.map .u8)), some (.row 5 ((outl_n H (4 * i.1)).map .u8))]) (fun _ => 5 + 1) (fun i => 8 - i.1) ⟨0, by omega⟩ ?_ ?_
         ·
          have hz := outl_z_n H
          dsimp only
          rw [hz]
          refine Weak.sel [0, 1, 2, 3, 4, 5 + 1] rfl rfl ?_ ?_ rfl rfl
          ·
           (repeat' (first | exact trivial | refine And.intro ?_ ?_ | fail)) <;> first | rfl | fail
          ·
           (repeat' (first | exact trivial | refine And.intro ?_ ?_ | (refine wk_cons ?_ ?_))) <;> first | rfl | exact ren_eq (by first | (simp; done) | fail) (by first | rfl | fail) | fail
         ·
          rintro ⟨i, hi⟩
          dsimp only
          by_cases hi8 : i < 8
          ·
           have hlt : decide ((i : Int) < 8) = true := by simp; omega
           have hp := wp1i i (by omega)
           conv => whnf
           first | refine brT (by exact hlt) ?_ | fail
           conv => whnf
           repeat (first | (refine Exists.intro _ (And.intro (sload_u32 (i := i) (by first | rfl | omega | fail) (by first | omega | fail)) ?_); conv => whnf) | (refine Exists.intro _ (And.intro (idx_i (m := i) (by first | rfl | fail)) ?_); conv => whnf) | (refine Exists.intro _ (And.intro rfl ?_); conv => whnf) | (refine And.intro (by first | omega | fail) ?_; conv => whnf) | fail)
           refine loop_rule ttOk mixed (by kernel_rfl) (ι := { m : Nat // m ≤ 4 }) (fun m => [(0, .p 0 0), (12, .sl 5 0 (4 * i + m.1) 1 false), (14, .u32 (H.getD i 0)), (15, .i (3 - (m.1 : Int))), (110, .sl 1 0 8 1 false), (111, .i 8), (112, .i (i : Int))]) (fun m => [some (.ro (mach_n 1 2)), some (.row 23 (H.map .u32)), some (.ro (k.map .u32)), some (.ro [.sl 4 0 b0.length 1 f0]), some (.ro (b0.map .u8)), some (.row 5 ((outl_n H (4 * i + m.1)).map .u8))]) (fun _ => 5 + 1) (fun m => 4 - m.1) ⟨0, by omega⟩ ?_ ?_
           ·
            refine Weak.sel [0, 1, 2, 3, 4, 5] rfl rfl ?_ ?_ rfl rfl
            ·
             (repeat' (first | exact trivial | refine And.intro ?_ ?_ | fail)) <;> first | rfl | fail
            ·
             (repeat' (first | exact trivial | refine And.intro ?_ ?_ | (refine wk_cons ?_ ?_))) <;> first | rfl | exact ren_eq (by first | (simp; done) | fail) (by first | rfl | fail) | fail
           ·
            rintro ⟨m, hm⟩
            dsimp only
            have hol := outl_len_n H (4 * i + m)
            by_cases hm4 : m < 4
            ·
             have hge : decide ((3 - (m : Int)) ≥ 0) = true := by simp; omega
             have h8 : w64 (8 * (3 - (m : Int))) = ((8 * (3 - m) : Nat) : Int) := by simp only [w64_eq]; omega
             have hp2 : w64 (3 - (m : Int) - 1) = 3 - ((m + 1 : Nat) : Int) := by simp only [w64_eq]; omega
             have hs := outl_s_n H i m hm4
             obtain ⟨Z, hZ⟩ : ∃ Z, Z = outl_n H (4 * i + m) := ⟨_, rfl⟩
             rw [← hZ] at hol hs ⊢
             have hap4 : (Z ++ [(shr32 (H.getD i 0) (8 * (3 - m))).toUInt8]).map SV.u8 = List.take ((4 * i + m) * 1) (List.drop 0 (Z.map SV.u8)) ++ List.take (1 * 1) (List.drop 0 [SV.u8 (shr32 (H.getD i 0) (8 * (3 - m))).toUInt8]) := (cat8 (o := 0) (n := 4 * i + m) (E := Z) (b := [(shr32 (H.getD i 0) (8 * (3 - m))).toUInt8]) (by omega) rfl).symm
             conv => whnf
             first | refine brT (by exact hge) ?_ | fail
             conv => whnf
             repeat (fail)
             refine ⟨_, mshr_32 h8, ?_⟩
             conv => whnf
             repeat (first | (refine Exists.intro _ (And.intro rfl ?_); conv => whnf) | (refine And.intro (by first | omega | (simp [ti5]; omega)) ?_; conv => whnf) | fail)
             refine ⟨⟨m + 1, by omega⟩, by simp only; omega, ?_⟩
             dsimp only
             rw [hs]
             refine Weak.sel [0, 1, 2, 3, 4, 5 + 2] rfl rfl ?_ ?_ rfl rfl
             ·
              (repeat' (first | exact trivial | refine And.intro ?_ ?_ | fail)) <;> first | exact wk_i (by first | exact hp2 | exact hp2.symm | fail) | rfl | fail
             ·
              (repeat' (first | exact trivial | exact ren_eq (plainL_u8 _) hap4 | refine And.intro ?_ ?_ | (refine wk_cons ?_ ?_))) <;> first | rfl | exact ren_eq (by first | (simp; done) | fail) (by first | rfl | fail) | fail
            ·
             obtain rfl : m = 4 := by omega
             conv => whnf
             first | refine brF (by rfl) ?_ | fail
             conv => whnf
             repeat (fail)
             refine ⟨⟨i + 1, by omega⟩, by simp only; omega, ?_⟩
             dsimp only
             rw [show 4 * (i + 1) = 4 * i + 4 by omega]
             refine Weak.sel [0, 1, 2, 3, 4, 5] rfl rfl ?_ ?_ rfl rfl
             ·
              (repeat' (first | exact trivial | refine And.intro ?_ ?_ | fail)) <;> first | exact wk_i (by first | exact hp | exact hp.symm | fail) | rfl | fail
             ·
              (repeat' (first | exact trivial | refine And.intro ?_ ?_ | (refine wk_cons ?_ ?_))) <;> first | rfl | exact ren_eq (by first | (simp; done) | fail) (by first | rfl | fail) | fail
          ·
           obtain rfl : i = 8 := by omega
           rw [outb_e_n] at hfin
           rw [← hfin]
           conv => whnf
           first | refine brF (by rfl) ?_ | fail
           conv => whnf
           refine ⟨[0, 1, 2, 3, 4, 5], ?_, rfl, rfl, ?_, rfl⟩
           ·
            (repeat' (fail)) <;> first | rfl | fail
           ·
            (repeat' (first | exact trivial | refine And.intro ?_ ?_ | (refine wk_cons ?_ ?_))) <;> first | rfl | exact ren_eq (by first | (simp; done) | fail) (by first | rfl | fail) | fail
end Go.Sh
namespace Go.Sh
open Go.Proofs
set_option maxHeartbeats 4000000
attribute [local irreducible] comp_n
attribute [local irreducible] blks_n st_n rest_n hash_n pz_n outl_n outb_n lset_n last_n
theorem f102_bbb (h k : List UInt32) (hh : h.length = 8) (hk : k.length = 64) (b0 b1 b2 : List UInt8) (hb0 : b0.length < 100000000000000) (hb1 : b1.length < 100000000000000) (hb2 : b2.length < 100000000000000) (f0 f1 f2 fl : Bool) : SCall Try.prog 102 [.p 0 0, .sl 3 0 3 1 fl] [some (.ro (mach_n 1 2)), some (.row 23 (h.map .u32)), some (.ro (k.map .u32)), some (.ro [.sl 4 0 b0.length 1 f0, .sl 5 0 b1.length 1 f1, .sl 6 0 b2.length 1 f2]), some (.ro (b0.map .u8)), some (.ro (b1.map .u8)), some (.ro (b2.map .u8))] (.sl 7 0 32 1 false) [some (.ro (mach_n 1 2)), none, some (.ro (k.map .u32)), some (.ro [.sl 4 0 b0.length 1 f0, .sl 5 0 b1.length 1 f1, .sl 6 0 b2.length 1 f2]), some (.ro (b0.map .u8)), some (.ro (b1.map .u8)), some (.ro (b2.map .u8)), some (.row 5 ((hash_n k h (b0 ++ b1 ++ b2)).map .u8))] := by
 obtain ⟨tx, htx⟩ : ∃ tx : Nat → List UInt8, tx = fun i => ([b0, b1, b2].take i).flatten := ⟨_, rfl⟩
 have tx0 : tx 0 = [] := by rw [htx]; rfl
 have tx1 : tx 1 = tx 0 ++ b0 := by rw [htx]; simp
 have tx2 : tx 2 = tx 1 ++ b1 := by rw [htx]; simp
 have tx3 : tx 3 = tx 2 ++ b2 := by rw [htx]; simp
 have htp : tx 3 = b0 ++ b1 ++ b2 := by rw [htx]; simp
 have he : hash_n k h (b0 ++ b1 ++ b2) = hash_n k h (tx 3) := by rw [htp]
 rw [he]
 have hl0 : (tx 0).length = 0 := by rw [tx0]; rfl
 have hl1 : (tx 1).length = (tx 0).length + b0.length := by rw [tx1, List.length_append]
 have hl2 : (tx 2).length = (tx 1).length + b1.length := by rw [tx2, List.length_append]
 have hl3 : (tx 3).length = (tx 2).length + b2.length := by rw [tx3, List.length_append]
 clear htx
 refine scall_of ttOk (by kernel_rfl : Try.prog.funcs[102]? = some Try.f102) rfl rfl rfl ?_
 try simp only [List.length_cons, List.length_nil, Nat.zero_add, Nat.reduceAdd]
 refine sw_ok ttOk mixed (by kernel_rfl) ?_
 conv => whnf
 repeat (first | (refine Exists.intro _ (And.intro rfl ?_); conv => whnf) | fail)
 refine SWp.weak (Weak.virt 6 5 1 rfl) ?_
 refine loop_rule ttOk mixed (by kernel_rfl) (ι := { x : Nat × List UInt8 × Nat // x.1 ≤ 3 ∧ x.2.2 ≤ x.2.1.length ∧ x.2.1.drop x.2.2 = rest_n (tx x.1) }) (fun x => [(0, .p 0 0), (5, .i 64), (6, .sl 7 x.1.2.2 (x.1.2.1.length - x.1.2.2) 1 false), (7, .u64 (UInt64.ofNat (tx x.1.1).length)), (21, .sl 3 0 3 1 fl), (22, .i 3), (23, .i (x.1.1 : Int))]) (fun x => [some (.ro (mach_n 1 2)), some (.row 23 ((st_n k h (tx x.1.1)).map .u32)), some (.ro (k.map .u32)), some (.ro [.sl 4 0 b0.length 1 f0, .sl 5 0 b1.length 1 f1, .sl 6 0 b2.length 1 f2]), some (.ro (b0.map .u8)), some (.ro (b1.map .u8)), some (.ro (b2.map .u8)), some (.row 5 (x.1.2.1.map .u8))]) (fun _ => 8) (fun x => 3 - x.1.1) ⟨(0, [], 0), by omega, by simp, by rw [tx0]; exact rest_nil_n.symm⟩ ?_ ?_
 ·
  dsimp only
  rw [tx0, st_nil_n]
  refine Weak.sel [0, 1, 2, 3, 4, 5, 6, 7] rfl rfl ?_ ?_ rfl rfl
  ·
   (repeat' (first | exact trivial | refine And.intro ?_ ?_ | fail)) <;> first | rfl | fail
  ·
   (repeat' (first | exact trivial | refine And.intro ?_ ?_ | (refine wk_cons ?_ ?_))) <;> first | rfl | exact ren_eq (by first | (simp; done) | fail) (by first | rfl | fail) | fail
 ·
  rintro ⟨⟨i, E, o⟩, hi, ho, hE⟩
  dsimp only at hi ho hE ⊢
  have hsl := st_len_n k hh (tx i)
  have hrl := rest_len_n (tx i)
  obtain ⟨S, hS⟩ : ∃ S, S = st_n k h (tx i) := ⟨_, rfl⟩
  rw [← hS] at hsl ⊢
  have hEl : E.length - o = (rest_n (tx i)).length := by rw [← hE, List.length_drop]
  by_cases hi2 : i < 3
  ·
   have hic : i = 0 ∨ i = 1 ∨ i = 2 := by omega
   rcases hic with rfl | rfl | rfl
   ·
    have hq := feed_st_n k h (tx 0) b0
    have hq2 := feed_rest_n (tx 0) b0
    rw [← hS] at hq
    rw [← tx1] at hq hq2
    rw [← hE] at hq hq2 hEl
    have hap : (E.drop o ++ b0).map SV.u8 = List.take ((E.length - o) * 1) (List.drop o (E.map SV.u8)) ++ List.take (b0.length * 1) (List.drop 0 (b0.map SV.u8)) := (cat8 rfl rfl).symm
    have hDl : (E.drop o ++ b0).length = E.length - o + b0.length := by rw [List.length_append, List.length_drop]
    have hel : E.length - o < 64 := by rw [← List.length_drop, hE, hrl]; omega
    have hul : UInt64.ofNat (tx 0).length + u64i (b0.length : Int) = UInt64.ofNat (tx 1).length := by rw [u64_add_i _ _ (by omega), tx1, List.length_append]
    clear hS hrl
    conv => whnf
    first | refine brT (by rfl) ?_ | fail
    conv => whnf
    repeat (first | (refine Exists.intro _ (And.intro rfl ?_); conv => whnf) | (refine And.intro (by first | omega | (simp [ti5]; omega)) ?_; conv => whnf) | fail)
    obtain ⟨D, hD⟩ : ∃ D, D = E.drop o ++ b0 := ⟨_, rfl⟩
    rw [← hD] at hq hq2 hap hDl
    refine loop_rule ttOk mixed (by kernel_rfl) (ι := { j : Nat // 64 * j ≤ D.length }) (fun j => [(0, .p 0 0), (5, .i 64), (6, .sl 7 (64 * j.1) (D.length - 64 * j.1) 1 false), (7, .u64 (UInt64.ofNat (tx 1).length)), (21, .sl 3 0 3 1 fl), (22, .i 3), (23, .i 0)]) (fun j => [some (.ro (mach_n 1 2)), some (.row 23 ((blks_n k S D j.1).map .u32)), some (.ro (k.map .u32)), some (.ro [.sl 4 0 b0.length 1 f0, .sl 5 0 b1.length 1 f1, .sl 6 0 b2.length 1 f2]), some (.ro (b0.map .u8)), some (.ro (b1.map .u8)), some (.ro (b2.map .u8)), some (.row 5 (D.map .u8))]) (fun _ => 7 + 1) (fun j => D.length - 64 * j.1) ⟨0, by omega⟩ ?_ ?_
    ·
     have hz := blks_z_n k S D
     have hDn : E.length - o + b0.length = D.length - 64 * 0 := by omega
     dsimp only
     rw [hz]
     refine Weak.sel [0, 1, 2, 3, 4, 5, 6, 8] rfl rfl ?_ ?_ rfl rfl
     ·
      (repeat' (first | exact trivial | refine And.intro ?_ ?_ | fail)) <;> first | exact wk_u64 (by first | exact hul | exact hul.symm | fail) | rfl | exact wk_sl rfl (by first | rfl | fail) (by first | exact hDn.symm | fail) | fail
     ·
      (repeat' (first | exact trivial | exact ren_eq (plainL_u8 _) hap | refine And.intro ?_ ?_ | (refine wk_cons ?_ ?_))) <;> first | rfl | exact ren_eq (by first | (simp; done) | fail) (by first | rfl | fail) | fail
    ·
     rintro ⟨j, hj⟩
     dsimp only
     have hbl := blks_len_n k hsl D j
     by_cases hc : 64 * (j + 1) ≤ D.length
     ·
      have hge : decide (((D.length - 64 * j : Nat) : Int) ≥ 64) = true := by simp; omega
      have hs := blks_s_n k S D j
      have q139 := f139D (blks_n k S D j) k D (64 * j) hbl hk (by omega) false
      rw [← hs] at q139
      conv => whnf
      first | refine brT (by exact hge) ?_ | fail
      conv => whnf
      repeat (first | (refine Exists.intro _ (And.intro rfl ?_); conv => whnf) | (refine And.intro (by first | omega | fail) ?_; conv => whnf) | fail)
      refine ok1_callF [0, 1, 2, 7] [false, true, false, false] true (q139) rfl rfl ⟨⟨rfl, by first | rfl | fail⟩, by (repeat' (first | exact trivial | refine And.intro ?_ ?_)) <;> first | rfl | exact ren_eq (by first | (simp; done) | fail) (by first | rfl | fail) | fail, by first | simp [plainHf, plainB], by first | rfl | fail, ?_⟩
      conv => whnf
      repeat (first | (refine Exists.intro _ (And.intro rfl ?_); conv => whnf) | (refine And.intro (by first | omega | fail) ?_; conv => whnf) | fail)
      refine ⟨⟨j + 1, hc⟩, by simp only; omega, ?_⟩
      dsimp only
      refine Weak.sel [0, 1, 2, 3, 4, 5, 6, 7] rfl rfl ?_ ?_ rfl rfl
      ·
       (repeat' (first | exact trivial | refine And.intro ?_ ?_ | fail)) <;> first | rfl | fail
      ·
       (repeat' (first | exact trivial | refine And.intro ?_ ?_ | (refine wk_cons ?_ ?_))) <;> first | rfl | exact ren_eq (by first | (simp; done) | fail) (by first | rfl | fail) | fail
     ·
      obtain rfl : j = D.length / 64 := by omega
      have hge : decide (((D.length - 64 * (D.length / 64) : Nat) : Int) ≥ 64) = false := by simp; omega
      rw [hq]
      conv => whnf
      first | refine brF (by exact hge) ?_ | fail
      conv => whnf
      repeat (fail)
      refine ⟨⟨(1, D, 64 * (D.length / 64)), by omega, by simp only; omega, hq2⟩, by simp only; omega, ?_⟩
      dsimp only
      refine Weak.sel [0, 1, 2, 3, 4, 5, 6, 7] rfl rfl ?_ ?_ rfl rfl
      ·
       (repeat' (first | exact trivial | refine And.intro ?_ ?_ | fail)) <;> first | rfl | fail
      ·
       (repeat' (first | exact trivial | refine And.intro ?_ ?_ | (refine wk_cons ?_ ?_))) <;> first | rfl | exact ren_eq (by first | (simp; done) | fail) (by first | rfl | fail) | fail
   ·
    have hq := feed_st_n k h (tx 1) b1
    have hq2 := feed_rest_n (tx 1) b1
    rw [← hS] at hq
    rw [← tx2] at hq hq2
    rw [← hE] at hq hq2 hEl
    have hap : (E.drop o ++ b1).map SV.u8 = List.take ((E.length - o) * 1) (List.drop o (E.map SV.u8)) ++ List.take (b1.length * 1) (List.drop 0 (b1.map SV.u8)) := (cat8 rfl rfl).symm
    have hDl : (E.drop o ++ b1).length = E.length - o + b1.length := by rw [List.length_append, List.length_drop]
    have hel : E.length - o < 64 := by rw [← List.length_drop, hE, hrl]; omega
    have hul : UInt64.ofNat (tx 1).length + u64i (b1.length : Int) = UInt64.ofNat (tx 2).length := by rw [u64_add_i _ _ (by omega), tx2, List.length_append]
    clear hS hrl
    conv => whnf
    first | refine brT (by rfl) ?_ | fail
    conv => whnf
    repeat (first | (refine Exists.intro _ (And.intro rfl ?_); conv => whnf) | (refine And.intro (by first | omega | (simp [ti5]; omega)) ?_; conv => whnf) | fail)
    obtain ⟨D, hD⟩ : ∃ D, D = E.drop o ++ b1 := ⟨_, rfl⟩
    rw [← hD] at hq hq2 hap hDl
    refine loop_rule ttOk mixed (by kernel_rfl) (ι := { j : Nat // 64 * j ≤ D.length }) (fun j => [(0, .p 0 0), (5, .i 64), (6, .sl 7 (64 * j.1) (D.length - 64 * j.1) 1 false), (7, .u64 (UInt64.ofNat (tx 2).length)), (21, .sl 3 0 3 1 fl), (22, .i 3), (23, .i 1)]) (fun j => [some (.ro (mach_n 1 2)), some (.row 23 ((blks_n k S D j.1).map .u32)), some (.ro (k.map .u32)), some (.ro [.sl 4 0 b0.length 1 f0, .sl 5 0 b1.length 1 f1, .sl 6 0 b2.length 1 f2]), some (.ro (b0.map .u8)), some (.ro (b1.map .u8)), some (.ro (b2.map .u8)), some (.row 5 (D.map .u8))]) (fun _ => 7 + 1) (fun j => D.length - 64 * j.1) ⟨0, by omega⟩ ?_ ?_
    ·
     have hz := blks_z_n k S D
     have hDn : E.length - o + b1.length = D.length - 64 * 0 := by omega
     dsimp only
     rw [hz]
     refine Weak.sel [0, 1, 2, 3, 4, 5, 6, 8] rfl rfl ?_ ?_ rfl rfl
     ·
      (repeat' (first | exact trivial | refine And.intro ?_ ?_ | fail)) <;> first | exact wk_u64 (by first | exact hul | exact hul.symm | fail) | rfl | exact wk_sl rfl (by first | rfl | fail) (by first | exact hDn.symm | fail) | fail
     ·
      (repeat' (first | exact trivial | exact ren_eq (plainL_u8 _) hap | refine And.intro ?_ ?_ | (refine wk_cons ?_ ?_))) <;> first | rfl | exact ren_eq (by first | (simp; done) | fail) (by first | rfl | fail) | fail
    ·
     rintro ⟨j, hj⟩
     dsimp only
     have hbl := blks_len_n k hsl D j
     by_cases hc : 64 * (j + 1) ≤ D.length
     ·
      have hge : decide (((D.length - 64 * j : Nat) : Int) ≥ 64) = true := by simp; omega
      have hs := blks_s_n k S D j
      have q139 := f139D (blks_n k S D j) k D (64 * j) hbl hk (by omega) false
      rw [← hs] at q139
      conv => whnf
      first | refine brT (by exact hge) ?_ | fail
      conv => whnf
      repeat (first | (refine Exists.intro _ (And.intro rfl ?_); conv => whnf) | (refine And.intro (by first | omega | fail) ?_; conv => whnf) | fail)
      refine ok1_callF [0, 1, 2, 7] [false, true, false, false] true (q139) rfl rfl ⟨⟨rfl, by first | rfl | fail⟩, by (repeat' (first | exact trivial | refine And.intro ?_ ?_)) <;> first | rfl | exact ren_eq (by first | (simp; done) | fail) (by first | rfl | fail) | fail, by first | simp [plainHf, plainB], by first | rfl | fail, ?_⟩
      conv => whnf
      repeat (first | (refine Exists.intro _ (And.intro rfl ?_); conv => whnf) | (refine And.intro (by first | omega | fail) ?_; conv => whnf) | fail)
      refine ⟨⟨j + 1, hc⟩, by simp only; omega, ?_⟩
      dsimp only
      refine Weak.sel [0, 1, 2, 3, 4, 5, 6, 7] rfl rfl ?_ ?_ rfl rfl
      ·
       (repeat' (first | exact trivial | refine And.intro ?_ ?_ | fail)) <;> first | rfl | fail
      ·
       (repeat' (first | exact trivial | refine And.intro ?_ ?_ | (refine wk_cons ?_ ?_))) <;> first | rfl | exact ren_eq (by first | (simp; done) | fail) (by first | rfl | fail) | fail
     ·
      obtain rfl : j = D.length / 64 := by omega
      have hge : decide (((D.length - 64 * (D.length / 64) : Nat) : Int) ≥ 64) = false := by simp; omega
      rw [hq]
      conv => whnf
      first | refine brF (by exact hge) ?_ | fail
      conv => whnf
      repeat (fail)
      refine ⟨⟨(2, D, 64 * (D.length / 64)), by omega, by simp only; omega, hq2⟩, by simp only; omega, ?_⟩
      dsimp only
      refine Weak.sel [0, 1, 2, 3, 4, 5, 6, 7] rfl rfl ?_ ?_ rfl rfl
      ·
       (repeat' (first | exact trivial | refine And.intro ?_ ?_ | fail)) <;> first | rfl | fail
      ·
       (repeat' (first | exact trivial | refine And.intro ?_ ?_ | (refine wk_cons ?_ ?_))) <;> first | rfl | exact ren_eq (by first | (simp; done) | fail) (by first | rfl | fail) | fail
   ·
    have hq := feed_st_n k h (tx 2) b2
    have hq2 := feed_rest_n (tx 2) b2
    rw [← hS] at hq
    rw [← tx3] at hq hq2
    rw [← hE] at hq hq2 hEl
    have hap : (E.drop o ++ b2).map SV.u8 = List.take ((E.length - o) * 1) (List.drop o (E.map SV.u8)) ++ List.take (b2.length * 1) (List.drop 0 (b2.map SV.u8)) := (cat8 rfl rfl).symm
    have hDl : (E.drop o ++ b2).length = E.length - o + b2.length := by rw [List.length_append, List.length_drop]
    have hel : E.length - o < 64 := by rw [← List.length_drop, hE, hrl]; omega
    have hul : UInt64.ofNat (tx 2).length + u64i (b2.length : Int) = UInt64.ofNat (tx 3).length := by rw [u64_add_i _ _ (by omega), tx3, List.length_append]
    clear hS hrl
    conv => whnf
    first | refine brT (by rfl) ?_ | fail
    conv => whnf
    repeat (first | (refine Exists.intro _ (And.intro rfl ?_); conv => whnf) | (refine And.intro (by first | omega | (simp [ti5]; omega)) ?_; conv => whnf) | fail)
    obtain ⟨D, hD⟩ : ∃ D, D = E.drop o ++ b2 := ⟨_, rfl⟩
    rw [← hD] at hq hq2 hap hDl
    refine loop_rule ttOk mixed (by kernel_rfl) (ι := { j : Nat // 64 * j ≤ D.length }) (fun j => [(0, .p 0 0), (5, .i 64), (6, .sl 7 (64 * j.1) (D.length - 64 * j.1) 1 false), (7, .u64 (UInt64.ofNat (tx 3).length)), (21, .sl 3 0 3 1 fl), (22, .i 3), (23, .i 2)]) (fun j => [some (.ro (mach_n 1 2)), some (.row 23 ((blks_n k S D j.1).map .u32)), some (.ro (k.map .u32)), some (.ro [.sl 4 0 b0.length 1 f0, .sl 5 0 b1.length 1 f1, .sl 6 0 b2.length 1 f2]), some (.ro (b0.map .u8)), some (.ro (b1.map .u8)), some (.ro (b2.map .u8)), some (.row 5 (D.map .u8))]) (fun _ => 7 + 1) (fun j => D.length - 64 * j.1) ⟨0, by omega⟩ ?_ ?_
    ·
     have hz := blks_z_n k S D
     have hDn : E.length - o + b2.length = D.length - 64 * 0 := by omega
     dsimp only
     rw [hz]
     refine Weak.sel [0, 1, 2, 3, 4, 5, 6, 8] rfl rfl ?_ ?_ rfl rfl
     ·
      (repeat' (first | exact trivial | refine And.intro ?_ ?_ | fail)) <;> first | exact wk_u64 (by first | exact hul | exact hul.symm | fail) | rfl | exact wk_sl rfl (by first | rfl | fail) (by first | exact hDn.symm | fail) | fail
     ·
      (repeat' (first | exact trivial | exact ren_eq (plainL_u8 _) hap | refine And.intro ?_ ?_ | (refine wk_cons ?_ ?_))) <;> first | rfl | exact ren_eq (by first | (simp; done) | fail) (by first | rfl | fail) | fail
    ·
     rintro ⟨j, hj⟩
     dsimp only
     have hbl := blks_len_n k hsl D j
     by_cases hc : 64 * (j + 1) ≤ D.length
     ·
      have hge : decide (((D.length - 64 * j : Nat) : Int) ≥ 64) = true := by simp; omega
      have hs := blks_s_n k S D j
      have q139 := f139D (blks_n k S D j) k D (64 * j) hbl hk (by omega) false
      rw [← hs] at q139
      conv => whnf
      first | refine brT (by exact hge) ?_ | fail
      conv => whnf
      repeat (first | (refine Exists.intro _ (And.intro rfl ?_); conv => whnf) | (refine And.intro (by first | omega | fail) ?_; conv => whnf) | fail)
      refine ok1_callF [0, 1, 2, 7] [false, true, false, false] true (q139) rfl rfl ⟨⟨rfl, by first | rfl | fail⟩, by (repeat' (first | exact trivial | refine And.intro ?_ ?_)) <;> first | rfl | exact ren_eq (by first | (simp; done) | fail) (by first | rfl | fail) | fail, by first | simp [plainHf, plainB], by first | rfl | fail, ?_⟩
      conv => whnf
      repeat (first | (refine Exists.intro _ (And.intro rfl ?_); conv => whnf) | (refine And.intro (by first | omega | fail) ?_; conv => whnf) | fail)
      refine ⟨⟨j + 1, hc⟩, by simp only; omega, ?_⟩
      dsimp only
      refine Weak.sel [0, 1, 2, 3, 4, 5, 6, 7] rfl rfl ?_ ?_ rfl rfl
      ·
       (repeat' (first | exact trivial | refine And.intro ?_ ?_ | fail)) <;> first | rfl | fail
      ·
       (repeat' (first | exact trivial | refine And.intro ?_ ?_ | (refine wk_cons ?_ ?_))) <;> first | rfl | exact ren_eq (by first | (simp; done) | fail) (by first | rfl | fail) | fail
     ·
      obtain rfl : j = D.length / 64 := by omega
      have hge : decide (((D.length - 64 * (D.length / 64) : Nat) : Int) ≥ 64) = false := by simp; omega
      rw [hq]
      conv => whnf
      first | refine brF (by exact hge) ?_ | fail
      conv => whnf
      repeat (fail)
      refine ⟨⟨(3, D, 64 * (D.length / 64)), by omega, by simp only; omega, hq2⟩, by simp only; omega, ?_⟩
      dsimp only
      refine Weak.sel [0, 1, 2, 3, 4, 5, 6, 7] rfl rfl ?_ ?_ rfl rfl
      ·
       (repeat' (first | exact trivial | refine And.intro ?_ ?_ | fail)) <;> first | rfl | fail
      ·
       (repeat' (first | exact trivial | refine And.intro ?_ ?_ | (refine wk_cons ?_ ?_))) <;> first | rfl | exact ren_eq (by first | (simp; done) | fail) (by first | rfl | fail) | fail
  ·
   obtain rfl : i = 3 := by omega
   obtain ⟨n, hn⟩ : ∃ n, n = E.length - o := ⟨_, rfl⟩
   have hnE : o + n = E.length := by omega
   rw [← hn]
   have hcat : (rest_n (tx 3) ++ [128]).map SV.u8 = List.take (n * 1) (List.drop o (E.map SV.u8)) ++ List.take (1 * 1) (List.drop 0 [SV.u8 128]) := by rw [← hE]; exact (cat8 (b := [128]) hn rfl).symm
   have hdd : decide (((n : Nat) : Int).toNat = ((n : Nat) : Int).toNat) = true := by simp
   conv => whnf
   first | refine brF (by rfl) ?_ | fail
   conv => whnf
   repeat (first | (refine Exists.intro _ (And.intro rfl ?_); conv => whnf) | (refine And.intro (by first | omega | fail) ?_; conv => whnf) | fail)
   rw [hdd]
   rw [Int.toNat_natCast]
   have hnl : n = (rest_n (tx 3)).length := by rw [hn, ← hE, List.length_drop]
   have hn64 : n < 64 := by rw [hnl, hrl]; omega
   have hpz := pz_rest_n (tx 3)
   rw [← hnl] at hpz
   have hpl : pz_n n < 64 := by unfold pz_n; exact Nat.mod_lt _ (by decide)
   conv => whnf
   refine And.intro ⟨by show _ ≤ (E.map SV.u8).length; rw [List.length_map]; omega, by decide, by show _ * 1 ≤ _; omega, by decide⟩ ?_
   conv => whnf
   repeat (fail)
   refine loop_rule ttOk mixed (by kernel_rfl) (ι := { j : Nat // j ≤ pz_n n }) (fun j => [(0, .p 0 0), (5, .i 64), (6, .sl 7 0 (n + 1 + j.1) 1 false), (7, .u64 (UInt64.ofNat (tx 3).length))]) (fun j => [some (.ro (mach_n 1 2)), some (.row 23 (S.map .u32)), some (.ro (k.map .u32)), some (.ro [.sl 4 0 b0.length 1 f0, .sl 5 0 b1.length 1 f1, .sl 6 0 b2.length 1 f2]), some (.ro (b0.map .u8)), some (.ro (b1.map .u8)), some (.ro (b2.map .u8)), some (.row 5 ((rest_n (tx 3) ++ [128] ++ List.replicate j.1 0).map .u8))]) (fun _ => 7 + 1) (fun j => pz_n n - j.1) ⟨0, by omega⟩ ?_ ?_
   ·
    have hz : rest_n (tx 3) ++ [128] ++ List.replicate 0 0 = rest_n (tx 3) ++ [128] := List.append_nil _
    dsimp only
    rw [hz]
    refine Weak.sel [0, 1, 2, 3, 4, 5, 6, 7 + 2] rfl rfl ?_ ?_ rfl rfl
    ·
     (repeat' (first | exact trivial | refine And.intro ?_ ?_ | fail)) <;> first | rfl | fail
    ·
     (repeat' (first | exact trivial | exact ren_eq (plainL_u8 _) hcat | refine And.intro ?_ ?_ | (refine wk_cons ?_ ?_))) <;> first | rfl | exact ren_eq (by first | (simp; done) | fail) (by first | rfl | fail) | fail
   ·
    rintro ⟨j, hj⟩
    dsimp only
    obtain ⟨Y, hY⟩ : ∃ Y, Y = rest_n (tx 3) ++ [128] ++ List.replicate j 0 := ⟨_, rfl⟩
    have hYl : Y.length = n + 1 + j := by rw [hY, List.length_append, List.length_append, ← hnl, List.length_replicate]; rfl
    have hYs : rest_n (tx 3) ++ [128] ++ List.replicate (j + 1) 0 = Y ++ [0] := by rw [hY, List.replicate_succ', List.append_assoc]; simp
    by_cases hj2 : j < pz_n n
    ·
     have hno := padz_no_n hj2
     have hcd : (((w64 (((n + 1 + j : Nat) : Int) + w64 (2 * 4))).tmod 64) != 0) = true := by
      have e : w64 (((n + 1 + j : Nat) : Int) + w64 (2 * 4)) = ((n + 1 + j + 8 : Nat) : Int) := by simp only [w64_eq]; omega
      rw [e, show (((n + 1 + j + 8 : Nat) : Int)).tmod 64 = (((n + 1 + j + 8) % 64 : Nat) : Int) from rfl]
      simp; omega
     rw [← hY]
     conv => whnf
     repeat (first | (refine Exists.intro _ (And.intro rfl ?_); conv => whnf) | fail)
     first | refine brT (by exact hcd) ?_ | fail
     conv => whnf
     repeat (first | (refine Exists.intro _ (And.intro rfl ?_); conv => whnf) | (refine And.intro (by first | omega | (simp [ti5]; omega)) ?_; conv => whnf) | fail)
     have hap2 : (Y ++ [0]).map SV.u8 = List.take ((n + 1 + j) * 1) (List.drop 0 (Y.map SV.u8)) ++ List.take (1 * 1) (List.drop 0 [SV.u8 0]) := (cat8 (o := 0) (n := n + 1 + j) (E := Y) (b := [0]) (by omega) rfl).symm
     refine ⟨⟨j + 1, by omega⟩, by simp only; omega, ?_⟩
     dsimp only
     rw [hYs]
     refine Weak.sel [0, 1, 2, 3, 4, 5, 6, 7 + 2] rfl rfl ?_ ?_ rfl rfl
     ·
      (repeat' (first | exact trivial | refine And.intro ?_ ?_ | fail)) <;> first | rfl | fail
     ·
      (repeat' (first | exact trivial | exact ren_eq (plainL_u8 _) hap2 | refine And.intro ?_ ?_ | (refine wk_cons ?_ ?_))) <;> first | rfl | exact ren_eq (by first | (simp; done) | fail) (by first | rfl | fail) | fail
    ·
     obtain rfl : j = pz_n n := by omega
     have hyes := padz_yes_n n
     have hcd : (((w64 (((n + 1 + pz_n n : Nat) : Int) + w64 (2 * 4))).tmod 64) != 0) = false := by
      have e : w64 (((n + 1 + pz_n n : Nat) : Int) + w64 (2 * 4)) = ((n + 1 + pz_n n + 8 : Nat) : Int) := by simp only [w64_eq]; omega
      rw [e, show (((n + 1 + pz_n n + 8 : Nat) : Int)).tmod 64 = (((n + 1 + pz_n n + 8) % 64 : Nat) : Int) from rfl, hyes]
      rfl
     rw [← hY]
     conv => whnf
     repeat (first | (refine Exists.intro _ (And.intro rfl ?_); conv => whnf) | fail)
     first | refine brF (by exact hcd) ?_ | fail
     conv => whnf
     repeat (first | (refine Exists.intro _ (And.intro rfl ?_); conv => whnf) | (refine And.intro ⟨by first | decide | fail, by first | decide | fail⟩ ?_; conv => whnf) | fail)
     obtain ⟨N, hN⟩ : ∃ N, N = (tx 3).length := ⟨_, rfl⟩
     rw [← hN]
     refine loop_rule ttOk mixed (by kernel_rfl) (ι := { i : Nat // i ≤ 8 }) (fun i => [(0, .p 0 0), (5, .i 64), (6, .sl 7 0 (n + 1 + pz_n n) 1 false), (7, .u64 (UInt64.ofNat N)), (10, .sl (7 + 1) 0 8 1 true), (76, .i (i.1 : Int))]) (fun i => [some (.ro (mach_n 1 2)), some (.row 23 (S.map .u32)), some (.ro (k.map .u32)), some (.ro [.sl 4 0 b0.length 1 f0, .sl 5 0 b1.length 1 f1, .sl 6 0 b2.length 1 f2]), some (.ro (b0.map .u8)), some (.ro (b1.map .u8)), some (.ro (b2.map .u8)), some (.row 5 (Y.map .u8)), some (.row 5 ((lset_n N i.1).map .u8))]) (fun _ => 7 + 2) (fun i => 8 - i.1) ⟨0, by omega⟩ ?_ ?_
     ·
      have hz := lset_z_n N
      dsimp only
      rw [hz]
      refine Weak.sel [0, 1, 2, 3, 4, 5, 6, 7, 7 + 1] rfl rfl ?_ ?_ rfl rfl
      ·
       (repeat' (first | exact trivial | refine And.intro ?_ ?_ | fail)) <;> first | rfl | fail
      ·
       (repeat' (first | exact trivial | exact ren_z8 | refine And.intro ?_ ?_ | (refine wk_cons ?_ ?_))) <;> first | rfl | exact ren_eq (by first | (simp; done) | fail) (by first | rfl | fail) | fail
     ·
      rintro ⟨i, hi⟩
      dsimp only
      have hll := lset_len_n N i
      by_cases hi8 : i < 8
      ·
       have hlt : decide ((i : Int) < 8) = true := by simp; omega
       have hp := wp1i i (by omega)
       have h8 : w64 (8 * (i : Int)) = ((8 * i : Nat) : Int) := by simp only [w64_eq]; omega
       have h7 : w64 (w64 (8 - 1) - (i : Int)) = ((7 - i : Nat) : Int) := by simp only [w64_eq]; omega
       have hs := lset_s_n N i
       conv => whnf
       first | refine brT (by exact hlt) ?_ | fail
       conv => whnf
       repeat (fail)
       refine ⟨_, mshr_64 h8, ?_⟩
       conv => whnf
       repeat (first | (refine Exists.intro _ (And.intro (sput_m8 (i := 7 - i) (by first | rfl | omega | fail)) ?_); conv => whnf) | (refine Exists.intro _ (And.intro (idx_i (m := 7 - i) (by first | rfl | omega | fail)) ?_); conv => whnf) | (refine And.intro (by first | omega | (simp; omega) | fail) ?_; conv => whnf) | fail)
       refine ⟨⟨i + 1, by omega⟩, by simp only; omega, ?_⟩
       dsimp only
       rw [hs]
       refine Weak.sel [0, 1, 2, 3, 4, 5, 6, 7, 7 + 1] rfl rfl ?_ ?_ rfl rfl
       ·
        (repeat' (first | exact trivial | refine And.intro ?_ ?_ | fail)) <;> first | exact wk_i (by first | exact hp | exact hp.symm | fail) | rfl | fail
       ·
        (repeat' (first | exact trivial | refine And.intro ?_ ?_ | (refine wk_cons ?_ ?_))) <;> first | rfl | exact ren_eq (by first | (simp; done) | fail) (by first | rfl | fail) | exact ren_m8 (by first | rfl | fail) | fail
      ·
       obtain rfl : i = 8 := by omega
       have hap3 : (Y ++ lset_n N 8).map SV.u8 = List.take ((n + 1 + pz_n n) * 1) (List.drop 0 (Y.map SV.u8)) ++ List.take (8 * 1) (List.drop 0 ((lset_n N 8).map SV.u8)) := (cat8 (o := 0) (n := n + 1 + pz_n n) (E := Y) (b := lset_n N 8) (by omega) hll.symm).symm
       obtain ⟨D, hD⟩ : ∃ D, D = Y ++ lset_n N 8 := ⟨_, rfl⟩
       have hDl : D.length = n + 1 + pz_n n + 8 := by rw [hD, List.length_append, hYl, hll]
       have hDe : D = last_n (tx 3) := by rw [hD, hY, hpz, hN]; exact last_e_n _
       have hD64 := last_len_n (tx 3)
       have hfin := last_st_n k h (tx 3)
       rw [← hDe] at hD64 hfin
       rw [← hS] at hfin
       rw [← hD] at hap3
       conv => whnf
       first | refine brF (by rfl) ?_ | fail
       conv => whnf
       repeat (first | (refine And.intro (by first | omega | (simp [ti5]; omega)) ?_; conv => whnf) | fail)
       refine loop_rule ttOk mixed (by kernel_rfl) (ι := { j : Nat // 64 * j ≤ D.length }) (fun j => [(0, .p 0 0), (5, .i 64), (6, .sl 7 (64 * j.1) (D.length - 64 * j.1) 1 false)]) (fun j => [some (.ro (mach_n 1 2)), some (.row 23 ((blks_n k S D j.1).map .u32)), some (.ro (k.map .u32)), some (.ro [.sl 4 0 b0.length 1 f0, .sl 5 0 b1.length 1 f1, .sl 6 0 b2.length 1 f2]), some (.ro (b0.map .u8)), some (.ro (b1.map .u8)), some (.ro (b2.map .u8)), some (.row 5 (D.map .u8))]) (fun _ => 7 + 1) (fun j => D.length - 64 * j.1) ⟨0, by omega⟩ ?_ ?_
       ·
        have hz := blks_z_n k S D
        have hDn : n + 1 + pz_n n + 8 = D.length - 64 * 0 := by omega
        dsimp only
        rw [hz]
        refine Weak.sel [0, 1, 2, 3, 4, 5, 6, 7 + 2] rfl rfl ?_ ?_ rfl rfl
        ·
         (repeat' (first | exact trivial | refine And.intro ?_ ?_ | fail)) <;> first | rfl | exact wk_sl rfl (by first | rfl | fail) (by first | exact hDn.symm | fail) | fail
        ·
         (repeat' (first | exact trivial | exact ren_eq (plainL_u8 _) hap3 | refine And.intro ?_ ?_ | (refine wk_cons ?_ ?_))) <;> first | rfl | exact ren_eq (by first | (simp; done) | fail) (by first | rfl | fail) | fail
       ·
        rintro ⟨j, hj⟩
        dsimp only
        have hbl := blks_len_n k hsl D j
        by_cases hc : 64 * (j + 1) ≤ D.length
        ·
         have hge : decide (((D.length - 64 * j : Nat) : Int) > 0) = true := by simp; omega
         have hs := blks_s_n k S D j
         have q139 := f139D (blks_n k S D j) k D (64 * j) hbl hk (by omega) false
         rw [← hs] at q139
         conv => whnf
         first | refine brT (by exact hge) ?_ | fail
         conv => whnf
         repeat (first | (refine Exists.intro _ (And.intro rfl ?_); conv => whnf) | (refine And.intro (by first | omega | fail) ?_; conv => whnf) | fail)
         refine ok1_callF [0, 1, 2, 7] [false, true, false, false] true (q139) rfl rfl ⟨⟨rfl, by first | rfl | fail⟩, by (repeat' (first | exact trivial | refine And.intro ?_ ?_)) <;> first | rfl | exact ren_eq (by first | (simp; done) | fail) (by first | rfl | fail) | fail, by first | simp [plainHf, plainB], by first | rfl | fail, ?_⟩
         conv => whnf
         repeat (first | (refine Exists.intro _ (And.intro rfl ?_); conv => whnf) | (refine And.intro (by first | omega | fail) ?_; conv => whnf) | fail)
         refine ⟨⟨j + 1, hc⟩, by simp only; omega, ?_⟩
         dsimp only
         refine Weak.sel [0, 1, 2, 3, 4, 5, 6, 7] rfl rfl ?_ ?_ rfl rfl
         ·
          (repeat' (first | exact trivial | refine And.intro ?_ ?_ | fail)) <;> first | rfl | fail
         ·
          (repeat' (first | exact trivial | refine And.intro ?_ ?_ | (refine wk_cons ?_ ?_))) <;> first | rfl | exact ren_eq (by first | (simp; done) | fail) (by first | rfl | fail) | fail
        ·
         obtain rfl : j = D.length / 64 := by omega
         have hge : decide (((D.length - 64 * (D.length / 64) : Nat) : Int) > 0) = false := by simp; omega
         obtain ⟨H, hH⟩ : ∃ H, H = blks_n k S D (D.length / 64) := ⟨_, rfl⟩
         rw [← hH] at hbl hfin ⊢
         conv => whnf
         first | refine brF (by exact hge) ?_ | fail
         conv => whnf
         repeat (first | (refine Exists.intro _ (And.intro rfl ?_); conv => whnf) | fail)
         refine SWp.weak (Weak.virt 12 5 1 rfl) ?_
         refine loop_rule ttOk mixed (by kernel_rfl) (ι := { i : Nat // i ≤ 8 }) (fun i => [(0, .p 0 0), (12, .sl 7 0 (4 * i.1) 1 false), (110, .sl 1 0 8 1 false), (111, .i 8), (112, .i (i.1 : Int))]) (fun i => [some (.ro (mach_n 1 2)), some (.row 23 (H.map .u32)), some (.ro (k.map .u32)), some (.ro [.sl 4 0 b0.length 1 f0, .sl 5 0 b1.length 1 f1, .sl 6 0 b2.length 1 f2]), some (.ro (b0.map .u8)), some (.ro (b1.map .u8)), some (.ro (b2.map .u8)), some (.row 5 ((outl_n H (4 * i.1)).map .u8))]) (fun _ => 7 + 1) (fun i => 8 - i.1) ⟨0, by omega⟩ ?_ ?_
         ·
          have hz := outl_z_n H
          dsimp only
          rw [hz]
          refine Weak.sel [0, 1, 2, 3, 4, 5, 6, 7 + 1] rfl rfl ?_ ?_ rfl rfl
          ·
           (repeat' (first | exact trivial | refine And.intro ?_ ?_ | fail)) <;> first | rfl | fail
          ·
           (repeat' (first | exact trivial | refine And.intro ?_ ?_ | (refine wk_cons ?_ ?_))) <;> first | rfl | exact ren_eq (by first | (simp; done) | fail) (by first | rfl | fail) | fail
         ·
          rintro ⟨i, hi⟩
          dsimp only
          by_cases hi8 : i < 8
          ·
           have hlt : decide ((i : Int) < 8) = true := by simp; omega
           have hp := wp1i i (by omega)
           conv => whnf
           first | refine brT (by exact hlt) ?_ | fail
           conv => whnf
           repeat (first | (refine Exists.intro _ (And.intro (sload_u32 (i := i) (by first | rfl | omega | fail) (by first | omega | fail)) ?_); conv => whnf) | (refine Exists.intro _ (And.intro (idx_i (m := i) (by first | rfl | fail)) ?_); conv => whnf) | (refine Exists.intro _ (And.intro rfl ?_); conv => whnf) | (refine And.intro (by first | omega | fail) ?_; conv => whnf) | fail)
           refine loop_rule ttOk mixed (by kernel_rfl) (ι := { m : Nat // m ≤ 4 }) (fun m => [(0, .p 0 0), (12, .sl 7 0 (4 * i + m.1) 1 false), (14, .u32 (H.getD i 0)), (15, .i (3 - (m.1 : Int))), (110, .sl 1 0 8 1 false), (111, .i 8), (112, .i (i : Int))]) (fun m => [some (.ro (mach_n 1 2)), some (.row 23 (H.map .u32)), some (.ro (k.map .u32)), some (.ro [.sl 4 0 b0.length 1 f0, .sl 5 0 b1.length 1 f1, .sl 6 0 b2.length 1 f2]), some (.ro (b0.map .u8)), some (.ro (b1.map .u8)), some (.ro (b2.map .u8)), some (.row 5 ((outl_n H (4 * i + m.1)).map .u8))]) (fun _ => 7 + 1) (fun m => 4 - m.1) ⟨0, by omega⟩ ?_ ?_
           ·
            refine Weak.sel [0, 1, 2, 3, 4, 5, 6, 7] rfl rfl ?_ ?_ rfl rfl
            ·
             (repeat' (first | exact trivial | refine And.intro ?_ ?_ | fail)) <;> first | rfl | fail
            ·
             (repeat' (first | exact trivial | refine And.intro ?_ ?_ | (refine wk_cons ?_ ?_))) <;> first | rfl | exact ren_eq (by first | (simp; done) | fail) (by first | rfl | fail) | fail
           ·
            rintro ⟨m, hm⟩
            dsimp only
            have hol := outl_len_n H (4 * i + m)
            by_cases hm4 : m < 4
            ·
             have hge : decide ((3 - (m : Int)) ≥ 0) = true := by simp; omega
             have h8 : w64 (8 * (3 - (m : Int))) = ((8 * (3 - m) : Nat) : Int) := by simp only [w64_eq]; omega
             have hp2 : w64 (3 - (m : Int) - 1) = 3 - ((m + 1 : Nat) : Int) := by simp only [w64_eq]; omega
             have hs := outl_s_n H i m hm4
             obtain ⟨Z, hZ⟩ : ∃ Z, Z = outl_n H (4 * i + m) := ⟨_, rfl⟩
             rw [← hZ] at hol hs ⊢
             have hap4 : (Z ++ [(shr32 (H.getD i 0) (8 * (3 - m))).toUInt8]).map SV.u8 = List.take ((4 * i + m) * 1) (List.drop 0 (Z.map SV.u8)) ++ List.take (1 * 1) (List.drop 0 [SV.u8 (shr32 (H.getD i 0) (8 * (3 - m))).toUInt8]) := (cat8 (o := 0) (n := 4 * i + m) (E := Z) (b := [(shr32 (H.getD i 0) (8 * (3 - m))).toUInt8]) (by omega) rfl).symm
             conv => whnf
             first | refine brT (by exact hge) ?_ | fail
             conv => whnf
             repeat (fail)
             refine ⟨_, mshr_32 h8, ?_⟩
             conv => whnf
             repeat (first | (refine Exists.intro _ (And.intro rfl ?_); conv => whnf) | (refine And.intro (by first | omega | (simp [ti5]; omega)) ?_; conv => whnf) | fail)
             refine ⟨⟨m + 1, by omega⟩, by simp only; omega, ?_⟩
             dsimp only
             rw [hs]
             refine Weak.sel [0, 1, 2, 3, 4, 5, 6, 7 + 2] rfl rfl ?_ ?_ rfl rfl
             ·
              (repeat' (first | exact trivial | refine And.intro ?_ ?_ | fail)) <;> first | exact wk_i (by first | exact hp2 | exact hp2.symm | fail) | rfl | fail
             ·
              (repeat' (first | exact trivial | exact ren_eq (plainL_u8 _) hap4 | refine And.intro ?_ ?_ | (refine wk_cons ?_ ?_))) <;> first | rfl | exact ren_eq (by first | (simp; done) | fail) (by first | rfl | fail) | fail
            ·
             obtain rfl : m = 4 := by omega
             conv => whnf
             first | refine brF (by rfl) ?_ | fail
             conv => whnf
             repeat (fail)
             refine ⟨⟨i + 1, by omega⟩, by simp only; omega, ?_⟩
             dsimp only
             rw [show 4 * (i + 1) = 4 * i + 4 by omega]
             refine Weak.sel [0, 1, 2, 3, 4, 5, 6, 7] rfl rfl ?_ ?_ rfl rfl
             ·
              (repeat' (first | exact trivial | refine And.intro ?_ ?_ | fail)) <;> first | exact wk_i (by first | exact hp | exact hp.symm | fail) | rfl | fail
             ·
              (repeat' (first | exact trivial | refine And.intro ?_ ?_ | (refine wk_cons ?_ ?_))) <;> first | rfl | exact ren_eq (by first | (simp; done) | fail) (by first | rfl | fail) | fail
          ·
           obtain rfl : i = 8 := by omega
           rw [outb_e_n] at hfin
           rw [← hfin]
           conv => whnf
           first | refine brF (by rfl) ?_ | fail
           conv => whnf
           refine ⟨[0, 1, 2, 3, 4, 5, 6, 7], ?_, rfl, rfl, ?_, rfl⟩
           ·
            (repeat' (fail)) <;> first | rfl | fail
           ·
            (repeat' (first | exact trivial | refine And.intro ?_ ?_ | (refine wk_cons ?_ ?_))) <;> first | rfl | exact ren_eq (by first | (simp; done) | fail) (by first | rfl | fail) | fail
end Go.Sh
namespace Go.Sh
open Go.Proofs
set_option maxHeartbeats 4000000
attribute [local irreducible] comp_n
attribute [local irreducible] blks_n st_n rest_n hash_n pz_n outl_n outb_n lset_n last_n
theorem f102_bb (h k : List UInt32) (hh : h.length = 8) (hk : k.length = 64) (b0 b1 : List UInt8) (hb0 : b0.length < 100000000000000) (hb1 : b1.length < 100000000000000) (f0 f1 fl : Bool) : SCall Try.prog 102 [.p 0 0, .sl 3 0 2 1 fl] [some (.ro (mach_n 1 2)), some (.row 23 (h.map .u32)), some (.ro (k.map .u32)), some (.ro [.sl 4 0 b0.length 1 f0, .sl 5 0 b1.length 1 f1]), some (.ro (b0.map .u8)), some (.ro (b1.map .u8))] (.sl 6 0 32 1 false) [some (.ro (mach_n 1 2)), none, some (.ro (k.map .u32)), some (.ro [.sl 4 0 b0.length 1 f0, .sl 5 0 b1.length 1 f1]), some (.ro (b0.map .u8)), some (.ro (b1.map .u8)), some (.row 5 ((hash_n k h (b0 ++ b1)).map .u8))] := by
 obtain ⟨tx, htx⟩ : ∃ tx : Nat → List UInt8, tx = fun i => ([b0, b1].take i).flatten := ⟨_, rfl⟩
 have tx0 : tx 0 = [] := by rw [htx]; rfl
 have tx1 : tx 1 = tx 0 ++ b0 := by rw [htx]; simp
 have tx2 : tx 2 = tx 1 ++ b1 := by rw [htx]; simp
 have htp : tx 2 = b0 ++ b1 := by rw [htx]; simp
 have he : hash_n k h (b0 ++ b1) = hash_n k h (tx 2) := by rw [htp]
 rw [he]
 have hl0 : (tx 0).length = 0 := by rw [tx0]; rfl
 have hl1 : (tx 1).length = (tx 0).length + b0.length := by rw [tx1, List.length_append]
 have hl2 : (tx 2).length = (tx 1).length + b1.length := by rw [tx2, List.length_append]
 clear htx
 refine scall_of ttOk (by kernel_rfl : Try.prog.funcs[102]? = some Try.f102) rfl rfl rfl ?_
 try simp only [List.length_cons, List.length_nil, Nat.zero_add, Nat.reduceAdd]
 refine sw_ok ttOk mixed (by kernel_rfl) ?_
 conv => whnf
 repeat (first | (refine Exists.intro _ (And.intro rfl ?_); conv => whnf) | fail)
 refine SWp.weak (Weak.virt 6 5 1 rfl) ?_
 refine loop_rule ttOk mixed (by kernel_rfl) (ι := { x : Nat × List UInt8 × Nat // x.1 ≤ 2 ∧ x.2.2 ≤ x.2.1.length ∧ x.2.1.drop x.2.2 = rest_n (tx x.1) }) (fun x => [(0, .p 0 0), (5, .i 64), (6, .sl 6 x.1.2.2 (x.1.2.1.length - x.1.2.2) 1 false), (7, .u64 (UInt64.ofNat (tx x.1.1).length)), (21, .sl 3 0 2 1 fl), (22, .i 2), (23, .i (x.1.1 : Int))]) (fun x => [some (.ro (mach_n 1 2)), some (.row 23 ((st_n k h (tx x.1.1)).map .u32)), some (.ro (k.map .u32)), some (.ro [.sl 4 0 b0.length 1 f0, .sl 5 0 b1.length 1 f1]), some (.ro (b0.map .u8)), some (.ro (b1.map .u8)), some (.row 5 (x.1.2.1.map .u8))]) (fun _ => 7) (fun x => 2 - x.1.1) ⟨(0, [], 0), by omega, by simp, by rw [tx0]; exact rest_nil_n.symm⟩ ?_ ?_
 ·
  dsimp only
  rw [tx0, st_nil_n]
  refine Weak.sel [0, 1, 2, 3, 4, 5, 6] rfl rfl ?_ ?_ rfl rfl
  ·
   (repeat' (first | exact trivial | refine And.intro ?_ ?_ | fail)) <;> first | rfl | fail
  ·
   (repeat' (first | exact trivial | refine And.intro ?_ ?_ | (refine wk_cons ?_ ?_))) <;> first | rfl | exact ren_eq (by first | (simp; done) | fail) (by first | rfl | fail) | fail
 ·
  rintro ⟨⟨i, E, o⟩, hi, ho, hE⟩
  dsimp only at hi ho hE ⊢
  have hsl := st_len_n k hh (tx i)
  have hrl := rest_len_n (tx i)
  obtain ⟨S, hS⟩ : ∃ S, S = st_n k h (tx i) := ⟨_, rfl⟩
  rw [← hS] at hsl ⊢
  have hEl : E.length - o = (rest_n (tx i)).length := by rw [← hE, List.length_drop]
  by_cases hi2 : i < 2
  ·
   have hic : i = 0 ∨ i = 1 := by omega
   rcases hic with rfl | rfl
   ·
    have hq := feed_st_n k h (tx 0) b0
    have hq2 := feed_rest_n (tx 0) b0
    rw [← hS] at hq
    rw [← tx1] at hq hq2
    rw [← hE] at hq hq2 hEl
    have hap : (E.drop o ++ b0).map SV.u8 = List.take ((E.length - o) * 1) (List.drop o (E.map SV.u8)) ++ List.take (b0.length * 1) (List.drop 0 (b0.map SV.u8)) := (cat8 rfl rfl).symm
    have hDl : (E.drop o ++ b0).length = E.length - o + b0.length := by rw [List.length_append, List.length_drop]
    have hel : E.length - o < 64 := by rw [← List.length_drop, hE, hrl]; omega
    have hul : UInt64.ofNat (tx 0).length + u64i (b0.length : Int) = UInt64.ofNat (tx 1).length := by rw [u64_add_i _ _ (by omega), tx1, List.length_append]
    clear hS hrl
    conv => whnf
    first | refine brT (by rfl) ?_ | fail
    conv => whnf
    repeat (first | (refine Exists.intro _ (And.intro rfl ?_); conv => whnf) | (refine And.intro (by first | omega | (simp [ti5]; omega)) ?_; conv => whnf) | fail)
    obtain ⟨D, hD⟩ : ∃ D, D = E.drop o ++ b0 := ⟨_, rfl⟩
    rw [← hD] at hq hq2 hap hDl
    refine loop_rule ttOk mixed (by kernel_rfl) (ι := { j : Nat // 64 * j ≤ D.length }) (fun j => [(0, .p 0 0), (5, .i 64), (6, .sl 6 (64 * j.1) (D.length - 64 * j.1) 1 false), (7, .u64 (UInt64.ofNat (tx 1).length)), (21, .sl 3 0 2 1 fl), (22, .i 2), (23, .i 0)]) (fun j => [some (.ro (mach_n 1 2)), some (.row 23 ((blks_n k S D j.1).map .u32)), some (.ro (k.map .u32)), some (.ro [.sl 4 0 b0.length 1 f0, .sl 5 0 b1.length 1 f1]), some (.ro (b0.map .u8)), some (.ro (b1.map .u8)), some (.row 5 (D.map .u8))]) (fun _ => 6 + 1) (fun j => D.length - 64 * j.1) ⟨0, by omega⟩ ?_ ?_
    ·
     have hz := blks_z_n k S D
     have hDn : E.length - o + b0.length = D.length - 64 * 0 := by omega
     dsimp only
     rw [hz]
     refine Weak.sel [0, 1, 2, 3, 4, 5, 7] rfl rfl ?_ ?_ rfl rfl
     ·
      (repeat' (first | exact trivial | refine And.intro ?_ ?_ | fail)) <;> first | exact wk_u64 (by first | exact hul | exact hul.symm | fail) | rfl | exact wk_sl rfl (by first | rfl | fail) (by first | exact hDn.symm | fail) | fail
     ·
      (repeat' (first | exact trivial | exact ren_eq (plainL_u8 _) hap | refine And.intro ?_ ?_ | (refine wk_cons ?_ ?_))) <;> first | rfl | exact ren_eq (by first | (simp; done) | fail) (by first | rfl | fail) | fail
    ·
     rintro ⟨j, hj⟩
     dsimp only
     have hbl := blks_len_n k hsl D j
     by_cases hc : 64 * (j + 1) ≤ D.length
     ·
      have hge : decide (((D.length - 64 * j : Nat) : Int) ≥ 64) = true := by simp; omega
      have hs := blks_s_n k S D j
      have q139 := f139D (blks_n k S D j) k D (64 * j) hbl hk (by omega) false
      rw [← hs] at q139
      conv => whnf
      first | refine brT (by exact hge) ?_ | fail
      conv => whnf
      repeat (first | (refine Exists.intro _ (And.intro rfl ?_); conv => whnf) | (refine And.intro (by first | omega | fail) ?_; conv => whnf) | fail)
      refine ok1_callF [0, 1, 2, 6] [false, true, false, false] true (q139) rfl rfl ⟨⟨rfl, by first | rfl | fail⟩, by (repeat' (first | exact trivial | refine And.intro ?_ ?_)) <;> first | rfl | exact ren_eq (by first | (simp; done) | fail) (by first | rfl | fail) | fail, by first | simp [plainHf, plainB], by first | rfl | fail, ?_⟩
      conv => whnf
      repeat (first | (refine Exists.intro _ (And.intro rfl ?_); conv => whnf) | (refine And.intro (by first | omega | fail) ?_; conv => whnf) | fail)
      refine ⟨⟨j + 1, hc⟩, by simp only; omega, ?_⟩
      dsimp only
      refine Weak.sel [0, 1, 2, 3, 4, 5, 6] rfl rfl ?_ ?_ rfl rfl
      ·
       (repeat' (first | exact trivial | refine And.intro ?_ ?_ | fail)) <;> first | rfl | fail
      ·
       (repeat' (first | exact trivial | refine And.intro ?_ ?_ | (refine wk_cons ?_ ?_))) <;> first | rfl | exact ren_eq (by first | (simp; done) | fail) (by first | rfl | fail) | fail
     ·
      obtain rfl : j = D.length / 64 := by omega
      have hge : decide (((D.length - 64 * (D.length / 64) : Nat) : Int) ≥ 64) = false := by simp; omega
      rw [hq]
      conv => whnf
      first | refine brF (by exact hge) ?_ | fail
      conv => whnf
      repeat (fail)
      refine ⟨⟨(1, D, 64 * (D.length / 64)), by omega, by simp only; omega, hq2⟩, by simp only; omega, ?_⟩
      dsimp only
      refine Weak.sel [0, 1, 2, 3, 4, 5, 6] rfl rfl ?_ ?_ rfl rfl
      ·
       (repeat' (first | exact trivial | refine And.intro ?_ ?_ | fail)) <;> first | rfl | fail
      ·
       (repeat' (first | exact trivial | refine And.intro ?_ ?_ | (refine wk_cons ?_ ?_))) <;> first | rfl | exact ren_eq (by first | (simp; done) | fail) (by first | rfl | fail) | fail
   ·
    have hq := feed_st_n k h (tx 1) b1
    have hq2 := feed_rest_n (tx 1) b1
    rw [← hS] at hq
    rw [← tx2] at hq hq2
    rw [← hE] at hq hq2 hEl
    have hap : (E.drop o ++ b1).map SV.u8 = List.take ((E.length - o) * 1) (List.drop o (E.map SV.u8)) ++ List.take (b1.length * 1) (List.drop 0 (b1.map SV.u8)) := (cat8 rfl rfl).symm
    have hDl : (E.drop o ++ b1).length = E.length - o + b1.length := by rw [List.length_append, List.length_drop]
    have hel : E.length - o < 64 := by rw [← List.length_drop, hE, hrl]; omega
    have hul : UInt64.ofNat (tx 1).length + u64i (b1.length : Int) = UInt64.ofNat (tx 2).length := by rw [u64_add_i _ _ (by omega), tx2, List.length_append]
    clear hS hrl
    conv => whnf
    first | refine brT (by rfl) ?_ | fail
    conv => whnf
    repeat (first | (refine Exists.intro _ (And.intro rfl ?_); conv => whnf) | (refine And.intro (by first | omega | (simp [ti5]; omega)) ?_; conv => whnf) | fail)
    obtain ⟨D, hD⟩ : ∃ D, D = E.drop o ++ b1 := ⟨_, rfl⟩
    rw [← hD] at hq hq2 hap hDl
    refine loop_rule ttOk mixed (by kernel_rfl) (ι := { j : Nat // 64 * j ≤ D.length }) (fun j => [(0, .p 0 0), (5, .i 64), (6, .sl 6 (64 * j.1) (D.length - 64 * j.1) 1 false), (7, .u64 (UInt64.ofNat (tx 2).length)), (21, .sl 3 0 2 1 fl), (22, .i 2), (23, .i 1)]) (fun j => [some (.ro (mach_n 1 2)), some (.row 23 ((blks_n k S D j.1).map .u32)), some (.ro (k.map .u32)), some (.ro [.sl 4 0 b0.length 1 f0, .sl 5 0 b1.length 1 f1]), some (.ro (b0.map .u8)), some (.ro (b1.map .u8)), some (.row 5 (D.map .u8))]) (fun _ => 6 + 1) (fun j => D.length - 64 * j.1) ⟨0, by omega⟩ ?_ ?_
    ·
     have hz := blks_z_n k S D
     have hDn : E.length - o + b1.length = D.length - 64 * 0 := by omega
     dsimp only
     rw [hz]
     refine Weak.sel [0, 1, 2, 3, 4, 5, 7] rfl rfl ?_ ?_ rfl rfl
     ·
      (repeat' (first | exact trivial | refine And.intro ?_ ?_ | fail)) <;> first | exact wk_u64 (by first | exact hul | exact hul.symm | fail) | rfl | exact wk_sl rfl (by first | rfl | fail) (by first | exact hDn.symm | fail) | fail
     ·
      (repeat' (first | exact trivial | exact ren_eq (plainL_u8 _) hap | refine And.intro ?_ ?_ | (refine wk_cons ?_ ?_))) <;> first | rfl | exact ren_eq (by first | (simp; done) | fail) (by first | rfl | fail) | fail
    ·
     rintro ⟨j, hj⟩
     dsimp only
     have hbl := blks_len_n k hsl D j
     by_cases hc : 64 * (j + 1) ≤ D.length
     ·
      have hge : decide (((D.length - 64 * j : Nat) : Int) ≥ 64) = true := by simp; omega
      have hs := blks_s_n k S D j
      have q139 := f139D (blks_n k S D j) k D (64 * j) hbl hk (by omega) false
      rw [← hs] at q139
      conv => whnf
      first | refine brT (by exact hge) ?_ | fail
      conv => whnf
      repeat (first | (refine Exists.intro _ (And.intro rfl ?_); conv => whnf) | (refine And.intro (by first | omega | fail) ?_; conv => whnf) | fail)
      refine ok1_callF [0, 1, 2, 6] [false, true, false, false] true (q139) rfl rfl ⟨⟨rfl, by first | rfl | fail⟩, by (repeat' (first | exact trivial | refine And.intro ?_ ?_)) <;> first | rfl | exact ren_eq (by first | (simp; done) | fail) (by first | rfl | fail) | fail, by first | simp [plainHf, plainB], by first | rfl | fail, ?_⟩
      conv => whnf
      repeat (first | (refine Exists.intro _ (And.intro rfl ?_); conv => whnf) | (refine And.intro (by first | omega | fail) ?_; conv => whnf) | fail)
      refine ⟨⟨j + 1, hc⟩, by simp only; omega, ?_⟩
      dsimp only
      refine Weak.sel [0, 1, 2, 3, 4, 5, 6] rfl rfl ?_ ?_ rfl rfl
      ·
       (repeat' (first | exact trivial | refine And.intro ?_ ?_ | fail)) <;> first | rfl | fail
      ·
       (repeat' (first | exact trivial | refine And.intro ?_ ?_ | (refine wk_cons ?_ ?_))) <;> first | rfl | exact ren_eq (by first | (simp; done) | fail) (by first | rfl | fail) | fail
     ·
      obtain rfl : j = D.length / 64 := by omega
      have hge : decide (((D.length - 64 * (D.length / 64) : Nat) : Int) ≥ 64) = false := by simp; omega
      rw [hq]
      conv => whnf
      first | refine brF (by exact hge) ?_ | fail
      conv => whnf
      repeat (fail)
      refine ⟨⟨(2, D, 64 * (D.length / 64)), by omega, by simp only; omega, hq2⟩, by simp only; omega, ?_⟩
      dsimp only
      refine Weak.sel [0, 1, 2, 3, 4, 5, 6] rfl rfl ?_ ?_ rfl rfl
      ·
       (repeat' (first | exact trivial | refine And.intro ?_ ?_ | fail)) <;> first | rfl | fail
      ·
       (repeat' (first | exact trivial | refine And.intro ?_ ?_ | (refine wk_cons ?_ ?_))) <;> first | rfl | exact ren_eq (by first | (simp; done) | fail) (by first | rfl | fail) | fail
  ·
   obtain rfl : i = 2 := by omega
   obtain ⟨n, hn⟩ : ∃ n, n = E.length - o := ⟨_, rfl⟩
   have hnE : o + n = E.length := by omega
   rw [← hn]
   have hcat : (rest_n (tx 2) ++ [128]).map SV.u8 = List.take (n * 1) (List.drop o (E.map SV.u8)) ++ List.take (1 * 1) (List.drop 0 [SV.u8 128]) := by rw [← hE]; exact (cat8 (b := [128]) hn rfl).symm
   have hdd : decide (((n : Nat) : Int).toNat = ((n : Nat) : Int).toNat) = true := by simp
   conv => whnf
   first | refine brF (by rfl) ?_ | fail
   conv => whnf
   repeat (first | (refine Exists.intro _ (And.intro rfl ?_); conv => whnf) | (refine And.intro (by first | omega | fail) ?_; conv => whnf) | fail)
   rw [hdd]
   rw [Int.toNat_natCast]
   have hnl : n = (rest_n (tx 2)).length := by rw [hn, ← hE, List.length_drop]
   have hn64 : n < 64 := by rw [hnl, hrl]; omega
   have hpz := pz_rest_n (tx 2)
   rw [← hnl] at hpz
   have hpl : pz_n n < 64 := by unfold pz_n; exact Nat.mod_lt _ (by decide)
   conv => whnf
   refine And.intro ⟨by show _ ≤ (E.map SV.u8).length; rw [List.length_map]; omega, by decide, by show _ * 1 ≤ _; omega, by decide⟩ ?_
   conv => whnf
   repeat (fail)
   refine loop_rule ttOk mixed (by kernel_rfl) (ι := { j : Nat // j ≤ pz_n n }) (fun j => [(0, .p 0 0), (5, .i 64), (6, .sl 6 0 (n + 1 + j.1) 1 false), (7, .u64 (UInt64.ofNat (tx 2).length))]) (fun j => [some (.ro (mach_n 1 2)), some (.row 23 (S.map .u32)), some (.ro (k.map .u32)), some (.ro [.sl 4 0 b0.length 1 f0, .sl 5 0 b1.length 1 f1]), some (.ro (b0.map .u8)), some (.ro (b1.map .u8)), some (.row 5 ((rest_n (tx 2) ++ [128] ++ List.replicate j.1 0).map .u8))]) (fun _ => 6 + 1) (fun j => pz_n n - j.1) ⟨0, by omega⟩ ?_ ?_
   ·
    have hz : rest_n (tx 2) ++ [128] ++ List.replicate 0 0 = rest_n (tx 2) ++ [128] := List.append_nil _
    dsimp only
    rw [hz]
    refine Weak.sel [0, 1, 2, 3, 4, 5, 6 + 2] rfl rfl ?_ ?_ rfl rfl
    ·
     (repeat' (first | exact trivial | refine And.intro ?_ ?_ | fail)) <;> first | rfl | fail
    ·
     (repeat' (first | exact trivial | exact ren_eq (plainL_u8 _) hcat | refine And.intro ?_ ?_ | (refine wk_cons ?_ ?_))) <;> first | rfl | exact ren_eq (by first | (simp; done) | fail) (by first | rfl | fail) | fail
   ·
    rintro ⟨j, hj⟩
    dsimp only
    obtain ⟨Y, hY⟩ : ∃ Y, Y = rest_n (tx 2) ++ [128] ++ List.replicate j 0 := ⟨_, rfl⟩
    have hYl : Y.length = n + 1 + j := by rw [hY, List.length_append, List.length_append, ← hnl, List.length_replicate]; rfl
    have hYs : rest_n (tx 2) ++ [128] ++ List.replicate (j + 1) 0 = Y ++ [0] := by rw [hY, List.replicate_succ', List.append_assoc]; simp
    by_cases hj2 : j < pz_n n
    ·
     have hno := padz_no_n hj2
     have hcd : (((w64 (((n + 1 + j : Nat) : Int) + w64 (2 * 4))).tmod 64) != 0) = true := by
      have e : w64 (((n + 1 + j : Nat) : Int) + w64 (2 * 4)) = ((n + 1 + j + 8 : Nat) : Int) := by simp only [w64_eq]; omega
      rw [e, show (((n + 1 + j + 8 : Nat) : Int)).tmod 64 = (((n + 1 + j + 8) % 64 : Nat) : Int) from rfl]
      simp; omega
     rw [← hY]
     conv => whnf
     repeat (first | (refine Exists.intro _ (And.intro rfl ?_); conv => whnf) | fail)
     first | refine brT (by exact hcd) ?_ | fail
     conv => whnf
     repeat (first | (refine Exists.intro _ (And.intro rfl ?_); conv => whnf) | (refine And.intro (by first | omega | (simp [ti5]; omega)) ?_; conv => whnf) | fail)
     have hap2 : (Y ++ [0]).map SV.u8 = List.take ((n + 1 + j) * 1) (List.drop 0 (Y.map SV.u8)) ++ List.take (1 * 1) (List.drop 0 [SV.u8 0]) := (cat8 (o := 0) (n := n + 1 + j) (E := Y) (b := [0]) (by omega) rfl).symm
     refine ⟨⟨j + 1, by omega⟩, by simp only; omega, ?_⟩
     dsimp only
     rw [hYs]
     refine Weak.sel [0, 1, 2, 3, 4, 5, 6 + 2] rfl rfl ?_ ?_ rfl rfl
     ·
      (repeat' (first | exact trivial | refine And.intro ?_ ?_ | fail)) <;> first | rfl | fail
     ·
      (repeat' (first | exact trivial | exact ren_eq (plainL_u8 _) hap2 | refine And.intro ?_ ?_ | (refine wk_cons ?_ ?_))) <;> first | rfl | exact ren_eq (by first | (simp; done) | fail) (by first | rfl | fail) | fail
    ·
     obtain rfl : j = pz_n n := by omega
     have hyes := padz_yes_n n
     have hcd : (((w64 (((n + 1 + pz_n n : Nat) : Int) + w64 (2 * 4))).tmod 64) != 0) = false := by
      have e : w64 (((n + 1 + pz_n n : Nat) : Int) + w64 (2 * 4)) = ((n + 1 + pz_n n + 8 : Nat) : Int) := by simp only [w64_eq]; omega
      rw [e, show (((n + 1 + pz_n n + 8 : Nat) : Int)).tmod 64 = (((n + 1 + pz_n n + 8) % 64 : Nat) : Int) from rfl, hyes]
      rfl
     rw [← hY]
     conv => whnf
     repeat (first | (refine Exists.intro _ (And.intro rfl ?_); conv => whnf) | fail)
     first | refine brF (by exact hcd) ?_ | fail
     conv => whnf
     repeat (first | (refine Exists.intro _ (And.intro rfl ?_); conv => whnf) | (refine And.intro ⟨by first | decide | fail, by first | decide | fail⟩ ?_; conv => whnf) | fail)
     obtain ⟨N, hN⟩ : ∃ N, N = (tx 2).length := ⟨_, rfl⟩
     rw [← hN]
     refine loop_rule ttOk mixed (by kernel_rfl) (ι := { i : Nat // i ≤ 8 }) (fun i => [(0, .p 0 0), (5, .i 64), (6, .sl 6 0 (n + 1 + pz_n n) 1 false), (7, .u64 (UInt64.ofNat N)), (10, .sl (6 + 1) 0 8 1 true), (76, .i (i.1 : Int))]) (fun i => [some (.ro (mach_n 1 2)), some (.row 23 (S.map .u32)), some (.ro (k.map .u32)), some (.ro [.sl 4 0 b0.length 1 f0, .sl 5 0 b1.length 1 f1]), some (.ro (b0.map .u8)), some (.ro (b1.map .u8)), some (.row 5 (Y.map .u8)), some (.row 5 ((lset_n N i.1).map .u8))]) (fun _ => 6 + 2) (fun i => 8 - i.1) ⟨0, by omega⟩ ?_ ?_
     ·
      have hz := lset_z_n N
      dsimp only
      rw [hz]
      refine Weak.sel [0, 1, 2, 3, 4, 5, 6, 6 + 1] rfl rfl ?_ ?_ rfl rfl
      ·
       (repeat' (first | exact trivial | refine And.intro ?_ ?_ | fail)) <;> first | rfl | fail
      ·
       (repeat' (first | exact trivial | exact ren_z8 | refine And.intro ?_ ?_ | (refine wk_cons ?_ ?_))) <;> first | rfl | exact ren_eq (by first | (simp; done) | fail) (by first | rfl | fail) | fail
     ·
      rintro ⟨i, hi⟩
      dsimp only
      have hll := lset_len_n N i
      by_cases hi8 : i < 8
      ·
       have hlt : decide ((i : Int) < 8) = true := by simp; omega
       have hp := wp1i i (by omega)
       have h8 : w64 (8 * (i : Int)) = ((8 * i : Nat) : Int) := by simp only [w64_eq]; omega
       have h7 : w64 (w64 (8 - 1) - (i : Int)) = ((7 - i : Nat) : Int) := by simp only [w64_eq]; omega
       have hs := lset_s_n N i
       conv => whnf
       first | refine brT (by exact hlt) ?_ | fail
       conv => whnf
       repeat (fail)
       refine ⟨_, mshr_64 h8, ?_⟩
       conv => whnf
       repeat (first | (refine Exists.intro _ (And.intro (sput_m8 (i := 7 - i) (by first | rfl | omega | fail)) ?_); conv => whnf) | (refine Exists.intro _ (And.intro (idx_i (m := 7 - i) (by first | rfl | omega | fail)) ?_); conv => whnf) | (refine And.intro (by first | omega | (simp; omega) | fail) ?_; conv => whnf) | fail)
       refine ⟨⟨i + 1, by omega⟩, by simp only; omega, ?_⟩
       dsimp only
       rw [hs]
       refine Weak.sel [0, 1, 2, 3, 4, 5, 6, 6 + 1] rfl rfl ?_ ?_ rfl rfl
       ·
        (repeat' (first | exact trivial | refine And.intro ?_ ?_ | fail)) <;> first | exact wk_i (by first | exact hp | exact hp.symm | fail) | rfl | fail
       ·
        (repeat' (first | exact trivial | refine And.intro ?_ ?_ | (refine wk_cons ?_ ?_))) <;> first | rfl | exact ren_eq (by first | (simp; done) | fail) (by first | rfl | fail) | exact ren_m8 (by first | rfl | fail) | fail
      ·
       obtain rfl : i = 8 := by omega
       have hap3 : (Y ++ lset_n N 8).map SV.u8 = List.take ((n + 1 + pz_n n) * 1) (List.drop 0 (Y.map SV.u8)) ++ List.take (8 * 1) (List.drop 0 ((lset_n N 8).map SV.u8)) := (cat8 (o := 0) (n := n + 1 + pz_n n) (E := Y) (b := lset_n N 8) (by omega) hll.symm).symm
       obtain ⟨D, hD⟩ : ∃ D, D = Y ++ lset_n N 8 := ⟨_, rfl⟩
       have hDl : D.length = n + 1 + pz_n n + 8 := by rw [hD, List.length_append, hYl, hll]
       have hDe : D = last_n (tx 2) := by rw [hD, hY, hpz, hN]; exact last_e_n _
       have hD64 := last_len_n (tx 2)
       have hfin := last_st_n k h (tx 2)
       rw [← hDe] at hD64 hfin
       rw [← hS] at hfin
       rw [← hD] at hap3
       conv => whnf
       first | refine brF (by rfl) ?_ | fail
       conv => whnf
       repeat (first | (refine And.intro (by first | omega | (simp [ti5]; omega)) ?_; conv => whnf) | fail)
       refine loop_rule ttOk mixed (by kernel_rfl) (ι := { j : Nat // 64 * j ≤ D.length }) (fun j => [(0, .p 0 0), (5, .i 64), (6, .sl 6 (64 * j.1) (D.length - 64 * j.1) 1 false)]) (fun j => [some (.ro (mach_n 1 2)), some (.row 23 ((blks_n k S D j.1).map .u32)), some (.ro (k.map .u32)), some (.ro [.sl 4 0 b0.length 1 f0, .sl 5 0 b1.length 1 f1]), some (.ro (b0.map .u8)), some (.ro (b1.map .u8)), some (.row 5 (D.map .u8))]) (fun _ => 6 + 1) (fun j => D.length - 64 * j.1) ⟨0, by omega⟩ ?_ ?_
       ·
        have hz := blks_z_n k S D
        have hDn : n + 1 + pz_n n + 8 = D.length - 64 * 0 := by omega
        dsimp only
        rw [hz]
        refine Weak.sel [0, 1, 2, 3, 4, 5, 6 + 2] rfl rfl ?_ ?_ rfl rfl
        ·
         (repeat' (first | exact trivial | refine And.intro ?_ ?_ | fail)) <;> first | rfl | exact wk_sl rfl (by first | rfl | fail) (by first | exact hDn.symm | fail) | fail
        ·
         (repeat' (first | exact trivial | exact ren_eq (plainL_u8 _) hap3 | refine And.intro ?_ ?_ | (refine wk_cons ?_ ?_))) <;> first | rfl | exact ren_eq (by first | (simp; done) | fail) (by first | rfl | fail) | fail
       ·
        rintro ⟨j, hj⟩
        dsimp only
        have hbl := blks_len_n k hsl D j
        by_cases hc : 64 * (j + 1) ≤ D.length
        ·
         have hge : decide (((D.length - 64 * j : Nat) : Int) > 0) = true := by simp; omega
         have hs := blks_s_n k S D j
         have q139 := f139D (blks_n k S D j) k D (64 * j) hbl hk (by omega) false
         rw [← hs] at q139
         conv => whnf
         first | refine brT (by exact hge) ?_ | fail
         conv => whnf
         repeat (first | (refine Exists.intro _ (And.intro rfl ?_); conv => whnf) | (refine And.intro (by first | omega | fail) ?_; conv => whnf) | fail)
         refine ok1_callF [0, 1, 2, 6] [false, true, false, false] true (q139) rfl rfl ⟨⟨rfl, by first | rfl | fail⟩, by (repeat' (first | exact trivial | refine And.intro ?_ ?_)) <;> first | rfl | exact ren_eq (by first | (simp; done) | fail) (by first | rfl | fail) | fail, by first | simp [plainHf, plainB], by first | rfl | fail, ?_⟩
         conv => whnf
         repeat (first | (refine Exists.intro _ (And.intro rfl ?_); conv => whnf) | (refine And.intro (by first | omega | fail) ?_; conv => whnf) | fail)
         refine ⟨⟨j + 1, hc⟩, by simp only; omega, ?_⟩
         dsimp only
         refine Weak.sel [0, 1, 2, 3, 4, 5, 6] rfl rfl ?_ ?_ rfl rfl
         ·
          (repeat' (first | exact trivial | refine And.intro ?_ ?_ | fail)) <;> first | rfl | fail
         ·
          (repeat' (first | exact trivial | refine And.intro ?_ ?_ | (refine wk_cons ?_ ?_))) <;> first | rfl | exact ren_eq (by first | (simp; done) | fail) (by first | rfl | fail) | fail
        ·
         obtain rfl : j = D.length / 64 := by omega
         have hge : decide (((D.length - 64 * (D.length / 64) : Nat) : Int) > 0) = false := by simp; omega
         obtain ⟨H, hH⟩ : ∃ H, H = blks_n k S D (D.length / 64) := ⟨_, rfl⟩
         rw [← hH] at hbl hfin ⊢
         conv => whnf
         first | refine brF (by exact hge) ?_ | fail
         conv => whnf
         repeat (first | (refine Exists.intro _ (And.intro rfl ?_); conv => whnf) | fail)
         refine SWp.weak (Weak.virt 12 5 1 rfl) ?_
         refine loop_rule ttOk mixed (by kernel_rfl) (ι := { i : Nat // i ≤ 8 }) (fun i => [(0, .p 0 0), (12, .sl 6 0 (4 * i.1) 1 false), (110, .sl 1 0 8 1 false), (111, .i 8), (112, .i (i.1 : Int))]) (fun i => [some (.ro (mach_n 1 2)), some (.row 23 (H.map .u32)), some (.ro (k.map .u32)), some (.ro [.sl 4 0 b0.length 1 f0, .sl 5 0 b1.length 1 f1]), some (.ro (b0.map .u8)), some (.ro (b1.map .u8)), some (.row 5 ((outl_n H (4 * i.1)).map .u8))]) (fun _ => 6 + 1) (fun i => 8 - i.1) ⟨0, by omega⟩ ?_ ?_
         ·
          have hz := outl_z_n H
          dsimp only
          rw [hz]
          refine Weak.sel [0, 1, 2, 3, 4, 5, 6 + 1] rfl rfl ?_ ?_ rfl rfl
          ·
           (repeat' (first | exact trivial | refine And.intro ?_ ?_ | fail)) <;> first | rfl | fail
          ·
           (repeat' (first | exact trivial | refine And.intro ?_ ?_ | (refine wk_cons ?_ ?_))) <;> first | rfl | exact ren_eq (by first | (simp; done) | fail) (by first | rfl | fail) | fail
         ·
          rintro ⟨i, hi⟩
          dsimp only
          by_cases hi8 : i < 8
          ·
           have hlt : decide ((i : Int) < 8) = true := by simp; omega
           have hp := wp1i i (by omega)
           conv => whnf
           first | refine brT (by exact hlt) ?_ | fail
           conv => whnf
           repeat (first | (refine Exists.intro _ (And.intro (sload_u32 (i := i) (by first | rfl | omega | fail) (by first | omega | fail)) ?_); conv => whnf) | (refine Exists.intro _ (And.intro (idx_i (m := i) (by first | rfl | fail)) ?_); conv => whnf) | (refine Exists.intro _ (And.intro rfl ?_); conv => whnf) | (refine And.intro (by first | omega | fail) ?_; conv => whnf) | fail)
           refine loop_rule ttOk mixed (by kernel_rfl) (ι := { m : Nat // m ≤ 4 }) (fun m => [(0, .p 0 0), (12, .sl 6 0 (4 * i + m.1) 1 false), (14, .u32 (H.getD i 0)), (15, .i (3 - (m.1 : Int))), (110, .sl 1 0 8 1 false), (111, .i 8), (112, .i (i : Int))]) (fun m => [some (.ro (mach_n 1 2)), some (.row 23 (H.map .u32)), some (.ro (k.map .u32)), some (.ro [.sl 4 0 b0.length 1 f0, .sl 5 0 b1.length 1 f1]), some (.ro (b0.map .u8)), some (.ro (b1.map .u8)), some (.row 5 ((outl_n H (4 * i + m.1)).map .u8))]) (fun _ => 6 + 1) (fun m => 4 - m.1) ⟨0, by omega⟩ ?_ ?_
           ·
            refine Weak.sel [0, 1, 2, 3, 4, 5, 6] rfl rfl ?_ ?_ rfl rfl
            ·
             (repeat' (first | exact trivial | refine And.intro ?_ ?_ | fail)) <;> first | rfl | fail
            ·
             (repeat' (first | exact trivial | refine And.intro ?_ ?_ | (refine wk_cons ?_ ?_))) <;> first | rfl | exact ren_eq (by first | (simp; done) | fail) (by first | rfl | fail) | fail
           ·
            rintro ⟨m, hm⟩
            dsimp only
            have hol := outl_len_n H (4 * i + m)
            by_cases hm4 : m < 4
            ·
             have hge : decide ((3 - (m : Int)) ≥ 0) = true := by simp; omega
             have h8 : w64 (8 * (3 - (m : Int))) = ((8 * (3 - m) : Nat) : Int) := by simp only [w64_eq]; omega
             have hp2 : w64 (3 - (m : Int) - 1) = 3 - ((m + 1 : Nat) : Int) := by simp only [w64_eq]; omega
             have hs := outl_s_n H i m hm4
             obtain ⟨Z, hZ⟩ : ∃ Z, Z = outl_n H (4 * i + m) := ⟨_, rfl⟩
             rw [← hZ] at hol hs ⊢
             have hap4 : (Z ++ [(shr32 (H.getD i 0) (8 * (3 - m))).toUInt8]).map SV.u8 = List.take ((4 * i + m) * 1) (List.drop 0 (Z.map SV.u8)) ++ List.take (1 * 1) (List.drop 0 [SV.u8 (shr32 (H.getD i 0) (8 * (3 - m))).toUInt8]) := (cat8 (o := 0) (n := 4 * i + m) (E := Z) (b := [(shr32 (H.getD i 0) (8 * (3 - m))).toUInt8]) (by omega) rfl).symm
             conv => whnf
             first | refine brT (by exact hge) ?_ | fail
             conv => whnf
             repeat (fail)
             refine ⟨_, mshr_32 h8, ?_⟩
             conv => whnf
             repeat (first | (refine Exists.intro _ (And.intro rfl ?_); conv => whnf) | (refine And.intro (by first | omega | (simp [ti5]; omega)) ?_; conv => whnf) | fail)
             refine ⟨⟨m + 1, by omega⟩, by simp only; omega, ?_⟩
             dsimp only
             rw [hs]
             refine Weak.sel [0, 1, 2, 3, 4, 5, 6 + 2] rfl rfl ?_ ?_ rfl rfl
             ·
              (repeat' (first | exact trivial | refine And.intro ?_ ?_ | fail)) <;> first | exact wk_i (by first | exact hp2 | exact hp2.symm | fail) | rfl | fail
             ·
              (repeat' (first | exact trivial | exact ren_eq (plainL_u8 _) hap4 | refine And.intro ?_ ?_ | (refine wk_cons ?_ ?_))) <;> first | rfl | exact ren_eq (by first | (simp; done) | fail) (by first | rfl | fail) | fail
            ·
             obtain rfl : m = 4 := by omega
             conv => whnf
             first | refine brF (by rfl) ?_ | fail
             conv => whnf
             repeat (fail)
             refine ⟨⟨i + 1, by omega⟩, by simp only; omega, ?_⟩
             dsimp only
             rw [show 4 * (i + 1) = 4 * i + 4 by omega]
             refine Weak.sel [0, 1, 2, 3, 4, 5, 6] rfl rfl ?_ ?_ rfl rfl
             ·
              (repeat' (first | exact trivial | refine And.intro ?_ ?_ | fail)) <;> first | exact wk_i (by first | exact hp | exact hp.symm | fail) | rfl | fail
             ·
              (repeat' (first | exact trivial | refine And.intro ?_ ?_ | (refine wk_cons ?_ ?_))) <;> first | rfl | exact ren_eq (by first | (simp; done) | fail) (by first | rfl | fail) | fail
          ·
           obtain rfl : i = 8 := by omega
           rw [outb_e_n] at hfin
           rw [← hfin]
           conv => whnf
           first | refine brF (by rfl) ?_ | fail
           conv => whnf
           refine ⟨[0, 1, 2, 3, 4, 5, 6], ?_, rfl, rfl, ?_, rfl⟩
           ·
            (repeat' (fail)) <;> first | rfl | fail
           ·
            (repeat' (first | exact trivial | refine And.intro ?_ ?_ | (refine wk_cons ?_ ?_))) <;> first | rfl | exact ren_eq (by first | (simp; done) | fail) (by first | rfl | fail) | fail
end Go.Sh
namespace Go.Sh
open Go.Proofs
set_option maxHeartbeats 4000000
attribute [local irreducible] comp_n
attribute [local irreducible] blks_n st_n rest_n hash_n pz_n outl_n outb_n lset_n last_n
theorem f102_bobb (h k : List UInt32) (hh : h.length = 8) (hk : k.length = 64) (b0 b2 b3 : List UInt8) (hb0 : b0.length < 100000000000000) (hb2 : b2.length < 100000000000000) (hb3 : b3.length < 100000000000000) (f0 f2 f3 fl : Bool) : SCall Try.prog 102 [.p 0 0, .sl 3 0 4 1 fl] [some (.ro (mach_n 1 2)), some (.row 23 (h.map .u32)), some (.ro (k.map .u32)), some (.ro [.sl 4 0 b0.length 1 f0, .slnil, .sl 5 0 b2.length 1 f2, .sl 6 0 b3.length 1 f3]), some (.ro (b0.map .u8)), some (.ro (b2.map .u8)), some (.ro (b3.map .u8))] (.sl 7 0 32 1 false) [some (.ro (mach_n 1 2)), none, some (.ro (k.map .u32)), some (.ro [.sl 4 0 b0.length 1 f0, .slnil, .sl 5 0 b2.length 1 f2, .sl 6 0 b3.length 1 f3]), some (.ro (b0.map .u8)), some (.ro (b2.map .u8)), some (.ro (b3.map .u8)), some (.row 5 ((hash_n k h (b0 ++ b2 ++ b3)).map .u8))] := by
 obtain ⟨tx, htx⟩ : ∃ tx : Nat → List UInt8, tx = fun i => ([b0, [], b2, b3].take i).flatten := ⟨_, rfl⟩
 have tx0 : tx 0 = [] := by rw [htx]; rfl
 have tx1 : tx 1 = tx 0 ++ b0 := by rw [htx]; simp
 have tx2 : tx 2 = tx 1 ++ [] := by rw [htx]; simp
 have tx3 : tx 3 = tx 2 ++ b2 := by rw [htx]; simp
 have tx4 : tx 4 = tx 3 ++ b3 := by rw [htx]; simp
 have htp : tx 4 = b0 ++ b2 ++ b3 := by rw [htx]; simp
 have he : hash_n k h (b0 ++ b2 ++ b3) = hash_n k h (tx 4) := by rw [htp]
 rw [he]
 have hl0 : (tx 0).length = 0 := by rw [tx0]; rfl
 have hl1 : (tx 1).length = (tx 0).length + b0.length := by rw [tx1, List.length_append]
 have hl2 : (tx 2).length = (tx 1).length + 0 := by rw [tx2, List.length_append]; rfl
 have hl3 : (tx 3).length = (tx 2).length + b2.length := by rw [tx3, List.length_append]
 have hl4 : (tx 4).length = (tx 3).length + b3.length := by rw [tx4, List.length_append]
 clear htx
 refine scall_of ttOk (by kernel_rfl : Try.prog.funcs[102]? = some Try.f102) rfl rfl rfl ?_
 try simp only [List.length_cons, List.length_nil, Nat.zero_add, Nat.reduceAdd]
 refine sw_ok ttOk mixed (by kernel_rfl) ?_
 conv => whnf
 repeat (first | (refine Exists.intro _ (And.intro rfl ?_); conv => whnf) | fail)
 refine SWp.weak (Weak.virt 6 5 1 rfl) ?_
 refine loop_rule ttOk mixed (by kernel_rfl) (ι := { x : Nat × List UInt8 × Nat // x.1 ≤ 4 ∧ x.2.2 ≤ x.2.1.length ∧ x.2.1.drop x.2.2 = rest_n (tx x.1) }) (fun x => [(0, .p 0 0), (5, .i 64), (6, .sl 7 x.1.2.2 (x.1.2.1.length - x.1.2.2) 1 false), (7, .u64 (UInt64.ofNat (tx x.1.1).length)), (21, .sl 3 0 4 1 fl), (22, .i 4), (23, .i (x.1.1 : Int))]) (fun x => [some (.ro (mach_n 1 2)), some (.row 23 ((st_n k h (tx x.1.1)).map .u32)), some (.ro (k.map .u32)), some (.ro [.sl 4 0 b0.length 1 f0, .slnil, .sl 5 0 b2.length 1 f2, .sl 6 0 b3.length 1 f3]), some (.ro (b0.map .u8)), some (.ro (b2.map .u8)), some (.ro (b3.map .u8)), some (.row 5 (x.1.2.1.map .u8))]) (fun _ => 8) (fun x => 4 - x.1.1) ⟨(0, [], 0), by omega, by simp, by rw [tx0]; exact rest_nil_n.symm⟩ ?_ ?_
 ·
  dsimp only
  rw [tx0, st_nil_n]
  refine Weak.sel [0, 1, 2, 3, 4, 5, 6, 7] rfl rfl ?_ ?_ rfl rfl
  ·
   (repeat' (first | exact trivial | refine And.intro ?_ ?_ | fail)) <;> first | rfl | fail
  ·
   (repeat' (first | exact trivial | refine And.intro ?_ ?_ | (refine wk_cons ?_ ?_))) <;> first | rfl | exact ren_eq (by first | (simp; done) | fail) (by first | rfl | fail) | fail
 ·
  rintro ⟨⟨i, E, o⟩, hi, ho, hE⟩
  dsimp only at hi ho hE ⊢
  have hsl := st_len_n k hh (tx i)
  have hrl := rest_len_n (tx i)
  obtain ⟨S, hS⟩ : ∃ S, S = st_n k h (tx i) := ⟨_, rfl⟩
  rw [← hS] at hsl ⊢
  have hEl : E.length - o = (rest_n (tx i)).length := by rw [← hE, List.length_drop]
  by_cases hi2 : i < 4
  ·
   have hic : i = 0 ∨ i = 1 ∨ i = 2 ∨ i = 3 := by omega
   rcases hic with rfl | rfl | rfl | rfl
   ·
    have hq := feed_st_n k h (tx 0) b0
    have hq2 := feed_rest_n (tx 0) b0
    rw [← hS] at hq
    rw [← tx1] at hq hq2
    rw [← hE] at hq hq2 hEl
    have hap : (E.drop o ++ b0).map SV.u8 = List.take ((E.length - o) * 1) (List.drop o (E.map SV.u8)) ++ List.take (b0.length * 1) (List.drop 0 (b0.map SV.u8)) := (cat8 rfl rfl).symm
    have hDl : (E.drop o ++ b0).length = E.length - o + b0.length := by rw [List.length_append, List.length_drop]
    have hel : E.length - o < 64 := by rw [← List.length_drop, hE, hrl]; omega
    have hul : UInt64.ofNat (tx 0).length + u64i (b0.length : Int) = UInt64.ofNat (tx 1).length := by rw [u64_add_i _ _ (by omega), tx1, List.length_append]
    clear hS hrl
    conv => whnf
    first | refine brT (by rfl) ?_ | fail
    conv => whnf
    repeat (first | (refine Exists.intro _ (And.intro rfl ?_); conv => whnf) | (refine And.intro (by first | omega | (simp [ti5]; omega)) ?_; conv => whnf) | fail)
    obtain ⟨D, hD⟩ : ∃ D, D = E.drop o ++ b0 := ⟨_, rfl⟩
    rw [← hD] at hq hq2 hap hDl
    refine loop_rule ttOk mixed (by kernel_rfl) (ι := { j : Nat // 64 * j ≤ D.length }) (fun j => [(0, .p 0 0), (5, .i 64), (6, .sl 7 (64 * j.1) (D.length - 64 * j.1) 1 false), (7, .u64 (UInt64.ofNat (tx 1).length)), (21, .sl 3 0 4 1 fl), (22, .i 4), (23, .i 0)]) (fun j => [some (.ro (mach_n 1 2)), some (.row 23 ((blks_n k S D j.1).map .u32)), some (.ro (k.map .u32)), some (.ro [.sl 4 0 b0.length 1 f0, .slnil, .sl 5 0 b2.length 1 f2, .sl 6 0 b3.length 1 f3]), some (.ro (b0.map .u8)), some (.ro (b2.map .u8)), some (.ro (b3.map .u8)), some (.row 5 (D.map .u8))]) (fun _ => 7 + 1) (fun j => D.length - 64 * j.1) ⟨0, by omega⟩ ?_ ?_
    ·
     have hz := blks_z_n k S D
     have hDn : E.length - o + b0.length = D.length - 64 * 0 := by omega
     dsimp only
     rw [hz]
     refine Weak.sel [0, 1, 2, 3, 4, 5, 6, 8] rfl rfl ?_ ?_ rfl rfl
     ·
      (repeat' (first | exact trivial | refine And.intro ?_ ?_ | fail)) <;> first | exact wk_u64 (by first | exact hul | exact hul.symm | fail) | rfl | exact wk_sl rfl (by first | rfl | fail) (by first | exact hDn.symm | fail) | fail
     ·
      (repeat' (first | exact trivial | exact ren_eq (plainL_u8 _) hap | refine And.intro ?_ ?_ | (refine wk_cons ?_ ?_))) <;> first | rfl | exact ren_eq (by first | (simp; done) | fail) (by first | rfl | fail) | fail
    ·
     rintro ⟨j, hj⟩
     dsimp only
     have hbl := blks_len_n k hsl D j
     by_cases hc : 64 * (j + 1) ≤ D.length
     ·
      have hge : decide (((D.length - 64 * j : Nat) : Int) ≥ 64) = true := by simp; omega
      have hs := blks_s_n k S D j
      have q139 := f139D (blks_n k S D j) k D (64 * j) hbl hk (by omega) false
      rw [← hs] at q139
      conv => whnf
      first | refine brT (by exact hge) ?_ | fail
      conv => whnf
      repeat (first | (refine Exists.intro _ (And.intro rfl ?_); conv => whnf) | (refine And.intro (by first | omega | fail) ?_; conv => whnf) | fail)
      refine ok1_callF [0, 1, 2, 7] [false, true, false, false] true (q139) rfl rfl ⟨⟨rfl, by first | rfl | fail⟩, by (repeat' (first | exact trivial | refine And.intro ?_ ?_)) <;> first | rfl | exact ren_eq (by first | (simp; done) | fail) (by first | rfl | fail) | fail, by first | simp [plainHf, plainB], by first | rfl | fail, ?_⟩
      conv => whnf
      repeat (first | (refine Exists.intro _ (And.intro rfl ?_); conv => whnf) | (refine And.intro (by first | omega | fail) ?_; conv => whnf) | fail)
      refine ⟨⟨j + 1, hc⟩, by simp only; omega, ?_⟩
      dsimp only
      refine Weak.sel [0, 1, 2, 3, 4, 5, 6, 7] rfl rfl ?_ ?_ rfl rfl
      ·
       (repeat' (first | exact trivial | refine And.intro ?_ ?_ | fail)) <;> first | rfl | fail
      ·
       (repeat' (first | exact trivial | refine And.intro ?_ ?_ | (refine wk_cons ?_ ?_))) <;> first | rfl | exact ren_eq (by first | (simp; done) | fail) (by first | rfl | fail) | fail
     ·
      obtain rfl : j = D.length / 64 := by omega
      have hge : decide (((D.length - 64 * (D.length / 64) : Nat) : Int) ≥ 64) = false := by simp; omega
      rw [hq]
      conv => whnf
      first | refine brF (by exact hge) ?_ | fail
      conv => whnf
      repeat (fail)
      refine ⟨⟨(1, D, 64 * (D.length / 64)), by omega, by simp only; omega, hq2⟩, by simp only; omega, ?_⟩
      dsimp only
      refine Weak.sel [0, 1, 2, 3, 4, 5, 6, 7] rfl rfl ?_ ?_ rfl rfl
      ·
       (repeat' (first | exact trivial | refine And.intro ?_ ?_ | fail)) <;> first | rfl | fail
      ·
       (repeat' (first | exact trivial | refine And.intro ?_ ?_ | (refine wk_cons ?_ ?_))) <;> first | rfl | exact ren_eq (by first | (simp; done) | fail) (by first | rfl | fail) | fail
   ·
    have hq : st_n k h (tx 2) = S := by rw [hS, tx2, List.append_nil]
    have hq2 : E.drop o = rest_n (tx 2) := by rw [hE, tx2, List.append_nil]
    have hel : E.length - o < 64 := by rw [← List.length_drop, hE, hrl]; omega
    have htJ : tx 1 = tx 2 := by rw [tx2, List.append_nil]
    have hge : decide (((E.length - o : Nat) : Int) ≥ 64) = false := by simp; omega
    have hul : UInt64.ofNat (tx 1).length + u64i (0 : Int) = UInt64.ofNat (tx 2).length := by rw [← htJ]; exact UInt64.add_zero _
    conv => whnf
    first | refine brT (by rfl) ?_ | fail
    conv => whnf
    repeat (first | (refine Exists.intro _ (And.intro rfl ?_); conv => whnf) | (refine And.intro (by first | omega | fail) ?_; conv => whnf) | fail)
    refine loop_rule ttOk mixed (by kernel_rfl) (ι := Unit) (fun _ => [(0, .p 0 0), (5, .i 64), (6, .sl 7 o (E.length - o) 1 false), (7, .u64 (UInt64.ofNat (tx 2).length)), (21, .sl 3 0 4 1 fl), (22, .i 4), (23, .i 1)]) (fun _ => [some (.ro (mach_n 1 2)), some (.row 23 (S.map .u32)), some (.ro (k.map .u32)), some (.ro [.sl 4 0 b0.length 1 f0, .slnil, .sl 5 0 b2.length 1 f2, .sl 6 0 b3.length 1 f3]), some (.ro (b0.map .u8)), some (.ro (b2.map .u8)), some (.ro (b3.map .u8)), some (.row 5 (E.map .u8))]) (fun _ => 7 + 1) (fun _ => 0) () ?_ ?_
    ·
     refine Weak.sel [0, 1, 2, 3, 4, 5, 6, 7] rfl rfl ?_ ?_ rfl rfl
     ·
      (repeat' (first | exact trivial | refine And.intro ?_ ?_ | fail)) <;> first | exact wk_u64 (by first | exact hul | exact hul.symm | fail) | rfl | fail
     ·
      (repeat' (first | exact trivial | refine And.intro ?_ ?_ | (refine wk_cons ?_ ?_))) <;> first | rfl | exact ren_eq (by first | (simp; done) | fail) (by first | rfl | fail) | fail
    ·
     intro _
     dsimp only
     conv => whnf
     first | refine brF (by exact hge) ?_ | fail
     conv => whnf
     repeat (fail)
     refine ⟨⟨(2, E, o), by omega, ho, hq2⟩, by simp only; omega, ?_⟩
     dsimp only
     rw [hq]
     refine Weak.sel [0, 1, 2, 3, 4, 5, 6, 7] rfl rfl ?_ ?_ rfl rfl
     ·
      (repeat' (first | exact trivial | refine And.intro ?_ ?_ | fail)) <;> first | rfl | fail
     ·
      (repeat' (first | exact trivial | refine And.intro ?_ ?_ | (refine wk_cons ?_ ?_))) <;> first | rfl | exact ren_eq (by first | (simp; done) | fail) (by first | rfl | fail) | fail
   ·
    have hq := feed_st_n k h (tx 2) b2
    have hq2 := feed_rest_n (tx 2) b2
    rw [← hS] at hq
    rw [← tx3] at hq hq2
    rw [← hE] at hq hq2 hEl
    have hap : (E.drop o ++ b2).map SV.u8 = List.take ((E.length - o) * 1) (List.drop o (E.map SV.u8)) ++ List.take (b2.length * 1) (List.drop 0 (b2.map SV.u8)) := (cat8 rfl rfl).symm
    have hDl : (E.drop o ++ b2).length = E.length - o + b2.length := by rw [List.length_append, List.length_drop]
    have hel : E.length - o < 64 := by rw [← List.length_drop, hE, hrl]; omega
    have hul : UInt64.ofNat (tx 2).length + u64i (b2.length : Int) = UInt64.ofNat (tx 3).length := by rw [u64_add_i _ _ (by omega), tx3, List.length_append]
    clear hS hrl
    conv => whnf
    first | refine brT (by rfl) ?_ | fail
    conv => whnf
    repeat (first | (refine Exists.intro _ (And.intro rfl ?_); conv => whnf) | (refine And.intro (by first | omega | (simp [ti5]; omega)) ?_; conv => whnf) | fail)
    obtain ⟨D, hD⟩ : ∃ D, D = E.drop o ++ b2 := ⟨_, rfl⟩
    rw [← hD] at hq hq2 hap hDl
    refine loop_rule ttOk mixed (by kernel_rfl) (ι := { j : Nat // 64 * j ≤ D.length }) (fun j => [(0, .p 0 0), (5, .i 64), (6, .sl 7 (64 * j.1) (D.length - 64 * j.1) 1 false), (7, .u64 (UInt64.ofNat (tx 3).length)), (21, .sl 3 0 4 1 fl), (22, .i 4), (23, .i 2)]) (fun j => [some (.ro (mach_n 1 2)), some (.row 23 ((blks_n k S D j.1).map .u32)), some (.ro (k.map .u32)), some (.ro [.sl 4 0 b0.length 1 f0, .slnil, .sl 5 0 b2.length 1 f2, .sl 6 0 b3.length 1 f3]), some (.ro (b0.map .u8)), some (.ro (b2.map .u8)), some (.ro (b3.map .u8)), some (.row 5 (D.map .u8))]) (fun _ => 7 + 1) (fun j => D.length - 64 * j.1) ⟨0, by omega⟩ ?_ ?_
    ·
     have hz := blks_z_n k S D
     have hDn : E.length - o + b2.length = D.length - 64 * 0 := by omega
     dsimp only
     rw [hz]
     refine Weak.sel [0, 1, 2, 3, 4, 5, 6, 8] rfl rfl ?_ ?_ rfl rfl
     ·
      (repeat' (first | exact trivial | refine And.intro ?_ ?_ | fail)) <;> first | exact wk_u64 (by first | exact hul | exact hul.symm | fail) | rfl | exact wk_sl rfl (by first | rfl | fail) (by first | exact hDn.symm | fail) | fail
     ·
      (repeat' (first | exact trivial | exact ren_eq (plainL_u8 _) hap | refine And.intro ?_ ?_ | (refine wk_cons ?_ ?_))) <;> first | rfl | exact ren_eq (by first | (simp; done) | fail) (by first | rfl | fail) | fail
    ·
     rintro ⟨j, hj⟩
     dsimp only
     have hbl := blks_len_n k hsl D j
     by_cases hc : 64 * (j + 1) ≤ D.length
     ·
      have hge : decide (((D.length - 64 * j : Nat) : Int) ≥ 64) = true := by simp; omega
      have hs := blks_s_n k S D j
      have q139 := f139D (blks_n k S D j) k D (64 * j) hbl hk (by omega) false
      rw [← hs] at q139
      conv => whnf
      first | refine brT (by exact hge) ?_ | fail
      conv => whnf
      repeat (first | (refine Exists.intro _ (And.intro rfl ?_); conv => whnf) | (refine And.intro (by first | omega | fail) ?_; conv => whnf) | fail)
      refine ok1_callF [0, 1, 2, 7] [false, true, false, false] true (q139) rfl rfl ⟨⟨rfl, by first | rfl | fail⟩, by (repeat' (first | exact trivial | refine And.intro ?_ ?_)) <;> first | rfl | exact ren_eq (by first | (simp; done) | fail) (by first | rfl | fail) | fail, by first | simp [plainHf, plainB], by first | rfl | fail, ?_⟩
      conv => whnf
      repeat (first | (refine Exists.intro _ (And.intro rfl ?_); conv => whnf) | (refine And.intro (by first | omega | fail) ?_; conv => whnf) | fail)
      refine ⟨⟨j + 1, hc⟩, by simp only; omega, ?_⟩
      dsimp only
      refine Weak.sel [0, 1, 2, 3, 4, 5, 6, 7] rfl rfl ?_ ?_ rfl rfl
      ·
       (repeat' (first | exact trivial | refine And.intro ?_ ?_ | fail)) <;> first | rfl | fail
      ·
       (repeat' (first | exact trivial | refine And.intro ?_ ?_ | (refine wk_cons ?_ ?_))) <;> first | rfl | exact ren_eq (by first | (simp; done) | fail) (by first | rfl | fail) | fail
     ·
      obtain rfl : j = D.length / 64 := by omega
      have hge : decide (((D.length - 64 * (D.length / 64) : Nat) : Int) ≥ 64) = false := by simp; omega
      rw [hq]
      conv => whnf
      first | refine brF (by exact hge) ?_ | fail
      conv => whnf
      repeat (fail)
      refine ⟨⟨(3, D, 64 * (D.length / 64)), by omega, by simp only; omega, hq2⟩, by simp only; omega, ?_⟩
      dsimp only
      refine Weak.sel [0, 1, 2, 3, 4, 5, 6, 7] rfl rfl ?_ ?_ rfl rfl
      ·
       (repeat' (first | exact trivial | refine And.intro ?_ ?_ | fail)) <;> first | rfl | fail
      ·
       (repeat' (first | exact trivial | refine And.intro ?_ ?_ | (refine wk_cons ?_ ?_))) <;> first | rfl | exact ren_eq (by first | (simp; done) | fail) (by first | rfl | fail) | fail
   ·
    have hq := feed_st_n k h (tx 3) b3
    have hq2 := feed_rest_n (tx 3) b3
    rw [← hS] at hq
    rw [← tx4] at hq hq2
    rw [← hE] at hq hq2 hEl
    have hap : (E.drop o ++ b3).map SV.u8 = List.take ((E.length - o) * 1) (List.drop o (E.map SV.u8)) ++ List.take (b3.length * 1) (List.drop 0 (b3.map SV.u8)) := (cat8 rfl rfl).symm
    have hDl : (E.drop o ++ b3).length = E.length - o + b3.length := by rw [List.length_append, List.length_drop]
    have hel : E.length - o < 64 := by rw [← List.length_drop, hE, hrl]; omega
    have hul : UInt64.ofNat (tx 3).length + u64i (b3.length : Int) = UInt64.ofNat (tx 4).length := by rw [u64_add_i _ _ (by omega), tx4, List.length_append]
    clear hS hrl
    conv => whnf
    first | refine brT (by rfl) ?_ | fail
    conv => whnf
    repeat (first | (refine Exists.intro _ (And.intro rfl ?_); conv => whnf) | (refine And.intro (by first | omega | (simp [ti5]; omega)) ?_; conv => whnf) | fail)
    obtain ⟨D, hD⟩ : ∃ D, D = E.drop o ++ b3 := ⟨_, rfl⟩
    rw [← hD] at hq hq2 hap hDl
    refine loop_rule ttOk mixed (by kernel_rfl) (ι := { j : Nat // 64 * j ≤ D.length }) (fun j => [(0, .p 0 0), (5, .i 64), (6, .sl 7 (64 * j.1) (D.length - 64 * j.1) 1 false), (7, .u64 (UInt64.ofNat (tx 4).length)), (21, .sl 3 0 4 1 fl), (22, .i 4), (23, .i 3)]) (fun j => [some (.ro (mach_n 1 2)), some (.row 23 ((blks_n k S D j.1).map .u32)), some (.ro (k.map .u32)), some (.ro [.sl 4 0 b0.length 1 f0, .slnil, .sl 5 0 b2.length 1 f2, .sl 6 0 b3.length 1 f3]), some (.ro (b0.map .u8)), some (.ro (b2.map .u8)), some (.ro (b3.map .u8)), some (.row 5 (D.map .u8))]) (fun _ => 7 + 1) (fun j => D.length - 64 * j.1) ⟨0, by omega⟩ ?_ ?_
    ·
     have hz := blks_z_n k S D
     have hDn : E.length - o + b3.length = D.length - 64 * 0 := by omega
     dsimp only
     rw [hz]
     refine Weak.sel [0, 1, 2, 3, 4, 5, 6, 8] rfl rfl ?_ ?_ rfl rfl
     ·
      (repeat' (first | exact trivial | refine And.intro ?_ ?_ | fail)) <;> first | exact wk_u64 (by first | exact hul | exact hul.symm | fail) | rfl | exact wk_sl rfl (by first | rfl | fail) (by first | exact hDn.symm | fail) | fail
     ·
      (repeat' (first | exact trivial | exact ren_eq (plainL_u8 _) hap | refine And.intro ?_ ?_ | (refine wk_cons ?_ ?_))) <;> first | rfl | exact ren_eq (by first | (simp; done) | fail) (by first | rfl | fail) | fail
    ·
     rintro ⟨j, hj⟩
     dsimp only
     have hbl := blks_len_n k hsl D j
     by_cases hc : 64 * (j + 1) ≤ D.length
     ·
      have hge : decide (((D.length - 64 * j : Nat) : Int) ≥ 64) = true := by simp; omega
      have hs := blks_s_n k S D j
      have q139 := f139D (blks_n k S D j) k D (64 * j) hbl hk (by omega) false
      rw [← hs] at q139
      conv => whnf
      first | refine brT (by exact hge) ?_ | fail
      conv => whnf
      repeat (first | (refine Exists.intro _ (And.intro rfl ?_); conv => whnf) | (refine And.intro (by first | omega | fail) ?_; conv => whnf) | fail)
      refine ok1_callF [0, 1, 2, 7] [false, true, false, false] true (q139) rfl rfl ⟨⟨rfl, by first | rfl | fail⟩, by (repeat' (first | exact trivial | refine And.intro ?_ ?_)) <;> first | rfl | exact ren_eq (by first | (simp; done) | fail) (by first | rfl | fail) | fail, by first | simp [plainHf, plainB], by first | rfl | fail, ?_⟩
      conv => whnf
      repeat (first | (refine Exists.intro _ (And.intro rfl ?_); conv => whnf) | (refine And.intro (by first | omega | fail) ?_; conv => whnf) | fail)
      refine ⟨⟨j + 1, hc⟩, by simp only; omega, ?_⟩
      dsimp only
      refine Weak.sel [0, 1, 2, 3, 4, 5, 6, 7] rfl rfl ?_ ?_ rfl rfl
      ·
       (repeat' (first | exact trivial | refine And.intro ?_ ?_ | fail)) <;> first | rfl | fail
      ·
       (repeat' (first | exact trivial | refine And.intro ?_ ?_ | (refine wk_cons ?_ ?_))) <;> first | rfl | exact ren_eq (by first | (simp; done) | fail) (by first | rfl | fail) | fail
     ·
      obtain rfl : j = D.length / 64 := by omega
      have hge : decide (((D.length - 64 * (D.length / 64) : Nat) : Int) ≥ 64) = false := by simp; omega
      rw [hq]
      conv => whnf
      first | refine brF (by exact hge) ?_ | fail
      conv => whnf
      repeat (fail)
      refine ⟨⟨(4, D, 64 * (D.length / 64)), by omega, by simp only; omega, hq2⟩, by simp only; omega, ?_⟩
      dsimp only
      refine Weak.sel [0, 1, 2, 3, 4, 5, 6, 7] rfl rfl ?_ ?_ rfl rfl
      ·
       (repeat' (first | exact trivial | refine And.intro ?_ ?_ | fail)) <;> first | rfl | fail
      ·
       (repeat' (first | exact trivial | refine And.intro ?_ ?_ | (refine wk_cons ?_ ?_))) <;> first | rfl | exact ren_eq (by first | (simp; done) | fail) (by first | rfl | fail) | fail
  ·
   obtain rfl : i = 4 := by omega
   obtain ⟨n, hn⟩ : ∃ n, n = E.length - o := ⟨_, rfl⟩
   have hnE : o + n = E.length := by omega
   rw [← hn]
   have hcat : (rest_n (tx 4) ++ [128]).map SV.u8 = List.take (n * 1) (List.drop o (E.map SV.u8)) ++ List.take (1 * 1) (List.drop 0 [SV.u8 128]) := by rw [← hE]; exact (cat8 (b := [128]) hn rfl).symm
   have hdd : decide (((n : Nat) : Int).toNat = ((n : Nat) : Int).toNat) = true := by simp
   conv => whnf
   first | refine brF (by rfl) ?_ | fail
   conv => whnf
   repeat (first | (refine Exists.intro _ (And.intro rfl ?_); conv => whnf) | (refine And.intro (by first | omega | fail) ?_; conv => whnf) | fail)
   rw [hdd]
   rw [Int.toNat_natCast]
   have hnl : n = (rest_n (tx 4)).length := by rw [hn, ← hE, List.length_drop]
   have hn64 : n < 64 := by rw [hnl, hrl]; omega
   have hpz := pz_rest_n (tx 4)
   rw [← hnl] at hpz
   have hpl : pz_n n < 64 := by unfold pz_n; exact Nat.mod_lt _ (by decide)
   conv => whnf
   refine And.intro ⟨by show _ ≤ (E.map SV.u8).length; rw [List.length_map]; omega, by decide, by show _ * 1 ≤ _; omega, by decide⟩ ?_
   conv => whnf
   repeat (fail)
   refine loop_rule ttOk mixed (by kernel_rfl) (ι := { j : Nat // j ≤ pz_n n }) (fun j => [(0, .p 0 0), (5, .i 64), (6, .sl 7 0 (n + 1 + j.1) 1 false), (7, .u64 (UInt64.ofNat (tx 4).length))]) (fun j => [some (.ro (mach_n 1 2)), some (.row 23 (S.map .u32)), some (.ro (k.map .u32)), some (.ro [.sl 4 0 b0.length 1 f0, .slnil, .sl 5 0 b2.length 1 f2, .sl 6 0 b3.length 1 f3]), some (.ro (b0.map .u8)), some (.ro (b2.map .u8)), some (.ro (b3.map .u8)), some (.row 5 ((rest_n (tx 4) ++ [128] ++ List.replicate j.1 0).map .u8))]) (fun _ => 7 + 1) (fun j => pz_n n - j.1) ⟨0, by omega⟩ ?_ ?_
   ·
    have hz : rest_n (tx 4) ++ [128] ++ List.replicate 0 0 = rest_n (tx 4) ++ [128] := List.append_nil _
    dsimp only
    rw [hz]
    refine Weak.sel [0, 1, 2, 3, 4, 5, 6, 7 + 2] rfl rfl ?_ ?_ rfl rfl
    ·
     (repeat' (first | exact trivial | refine And.intro ?_ ?_ | fail)) <;> first | rfl | fail
    ·
     (repeat' (first | exact trivial | exact ren_eq (plainL_u8 _) hcat | refine And.intro ?_ ?_ | (refine wk_cons ?_ ?_))) <;> first | rfl | exact ren_eq (by first | (simp; done) | fail) (by first | rfl | fail) | fail
   ·
    rintro ⟨j, hj⟩
    dsimp only
    obtain ⟨Y, hY⟩ : ∃ Y, Y = rest_n (tx 4) ++ [128] ++ List.replicate j 0 := ⟨_, rfl⟩
    have hYl : Y.length = n + 1 + j := by rw [hY, List.length_append, List.length_append, ← hnl, List.length_replicate]; rfl
    have hYs : rest_n (tx 4) ++ [128] ++ List.replicate (j + 1) 0 = Y ++ [0] := by rw [hY, List.replicate_succ', List.append_assoc]; simp
    by_cases hj2 : j < pz_n n
    ·
     have hno := padz_no_n hj2
     have hcd : (((w64 (((n + 1 + j : Nat) : Int) + w64 (2 * 4))).tmod 64) != 0) = true := by
      have e : w64 (((n + 1 + j : Nat) : Int) + w64 (2 * 4)) = ((n + 1 + j + 8 : Nat) : Int) := by simp only [w64_eq]; omega
      rw [e, show (((n + 1 + j + 8 : Nat) : Int)).tmod 64 = (((n + 1 + j + 8) % 64 : Nat) : Int) from rfl]
      simp; omega
     rw [← hY]
     conv => whnf
     repeat (first | (refine Exists.intro _ (And.intro rfl ?_); conv => whnf) | fail)
     first | refine brT (by exact hcd) ?_ | fail
     conv => whnf
     repeat (first | (refine Exists.intro _ (And.intro rfl ?_); conv => whnf) | (refine And.intro (by first | omega | (simp [ti5]; omega)) ?_; conv => whnf) | fail)
     have hap2 : (Y ++ [0]).map SV.u8 = List.take ((n + 1 + j) * 1) (List.drop 0 (Y.map SV.u8)) ++ List.take (1 * 1) (List.drop 0 [SV.u8 0]) := (cat8 (o := 0) (n := n + 1 + j) (E := Y) (b := [0]) (by omega) rfl).symm
     refine ⟨⟨j + 1, by omega⟩, by simp only; omega, ?_⟩
     dsimp only
     rw [hYs]
     refine Weak.sel [0, 1, 2, 3, 4, 5, 6, 7 + 2] rfl rfl ?_ ?_ rfl rfl
     ·
      (repeat' (first | exact trivial | refine And.intro ?_ ?_ | fail)) <;> first | rfl | fail
     ·
      (repeat' (first | exact trivial | exact ren_eq (plainL_u8 _) hap2 | refine And.intro ?_ ?_ | (refine wk_cons ?_ ?_))) <;> first | rfl | exact ren_eq (by first | (simp; done) | fail) (by first | rfl | fail) | fail
    ·
     obtain rfl : j = pz_n n := by omega
     have hyes := padz_yes_n n
     have hcd : (((w64 (((n + 1 + pz_n n : Nat) : Int) + w64 (2 * 4))).tmod 64) != 0) = false := by
      have e : w64 (((n + 1 + pz_n n : Nat) : Int) + w64 (2 * 4)) = ((n + 1 + pz_n n + 8 : Nat) : Int) := by simp only [w64_eq]; omega
      rw [e, show (((n + 1 + pz_n n + 8 : Nat) : Int)).tmod 64 = (((n + 1 + pz_n n + 8) % 64 : Nat) : Int) from rfl, hyes]
      rfl
     rw [← hY]
     conv => whnf
     repeat (first | (refine Exists.intro _ (And.intro rfl ?_); conv => whnf) | fail)
     first | refine brF (by exact hcd) ?_ | fail
     conv => whnf
     repeat (first | (refine Exists.intro _ (And.intro rfl ?_); conv => whnf) | (refine And.intro ⟨by first | decide | fail, by first | decide | fail⟩ ?_; conv => whnf) | fail)
     obtain ⟨N, hN⟩ : ∃ N, N = (tx 4).length := ⟨_, rfl⟩
     rw [← hN]
     refine loop_rule ttOk mixed (by kernel_rfl) (ι := { i : Nat // i ≤ 8 }) (fun i => [(0, .p 0 0), (5, .i 64), (6, .sl 7 0 (n + 1 + pz_n n) 1 false), (7, .u64 (UInt64.ofNat N)), (10, .sl (7 + 1) 0 8 1 true), (76, .i (i.1 : Int))]) (fun i => [some (.ro (mach_n 1 2)), some (.row 23 (S.map .u32)), some (.ro (k.map .u32)), some (.ro [.sl 4 0 b0.length 1 f0, .slnil, .sl 5 0 b2.length 1 f2, .sl 6 0 b3.length 1 f3]), some (.ro (b0.map .u8)), some (.ro (b2.map .u8)), some (.ro (b3.map .u8)), some (.row 5 (Y.map .u8)), some (.row 5 ((lset_n N i.1).map .u8))]) (fun _ => 7 + 2) (fun i => 8 - i.1) ⟨0, by omega⟩ ?_ ?_
     ·
      have hz := lset_z_n N
      dsimp only
      rw [hz]
      refine Weak.sel [0, 1, 2, 3, 4, 5, 6, 7, 7 + 1] rfl rfl ?_ ?_ rfl rfl
      ·
       (repeat' (first | exact trivial | refine And.intro ?_ ?_ | fail)) <;> first | rfl | fail
      ·
       (repeat' (first | exact trivial | exact ren_z8 | refine And.intro ?_ ?_ | (refine wk_cons ?_ ?_))) <;> first | rfl | exact ren_eq (by first | (simp; done) | fail) (by first | rfl | fail) | fail
     ·
      rintro ⟨i, hi⟩
      dsimp only
      have hll := lset_len_n N i
      by_cases hi8 : i < 8
      ·
       have hlt : decide ((i : Int) < 8) = true := by simp; omega
       have hp := wp1i i (by omega)
       have h8 : w64 (8 * (i : Int)) = ((8 * i : Nat) : Int) := by simp only [w64_eq]; omega
       have h7 : w64 (w64 (8 - 1) - (i : Int)) = ((7 - i : Nat) : Int) := by simp only [w64_eq]; omega
       have hs := lset_s_n N i
       conv => whnf
       first | refine brT (by exact hlt) ?_ | fail
       conv => whnf
       repeat (fail)
       refine ⟨_, mshr_64 h8, ?_⟩
       conv => whnf
       repeat (first | (refine Exists.intro _ (And.intro (sput_m8 (i := 7 - i) (by first | rfl | omega | fail)) ?_); conv => whnf) | (refine Exists.intro _ (And.intro (idx_i (m := 7 - i) (by first | rfl | omega | fail)) ?_); conv => whnf) | (refine And.intro (by first | omega | (simp; omega) | fail) ?_; conv => whnf) | fail)
       refine ⟨⟨i + 1, by omega⟩, by simp only; omega, ?_⟩
       dsimp only
       rw [hs]
       refine Weak.sel [0, 1, 2, 3, 4, 5, 6, 7, 7 + 1] rfl rfl ?_ ?_ rfl rfl
       ·
        (repeat' (first | exact trivial | refine And.intro ?_ ?_ | fail)) <;> first | exact wk_i (by first | exact hp | exact hp.symm | fail) | rfl | fail
       ·
        (repeat' (first | exact trivial | refine And.intro ?_ ?_ | (refine wk_cons ?_ ?_))) <;> first | rfl | exact ren_eq (by first | (simp; done) | fail) (by first | rfl | fail) | exact ren_m8 (by first | rfl | fail) | fail
      ·
       obtain rfl : i = 8 := by omega
       have hap3 : (Y ++ lset_n N 8).map SV.u8 = List.take ((n + 1 + pz_n n) * 1) (List.drop 0 (Y.map SV.u8)) ++ List.take (8 * 1) (List.drop 0 ((lset_n N 8).map SV.u8)) := (cat8 (o := 0) (n := n + 1 + pz_n n) (E := Y) (b := lset_n N 8) (by omega) hll.symm).symm
       obtain ⟨D, hD⟩ : ∃ D, D = Y ++ lset_n N 8 := ⟨_, rfl⟩
       have hDl : D.length = n + 1 + pz_n n + 8 := by rw [hD, List.length_append, hYl, hll]
       have hDe : D = last_n (tx 4) := by rw [hD, hY, hpz, hN]; exact last_e_n _
       have hD64 := last_len_n (tx 4)
       have hfin := last_st_n k h (tx 4)
       rw [← hDe] at hD64 hfin
       rw [← hS] at hfin
       rw [← hD] at hap3
       conv => whnf
       first | refine brF (by rfl) ?_ | fail
       conv => whnf
       repeat (first | (refine And.intro (by first | omega | (simp [ti5]; omega)) ?_; conv => whnf) | fail)
       refine loop_rule ttOk mixed (by kernel_rfl) (ι := { j : Nat // 64 * j ≤ D.length }) (fun j => [(0, .p 0 0), (5, .i 64), (6, .sl 7 (64 * j.1) (D.length - 64 * j.1) 1 false)]) (fun j => [some (.ro (mach_n 1 2)), some (.row 23 ((blks_n k S D j.1).map .u32)), some (.ro (k.map .u32)), some (.ro [.sl 4 0 b0.length 1 f0, .slnil, .sl 5 0 b2.length 1 f2, .sl 6 0 b3.length 1 f3]), some (.ro (b0.map .u8)), some (.ro (b2.map .u8)), some (.ro (b3.map .u8)), some (.row 5 (D.map .u8))]) (fun _ => 7 + 1) (fun j => D.length - 64 * j.1) ⟨0, by omega⟩ ?_ ?_
       ·
        have hz := blks_z_n k S D
        have hDn : n + 1 + pz_n n + 8 = D.length - 64 * 0 := by omega
        dsimp only
        rw [hz]
        refine Weak.sel [0, 1, 2, 3, 4, 5, 6, 7 + 2] rfl rfl ?_ ?_ rfl rfl
        ·
         (repeat' (first | exact trivial | refine And.intro ?_ ?_ | fail)) <;> first | rfl | exact wk_sl rfl (by first | rfl | fail) (by first | exact hDn.symm | fail) | fail
        ·
         (repeat' (first | exact trivial | exact ren_eq (plainL_u8 _) hap3 | refine And.intro ?_ ?_ | (refine wk_cons ?_ ?_))) <;> first | rfl | exact ren_eq (by first | (simp; done) | fail) (by first | rfl | fail) | fail
       ·
        rintro ⟨j, hj⟩
        dsimp only
        have hbl := blks_len_n k hsl D j
        by_cases hc : 64 * (j + 1) ≤ D.length
        ·
         have hge : decide (((D.length - 64 * j : Nat) : Int) > 0) = true := by simp; omega
         have hs := blks_s_n k S D j
         have q139 := f139D (blks_n k S D j) k D (64 * j) hbl hk (by omega) false
         rw [← hs] at q139
         conv => whnf
         first | refine brT (by exact hge) ?_ | fail
         conv => whnf
         repeat (first | (refine Exists.intro _ (And.intro rfl ?_); conv => whnf) | (refine And.intro (by first | omega | fail) ?_; conv => whnf) | fail)
         refine ok1_callF [0, 1, 2, 7] [false, true, false, false] true (q139) rfl rfl ⟨⟨rfl, by first | rfl | fail⟩, by (repeat' (first | exact trivial | refine And.intro ?_ ?_)) <;> first | rfl | exact ren_eq (by first | (simp; done) | fail) (by first | rfl | fail) | fail, by first | simp [plainHf, plainB], by first | rfl | fail, ?_⟩
         conv => whnf
         repeat (first | (refine Exists.intro _ (And.intro rfl ?_); conv => whnf) | (refine And.intro (by first | omega | fail) ?_; conv => whnf) | fail)
         refine ⟨⟨j + 1, hc⟩, by simp only; omega, ?_⟩
         dsimp only
         refine Weak.sel [0, 1, 2, 3, 4, 5, 6, 7] rfl rfl ?_ ?_ rfl rfl
         ·
          (repeat' (first | exact trivial | refine And.intro ?_ ?_ | fail)) <;> first | rfl | fail
         ·
          (repeat' (first | exact trivial | refine And.intro ?_ ?_ | (refine wk_cons ?_ ?_))) <;> first | rfl | exact ren_eq (by first | (simp; done) | fail) (by first | rfl | fail) | fail
        ·
         obtain rfl : j = D.length / 64 := by omega
         have hge : decide (((D.length - 64 * (D.length / 64) : Nat) : Int) > 0) = false := by simp; omega
         obtain ⟨H, hH⟩ : ∃ H, H = blks_n k S D (D.length / 64) := ⟨_, rfl⟩
         rw [← hH] at hbl hfin ⊢
         conv => whnf
         first | refine brF (by exact hge) ?_ | fail
         conv => whnf
         repeat (first | (refine Exists.intro _ (And.intro rfl ?_); conv => whnf) | fail)
         refine SWp.weak (Weak.virt 12 5 1 rfl) ?_
         refine loop_rule ttOk mixed (by kernel_rfl) (ι := { i : Nat // i ≤ 8 }) (fun i => [(0, .p 0 0), (12, .sl 7 0 (4 * i.1) 1 false), (110, .sl 1 0 8 1 false), (111, .i 8), (112, .i (i.1 : Int))]) (fun i => [some (.ro (mach_n 1 2)), some (.row 23 (H.map .u32)), some (.ro (k.map .u32)), some (.ro [.sl 4 0 b0.length 1 f0, .slnil, .sl 5 0 b2.length 1 f2, .sl 6 0 b3.length 1 f3]), some (.ro (b0.map .u8)), some (.ro (b2.map .u8)), some (.ro (b3.map .u8)), some (.row 5 ((outl_n H (4 * i.1)).map .u8))]) (fun _ => 7 + 1) (fun i => 8 - i.1) ⟨0, by omega⟩ ?_ ?_
         ·
          have hz := outl_z_n H
          dsimp only
          rw [hz]
          refine Weak.sel [0, 1, 2, 3, 4, 5, 6, 7 + 1] rfl rfl ?_ ?_ rfl rfl
          ·
           (repeat' (first | exact trivial | refine And.intro ?_ ?_ | fail)) <;> first | rfl | fail
          ·
           (repeat' (first | exact trivial | refine And.intro ?_ ?_ | (refine wk_cons ?_ ?_))) <;> first | rfl | exact ren_eq (by first | (simp; done) | fail) (by first | rfl | fail) | fail
         ·
          rintro ⟨i, hi⟩
          dsimp only
          by_cases hi8 : i < 8
          ·
           have hlt : decide ((i : Int) < 8) = true := by simp; omega
           have hp := wp1i i (by omega)
           conv => whnf
           first | refine brT (by exact hlt) ?_ | fail
           conv => whnf
           repeat (first | (refine Exists.intro _ (And.intro (sload_u32 (i := i) (by first | rfl | omega | fail) (by first | omega | fail)) ?_); conv => whnf) | (refine Exists.intro _ (And.intro (idx_i (m := i) (by first | rfl | fail)) ?_); conv => whnf) | (refine Exists.intro _ (And.intro rfl ?_); conv => whnf) | (refine And.intro (by first | omega | fail) ?_; conv => whnf) | fail)
           refine loop_rule ttOk mixed (by kernel_rfl) (ι := { m : Nat // m ≤ 4 }) (fun m => [(0, .p 0 0), (12, .sl 7 0 (4 * i + m.1) 1 false), (14, .u32 (H.getD i 0)), (15, .i (3 - (m.1 : Int))), (110, .sl 1 0 8 1 false), (111, .i 8), (112, .i (i : Int))]) (fun m => [some (.ro (mach_n 1 2)), some (.row 23 (H.map .u32)), some (.ro (k.map .u32)), some (.ro [.sl 4 0 b0.length 1 f0, .slnil, .sl 5 0 b2.length 1 f2, .sl 6 0 b3.length 1 f3]), some (.ro (b0.map .u8)), some (.ro (b2.map .u8)), some (.ro (b3.map .u8)), some (.row 5 ((outl_n H (4 * i + m.1)).map .u8))]) (fun _ => 7 + 1) (fun m => 4 - m.1) ⟨0, by omega⟩ ?_ ?_
           ·
            refine Weak.sel [0, 1, 2, 3, 4, 5, 6, 7] rfl rfl ?_ ?_ rfl rfl
            ·
             (repeat' (first | exact trivial | refine And.intro ?_ ?_ | fail)) <;> first | rfl | fail
            ·
             (repeat' (first | exact trivial | refine And.intro ?_ ?_ | (refine wk_cons ?_ ?_))) <;> first | rfl | exact ren_eq (by first | (simp; done) | fail) (by first | rfl | fail) | fail
           ·
            rintro ⟨m, hm⟩
            dsimp only
            have hol := outl_len_n H (4 * i + m)
            by_cases hm4 : m < 4
            ·
             have hge : decide ((3 - (m : Int)) ≥ 0) = true := by simp; omega
             have h8 : w64 (8 * (3 - (m : Int))) = ((8 * (3 - m) : Nat) : Int) := by simp only [w64_eq]; omega
             have hp2 : w64 (3 - (m : Int) - 1) = 3 - ((m + 1 : Nat) : Int) := by simp only [w64_eq]; omega
             have hs := outl_s_n H i m hm4
             obtain ⟨Z, hZ⟩ : ∃ Z, Z = outl_n H (4 * i + m) := ⟨_, rfl⟩
             rw [← hZ] at hol hs ⊢
             have hap4 : (Z ++ [(shr32 (H.getD i 0) (8 * (3 - m))).toUInt8]).map SV.u8 = List.take ((4 * i + m) * 1) (List.drop 0 (Z.map SV.u8)) ++ List.take (1 * 1) (List.drop 0 [SV.u8 (shr32 (H.getD i 0) (8 * (3 - m))).toUInt8]) := (cat8 (o := 0) (n := 4 * i + m) (E := Z) (b := [(shr32 (H.getD i 0) (8 * (3 - m))).toUInt8]) (by omega) rfl).symm
             conv => whnf
             first | refine brT (by exact hge) ?_ | fail
             conv => whnf
             repeat (fail)
             refine ⟨_, mshr_32 h8, ?_⟩
             conv => whnf
             repeat (first | (refine Exists.intro _ (And.intro rfl ?_); conv => whnf) | (refine And.intro (by first | omega | (simp [ti5]; omega)) ?_; conv => whnf) | fail)
             refine ⟨⟨m + 1, by omega⟩, by simp only; omega, ?_⟩
             dsimp only
             rw [hs]
             refine Weak.sel [0, 1, 2, 3, 4, 5, 6, 7 + 2] rfl rfl ?_ ?_ rfl rfl
             ·
              (repeat' (first | exact trivial | refine And.intro ?_ ?_ | fail)) <;> first | exact wk_i (by first | exact hp2 | exact hp2.symm | fail) | rfl | fail
             ·
              (repeat' (first | exact trivial | exact ren_eq (plainL_u8 _) hap4 | refine And.intro ?_ ?_ | (refine wk_cons ?_ ?_))) <;> first | rfl | exact ren_eq (by first | (simp; done) | fail) (by first | rfl | fail) | fail
            ·
             obtain rfl : m = 4 := by omega
             conv => whnf
             first | refine brF (by rfl) ?_ | fail
             conv => whnf
             repeat (fail)
             refine ⟨⟨i + 1, by omega⟩, by simp only; omega, ?_⟩
             dsimp only
             rw [show 4 * (i + 1) = 4 * i + 4 by omega]
             refine Weak.sel [0, 1, 2, 3, 4, 5, 6, 7] rfl rfl ?_ ?_ rfl rfl
             ·
              (repeat' (first | exact trivial | refine And.intro ?_ ?_ | fail)) <;> first | exact wk_i (by first | exact hp | exact hp.symm | fail) | rfl | fail
             ·
              (repeat' (first | exact trivial | refine And.intro ?_ ?_ | (refine wk_cons ?_ ?_))) <;> first | rfl | exact ren_eq (by first | (simp; done) | fail) (by first | rfl | fail) | fail
          ·
           obtain rfl : i = 8 := by omega
           rw [outb_e_n] at hfin
           rw [← hfin]
           conv => whnf
           first | refine brF (by rfl) ?_ | fail
           conv => whnf
           refine ⟨[0, 1, 2, 3, 4, 5, 6, 7], ?_, rfl, rfl, ?_, rfl⟩
           ·
            (repeat' (fail)) <;> first | rfl | fail
           ·
            (repeat' (first | exact trivial | refine And.intro ?_ ?_ | (refine wk_cons ?_ ?_))) <;> first | rfl | exact ren_eq (by first | (simp; done) | fail) (by first | rfl | fail) | fail
end Go.Sh
namespace Go.Sh
open Go.Proofs
set_option maxHeartbeats 4000000
attribute [local irreducible] comp_n
attribute [local irreducible] blks_n st_n rest_n hash_n pz_n outl_n outb_n lset_n last_n
theorem f102_bbbb (h k : List UInt32) (hh : h.length = 8) (hk : k.length = 64) (b0 b1 b2 b3 : List UInt8) (hb0 : b0.length < 100000000000000) (hb1 : b1.length < 100000000000000) (hb2 : b2.length < 100000000000000) (hb3 : b3.length < 100000000000000) (f0 f1 f2 f3 fl : Bool) : SCall Try.prog 102 [.p 0 0, .sl 3 0 4 1 fl] [some (.ro (mach_n 1 2)), some (.row 23 (h.map .u32)), some (.ro (k.map .u32)), some (.ro [.sl 4 0 b0.length 1 f0, .sl 5 0 b1.length 1 f1, .sl 6 0 b2.length 1 f2, .sl 7 0 b3.length 1 f3]), some (.ro (b0.map .u8)), some (.ro (b1.map .u8)), some (.ro (b2.map .u8)), some (.ro (b3.map .u8))] (.sl 8 0 32 1 false) [some (.ro (mach_n 1 2)), none, some (.ro (k.map .u32)), some (.ro [.sl 4 0 b0.length 1 f0, .sl 5 0 b1.length 1 f1, .sl 6 0 b2.length 1 f2, .sl 7 0 b3.length 1 f3]), some (.ro (b0.map .u8)), some (.ro (b1.map .u8)), some (.ro (b2.map .u8)), some (.ro (b3.map .u8)), some (.row 5 ((hash_n k h (b0 ++ b1 ++ b2 ++ b3)).map .u8))] := by
 obtain ⟨tx, htx⟩ : ∃ tx : Nat → List UInt8, tx = fun i => ([b0, b1, b2, b3].take i).flatten := ⟨_, rfl⟩
 have tx0 : tx 0 = [] := by rw [htx]; rfl
 have tx1 : tx 1 = tx 0 ++ b0 := by rw [htx]; simp
 have tx2 : tx 2 = tx 1 ++ b1 := by rw [htx]; simp
 have tx3 : tx 3 = tx 2 ++ b2 := by rw [htx]; simp
 have tx4 : tx 4 = tx 3 ++ b3 := by rw [htx]; simp
 have htp : tx 4 = b0 ++ b1 ++ b2 ++ b3 := by rw [htx]; simp
 have he : hash_n k h (b0 ++ b1 ++ b2 ++ b3) = hash_n k h (tx 4) := by rw [htp]
 rw [he]
 have hl0 : (tx 0).length = 0 := by rw [tx0]; rfl
 have hl1 : (tx 1).length = (tx 0).length + b0.length := by rw [tx1, List.length_append]
 have hl2 : (tx 2).length = (tx 1).length + b1.length := by rw [tx2, List.length_append]
 have hl3 : (tx 3).length = (tx 2).length + b2.length := by rw [tx3, List.length_append]
 have hl4 : (tx 4).length = (tx 3).length + b3.length := by rw [tx4, List.length_append]
 clear htx
 refine scall_of ttOk (by kernel_rfl : Try.prog.funcs[102]? = some Try.f102) rfl rfl rfl ?_
 try simp only [List.length_cons, List.length_nil, Nat.zero_add, Nat.reduceAdd]
 refine sw_ok ttOk mixed (by kernel_rfl) ?_
 conv => whnf
 repeat (first | (refine Exists.intro _ (And.intro rfl ?_); conv => whnf) | fail)
 refine SWp.weak (Weak.virt 6 5 1 rfl) ?_
 refine loop_rule ttOk mixed (by kernel_rfl) (ι := { x : Nat × List UInt8 × Nat // x.1 ≤ 4 ∧ x.2.2 ≤ x.2.1.length ∧ x.2.1.drop x.2.2 = rest_n (tx x.1) }) (fun x => [(0, .p 0 0), (5, .i 64), (6, .sl 8 x.1.2.2 (x.1.2.1.length - x.1.2.2) 1 false), (7, .u64 (UInt64.ofNat (tx x.1.1).length)), (21, .sl 3 0 4 1 fl), (22, .i 4), (23, .i (x.1.1 : Int))]) (fun x => [some (.ro (mach_n 1 2)), some (.row 23 ((st_n k h (tx x.1.1)).map .u32)), some (.ro (k.map .u32)), some (.ro [.sl 4 0 b0.length 1 f0, .sl 5 0 b1.length 1 f1, .sl 6 0 b2.length 1 f2, .sl 7 0 b3.length 1 f3]), some (.ro (b0.map .u8)), some (.ro (b1.map .u8)), some (.ro (b2.map .u8)), some (.ro (b3.map .u8)), some (.row 5 (x.1.2.1.map .u8))]) (fun _ => 9) (fun x => 4 - x.1.1) ⟨(0, [], 0), by omega, by simp, by rw [tx0]; exact rest_nil_n.symm⟩ ?_ ?_
 ·
  dsimp only
  rw [tx0, st_nil_n]
  refine Weak.sel [0, 1, 2, 3, 4, 5, 6, 7, 8] rfl rfl ?_ ?_ rfl rfl
  ·
   (repeat' (first | exact trivial | refine And.intro ?_ ?_ | fail)) <;> first | rfl | fail
  ·
   (repeat' (first | exact trivial | refine And.intro ?_ ?_ | (refine wk_cons ?_ ?_))) <;> first | rfl | exact ren_eq (by first | (simp; done) | fail) (by first | rfl | fail) | fail
 ·
  rintro ⟨⟨i, E, o⟩, hi, ho, hE⟩
  dsimp only at hi ho hE ⊢
  have hsl := st_len_n k hh (tx i)
  have hrl := rest_len_n (tx i)
  obtain ⟨S, hS⟩ : ∃ S, S = st_n k h (tx i) := ⟨_, rfl⟩
  rw [← hS] at hsl ⊢
  have hEl : E.length - o = (rest_n (tx i)).length := by rw [← hE, List.length_drop]
  by_cases hi2 : i < 4
  ·
   have hic : i = 0 ∨ i = 1 ∨ i = 2 ∨ i = 3 := by omega
   rcases hic with rfl | rfl | rfl | rfl
   ·
    have hq := feed_st_n k h (tx 0) b0
    have hq2 := feed_rest_n (tx 0) b0
    rw [← hS] at hq
    rw [← tx1] at hq hq2
    rw [← hE] at hq hq2 hEl
    have hap : (E.drop o ++ b0).map SV.u8 = List.take ((E.length - o) * 1) (List.drop o (E.map SV.u8)) ++ List.take (b0.length * 1) (List.drop 0 (b0.map SV.u8)) := (cat8 rfl rfl).symm
    have hDl : (E.drop o ++ b0).length = E.length - o + b0.length := by rw [List.length_append, List.length_drop]
    have hel : E.length - o < 64 := by rw [← List.length_drop, hE, hrl]; omega
    have hul : UInt64.ofNat (tx 0).length + u64i (b0.length : Int) = UInt64.ofNat (tx 1).length := by rw [u64_add_i _ _ (by omega), tx1, List.length_append]
    clear hS hrl
    conv => whnf
    first | refine brT (by rfl) ?_ | fail
    conv => whnf
    repeat (first | (refine Exists.intro _ (And.intro rfl ?_); conv => whnf) | (refine And.intro (by first | omega | (simp [ti5]; omega)) ?_; conv => whnf) | fail)
    obtain ⟨D, hD⟩ : ∃ D, D = E.drop o ++ b0 := ⟨_, rfl⟩
    rw [← hD] at hq hq2 hap hDl
    refine loop_rule ttOk mixed (by kernel_rfl) (ι := { j : Nat // 64 * j ≤ D.length }) (fun j => [(0, .p 0 0), (5, .i 64), (6, .sl 8 (64 * j.1) (D.length - 64 * j.1) 1 false), (7, .u64 (UInt64.ofNat (tx 1).length)), (21, .sl 3 0 4 1 fl), (22, .i 4), (23, .i 0)]) (fun j => [some (.ro (mach_n 1 2)), some (.row 23 ((blks_n k S D j.1).map .u32)), some (.ro (k.map .u32)), some (.ro [.sl 4 0 b0.length 1 f0, .sl 5 0 b1.length 1 f1, .sl 6 0 b2.length 1 f2, .sl 7 0 b3.length 1 f3]), some (.ro (b0.map .u8)), some (.ro (b1.map .u8)), some (.ro (b2.map .u8)), some (.ro (b3.map .u8)), some (.row 5 (D.map .u8))]) (fun _ => 8 + 1) (fun j => D.length - 64 * j.1) ⟨0, by omega⟩ ?_ ?_
    ·
     have hz := blks_z_n k S D
     have hDn : E.length - o + b0.length = D.length - 64 * 0 := by omega
     dsimp only
     rw [hz]
     refine Weak.sel [0, 1, 2, 3, 4, 5, 6, 7, 9] rfl rfl ?_ ?_ rfl rfl
     ·
      (repeat' (first | exact trivial | refine And.intro ?_ ?_ | fail)) <;> first | exact wk_u64 (by first | exact hul | exact hul.symm | fail) | rfl | exact wk_sl rfl (by first | rfl | fail) (by first | exact hDn.symm | fail) | fail
     ·
      (repeat' (first | exact trivial | exact ren_eq (plainL_u8 _) hap | refine And.intro ?_ ?_ | (refine wk_cons ?_ ?_))) <;> first | rfl | exact ren_eq (by first | (simp; done) | fail) (by first | rfl | fail) | fail
    ·
     rintro ⟨j, hj⟩
     dsimp only
     have hbl := blks_len_n k hsl D j
     by_cases hc : 64 * (j + 1) ≤ D.length
     ·
      have hge : decide (((D.length - 64 * j : Nat) : Int) ≥ 64) = true := by simp; omega
      have hs := blks_s_n k S D j
      have q139 := f139D (blks_n k S D j) k D (64 * j) hbl hk (by omega) false
      rw [← hs] at q139
      conv => whnf
      first | refine brT (by exact hge) ?_ | fail
      conv => whnf
      repeat (first | (refine Exists.intro _ (And.intro rfl ?_); conv => whnf) | (refine And.intro (by first | omega | fail) ?_; conv => whnf) | fail)
      refine ok1_callF [0, 1, 2, 8] [false, true, false, false] true (q139) rfl rfl ⟨⟨rfl, by first | rfl | fail⟩, by (repeat' (first | exact trivial | refine And.intro ?_ ?_)) <;> first | rfl | exact ren_eq (by first | (simp; done) | fail) (by first | rfl | fail) | fail, by first | simp [plainHf, plainB], by first | rfl | fail, ?_⟩
      conv => whnf
      repeat (first | (refine Exists.intro _ (And.intro rfl ?_); conv => whnf) | (refine And.intro (by first | omega | fail) ?_; conv => whnf) | fail)
      refine ⟨⟨j + 1, hc⟩, by simp only; omega, ?_⟩
      dsimp only
      refine Weak.sel [0, 1, 2, 3, 4, 5, 6, 7, 8] rfl rfl ?_ ?_ rfl rfl
      ·
       (repeat' (first | exact trivial | refine And.intro ?_ ?_ | fail)) <;> first | rfl | fail
      ·
       (repeat' (first | exact trivial | refine And.intro ?_ ?_ | (refine wk_cons ?_ ?_))) <;> first | rfl | exact ren_eq (by first | (simp; done) | fail) (by first | rfl | fail) | fail
     ·
      obtain rfl : j = D.length / 64 := by omega
      have hge : decide (((D.length - 64 * (D.length / 64) : Nat) : Int) ≥ 64) = false := by simp; omega
      rw [hq]
      conv => whnf
      first | refine brF (by exact hge) ?_ | fail
      conv => whnf
      repeat (fail)
      refine ⟨⟨(1, D, 64 * (D.length / 64)), by omega, by simp only; omega, hq2⟩, by simp only; omega, ?_⟩
      dsimp only
      refine Weak.sel [0, 1, 2, 3, 4, 5, 6, 7, 8] rfl rfl ?_ ?_ rfl rfl
      ·
       (repeat' (first | exact trivial | refine And.intro ?_ ?_ | fail)) <;> first | rfl | fail
      ·
       (repeat' (first | exact trivial | refine And.intro ?_ ?_ | (refine wk_cons ?_ ?_))) <;> first | rfl | exact ren_eq (by first | (simp; done) | fail) (by first | rfl | fail) | fail
   ·
    have hq := feed_st_n k h (tx 1) b1
    have hq2 := feed_rest_n (tx 1) b1
    rw [← hS] at hq
    rw [← tx2] at hq hq2
    rw [← hE] at hq hq2 hEl
    have hap : (E.drop o ++ b1).map SV.u8 = List.take ((E.length - o) * 1) (List.drop o (E.map SV.u8)) ++ List.take (b1.length * 1) (List.drop 0 (b1.map SV.u8)) := (cat8 rfl rfl).symm
    have hDl : (E.drop o ++ b1).length = E.length - o + b1.length := by rw [List.length_append, List.length_drop]
    have hel : E.length - o < 64 := by rw [← List.length_drop, hE, hrl]; omega
    have hul : UInt64.ofNat (tx 1).length + u64i (b1.length : Int) = UInt64.ofNat (tx 2).length := by rw [u64_add_i _ _ (by omega), tx2, List.length_append]
    clear hS hrl
    conv => whnf
    first | refine brT (by rfl) ?_ | fail
    conv => whnf
    repeat (first | (refine Exists.intro _ (And.intro rfl ?_); conv => whnf) | (refine And.intro (by first | omega | (simp [ti5]; omega)) ?_; conv => whnf) | fail)
    obtain ⟨D, hD⟩ : ∃ D, D = E.drop o ++ b1 := ⟨_, rfl⟩
    rw [← hD] at hq hq2 hap hDl
    refine loop_rule ttOk mixed (by kernel_rfl) (ι := { j : Nat // 64 * j ≤ D.length }) (fun j => [(0, .p 0 0), (5, .i 64), (6, .sl 8 (64 * j.1) (D.length - 64 * j.1) 1 false), (7, .u64 (UInt64.ofNat (tx 2).length)), (21, .sl 3 0 4 1 fl), (22, .i 4), (23, .i 1)]) (fun j => [some (.ro (mach_n 1 2)), some (.row 23 ((blks_n k S D j.1).map .u32)), some (.ro (k.map .u32)), some (.ro [.sl 4 0 b0.length 1 f0, .sl 5 0 b1.length 1 f1, .sl 6 0 b2.length 1 f2, .sl 7 0 b3.length 1 f3]), some (.ro (b0.map .u8)), some (.ro (b1.map .u8)), some (.ro (b2.map .u8)), some (.ro (b3.map .u8)), some (.row 5 (D.map .u8))]) (fun _ => 8 + 1) (fun j => D.length - 64 * j.1) ⟨0, by omega⟩ ?_ ?_
    ·
     have hz := blks_z_n k S D
     have hDn : E.length - o + b1.length = D.length - 64 * 0 := by omega
     dsimp only
     rw [hz]
     refine Weak.sel [0, 1, 2, 3, 4, 5, 6, 7, 9] rfl rfl ?_ ?_ rfl rfl
     ·
      (repeat' (first | exact trivial | refine And.intro ?_ ?_ | fail)) <;> first | exact wk_u64 (by first | exact hul | exact hul.symm | fail) | rfl | exact wk_sl rfl (by first | rfl | fail) (by first | exact hDn.symm | fail) | fail
     ·
      (repeat' (first | exact trivial | exact ren_eq (plainL_u8 _) hap | refine And.intro ?_ ?_ | (refine wk_cons ?_ ?_))) <;> first | rfl | exact ren_eq (by first | (simp; done) | fail) (by first | rfl | fail) | fail
    ·
     rintro ⟨j, hj⟩
     dsimp only
     have hbl := blks_len_n k hsl D j
     by_cases hc : 64 * (j + 1) ≤ D.length
     ·
      have hge : decide (((D.length - 64 * j : Nat) : Int) ≥ 64) = true := by simp; omega
      have hs := blks_s_n k S D j
      have q139 := f139D (blks_n k S D j) k D (64 * j) hbl hk (by omega) false
      rw [← hs] at q139
      conv => whnf
      first | refine brT (by exact hge) ?_ | fail
      conv => whnf
      repeat (first | (refine Exists.intro _ (And.intro rfl ?_); conv => whnf) | (refine And.intro (by first | omega | fail) ?_; conv => whnf) | fail)
      refine ok1_callF [0, 1, 2, 8] [false, true, false, false] true (q139) rfl rfl ⟨⟨rfl, by first | rfl | fail⟩, by (repeat' (first | exact trivial | refine And.intro ?_ ?_)) <;> first | rfl | exact ren_eq (by first | (simp; done) | fail) (by first | rfl | fail) | fail, by first | simp [plainHf, plainB], by first | rfl | fail, ?_⟩
      conv => whnf
      repeat (first | (refine Exists.intro _ (And.intro rfl ?_); conv => whnf) | (refine And.intro (by first | omega | fail) ?_; conv => whnf) | fail)
      refine ⟨⟨j + 1, hc⟩, by simp only; omega, ?_⟩
      dsimp only
      refine Weak.sel [0, 1, 2, 3, 4, 5, 6, 7, 8] rfl rfl ?_ ?_ rfl rfl
      ·
       (repeat' (first | exact trivial | refine And.intro ?_ ?_ | fail)) <;> first | rfl | fail
      ·
       (repeat' (first | exact trivial | refine And.intro ?_ ?_ | (refine wk_cons ?_ ?_))) <;> first | rfl | exact ren_eq (by first | (simp; done) | fail) (by first | rfl | fail) | fail
     ·
      obtain rfl : j = D.length / 64 := by omega
      have hge : decide (((D.length - 64 * (D.length / 64) : Nat) : Int) ≥ 64) = false := by simp; omega
      rw [hq]
      conv => whnf
      first | refine brF (by exact hge) ?_ | fail
      conv => whnf
      repeat (fail)
      refine ⟨⟨(2, D, 64 * (D.length / 64)), by omega, by simp only; omega, hq2⟩, by simp only; omega, ?_⟩
      dsimp only
      refine Weak.sel [0, 1, 2, 3, 4, 5, 6, 7, 8] rfl rfl ?_ ?_ rfl rfl
      ·
       (repeat' (first | exact trivial | refine And.intro ?_ ?_ | fail)) <;> first | rfl | fail
      ·
       (repeat' (first | exact trivial | refine And.intro ?_ ?_ | (refine wk_cons ?_ ?_))) <;> first | rfl | exact ren_eq (by first | (simp; done) | fail) (by first | rfl | fail) | fail
   ·
    have hq := feed_st_n k h (tx 2) b2
    have hq2 := feed_rest_n (tx 2) b2
    rw [← hS] at hq
    rw [← tx3] at hq hq2
    rw [← hE] at hq hq2 hEl
    have hap : (E.drop o ++ b2).map SV.u8 = List.take ((E.length - o) * 1) (List.drop o (E.map SV.u8)) ++ List.take (b2.length * 1) (List.drop 0 (b2.map SV.u8)) := (cat8 rfl rfl).symm
    have hDl : (E.drop o ++ b2).length = E.length - o + b2.length := by rw [List.length_append, List.length_drop]
    have hel : E.length - o < 64 := by rw [← List.length_drop, hE, hrl]; omega
    have hul : UInt64.ofNat (tx 2).length + u64i (b2.length : Int) = UInt64.ofNat (tx 3).length := by rw [u64_add_i _ _ (by omega), tx3, List.length_append]
    clear hS hrl
    conv => whnf
    first | refine brT (by rfl) ?_ | fail
    conv => whnf
    repeat (first | (refine Exists.intro _ (And.intro rfl ?_); conv => whnf) | (refine And.intro (by first | omega | (simp [ti5]; omega)) ?_; conv => whnf) | fail)
    obtain ⟨D, hD⟩ : ∃ D, D = E.drop o ++ b2 := ⟨_, rfl⟩
    rw [← hD] at hq hq2 hap hDl
    refine loop_rule ttOk mixed (by kernel_rfl) (ι := { j : Nat // 64 * j ≤ D.length }) (fun j => [(0, .p 0 0), (5, .i 64), (6, .sl 8 (64 * j.1) (D.length - 64 * j.1) 1 false), (7, .u64 (UInt64.ofNat (tx 3).length)), (21, .sl 3 0 4 1 fl), (22, .i 4), (23, .i 2)]) (fun j => [some (.ro (mach_n 1 2)), some (.row 23 ((blks_n k S D j.1).map .u32)), some (.ro (k.map .u32)), some (.ro [.sl 4 0 b0.length 1 f0, .sl 5 0 b1.length 1 f1, .sl 6 0 b2.length 1 f2, .sl 7 0 b3.length 1 f3]), some (.ro (b0.map .u8)), some (.ro (b1.map .u8)), some (.ro (b2.map .u8)), some (.ro (b3.map .u8)), some (.row 5 (D.map .u8))]) (fun _ => 8 + 1) (fun j => D.length - 64 * j.1) ⟨0, by omega⟩ ?_ ?_
    ·
     have hz := blks_z_n k S D
     have hDn : E.length - o + b2.length = D.length - 64 * 0 := by omega
     dsimp only
     rw [hz]
     refine Weak.sel [0, 1, 2, 3, 4, 5, 6, 7, 9] rfl rfl ?_ ?_ rfl rfl
     ·
      (repeat' (first | exact trivial | refine And.intro ?_ ?_ | fail)) <;> first | exact wk_u64 (by first | exact hul | exact hul.symm | fail) | rfl | exact wk_sl rfl (by first | rfl | fail) (by first | exact hDn.symm | fail) | fail
     ·
      (repeat' (first | exact trivial | exact ren_eq (plainL_u8 _) hap | refine And.intro ?_ ?_ | (refine wk_cons ?_ ?_))) <;> first | rfl | exact ren_eq (by first | (simp; done) | fail) (by first | rfl | fail) | fail
    ·
     rintro ⟨j, hj⟩
     dsimp only
     have hbl := blks_len_n k hsl D j
     by_cases hc : 64 * (j + 1) ≤ D.length
     ·
      have hge : decide (((D.length - 64 * j : Nat) : Int) ≥ 64) = true := by simp; omega
      have hs := blks_s_n k S D j
      have q139 := f139D (blks_n k S D j) k D (64 * j) hbl hk (by omega) false
      rw [← hs] at q139
      conv => whnf
      first | refine brT (by exact hge) ?_ | fail
      conv => whnf
      repeat (first | (refine Exists.intro _ (And.intro rfl ?_); conv => whnf) | (refine And.intro (by first | omega | fail) ?_; conv => whnf) | fail)
      refine ok1_callF [0, 1, 2, 8] [false, true, false, false] true (q139) rfl rfl ⟨⟨rfl, by first | rfl | fail⟩, by (repeat' (first | exact trivial | refine And.intro ?_ ?_)) <;> first | rfl | exact ren_eq (by first | (simp; done) | fail) (by first | rfl | fail) | fail, by first | simp [plainHf, plainB], by first | rfl | fail, ?_⟩
      conv => whnf
      repeat (first | (refine Exists.intro _ (And.intro rfl ?_); conv => whnf) | (refine And.intro (by first | omega | fail) ?_; conv => whnf) | fail)
      refine ⟨⟨j + 1, hc⟩, by simp only; omega, ?_⟩
      dsimp only
      refine Weak.sel [0, 1, 2, 3, 4, 5, 6, 7, 8] rfl rfl ?_ ?_ rfl rfl
      ·
       (repeat' (first | exact trivial | refine And.intro ?_ ?_ | fail)) <;> first | rfl | fail
      ·
       (repeat' (first | exact trivial | refine And.intro ?_ ?_ | (refine wk_cons ?_ ?_))) <;> first | rfl | exact ren_eq (by first | (simp; done) | fail) (by first | rfl | fail) | fail
     ·
      obtain rfl : j = D.length / 64 := by omega
      have hge : decide (((D.length - 64 * (D.length / 64) : Nat) : Int) ≥ 64) = false := by simp; omega
      rw [hq]
      conv => whnf
      first | refine brF (by exact hge) ?_ | fail
      conv => whnf
      repeat (fail)
      refine ⟨⟨(3, D, 64 * (D.length / 64)), by omega, by simp only; omega, hq2⟩, by simp only; omega, ?_⟩
      dsimp only
      refine Weak.sel [0, 1, 2, 3, 4, 5, 6, 7, 8] rfl rfl ?_ ?_ rfl rfl
      ·
       (repeat' (first | exact trivial | refine And.intro ?_ ?_ | fail)) <;> first | rfl | fail
      ·
       (repeat' (first | exact trivial | refine And.intro ?_ ?_ | (refine wk_cons ?_ ?_))) <;> first | rfl | exact ren_eq (by first | (simp; done) | fail) (by first | rfl | fail) | fail
   ·
    have hq := feed_st_n k h (tx 3) b3
    have hq2 := feed_rest_n (tx 3) b3
    rw [← hS] at hq
    rw [← tx4] at hq hq2
    rw [← hE] at hq hq2 hEl
    have hap : (E.drop o ++ b3).map SV.u8 = List.take ((E.length - o) * 1) (List.drop o (E.map SV.u8)) ++ List.take (b3.length * 1) (List.drop 0 (b3.map SV.u8)) := (cat8 rfl rfl).symm
    have hDl : (E.drop o ++ b3).length = E.length - o + b3.length := by rw [List.length_append, List.length_drop]
    have hel : E.length - o < 64 := by rw [← List.length_drop, hE, hrl]; omega
    have hul : UInt64.ofNat (tx 3).length + u64i (b3.length : Int) = UInt64.ofNat (tx 4).length := by rw [u64_add_i _ _ (by omega), tx4, List.length_append]
    clear hS hrl
    conv => whnf
    first | refine brT (by rfl) ?_ | fail
    conv => whnf
    repeat (first | (refine Exists.intro _ (And.intro rfl ?_); conv => whnf) | (refine And.intro (by first | omega | (simp [ti5]; omega)) ?_; conv => whnf) | fail)
    obtain ⟨D, hD⟩ : ∃ D, D = E.drop o ++ b3 := ⟨_, rfl⟩
    rw [← hD] at hq hq2 hap hDl
    refine loop_rule ttOk mixed (by kernel_rfl) (ι := { j : Nat // 64 * j ≤ D.length }) (fun j => [(0, .p 0 0), (5, .i 64), (6, .sl 8 (64 * j.1) (D.length - 64 * j.1) 1 false), (7, .u64 (UInt64.ofNat (tx 4).length)), (21, .sl 3 0 4 1 fl), (22, .i 4), (23, .i 3)]) (fun j => [some (.ro (mach_n 1 2)), some (.row 23 ((blks_n k S D j.1).map .u32)), some (.ro (k.map .u32)), some (.ro [.sl 4 0 b0.length 1 f0, .sl 5 0 b1.length 1 f1, .sl 6 0 b2.length 1 f2, .sl 7 0 b3.length 1 f3]), some (.ro (b0.map .u8)), some (.ro (b1.map .u8)), some (.ro (b2.map .u8)), some (.ro (b3.map .u8)), some (.row 5 (D.map .u8))]) (fun _ => 8 + 1) (fun j => D.length - 64 * j.1) ⟨0, by omega⟩ ?_ ?_
    ·
     have hz := blks_z_n k S D
     have hDn : E.length - o + b3.length = D.length - 64 * 0 := by omega
     dsimp only
     rw [hz]
     refine Weak.sel [0, 1, 2, 3, 4, 5, 6, 7, 9] rfl rfl ?_ ?_ rfl rfl
     ·
      (repeat' (first | exact trivial | refine And.intro ?_ ?_ | fail)) <;> first | exact wk_u64 (by first | exact hul | exact hul.symm | fail) | rfl | exact wk_sl rfl (by first | rfl | fail) (by first | exact hDn.symm | fail) | fail
     ·
      (repeat' (first | exact trivial | exact ren_eq (plainL_u8 _) hap | refine And.intro ?_ ?_ | (refine wk_cons ?_ ?_))) <;> first | rfl | exact ren_eq (by first | (simp; done) | fail) (by first | rfl | fail) | fail
    ·
     rintro ⟨j, hj⟩
     dsimp only
     have hbl := blks_len_n k hsl D j
     by_cases hc : 64 * (j + 1) ≤ D.length
     ·
      have hge : decide (((D.length - 64 * j : Nat) : Int) ≥ 64) = true := by simp; omega
      have hs := blks_s_n k S D j
      have q139 := f139D (blks_n k S D j) k D (64 * j) hbl hk (by omega) false
      rw [← hs] at q139
      conv => whnf
      first | refine brT (by exact hge) ?_ | fail
      conv => whnf
      repeat (first | (refine Exists.intro _ (And.intro rfl ?_); conv => whnf) | (refine And.intro (by first | omega | fail) ?_; conv => whnf) | fail)
      refine ok1_callF [0, 1, 2, 8] [false, true, false, false] true (q139) rfl rfl ⟨⟨rfl, by first | rfl | fail⟩, by (repeat' (first | exact trivial | refine And.intro ?_ ?_)) <;> first | rfl | exact ren_eq (by first | (simp; done) | fail) (by first | rfl | fail) | fail, by first | simp [plainHf, plainB], by first | rfl | fail, ?_⟩
      conv => whnf
      repeat (first | (refine Exists.intro _ (And.intro rfl ?_); conv => whnf) | (refine And.intro (by first | omega | fail) ?_; conv => whnf) | fail)
      refine ⟨⟨j + 1, hc⟩, by simp only; omega, ?_⟩
      dsimp only
      refine Weak.sel [0, 1, 2, 3, 4, 5, 6, 7, 8] rfl rfl ?_ ?_ rfl rfl
      ·
       (repeat' (first | exact trivial | refine And.intro ?_ ?_ | fail)) <;> first | rfl | fail
      ·
       (repeat' (first | exact trivial | refine And.intro ?_ ?_ | (refine wk_cons ?_ ?_))) <;> first | rfl | exact ren_eq (by first | (simp; done) | fail) (by first | rfl | fail) | fail
     ·
      obtain rfl : j = D.length / 64 := by omega
      have hge : decide (((D.length - 64 * (D.length / 64) : Nat) : Int) ≥ 64) = false := by simp; omega
      rw [hq]
      conv => whnf
      first | refine brF (by exact hge) ?_ | fail
      conv => whnf
      repeat (fail)
      refine ⟨⟨(4, D, 64 * (D.length / 64)), by omega, by simp only; omega, hq2⟩, by simp only; omega, ?_⟩
      dsimp only
      refine Weak.sel [0, 1, 2, 3, 4, 5, 6, 7, 8] rfl rfl ?_ ?_ rfl rfl
      ·
       (repeat' (first | exact trivial | refine And.intro ?_ ?_ | fail)) <;> first | rfl | fail
      ·
       (repeat' (first | exact trivial | refine And.intro ?_ ?_ | (refine wk_cons ?_ ?_))) <;> first | rfl | exact ren_eq (by first | (simp; done) | fail) (by first | rfl | fail) | fail
  ·
   obtain rfl : i = 4 := by omega
   obtain ⟨n, hn⟩ : ∃ n, n = E.length - o := ⟨_, rfl⟩
   have hnE : o + n = E.length := by omega
   rw [← hn]
   have hcat : (rest_n (tx 4) ++ [128]).map SV.u8 = List.take (n * 1) (List.drop o (E.map SV.u8)) ++ List.take (1 * 1) (List.drop 0 [SV.u8 128]) := by rw [← hE]; exact (cat8 (b := [128]) hn rfl).symm
   have hdd : decide (((n : Nat) : Int).toNat = ((n : Nat) : Int).toNat) = true := by simp
   conv => whnf
   first | refine brF (by rfl) ?_ | fail
   conv => whnf
   repeat (first | (refine Exists.intro _ (And.intro rfl ?_); conv => whnf) | (refine And.intro (by first | omega | fail) ?_; conv => whnf) | fail)
   rw [hdd]
   rw [Int.toNat_natCast]
   have hnl : n = (rest_n (tx 4)).length := by rw [hn, ← hE, List.length_drop]
   have hn64 : n < 64 := by rw [hnl, hrl]; omega
   have hpz := pz_rest_n (tx 4)
   rw [← hnl] at hpz
   have hpl : pz_n n < 64 := by unfold pz_n; exact Nat.mod_lt _ (by decide)
   conv => whnf
   refine And.intro ⟨by show _ ≤ (E.map SV.u8).length; rw [List.length_map]; omega, by decide, by show _ * 1 ≤ _; omega, by decide⟩ ?_
   conv => whnf
   repeat (fail)
   refine loop_rule ttOk mixed (by kernel_rfl) (ι := { j : Nat // j ≤ pz_n n }) (fun j => [(0, .p 0 0), (5, .i 64), (6, .sl 8 0 (n + 1 + j.1) 1 false), (7, .u64 (UInt64.ofNat (tx 4).length))]) (fun j => [some (.ro (mach_n 1 2)), some (.row 23 (S.map .u32)), some (.ro (k.map .u32)), some (.ro [.sl 4 0 b0.length 1 f0, .sl 5 0 b1.length 1 f1, .sl 6 0 b2.length 1 f2, .sl 7 0 b3.length 1 f3]), some (.ro (b0.map .u8)), some (.ro (b1.map .u8)), some (.ro (b2.map .u8)), some (.ro (b3.map .u8)), some (.row 5 ((rest_n (tx 4) ++ [128] ++ List.replicate j.1 0).map .u8))]) (fun _ => 8 + 1) (fun j => pz_n n - j.1) ⟨0, by omega⟩ ?_ ?_
   ·
    have hz : rest_n (tx 4) ++ [128] ++ List.replicate 0 0 = rest_n (tx 4) ++ [128] := List.append_nil _
    dsimp only
    rw [hz]
    refine Weak.sel [0, 1, 2, 3, 4, 5, 6, 7, 8 + 2] rfl rfl ?_ ?_ rfl rfl
    ·
     (repeat' (first | exact trivial | refine And.intro ?_ ?_ | fail)) <;> first | rfl | fail
    ·
     (repeat' (first | exact trivial | exact ren_eq (plainL_u8 _) hcat | refine And.intro ?_ ?_ | (refine wk_cons ?_ ?_))) <;> first | rfl | exact ren_eq (by first | (simp; done) | fail) (by first | rfl | fail) | fail
   ·
    rintro ⟨j, hj⟩
    dsimp only
    obtain ⟨Y, hY⟩ : ∃ Y, Y = rest_n (tx 4) ++ [128] ++ List.replicate j 0 := ⟨_, rfl⟩
    have hYl : Y.length = n + 1 + j := by rw [hY, List.length_append, List.length_append, ← hnl, List.length_replicate]; rfl
    have hYs : rest_n (tx 4) ++ [128] ++ List.replicate (j + 1) 0 = Y ++ [0] := by rw [hY, List.replicate_succ', List.append_assoc]; simp
    by_cases hj2 : j < pz_n n
    ·
     have hno := padz_no_n hj2
     have hcd : (((w64 (((n + 1 + j : Nat) : Int) + w64 (2 * 4))).tmod 64) != 0) = true := by
      have e : w64 (((n + 1 + j : Nat) : Int) + w64 (2 * 4)) = ((n + 1 + j + 8 : Nat) : Int) := by simp only [w64_eq]; omega
      rw [e, show (((n + 1 + j + 8 : Nat) : Int)).tmod 64 = (((n + 1 + j + 8) % 64 : Nat) : Int) from rfl]
      simp; omega
     rw [← hY]
     conv => whnf
     repeat (first | (refine Exists.intro _ (And.intro rfl ?_); conv => whnf) | fail)
     first | refine brT (by exact hcd) ?_ | fail
     conv => whnf
     repeat (first | (refine Exists.intro _ (And.intro rfl ?_); conv => whnf) | (refine And.intro (by first | omega | (simp [ti5]; omega)) ?_; conv => whnf) | fail)
     have hap2 : (Y ++ [0]).map SV.u8 = List.take ((n + 1 + j) * 1) (List.drop 0 (Y.map SV.u8)) ++ List.take (1 * 1) (List.drop 0 [SV.u8 0]) := (cat8 (o := 0) (n := n + 1 + j) (E := Y) (b := [0]) (by omega) rfl).symm
     refine ⟨⟨j + 1, by omega⟩, by simp only; omega, ?_⟩
     dsimp only
     rw [hYs]
     refine Weak.sel [0, 1, 2, 3, 4, 5, 6, 7, 8 + 2] rfl rfl ?_ ?_ rfl rfl
     ·
      (repeat' (first | exact trivial | refine And.intro ?_ ?_ | fail)) <;> first | rfl | fail
     ·
      (repeat' (first | exact trivial | exact ren_eq (plainL_u8 _) hap2 | refine And.intro ?_ ?_ | (refine wk_cons ?_ ?_))) <;> first | rfl | exact ren_eq (by first | (simp; done) | fail) (by first | rfl | fail) | fail
    ·
     obtain rfl : j = pz_n n := by omega
     have hyes := padz_yes_n n
     have hcd : (((w64 (((n + 1 + pz_n n : Nat) : Int) + w64 (2 * 4))).tmod 64) != 0) = false := by
      have e : w64 (((n + 1 + pz_n n : Nat) : Int) + w64 (2 * 4)) = ((n + 1 + pz_n n + 8 : Nat) : Int) := by simp only [w64_eq]; omega
      rw [e, show (((n + 1 + pz_n n + 8 : Nat) : Int)).tmod 64 = (((n + 1 + pz_n n + 8) % 64 : Nat) : Int) from rfl, hyes]
      rfl
     rw [← hY]
     conv => whnf
     repeat (first | (refine Exists.intro _ (And.intro rfl ?_); conv => whnf) | fail)
     first | refine brF (by exact hcd) ?_ | fail
     conv => whnf
     repeat (first | (refine Exists.intro _ (And.intro rfl ?_); conv => whnf) | (refine And.intro ⟨by first | decide | fail, by first | decide | fail⟩ ?_; conv => whnf) | fail)
     obtain ⟨N, hN⟩ : ∃ N, N = (tx 4).length := ⟨_, rfl⟩
     rw [← hN]
     refine loop_rule ttOk mixed (by kernel_rfl) (ι := { i : Nat // i ≤ 8 }) (fun i => [(0, .p 0 0), (5, .i 64), (6, .sl 8 0 (n + 1 + pz_n n) 1 false), (7, .u64 (UInt64.ofNat N)), (10, .sl (8 + 1) 0 8 1 true), (76, .i (i.1 : Int))]) (fun i => [some (.ro (mach_n 1 2)), some (.row 23 (S.map .u32)), some (.ro (k.map .u32)), some (.ro [.sl 4 0 b0.length 1 f0, .sl 5 0 b1.length 1 f1, .sl 6 0 b2.length 1 f2, .sl 7 0 b3.length 1 f3]), some (.ro (b0.map .u8)), some (.ro (b1.map .u8)), some (.ro (b2.map .u8)), some (.ro (b3.map .u8)), some (.row 5 (Y.map .u8)), some (.row 5 ((lset_n N i.1).map .u8))]) (fun _ => 8 + 2) (fun i => 8 - i.1) ⟨0, by omega⟩ ?_ ?_
     ·
      have hz := lset_z_n N
      dsimp only
      rw [hz]
      refine Weak.sel [0, 1, 2, 3, 4, 5, 6, 7, 8, 8 + 1] rfl rfl ?_ ?_ rfl rfl
      ·
       (repeat' (first | exact trivial | refine And.intro ?_ ?_ | fail)) <;> first | rfl | fail
      ·
       (repeat' (first | exact trivial | exact ren_z8 | refine And.intro ?_ ?_ | (refine wk_cons ?_ ?_))) <;> first | rfl | exact ren_eq (by first | (simp; done) | fail) (by first | rfl | fail) | fail
     ·
      rintro ⟨i, hi⟩
      dsimp only
      have hll := lset_len_n N i
      by_cases hi8 : i < 8
      ·
       have hlt : decide ((i : Int) < 8) = true := by simp; omega
       have hp := wp1i i (by omega)
       have h8 : w64 (8 * (i : Int)) = ((8 * i : Nat) : Int) := by simp only [w64_eq]; omega
       have h7 : w64 (w64 (8 - 1) - (i : Int)) = ((7 - i : Nat) : Int) := by simp only [w64_eq]; omega
       have hs := lset_s_n N i
       conv => whnf
       first | refine brT (by exact hlt) ?_ | fail
       conv => whnf
       repeat (fail)
       refine ⟨_, mshr_64 h8, ?_⟩
       conv => whnf
       repeat (first | (refine Exists.intro _ (And.intro (sput_m8 (i := 7 - i) (by first | rfl | omega | fail)) ?_); conv => whnf) | (refine Exists.intro _ (And.intro (idx_i (m := 7 - i) (by first | rfl | omega | fail)) ?_); conv => whnf) | (refine And.intro (by first | omega | (simp; omega) | fail) ?_; conv => whnf) | fail)
       refine ⟨⟨i + 1, by omega⟩, by simp only; omega, ?_⟩
       dsimp only
       rw [hs]
       refine Weak.sel [0, 1, 2, 3, 4, 5, 6, 7, 8, 8 + 1] rfl rfl ?_ ?_ rfl rfl
       ·
        (repeat' (first | exact trivial | refine And.intro ?_ ?_ | fail)) <;> first | exact wk_i (by first | exact hp | exact hp.symm | fail) | rfl | fail
       ·
        (repeat' (first | exact trivial | refine And.intro ?_ ?_ | (refine wk_cons ?_ ?_))) <;> first | rfl | exact ren_eq (by first | (simp; done) | fail) (by first | rfl | fail) | exact ren_m8 (by first | rfl | fail) | fail
      ·
       obtain rfl : i = 8 := by omega
       have hap3 : (Y ++ lset_n N 8).map SV.u8 = List.take ((n + 1 + pz_n n) * 1) (List.drop 0 (Y.map SV.u8)) ++ List.take (8 * 1) (List.drop 0 ((lset_n N 8).map SV.u8)) := (cat8 (o := 0) (n := n + 1 + pz_n n) (E := Y) (b := lset_n N 8) (by omega) hll.symm).symm
       obtain ⟨D, hD⟩ : ∃ D, D = Y ++ lset_n N 8 := ⟨_, rfl⟩
       have hDl : D.length = n + 1 + pz_n n + 8 := by rw [hD, List.length_append, hYl, hll]
       have hDe : D = last_n (tx 4) := by rw [hD, hY, hpz, hN]; exact last_e_n _
       have hD64 := last_len_n (tx 4)
       have hfin := last_st_n k h (tx 4)
       rw [← hDe] at hD64 hfin
       rw [← hS] at hfin
       rw [← hD] at hap3
       conv => whnf
       first | refine brF (by rfl) ?_ | fail
       conv => whnf
       repeat (first | (refine And.intro (by first | omega | (simp [ti5]; omega)) ?_; conv => whnf) | fail)
       refine loop_rule ttOk mixed (by kernel_rfl) (ι := { j : Nat // 64 * j ≤ D.length }) (fun j => [(0, .p 0 0), (5, .i 64), (6, .sl 8 (64 * j.1) (D.length - 64 * j.1) 1 false)]) (fun j => [some (.ro (mach_n 1 2)), some (.row 23 ((blks_n k S D j.1).map .u32)), some (.ro (k.map .u32)), some (.ro [.sl 4 0 b0.length 1 f0, .sl 5 0 b1.length 1 f1, .sl 6 0 b2.length 1 f2, .sl 7 0 b3.length 1 f3]), some (.ro (b0.map .u8)), some (.ro (b1.map .u8)), some (.ro (b2.map .u8)), some (.ro (b3.map .u8)), some (.row 5 (D.map .u8))]) (fun _ => 8 + 1) (fun j => D.length - 64 * j.1) ⟨0, by omega⟩ ?_ ?_
       ·
        have hz := blks_z_n k S D
        have hDn : n + 1 + pz_n n + 8 = D.length - 64 * 0 := by omega
        dsimp only
        rw [hz]
        refine Weak.sel [0, 1, 2, 3, 4, 5, 6, 7, 8 + 2] rfl rfl ?_ ?_ rfl rfl
        ·
         (repeat' (first | exact trivial | refine And.intro ?_ ?_ | fail)) <;> first | rfl | exact wk_sl rfl (by first | rfl | fail) (by first | exact hDn.symm | fail) | fail
        ·
         (repeat' (first | exact trivial | exact ren_eq (plainL_u8 _) hap3 | refine And.intro ?_ ?_ | (refine wk_cons ?_ ?_))) <;> first | rfl | exact ren_eq (by first | (simp; done) | fail) (by first | rfl | fail) | fail
       ·
        rintro ⟨j, hj⟩
        dsimp only
        have hbl := blks_len_n k hsl D j
        by_cases hc : 64 * (j + 1) ≤ D.length
        ·
         have hge : decide (((D.length - 64 * j : Nat) : Int) > 0) = true := by simp; omega
         have hs := blks_s_n k S D j
         have q139 := f139D (blks_n k S D j) k D (64 * j) hbl hk (by omega) false
         rw [← hs] at q139
         conv => whnf
         first | refine brT (by exact hge) ?_ | fail
         conv => whnf
         repeat (first | (refine Exists.intro _ (And.intro rfl ?_); conv => whnf) | (refine And.intro (by first | omega | fail) ?_; conv => whnf) | fail)
         refine ok1_callF [0, 1, 2, 8] [false, true, false, false] true (q139) rfl rfl ⟨⟨rfl, by first | rfl | fail⟩, by (repeat' (first | exact trivial | refine And.intro ?_ ?_)) <;> first | rfl | exact ren_eq (by first | (simp; done) | fail) (by first | rfl | fail) | fail, by first | simp [plainHf, plainB], by first | rfl | fail, ?_⟩
         conv => whnf
         repeat (first | (refine Exists.intro _ (And.intro rfl ?_); conv => whnf) | (refine And.intro (by first | omega | fail) ?_; conv => whnf) | fail)
         refine ⟨⟨j + 1, hc⟩, by simp only; omega, ?_⟩
         dsimp only
         refine Weak.sel [0, 1, 2, 3, 4, 5, 6, 7, 8] rfl rfl ?_ ?_ rfl rfl
         ·
          (repeat' (first | exact trivial | refine And.intro ?_ ?_ | fail)) <;> first | rfl | fail
         ·
          (repeat' (first | exact trivial | refine And.intro ?_ ?_ | (refine wk_cons ?_ ?_))) <;> first | rfl | exact ren_eq (by first | (simp; done) | fail) (by first | rfl | fail) | fail
        ·
         obtain rfl : j = D.length / 64 := by omega
         have hge : decide (((D.length - 64 * (D.length / 64) : Nat) : Int) > 0) = false := by simp; omega
         obtain ⟨H, hH⟩ : ∃ H, H = blks_n k S D (D.length / 64) := ⟨_, rfl⟩
         rw [← hH] at hbl hfin ⊢
         conv => whnf
         first | refine brF (by exact hge) ?_ | fail
         conv => whnf
         repeat (first | (refine Exists.intro _ (And.intro rfl ?_); conv => whnf) | fail)
         refine SWp.weak (Weak.virt 12 5 1 rfl) ?_
         refine loop_rule ttOk mixed (by kernel_rfl) (ι := { i : Nat // i ≤ 8 }) (fun i => [(0, .p 0 0), (12, .sl 8 0 (4 * i.1) 1 false), (110, .sl 1 0 8 1 false), (111, .i 8), (112, .i (i.1 : Int))]) (fun i => [some (.ro (mach_n 1 2)), some (.row 23 (H.map .u32)), some (.ro (k.map .u32)), some (.ro [.sl 4 0 b0.length 1 f0, .sl 5 0 b1.length 1 f1, .sl 6 0 b2.length 1 f2, .sl 7 0 b3.length 1 f3]), some (.ro (b0.map .u8)), some (.ro (b1.map .u8)), some (.ro (b2.map .u8)), some (.ro (b3.map .u8)), some (.row 5 ((outl_n H (4 * i.1)).map .u8))]) (fun _ => 8 + 1) (fun i => 8 - i.1) ⟨0, by omega⟩ ?_ ?_
         ·
          have hz := outl_z_n H
          dsimp only
          rw [hz]
          refine Weak.sel [0, 1, 2, 3, 4, 5, 6, 7, 8 + 1] rfl rfl ?_ ?_ rfl rfl
          ·
           (repeat' (first | exact trivial | refine And.intro ?_ ?_ | fail)) <;> first | rfl | fail
          ·
           (repeat' (first | exact trivial | refine And.intro ?_ ?_ | (refine wk_cons ?_ ?_))) <;> first | rfl | exact ren_eq (by first | (simp; done) | fail) (by first | rfl | fail) | fail
         ·
          rintro ⟨i, hi⟩
          dsimp only
          by_cases hi8 : i < 8
          ·
           have hlt : decide ((i : Int) < 8) = true := by simp; omega
           have hp := wp1i i (by omega)
           conv => whnf
           first | refine brT (by exact hlt) ?_ | fail
           conv => whnf
           repeat (first | (refine Exists.intro _ (And.intro (sload_u32 (i := i) (by first | rfl | omega | fail) (by first | omega | fail)) ?_); conv => whnf) | (refine Exists.intro _ (And.intro (idx_i (m := i) (by first | rfl | fail)) ?_); conv => whnf) | (refine Exists.intro _ (And.intro rfl ?_); conv => whnf) | (refine And.intro (by first | omega | fail) ?_; conv => whnf) | fail)
           refine loop_rule ttOk mixed (by kernel_rfl) (ι := { m : Nat // m ≤ 4 }) (fun m => [(0, .p 0 0), (12, .sl 8 0 (4 * i + m.1) 1 false), (14, .u32 (H.getD i 0)), (15, .i (3 - (m.1 : Int))), (110, .sl 1 0 8 1 false), (111, .i 8), (112, .i (i : Int))]) (fun m => [some (.ro (mach_n 1 2)), some (.row 23 (H.map .u32)), some (.ro (k.map .u32)), some (.ro [.sl 4 0 b0.length 1 f0, .sl 5 0 b1.length 1 f1, .sl 6 0 b2.length 1 f2, .sl 7 0 b3.length 1 f3]), some (.ro (b0.map .u8)), some (.ro (b1.map .u8)), some (.ro (b2.map .u8)), some (.ro (b3.map .u8)), some (.row 5 ((outl_n H (4 * i + m.1)).map .u8))]) (fun _ => 8 + 1) (fun m => 4 - m.1) ⟨0, by omega⟩ ?_ ?_
           ·
            refine Weak.sel [0, 1, 2, 3, 4, 5, 6, 7, 8] rfl rfl ?_ ?_ rfl rfl
            ·
             (repeat' (first | exact trivial | refine And.intro ?_ ?_ | fail)) <;> first | rfl | fail
            ·
             (repeat' (first | exact trivial | refine And.intro ?_ ?_ | (refine wk_cons ?_ ?_))) <;> first | rfl | exact ren_eq (by first | (simp; done) | fail) (by first | rfl | fail) | fail
           ·
            rintro ⟨m, hm⟩
            dsimp only
            have hol := outl_len_n H (4 * i + m)
            by_cases hm4 : m < 4
            ·
             have hge : decide ((3 - (m : Int)) ≥ 0) = true := by simp; omega
             have h8 : w64 (8 * (3 - (m : Int))) = ((8 * (3 - m) : Nat) : Int) := by simp only [w64_eq]; omega
             have hp2 : w64 (3 - (m : Int) - 1) = 3 - ((m + 1 : Nat) : Int) := by simp only [w64_eq]; omega
             have hs := outl_s_n H i m hm4
             obtain ⟨Z, hZ⟩ : ∃ Z, Z = outl_n H (4 * i + m) := ⟨_, rfl⟩
             rw [← hZ] at hol hs ⊢
             have hap4 : (Z ++ [(shr32 (H.getD i 0) (8 * (3 - m))).toUInt8]).map SV.u8 = List.take ((4 * i + m) * 1) (List.drop 0 (Z.map SV.u8)) ++ List.take (1 * 1) (List.drop 0 [SV.u8 (shr32 (H.getD i 0) (8 * (3 - m))).toUInt8]) := (cat8 (o := 0) (n := 4 * i + m) (E := Z) (b := [(shr32 (H.getD i 0) (8 * (3 - m))).toUInt8]) (by omega) rfl).symm
             conv => whnf
             first | refine brT (by exact hge) ?_ | fail
             conv => whnf
             repeat (fail)
             refine ⟨_, mshr_32 h8, ?_⟩
             conv => whnf
             repeat (first | (refine Exists.intro _ (And.intro rfl ?_); conv => whnf) | (refine And.intro (by first | omega | (simp [ti5]; omega)) ?_; conv => whnf) | fail)
             refine ⟨⟨m + 1, by omega⟩, by simp only; omega, ?_⟩
             dsimp only
             rw [hs]
             refine Weak.sel [0, 1, 2, 3, 4, 5, 6, 7, 8 + 2] rfl rfl ?_ ?_ rfl rfl
             ·
              (repeat' (first | exact trivial | refine And.intro ?_ ?_ | fail)) <;> first | exact wk_i (by first | exact hp2 | exact hp2.symm | fail) | rfl | fail
             ·
              (repeat' (first | exact trivial | exact ren_eq (plainL_u8 _) hap4 | refine And.intro ?_ ?_ | (refine wk_cons ?_ ?_))) <;> first | rfl | exact ren_eq (by first | (simp; done) | fail) (by first | rfl | fail) | fail
            ·
             obtain rfl : m = 4 := by omega
             conv => whnf
             first | refine brF (by rfl) ?_ | fail
             conv => whnf
             repeat (fail)
             refine ⟨⟨i + 1, by omega⟩, by simp only; omega, ?_⟩
             dsimp only
             rw [show 4 * (i + 1) = 4 * i + 4 by omega]
             refine Weak.sel [0, 1, 2, 3, 4, 5, 6, 7, 8] rfl rfl ?_ ?_ rfl rfl
             ·
              (repeat' (first | exact trivial | refine And.intro ?_ ?_ | fail)) <;> first | exact wk_i (by first | exact hp | exact hp.symm | fail) | rfl | fail
             ·
              (repeat' (first | exact trivial | refine And.intro ?_ ?_ | (refine wk_cons ?_ ?_))) <;> first | rfl | exact ren_eq (by first | (simp; done) | fail) (by first | rfl | fail) | fail
          ·
           obtain rfl : i = 8 := by omega
           rw [outb_e_n] at hfin
           rw [← hfin]
           conv => whnf
           first | refine brF (by rfl) ?_ | fail
           conv => whnf
           refine ⟨[0, 1, 2, 3, 4, 5, 6, 7, 8], ?_, rfl, rfl, ?_, rfl⟩
           ·
            (repeat' (fail)) <;> first | rfl | fail
           ·
            (repeat' (first | exact trivial | refine And.intro ?_ ?_ | (refine wk_cons ?_ ?_))) <;> first | rfl | exact ren_eq (by first | (simp; done) | fail) (by first | rfl | fail) | fail
end Go.Sh
namespace Go.Sh
open Go.Proofs
set_option maxHeartbeats 4000000
attribute [local irreducible] comp_w
theorem f140D (h k : List UInt64) (D : List UInt8) (o : Nat) (hh : h.length = 8) (hk : k.length = 80) (ho : o + 128 ≤ D.length) (fl : Bool) : SCall Try.prog 140 [.p 0 0, .sl 3 o 128 1 fl] [some (.ro (mach_w 1 2)), some (.row 25 (h.map .u64)), some (.ro (k.map .u64)), some (.ro (D.map .u8))] (.tup []) [some (.ro (mach_w 1 2)), some (.row 25 ((comp_w k h ((D.drop o).take 128)).map .u64)), some (.ro (k.map .u64)), some (.ro (D.map .u8))] :=
 have hl : ((D.drop o).take 128).length = 128 := (by rw [List.length_take, List.length_drop]; omega)
 (f140 h k ((D.drop o).take 128) hh hk hl fl).sub 3 o (D.map .u8) (((D.drop o).take 128).map .u8) 4 rfl rfl (by rw [List.length_map, hl, ← List.map_drop, ← List.map_take]) (plainL_u8 _) (plainL_u8 _) (by decide) ⟨.inr ⟨rfl, rfl⟩, .inl rfl, trivial⟩ rfl
  ⟨.inr (.inr rfl), .inr (.inl (by simp [plainB])), .inr (.inl (by simp [plainB])), .inl rfl, trivial⟩ ⟨.inr (.inr rfl), .inr (.inl (by simp [plainB])), .inr (.inl (by simp [plainB])), .inl rfl, trivial⟩
theorem blks_s_w (k h : List UInt64) (D : List UInt8) (j : Nat) : blks_w k h D (j + 1) = comp_w k (blks_w k h D j) ((D.drop (128 * j)).take 128) := rfl
theorem blks_z_w (k h : List UInt64) (D : List UInt8) : blks_w k h D 0 = h := rfl
theorem cat8w {E b : List UInt8} {o n m : Nat} (hn : n = E.length - o) (hm : m = b.length) : List.take (n * 1) (List.drop o (E.map SV.u8)) ++ List.take (m * 1) (List.drop 0 (b.map SV.u8)) = (E.drop o ++ b).map SV.u8 := by
 subst hn; subst hm
 rw [Nat.mul_one, Nat.mul_one, List.drop_zero, List.take_of_length_le (l := b.map SV.u8) (by rw [List.length_map]; exact Nat.le_refl _), List.take_of_length_le (by rw [List.length_drop, List.length_map]; exact Nat.le_refl _), List.map_append, List.map_drop]
theorem outl_z_w (H : List UInt64) : outl_w H (8 * 0) = [] := rfl
theorem outl_s_w (H : List UInt64) (i m : Nat) (hm : m < 8) : outl_w H (8 * i + (m + 1)) = outl_w H (8 * i + m) ++ [(shr64 (H.getD i 0) (8 * (7 - m))).toUInt8] := by
 show outl_w H (8 * i + m) ++ [(shr64 (H.getD ((8 * i + m) / 8) 0) (8 * (8 - 1 - (8 * i + m) % 8))).toUInt8] = _
 rw [show (8 * i + m) / 8 = i by omega, show 8 - 1 - (8 * i + m) % 8 = 7 - m by omega]
theorem outb_e_w (H : List UInt64) : outb_w H = outl_w H (8 * 8) := rfl
theorem lset_z_w (N : Nat) : lset_w N 0 = List.replicate 16 0 := rfl
theorem lset_s_w (N i : Nat) : lset_w N (i + 1) = (lset_w N i).set (15 - i) (shr64 (shl64 (UInt64.ofNat N) (UInt64.ofNat (Int.toNat 3)).toNat) (8 * i)).toUInt8 := rfl
theorem last_e_w (T : List UInt8) : rest_w T ++ [128] ++ List.replicate (pz_w T.length) 0 ++ lset_w T.length 8 = last_w T := rfl
attribute [local irreducible] blks_w st_w rest_w hash_w pz_w outl_w outb_w lset_w last_w
theorem f104_b (h k : List UInt64) (hh : h.length = 8) (hk : k.length = 80) (b0 : List UInt8) (hb0 : b0.length < 100000000000000) (f0 fl : Bool) : SCall Try.prog 104 [.p 0 0, .sl 3 0 1 1 fl] [some (.ro (mach_w 1 2)), some (.row 25 (h.map .u64)), some (.ro (k.map .u64)), some (.ro [.sl 4 0 b0.length 1 f0]), some (.ro (b0.map .u8))] (.sl 5 0 64 1 false) [some (.ro (mach_w 1 2)), none, some (.ro (k.map .u64)), some (.ro [.sl 4 0 b0.length 1 f0]), some (.ro (b0.map .u8)), some (.row 5 ((hash_w k h (b0)).map .u8))] := by
 obtain ⟨tx, htx⟩ : ∃ tx : Nat → List UInt8, tx = fun i => ([b0].take i).flatten := ⟨_, rfl⟩
 have tx0 : tx 0 = [] := by rw [htx]; rfl
 have tx1 : tx 1 = tx 0 ++ b0 := by rw [htx]; simp
 have htp : tx 1 = b0 := by rw [htx]; simp
 have he : hash_w k h (b0) = hash_w k h (tx 1) := by rw [htp]
 rw [he]
 have hl0 : (tx 0).length = 0 := by rw [tx0]; rfl
 have hl1 : (tx 1).length = (tx 0).length + b0.length := by rw [tx1, List.length_append]
 clear htx
 refine scall_of ttOk (by kernel_rfl : Try.prog.funcs[104]? = some Try.f104) rfl rfl rfl ?_
 try simp only [List.length_cons, List.length_nil, Nat.zero_add, Nat.reduceAdd]
 refine sw_ok ttOk mixed (by kernel_rfl) ?_
 conv => whnf
 repeat (first | (refine Exists.intro _ (And.intro rfl ?_); conv => whnf) | fail)
 refine SWp.weak (Weak.virt 6 5 1 rfl) ?_
 refine loop_rule ttOk mixed (by kernel_rfl) (ι := { x : Nat × List UInt8 × Nat // x.1 ≤ 1 ∧ x.2.2 ≤ x.2.1.length ∧ x.2.1.drop x.2.2 = rest_w (tx x.1) }) (fun x => [(0, .p 0 0), (5, .i 128), (6, .sl 5 x.1.2.2 (x.1.2.1.length - x.1.2.2) 1 false), (7, .u64 (UInt64.ofNat (tx x.1.1).length)), (21, .sl 3 0 1 1 fl), (22, .i 1), (23, .i (x.1.1 : Int))]) (fun x => [some (.ro (mach_w 1 2)), some (.row 25 ((st_w k h (tx x.1.1)).map .u64)), some (.ro (k.map .u64)), some (.ro [.sl 4 0 b0.length 1 f0]), some (.ro (b0.map .u8)), some (.row 5 (x.1.2.1.map .u8))]) (fun _ => 6) (fun x => 1 - x.1.1) ⟨(0, [], 0), by omega, by simp, by rw [tx0]; exact rest_nil_w.symm⟩ ?_ ?_
 ·
  dsimp only
  rw [tx0, st_nil_w]
  refine Weak.sel [0, 1, 2, 3, 4, 5] rfl rfl ?_ ?_ rfl rfl
  ·
   (repeat' (first | exact trivial | refine And.intro ?_ ?_ | fail)) <;> first | rfl | fail
  ·
   (repeat' (first | exact trivial | refine And.intro ?_ ?_ | (refine wk_cons ?_ ?_))) <;> first | rfl | exact ren_eq (by first | (simp; done) | fail) (by first | rfl | fail) | fail
 ·
  rintro ⟨⟨i, E, o⟩, hi, ho, hE⟩
  dsimp only at hi ho hE ⊢
  have hsl := st_len_w k hh (tx i)
  have hrl := rest_len_w (tx i)
  obtain ⟨S, hS⟩ : ∃ S, S = st_w k h (tx i) := ⟨_, rfl⟩
  rw [← hS] at hsl ⊢
  have hEl : E.length - o = (rest_w (tx i)).length := by rw [← hE, List.length_drop]
  by_cases hi2 : i < 1
  ·
   have hic : i = 0 := by omega
   rcases hic with rfl
   ·
    have hq := feed_st_w k h (tx 0) b0
    have hq2 := feed_rest_w (tx 0) b0
    rw [← hS] at hq
    rw [← tx1] at hq hq2
    rw [← hE] at hq hq2 hEl
    have hap : (E.drop o ++ b0).map SV.u8 = List.take ((E.length - o) * 1) (List.drop o (E.map SV.u8)) ++ List.take (b0.length * 1) (List.drop 0 (b0.map SV.u8)) := (cat8w rfl rfl).symm
    have hDl : (E.drop o ++ b0).length = E.length - o + b0.length := by rw [List.length_append, List.length_drop]
    have hel : E.length - o < 128 := by rw [← List.length_drop, hE, hrl]; omega
    have hul : UInt64.ofNat (tx 0).length + u64i (b0.length : Int) = UInt64.ofNat (tx 1).length := by rw [u64_add_i _ _ (by omega), tx1, List.length_append]
    clear hS hrl
    conv => whnf
    first | refine brT (by rfl) ?_ | fail
    conv => whnf
    repeat (first | (refine Exists.intro _ (And.intro rfl ?_); conv => whnf) | (refine And.intro (by first | omega | (simp [ti5]; omega)) ?_; conv => whnf) | fail)
    obtain ⟨D, hD⟩ : ∃ D, D = E.drop o ++ b0 := ⟨_, rfl⟩
    rw [← hD] at hq hq2 hap hDl
    refine loop_rule ttOk mixed (by kernel_rfl) (ι := { j : Nat // 128 * j ≤ D.length }) (fun j => [(0, .p 0 0), (5, .i 128), (6, .sl 5 (128 * j.1) (D.length - 128 * j.1) 1 false), (7, .u64 (UInt64.ofNat (tx 1).length)), (21, .sl 3 0 1 1 fl), (22, .i 1), (23, .i 0)]) (fun j => [some (.ro (mach_w 1 2)), some (.row 25 ((blks_w k S D j.1).map .u64)), some (.ro (k.map .u64)), some (.ro [.sl 4 0 b0.length 1 f0]), some (.ro (b0.map .u8)), some (.row 5 (D.map .u8))]) (fun _ => 5 + 1) (fun j => D.length - 128 * j.1) ⟨0, by omega⟩ ?_ ?_
    ·
     have hz := blks_z_w k S D
     have hDn : E.length - o + b0.length = D.length - 128 * 0 := by omega
     dsimp only
     rw [hz]
     refine Weak.sel [0, 1, 2, 3, 4, 6] rfl rfl ?_ ?_ rfl rfl
     ·
      (repeat' (first | exact trivial | refine And.intro ?_ ?_ | fail)) <;> first | exact wk_u64 (by first | exact hul | exact hul.symm | fail) | rfl | exact wk_sl rfl (by first | rfl | fail) (by first | exact hDn.symm | fail) | fail
     ·
      (repeat' (first | exact trivial | exact ren_eq (plainL_u8 _) hap | refine And.intro ?_ ?_ | (refine wk_cons ?_ ?_))) <;> first | rfl | exact ren_eq (by first | (simp; done) | fail) (by first | rfl | fail) | fail
    ·
     rintro ⟨j, hj⟩
     dsimp only
     have hbl := blks_len_w k hsl D j
     by_cases hc : 128 * (j + 1) ≤ D.length
     ·
      have hge : decide (((D.length - 128 * j : Nat) : Int) ≥ 128) = true := by simp; omega
      have hs := blks_s_w k S D j
      have q140 := f140D (blks_w k S D j) k D (128 * j) hbl hk (by omega) false
      rw [← hs] at q140
      conv => whnf
      first | refine brT (by exact hge) ?_ | fail
      conv => whnf
      repeat (first | (refine Exists.intro _ (And.intro rfl ?_); conv => whnf) | (refine And.intro (by first | omega | fail) ?_; conv => whnf) | fail)
      refine ok1_callF [0, 1, 2, 5] [false, true, false, false] true (q140) rfl rfl ⟨⟨rfl, by first | rfl | fail⟩, by (repeat' (first | exact trivial | refine And.intro ?_ ?_)) <;> first | rfl | exact ren_eq (by first | (simp; done) | fail) (by first | rfl | fail) | fail, by first | simp [plainHf, plainB], by first | rfl | fail, ?_⟩
      conv => whnf
      repeat (first | (refine Exists.intro _ (And.intro rfl ?_); conv => whnf) | (refine And.intro (by first | omega | fail) ?_; conv => whnf) | fail)
      refine ⟨⟨j + 1, hc⟩, by simp only; omega, ?_⟩
      dsimp only
      refine Weak.sel [0, 1, 2, 3, 4, 5] rfl rfl ?_ ?_ rfl rfl
      ·
       (repeat' (first | exact trivial | refine And.intro ?_ ?_ | fail)) <;> first | rfl | fail
      ·
       (repeat' (first | exact trivial | refine And.intro ?_ ?_ | (refine wk_cons ?_ ?_))) <;> first | rfl | exact ren_eq (by first | (simp; done) | fail) (by first | rfl | fail) | fail
     ·
      obtain rfl : j = D.length / 128 := by omega
      have hge : decide (((D.length - 128 * (D.length / 128) : Nat) : Int) ≥ 128) = false := by simp; omega
      rw [hq]
      conv => whnf
      first | refine brF (by exact hge) ?_ | fail
      conv => whnf
      repeat (fail)
      refine ⟨⟨(1, D, 128 * (D.length / 128)), by omega, by simp only; omega, hq2⟩, by simp only; omega, ?_⟩
      dsimp only
      refine Weak.sel [0, 1, 2, 3, 4, 5] rfl rfl ?_ ?_ rfl rfl
      ·
       (repeat' (first | exact trivial | refine And.intro ?_ ?_ | fail)) <;> first | rfl | fail
      ·
       (repeat' (first | exact trivial | refine And.intro ?_ ?_ | (refine wk_cons ?_ ?_))) <;> first | rfl | exact ren_eq (by first | (simp; done) | fail) (by first | rfl | fail) | fail
  ·
   obtain rfl : i = 1 := by omega
   obtain ⟨n, hn⟩ : ∃ n, n = E.length - o := ⟨_, rfl⟩
   have hnE : o + n = E.length := by omega
   rw [← hn]
   have hcat : (rest_w (tx 1) ++ [128]).map SV.u8 = List.take (n * 1) (List.drop o (E.map SV.u8)) ++ List.take (1 * 1) (List.drop 0 [SV.u8 128]) := by rw [← hE]; exact (cat8w (b := [128]) hn rfl).symm
   have hdd : decide (((n : Nat) : Int).toNat = ((n : Nat) : Int).toNat) = true := by simp
   conv => whnf
   first | refine brF (by rfl) ?_ | fail
   conv => whnf
   repeat (first | (refine Exists.intro _ (And.intro rfl ?_); conv => whnf) | (refine And.intro (by first | omega | fail) ?_; conv => whnf) | fail)
   rw [hdd]
   rw [Int.toNat_natCast]
   have hnl : n = (rest_w (tx 1)).length := by rw [hn, ← hE, List.length_drop]
   have hn64 : n < 128 := by rw [hnl, hrl]; omega
   have hpz := pz_rest_w (tx 1)
   rw [← hnl] at hpz
   have hpl : pz_w n < 128 := by unfold pz_w; exact Nat.mod_lt _ (by decide)
   conv => whnf
   refine And.intro ⟨by show _ ≤ (E.map SV.u8).length; rw [List.length_map]; omega, by decide, by show _ * 1 ≤ _; omega, by decide⟩ ?_
   conv => whnf
   repeat (fail)
   refine loop_rule ttOk mixed (by kernel_rfl) (ι := { j : Nat // j ≤ pz_w n }) (fun j => [(0, .p 0 0), (5, .i 128), (6, .sl 5 0 (n + 1 + j.1) 1 false), (7, .u64 (UInt64.ofNat (tx 1).length))]) (fun j => [some (.ro (mach_w 1 2)), some (.row 25 (S.map .u64)), some (.ro (k.map .u64)), some (.ro [.sl 4 0 b0.length 1 f0]), some (.ro (b0.map .u8)), some (.row 5 ((rest_w (tx 1) ++ [128] ++ List.replicate j.1 0).map .u8))]) (fun _ => 5 + 1) (fun j => pz_w n - j.1) ⟨0, by omega⟩ ?_ ?_
   ·
    have hz : rest_w (tx 1) ++ [128] ++ List.replicate 0 0 = rest_w (tx 1) ++ [128] := List.append_nil _
    dsimp only
    rw [hz]
    refine Weak.sel [0, 1, 2, 3, 4, 5 + 2] rfl rfl ?_ ?_ rfl rfl
    ·
     (repeat' (first | exact trivial | refine And.intro ?_ ?_ | fail)) <;> first | rfl | fail
    ·
     (repeat' (first | exact trivial | exact ren_eq (plainL_u8 _) hcat | refine And.intro ?_ ?_ | (refine wk_cons ?_ ?_))) <;> first | rfl | exact ren_eq (by first | (simp; done) | fail) (by first | rfl | fail) | fail
   ·
    rintro ⟨j, hj⟩
    dsimp only
    obtain ⟨Y, hY⟩ : ∃ Y, Y = rest_w (tx 1) ++ [128] ++ List.replicate j 0 := ⟨_, rfl⟩
    have hYl : Y.length = n + 1 + j := by rw [hY, List.length_append, List.length_append, ← hnl, List.length_replicate]; rfl
    have hYs : rest_w (tx 1) ++ [128] ++ List.replicate (j + 1) 0 = Y ++ [0] := by rw [hY, List.replicate_succ', List.append_assoc]; simp
    by_cases hj2 : j < pz_w n
    ·
     have hno := padz_no_w hj2
     have hcd : (((w64 (((n + 1 + j : Nat) : Int) + w64 (2 * 8))).tmod 128) != 0) = true := by
      have e : w64 (((n + 1 + j : Nat) : Int) + w64 (2 * 8)) = ((n + 1 + j + 16 : Nat) : Int) := by simp only [w64_eq]; omega
      rw [e, show (((n + 1 + j + 16 : Nat) : Int)).tmod 128 = (((n + 1 + j + 16) % 128 : Nat) : Int) from rfl]
      simp; omega
     rw [← hY]
     conv => whnf
     repeat (first | (refine Exists.intro _ (And.intro rfl ?_); conv => whnf) | fail)
     first | refine brT (by exact hcd) ?_ | fail
     conv => whnf
     repeat (first | (refine Exists.intro _ (And.intro rfl ?_); conv => whnf) | (refine And.intro (by first | omega | (simp [ti5]; omega)) ?_; conv => whnf) | fail)
     have hap2 : (Y ++ [0]).map SV.u8 = List.take ((n + 1 + j) * 1) (List.drop 0 (Y.map SV.u8)) ++ List.take (1 * 1) (List.drop 0 [SV.u8 0]) := (cat8w (o := 0) (n := n + 1 + j) (E := Y) (b := [0]) (by omega) rfl).symm
     refine ⟨⟨j + 1, by omega⟩, by simp only; omega, ?_⟩
     dsimp only
     rw [hYs]
     refine Weak.sel [0, 1, 2, 3, 4, 5 + 2] rfl rfl ?_ ?_ rfl rfl
     ·
      (repeat' (first | exact trivial | refine And.intro ?_ ?_ | fail)) <;> first | rfl | fail
     ·
      (repeat' (first | exact trivial | exact ren_eq (plainL_u8 _) hap2 | refine And.intro ?_ ?_ | (refine wk_cons ?_ ?_))) <;> first | rfl | exact ren_eq (by first | (simp; done) | fail) (by first | rfl | fail) | fail
    ·
     obtain rfl : j = pz_w n := by omega
     have hyes := padz_yes_w n
     have hcd : (((w64 (((n + 1 + pz_w n : Nat) : Int) + w64 (2 * 8))).tmod 128) != 0) = false := by
      have e : w64 (((n + 1 + pz_w n : Nat) : Int) + w64 (2 * 8)) = ((n + 1 + pz_w n + 16 : Nat) : Int) := by simp only [w64_eq]; omega
      rw [e, show (((n + 1 + pz_w n + 16 : Nat) : Int)).tmod 128 = (((n + 1 + pz_w n + 16) % 128 : Nat) : Int) from rfl, hyes]
      rfl
     rw [← hY]
     conv => whnf
     repeat (first | (refine Exists.intro _ (And.intro rfl ?_); conv => whnf) | fail)
     first | refine brF (by exact hcd) ?_ | fail
     conv => whnf
     repeat (first | (refine Exists.intro _ (And.intro rfl ?_); conv => whnf) | (refine And.intro ⟨by first | decide | fail, by first | decide | fail⟩ ?_; conv => whnf) | fail)
     obtain ⟨N, hN⟩ : ∃ N, N = (tx 1).length := ⟨_, rfl⟩
     rw [← hN]
     refine loop_rule ttOk mixed (by kernel_rfl) (ι := { i : Nat // i ≤ 8 }) (fun i => [(0, .p 0 0), (5, .i 128), (6, .sl 5 0 (n + 1 + pz_w n) 1 false), (7, .u64 (UInt64.ofNat N)), (10, .sl (5 + 1) 0 16 1 true), (76, .i (i.1 : Int))]) (fun i => [some (.ro (mach_w 1 2)), some (.row 25 (S.map .u64)), some (.ro (k.map .u64)), some (.ro [.sl 4 0 b0.length 1 f0]), some (.ro (b0.map .u8)), some (.row 5 (Y.map .u8)), some (.row 5 ((lset_w N i.1).map .u8))]) (fun _ => 5 + 2) (fun i => 8 - i.1) ⟨0, by omega⟩ ?_ ?_
     ·
      have hz := lset_z_w N
      dsimp only
      rw [hz]
      refine Weak.sel [0, 1, 2, 3, 4, 5, 5 + 1] rfl rfl ?_ ?_ rfl rfl
      ·
       (repeat' (first | exact trivial | refine And.intro ?_ ?_ | fail)) <;> first | rfl | fail
      ·
       (repeat' (first | exact trivial | exact ren_z8 | refine And.intro ?_ ?_ | (refine wk_cons ?_ ?_))) <;> first | rfl | exact ren_eq (by first | (simp; done) | fail) (by first | rfl | fail) | fail
     ·
      rintro ⟨i, hi⟩
      dsimp only
      have hll := lset_len_w N i
      by_cases hi8 : i < 8
      ·
       have hlt : decide ((i : Int) < 8) = true := by simp; omega
       have hp := wp1i i (by omega)
       have h8 : w64 (8 * (i : Int)) = ((8 * i : Nat) : Int) := by simp only [w64_eq]; omega
       have h7 : w64 (w64 (16 - 1) - (i : Int)) = ((15 - i : Nat) : Int) := by simp only [w64_eq]; omega
       have hs := lset_s_w N i
       conv => whnf
       first | refine brT (by exact hlt) ?_ | fail
       conv => whnf
       repeat (fail)
       refine ⟨_, mshr_64 h8, ?_⟩
       conv => whnf
       repeat (first | (refine Exists.intro _ (And.intro (sput_m8 (i := 15 - i) (by first | rfl | omega | fail)) ?_); conv => whnf) | (refine Exists.intro _ (And.intro (idx_i (m := 15 - i) (by first | rfl | omega | fail)) ?_); conv => whnf) | (refine And.intro (by first | omega | (simp; omega) | fail) ?_; conv => whnf) | fail)
       refine ⟨⟨i + 1, by omega⟩, by simp only; omega, ?_⟩
       dsimp only
       rw [hs]
       refine Weak.sel [0, 1, 2, 3, 4, 5, 5 + 1] rfl rfl ?_ ?_ rfl rfl
       ·
        (repeat' (first | exact trivial | refine And.intro ?_ ?_ | fail)) <;> first | exact wk_i (by first | exact hp | exact hp.symm | fail) | rfl | fail
       ·
        (repeat' (first | exact trivial | refine And.intro ?_ ?_ | (refine wk_cons ?_ ?_))) <;> first | rfl | exact ren_eq (by first | (simp; done) | fail) (by first | rfl | fail) | exact ren_m8 (by first | rfl | fail) | fail
      ·
       obtain rfl : i = 8 := by omega
       have hap3 : (Y ++ lset_w N 8).map SV.u8 = List.take ((n + 1 + pz_w n) * 1) (List.drop 0 (Y.map SV.u8)) ++ List.take (16 * 1) (List.drop 0 ((lset_w N 8).map SV.u8)) := (cat8w (o := 0) (n := n + 1 + pz_w n) (E := Y) (b := lset_w N 8) (by omega) hll.symm).symm
       obtain ⟨D, hD⟩ : ∃ D, D = Y ++ lset_w N 8 := ⟨_, rfl⟩
       have hDl : D.length = n + 1 + pz_w n + 16 := by rw [hD, List.length_append, hYl, hll]
       have hDe : D = last_w (tx 1) := by rw [hD, hY, hpz, hN]; exact last_e_w _
       have hD64 := last_len_w (tx 1)
       have hfin := last_st_w k h (tx 1)
       rw [← hDe] at hD64 hfin
       rw [← hS] at hfin
       rw [← hD] at hap3
       conv => whnf
       first | refine brF (by rfl) ?_ | fail
       conv => whnf
       repeat (first | (refine And.intro (by first | omega | (simp [ti5]; omega)) ?_; conv => whnf) | fail)
       refine loop_rule ttOk mixed (by kernel_rfl) (ι := { j : Nat // 128 * j ≤ D.length }) (fun j => [(0, .p 0 0), (5, .i 128), (6, .sl 5 (128 * j.1) (D.length - 128 * j.1) 1 false)]) (fun j => [some (.ro (mach_w 1 2)), some (.row 25 ((blks_w k S D j.1).map .u64)), some (.ro (k.map .u64)), some (.ro [.sl 4 0 b0.length 1 f0]), some (.ro (b0.map .u8)), some (.row 5 (D.map .u8))]) (fun _ => 5 + 1) (fun j => D.length - 128 * j.1) ⟨0, by omega⟩ ?_ ?_
       ·
        have hz := blks_z_w k S D
        have hDn : n + 1 + pz_w n + 16 = D.length - 128 * 0 := by omega
        dsimp only
        rw [hz]
        refine Weak.sel [0, 1, 2, 3, 4, 5 + 2] rfl rfl ?_ ?_ rfl rfl
        ·
         (repeat' (first | exact trivial | refine And.intro ?_ ?_ | fail)) <;> first | rfl | exact wk_sl rfl (by first | rfl | fail) (by first | exact hDn.symm | fail) | fail
        ·
         (repeat' (first | exact trivial | exact ren_eq (plainL_u8 _) hap3 | refine And.intro ?_ ?_ | (refine wk_cons ?_ ?_))) <;> first | rfl | exact ren_eq (by first | (simp; done) | fail) (by first | rfl | fail) | fail
       ·
        rintro ⟨j, hj⟩
        dsimp only
        have hbl := blks_len_w k hsl D j
        by_cases hc : 128 * (j + 1) ≤ D.length
        ·
         have hge : decide (((D.length - 128 * j : Nat) : Int) > 0) = true := by simp; omega
         have hs := blks_s_w k S D j
         have q140 := f140D (blks_w k S D j) k D (128 * j) hbl hk (by omega) false
         rw [← hs] at q140
         conv => whnf
         first | refine brT (by exact hge) ?_ | fail
         conv => whnf
         repeat (first | (refine Exists.intro _ (And.intro rfl ?_); conv => whnf) | (refine And.intro (by first | omega | fail) ?_; conv => whnf) | fail)
         refine ok1_callF [0, 1, 2, 5] [false, true, false, false] true (q140) rfl rfl ⟨⟨rfl, by first | rfl | fail⟩, by (repeat' (first | exact trivial | refine And.intro ?_ ?_)) <;> first | rfl | exact ren_eq (by first | (simp; done) | fail) (by first | rfl | fail) | fail, by first | simp [plainHf, plainB], by first | rfl | fail, ?_⟩
         conv => whnf
         repeat (first | (refine Exists.intro _ (And.intro rfl ?_); conv => whnf) | (refine And.intro (by first | omega | fail) ?_; conv => whnf) | fail)
         refine ⟨⟨j + 1, hc⟩, by simp only; omega, ?_⟩
         dsimp only
         refine Weak.sel [0, 1, 2, 3, 4, 5] rfl rfl ?_ ?_ rfl rfl
         ·
          (repeat' (first | exact trivial | refine And.intro ?_ ?_ | fail)) <;> first | rfl | fail
         ·
          (repeat' (first | exact trivial | refine And.intro ?_ ?_ | (refine wk_cons ?_ ?_))) <;> first | rfl | exact ren_eq (by first | (simp; done) | fail) (by first | rfl | fail) | fail
        ·
         obtain rfl : j = D.length / 128 := by omega
         have hge : decide (((D.length - 128 * (D.length / 128) : Nat) : Int) > 0) = false := by simp; omega
         obtain ⟨H, hH⟩ : ∃ H, H = blks_w k S D (D.length / 128) := ⟨_, rfl⟩
         rw [← hH] at hbl hfin ⊢
         conv => whnf
         first | refine brF (by exact hge) ?_ | fail
         conv => whnf
         repeat (first | (refine Exists.intro _ (And.intro rfl ?_); conv => whnf) | fail)
         refine SWp.weak (Weak.virt 12 5 1 rfl) ?_
         refine loop_rule ttOk mixed (by kernel_rfl) (ι := { i : Nat // i ≤ 8 }) (fun i => [(0, .p 0 0), (12, .sl 5 0 (8 * i.1) 1 false), (110, .sl 1 0 8 1 true), (111, .i 8), (112, .i (i.1 : Int))]) (fun i => [some (.ro (mach_w 1 2)), some (.row 25 (H.map .u64)), some (.ro (k.map .u64)), some (.ro [.sl 4 0 b0.length 1 f0]), some (.ro (b0.map .u8)), some (.row 5 ((outl_w H (8 * i.1)).map .u8))]) (fun _ => 5 + 1) (fun i => 8 - i.1) ⟨0, by omega⟩ ?_ ?_
         ·
          have hz := outl_z_w H
          dsimp only
          rw [hz]
          refine Weak.sel [0, 1, 2, 3, 4, 5 + 1] rfl rfl ?_ ?_ rfl rfl
          ·
           (repeat' (first | exact trivial | refine And.intro ?_ ?_ | fail)) <;> first | rfl | fail
          ·
           (repeat' (first | exact trivial | refine And.intro ?_ ?_ | (refine wk_cons ?_ ?_))) <;> first | rfl | exact ren_eq (by first | (simp; done) | fail) (by first | rfl | fail) | fail
         ·
          rintro ⟨i, hi⟩
          dsimp only
          by_cases hi8 : i < 8
          ·
           have hlt : decide ((i : Int) < 8) = true := by simp; omega
           have hp := wp1i i (by omega)
           conv => whnf
           first | refine brT (by exact hlt) ?_ | fail
           conv => whnf
           repeat (first | (refine Exists.intro _ (And.intro (sload_u64 (i := i) (by first | rfl | omega | fail) (by first | omega | fail)) ?_); conv => whnf) | (refine Exists.intro _ (And.intro (idx_i (m := i) (by first | rfl | fail)) ?_); conv => whnf) | (refine Exists.intro _ (And.intro rfl ?_); conv => whnf) | (refine And.intro (by first | omega | fail) ?_; conv => whnf) | fail)
           refine loop_rule ttOk mixed (by kernel_rfl) (ι := { m : Nat // m ≤ 8 }) (fun m => [(0, .p 0 0), (12, .sl 5 0 (8 * i + m.1) 1 false), (14, .u64 (H.getD i 0)), (15, .i (7 - (m.1 : Int))), (110, .sl 1 0 8 1 true), (111, .i 8), (112, .i (i : Int))]) (fun m => [some (.ro (mach_w 1 2)), some (.row 25 (H.map .u64)), some (.ro (k.map .u64)), some (.ro [.sl 4 0 b0.length 1 f0]), some (.ro (b0.map .u8)), some (.row 5 ((outl_w H (8 * i + m.1)).map .u8))]) (fun _ => 5 + 1) (fun m => 8 - m.1) ⟨0, by omega⟩ ?_ ?_
           ·
            refine Weak.sel [0, 1, 2, 3, 4, 5] rfl rfl ?_ ?_ rfl rfl
            ·
             (repeat' (first | exact trivial | refine And.intro ?_ ?_ | fail)) <;> first | rfl | fail
            ·
             (repeat' (first | exact trivial | refine And.intro ?_ ?_ | (refine wk_cons ?_ ?_))) <;> first | rfl | exact ren_eq (by first | (simp; done) | fail) (by first | rfl | fail) | fail
           ·
            rintro ⟨m, hm⟩
            dsimp only
            have hol := outl_len_w H (8 * i + m)
            by_cases hm8 : m < 8
            ·
             have hge : decide ((7 - (m : Int)) ≥ 0) = true := by simp; omega
             have h8 : w64 (8 * (7 - (m : Int))) = ((8 * (7 - m) : Nat) : Int) := by simp only [w64_eq]; omega
             have hp2 : w64 (7 - (m : Int) - 1) = 7 - ((m + 1 : Nat) : Int) := by simp only [w64_eq]; omega
             have hs := outl_s_w H i m hm8
             obtain ⟨Z, hZ⟩ : ∃ Z, Z = outl_w H (8 * i + m) := ⟨_, rfl⟩
             rw [← hZ] at hol hs ⊢
             have hap4 : (Z ++ [(shr64 (H.getD i 0) (8 * (7 - m))).toUInt8]).map SV.u8 = List.take ((8 * i + m) * 1) (List.drop 0 (Z.map SV.u8)) ++ List.take (1 * 1) (List.drop 0 [SV.u8 (shr64 (H.getD i 0) (8 * (7 - m))).toUInt8]) := (cat8w (o := 0) (n := 8 * i + m) (E := Z) (b := [(shr64 (H.getD i 0) (8 * (7 - m))).toUInt8]) (by omega) rfl).symm
             conv => whnf
             first | refine brT (by exact hge) ?_ | fail
             conv => whnf
             repeat (fail)
             refine ⟨_, mshr_64 h8, ?_⟩
             conv => whnf
             repeat (first | (refine Exists.intro _ (And.intro rfl ?_); conv => whnf) | (refine And.intro (by first | omega | (simp [ti5]; omega)) ?_; conv => whnf) | fail)
             refine ⟨⟨m + 1, by omega⟩, by simp only; omega, ?_⟩
             dsimp only
             rw [hs]
             refine Weak.sel [0, 1, 2, 3, 4, 5 + 2] rfl rfl ?_ ?_ rfl rfl
             ·
              (repeat' (first | exact trivial | refine And.intro ?_ ?_ | fail)) <;> first | exact wk_i (by first | exact hp2 | exact hp2.symm | fail) | rfl | fail
             ·
              (repeat' (first | exact trivial | exact ren_eq (plainL_u8 _) hap4 | refine And.intro ?_ ?_ | (refine wk_cons ?_ ?_))) <;> first | rfl | exact ren_eq (by first | (simp; done) | fail) (by first | rfl | fail) | fail
            ·
             obtain rfl : m = 8 := by omega
             conv => whnf
             first | refine brF (by rfl) ?_ | fail
             conv => whnf
             repeat (fail)
             refine ⟨⟨i + 1, by omega⟩, by simp only; omega, ?_⟩
             dsimp only
             rw [show 8 * (i + 1) = 8 * i + 8 by omega]
             refine Weak.sel [0, 1, 2, 3, 4, 5] rfl rfl ?_ ?_ rfl rfl
             ·
              (repeat' (first | exact trivial | refine And.intro ?_ ?_ | fail)) <;> first | exact wk_i (by first | exact hp | exact hp.symm | fail) | rfl | fail
             ·
              (repeat' (first | exact trivial | refine And.intro ?_ ?_ | (refine wk_cons ?_ ?_))) <;> first | rfl | exact ren_eq (by first | (simp; done) | fail) (by first | rfl | fail) | fail
          ·
           obtain rfl : i = 8 := by omega
           rw [outb_e_w] at hfin
           rw [← hfin]
           conv => whnf
           first | refine brF (by rfl) ?_ | fail
           conv => whnf
           refine ⟨[0, 1, 2, 3, 4, 5], ?_, rfl, rfl, ?_, rfl⟩
           ·
            (repeat' (fail)) <;> first | rfl | fail
           ·
            (repeat' (first | exact trivial | refine And.intro ?_ ?_ | (refine wk_cons ?_ ?_))) <;> first | rfl | exact ren_eq (by first | (simp; done) | fail) (by first | rfl | fail) | fail
end Go.Sh
