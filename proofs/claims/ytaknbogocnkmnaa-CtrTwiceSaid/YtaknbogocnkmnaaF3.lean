/- ctr's reference: a text turned (f55). -/
import Derived.Test.YtaknbogocnkmnaaF2
namespace Go.Sh
open Go.Proofs
set_option maxHeartbeats 4000000
set_option linter.unusedSimpArgs false

theorem wp1 (n : Nat) (h : n < 4611686018427387904) : w64 ((n : Int) + 1) = ((n + 1 : Nat) : Int) := by simp only [w64_eq]; omega
theorem tmod_nk (n k : Nat) : ((n : Int)).tmod (k : Int) = ((n % k : Nat) : Int) := by rw [Int.tmod_eq_emod_of_nonneg (by omega)]; omega
/-- The k-th counter; the stream's blocks; a text turned. -/
def ctrN (c : List UInt8) : Nat → List UInt8
  | 0 => c
  | k + 1 => nextC (ctrN c k)
theorem ctrN_z (c : List UInt8) : ctrN c 0 = c := rfl
theorem ctrN_s (c : List UInt8) (k : Nat) : ctrN c (k + 1) = nextC (ctrN c k) := rfl
theorem ctrN_len {c : List UInt8} (h : c.length = 16) : ∀ k, (ctrN c k).length = 16
  | 0 => h
  | k + 1 => nextC_len (ctrN_len h k)
def ksB (w : List UInt8) (R : Nat) (c : List UInt8) (k : Nat) : List UInt8 := sealSt w R (ctrN c k) R
theorem ksB_len {w : List UInt8} {R : Nat} {c : List UInt8} (h : c.length = 16) (k : Nat) : (ksB w R c k).length = 16 := sealSt_len w R _ (ctrN_len h k) R
def trn (w : List UInt8) (R : Nat) (c b : List UInt8) (j : Nat) : UInt8 := b.getD j 0 ^^^ (ksB w R c (j / 16)).getD (j % 16) 0
def turnL (w : List UInt8) (R : Nat) (c b : List UInt8) : List UInt8 := (List.range b.length).map (trn w R c b)

def sreg : Nat → SV
  | 0 => .slnil
  | _ + 1 => .sl 6 0 16 1 true
def sent (w : List UInt8) (R : Nat) (c : List UInt8) : Nat → Option SB
  | 0 => none
  | i + 1 => some (.row 5 ((ksB w R c (i / 16)).map .u8))
theorem ksB_eq (w : List UInt8) (R : Nat) (c : List UInt8) (k : Nat) : sealSt w R (ctrN c k) R = ksB w R c k := rfl
attribute [local irreducible] ctrN ksB

theorem f55 (fb fw ff fo : Bool) (w c b : List UInt8) (R : Nat) (hw : w.length = 16 * (R + 1)) (hR1 : 1 ≤ R) (hR2 : R ≤ 20) (hc : c.length = 16) (hbl : b.length < 100000000000000) :
    SCall Try.prog 55 [.sl 0 0 256 1 fb, .sl 1 0 (16 * (R + 1)) 1 fw, .sl 2 0 16 1 ff, .sl 3 0 b.length 1 fo] [some (.ro (sbx.map .u8)), some (.ro (w.map .u8)), some (.ro (c.map .u8)), some (.ro (b.map .u8))]
      (.sl 4 0 b.length 1 false) [some (.ro (sbx.map .u8)), some (.ro (w.map .u8)), some (.ro (c.map .u8)), some (.ro (b.map .u8)), some (.row 5 ((turnL w R c b).map .u8))] := by
  have hsl := sbx_len
  refine scall_of ttOk (by kernel_rfl : Try.prog.funcs[55]? = some Try.f55) rfl rfl rfl ?_
  refine sw_ok ttOk mixed (by kernel_rfl) ?_
  conv => whnf
  repeat (first | (refine Exists.intro _ (And.intro rfl ?_); conv => whnf) | (refine And.intro (by first | omega | (simp [ti5]; omega)) ?_; conv => whnf) | fail)
  refine SWp.weak (Weak.virt 10 5 1 rfl) ?_
  refine loop_rule ttOk mixed (by kernel_rfl) (ι := { i : Nat // i ≤ b.length }) (fun i => [(0, .sl 0 0 256 1 fb), (1, .sl 1 0 (16 * (R + 1)) 1 fw), (3, .sl 3 0 b.length 1 fo), (9, .sl 4 0 16 1 false), (10, .sl 5 0 i.1 1 false), (11, sreg i.1), (12, .i (i.1 : Int))]) (fun i => [some (.ro (sbx.map .u8)), some (.ro (w.map .u8)), some (.ro (c.map .u8)), some (.ro (b.map .u8)), some (.row 5 ((ctrN c ((i.1 + 15) / 16)).map .u8)), some (.row 5 (((List.range i.1).map (trn w R c b)).map .u8)), sent w R c i.1]) (fun _ => 7) (fun i => b.length - i.1) ⟨0, by omega⟩ ?_ ?_
  · have hc0 : (ctrN c ((0 + 15) / 16)).map SV.u8 = List.take 16 (List.drop 0 (c.map SV.u8)) := by
      rw [show (0 + 15) / 16 = 0 from rfl, ctrN_z, List.drop_zero, List.take_of_length_le (by simp [hc])]
    refine Weak.sel [0, 1, 2, 3, 5, 6, 0] rfl rfl ?_ ?_ rfl rfl
    · (repeat' (first | exact trivial | refine And.intro ?_ ?_ | fail)) <;> first | rfl | fail
    · (repeat' (first | exact trivial | exact ren_eq (plainL_u8 _) hc0 | refine And.intro ?_ ?_ | fail)) <;> first | rfl | exact ren_eq (by first | (simp; done) | fail) (by first | rfl | fail) | fail
  · rintro ⟨i, hi⟩
    have hf : ((List.range i).map (trn w R c b)).length = i := rng_len
    dsimp only
    by_cases hi2 : i < b.length
    · have hlt : decide ((i : Int) < (b.length : Int)) = true := by simp; omega
      have hp1 := wp1 i (by omega)
      have htm : ((i : Int)).tmod 16 = ((i % 16 : Nat) : Int) := tmod_nk i 16
      by_cases h0 : i % 16 = 0
      · have hm : ((i : Int).tmod 16 == 0) = true := by rw [htm, h0]; rfl
        rcases i with _ | i
        · skip
          have hk1 : (0 + 15) / 16 = 0 / 16 := by omega
          have hk2 : ctrN c ((0 + 1 + 15) / 16) = nextC (ctrN c (0 / 16)) := by rw [show (0 + 1 + 15) / 16 = 0 / 16 + 1 by omega, ctrN_s]
          have h49 := f49 fb fw false w (ctrN c (0 / 16)) R hw hR1 hR2 (ctrN_len hc _)
          have h57 := f57 false (ctrN c (0 / 16)) (ctrN_len hc _)
          have hkl := ksB_len (w := w) (R := R) hc (0 / 16)
          rw [ksB_eq] at h49
          rw [hk1]
          have hs : (List.range (0 + 1)).map (trn w R c b) = (List.range 0).map (trn w R c b) ++ [trn w R c b 0] := rng_succ
          have happ : List.take (0 * 1) (List.drop 0 (((List.range 0).map (trn w R c b)).map SV.u8)) ++ List.take (1 * 1) (List.drop 0 [SV.u8 (b.getD 0 0 ^^^ (ksB w R c (0 / 16)).getD (0 % 16) 0)]) = ((List.range (0 + 1)).map (trn w R c b)).map SV.u8 := by rw [app1 rng_len, hs]; rfl
          conv => whnf
          first | refine brT (by exact hlt) ?_ | fail
          conv => whnf
          repeat (first | (refine brT rfl ?_; conv => whnf) | (refine Exists.intro _ (And.intro rfl ?_); conv => whnf) | fail)
          first | skip
          repeat (fail)
          refine ok1_callP [0, 1, 4] (h49) rfl rfl ⟨⟨rfl, by first | rfl | fail⟩, by (repeat' (first | exact trivial | refine And.intro ?_ ?_)) <;> first | exact ren_eq (by first | (simp; done) | fail) (by first | rfl | fail), by first | simp [plainH], ?_⟩
          conv => whnf
          repeat (fail)
          refine ok1_callP [4] (h57) rfl rfl ⟨⟨rfl, by first | rfl | fail⟩, by (repeat' (first | exact trivial | refine And.intro ?_ ?_)) <;> first | exact ren_eq (by first | (simp; done) | fail) (by first | rfl | fail), by first | simp [plainH], ?_⟩
          conv => whnf
          repeat (first | (refine Exists.intro _ (And.intro (sload_u8 (i := 0) (by first | rfl | fail) (by first | omega | fail)) ?_); conv => whnf) | (refine Exists.intro _ (And.intro (idx_i (m := 0) (by first | rfl | fail)) ?_); conv => whnf) | (refine Exists.intro _ (And.intro rfl ?_); conv => whnf) | (refine And.intro (by first | omega | fail) ?_; conv => whnf) | (refine And.intro ⟨Nat.le_of_ble_eq_true rfl, Nat.le_of_ble_eq_true rfl, Nat.le_of_ble_eq_true rfl⟩ ?_; conv => whnf) | (refine And.intro (by kernel_rfl) ?_; conv => whnf) | fail)
          refine ⟨⟨0 + 1, by omega⟩, by simp only; omega, ?_⟩
          refine Weak.sel [0, 1, 2, 3, 8, 10, 7] rfl rfl ?_ ?_ rfl rfl
          · (repeat' (first | exact trivial | refine And.intro ?_ ?_ | fail)) <;> first | rfl | fail
          · (repeat' (first | exact trivial | exact ren_eq (plainL_u8 _) happ.symm | refine And.intro ?_ ?_ | fail)) <;> first | exact ren_m8 (by first | exact hk2 | fail) | rfl | exact ren_eq (by first | (simp; done) | fail) (by first | rfl | fail) | fail
        · skip
          have hk1 : ((i + 1) + 15) / 16 = (i + 1) / 16 := by omega
          have hk2 : ctrN c (((i + 1) + 1 + 15) / 16) = nextC (ctrN c ((i + 1) / 16)) := by rw [show ((i + 1) + 1 + 15) / 16 = (i + 1) / 16 + 1 by omega, ctrN_s]
          have h49 := f49 fb fw false w (ctrN c ((i + 1) / 16)) R hw hR1 hR2 (ctrN_len hc _)
          have h57 := f57 false (ctrN c ((i + 1) / 16)) (ctrN_len hc _)
          have hkl := ksB_len (w := w) (R := R) hc ((i + 1) / 16)
          rw [ksB_eq] at h49
          rw [hk1]
          have hs : (List.range ((i + 1) + 1)).map (trn w R c b) = (List.range (i + 1)).map (trn w R c b) ++ [trn w R c b (i + 1)] := rng_succ
          have happ : List.take ((i + 1) * 1) (List.drop 0 (((List.range (i + 1)).map (trn w R c b)).map SV.u8)) ++ List.take (1 * 1) (List.drop 0 [SV.u8 (b.getD (i + 1) 0 ^^^ (ksB w R c ((i + 1) / 16)).getD ((i + 1) % 16) 0)]) = ((List.range ((i + 1) + 1)).map (trn w R c b)).map SV.u8 := by rw [app1 rng_len, hs]; rfl
          conv => whnf
          first | refine brT (by exact hlt) ?_ | fail
          conv => whnf
          repeat (first | (refine Exists.intro _ (And.intro rfl ?_); conv => whnf) | fail)
          first | (refine brT (by exact hm) ?_; conv => whnf) | fail
          repeat (fail)
          refine ok1_callP [0, 1, 4] (h49) rfl rfl ⟨⟨rfl, by first | rfl | fail⟩, by (repeat' (first | exact trivial | refine And.intro ?_ ?_)) <;> first | exact ren_eq (by first | (simp; done) | fail) (by first | rfl | fail), by first | simp [plainH], ?_⟩
          conv => whnf
          repeat (fail)
          refine ok1_callP [4] (h57) rfl rfl ⟨⟨rfl, by first | rfl | fail⟩, by (repeat' (first | exact trivial | refine And.intro ?_ ?_)) <;> first | exact ren_eq (by first | (simp; done) | fail) (by first | rfl | fail), by first | simp [plainH], ?_⟩
          conv => whnf
          repeat (first | (refine Exists.intro _ (And.intro (sload_u8 (i := (i + 1)) (by first | rfl | omega | fail) (by first | omega | fail)) ?_); conv => whnf) | (refine Exists.intro _ (And.intro (idx_i (m := (i + 1)) (by first | rfl | fail)) ?_); conv => whnf) | (refine Exists.intro _ (And.intro (sload_u8 (i := (i + 1) % 16) (by first | rfl | omega | fail) (by first | omega | fail)) ?_); conv => whnf) | (refine Exists.intro _ (And.intro (idx_i (m := (i + 1) % 16) (by first | rfl | fail)) ?_); conv => whnf) | (refine Exists.intro _ (And.intro rfl ?_); conv => whnf) | (refine And.intro (by first | omega | (simp [ti5]; omega)) ?_; conv => whnf) | (refine And.intro (by kernel_rfl) ?_; conv => whnf) | fail)
          refine ⟨⟨(i + 1) + 1, by omega⟩, by simp only; omega, ?_⟩
          refine Weak.sel [0, 1, 2, 3, 8, 10, 7] rfl rfl ?_ ?_ rfl rfl
          · (repeat' (first | exact trivial | refine And.intro ?_ ?_ | fail)) <;> first | rfl | exact wk_i (by first | exact hp1.symm | fail) | fail
          · (repeat' (first | exact trivial | exact ren_eq (plainL_u8 _) happ.symm | refine And.intro ?_ ?_ | fail)) <;> first | exact ren_m8 (by first | exact hk2 | fail) | rfl | exact ren_eq (by first | (simp; done) | fail) (by first | rfl | fail) | fail
      · have hm : ((i : Int).tmod 16 == 0) = false := by rw [htm]; simp; omega
        rcases i with _ | i
        · exact absurd rfl h0
        · have hk3 : ctrN c ((i + 1 + 1 + 15) / 16) = ctrN c ((i + 1 + 15) / 16) := by rw [show (i + 1 + 1 + 15) / 16 = (i + 1 + 15) / 16 by omega]
          have hk4 : ksB w R c ((i + 1) / 16) = ksB w R c (i / 16) := by rw [show (i + 1) / 16 = i / 16 by omega]
          have hkl := ksB_len (w := w) (R := R) hc (i / 16)
          have hs : (List.range (i + 1 + 1)).map (trn w R c b) = (List.range (i + 1)).map (trn w R c b) ++ [trn w R c b (i + 1)] := rng_succ
          have happ : List.take ((i + 1) * 1) (List.drop 0 (((List.range (i + 1)).map (trn w R c b)).map SV.u8)) ++ List.take (1 * 1) (List.drop 0 [SV.u8 (b.getD (i + 1) 0 ^^^ (ksB w R c (i / 16)).getD ((i + 1) % 16) 0)]) = ((List.range (i + 1 + 1)).map (trn w R c b)).map SV.u8 := by rw [app1 rng_len, hs, ← hk4]; rfl
          conv => whnf
          first | refine brT (by exact hlt) ?_ | fail
          conv => whnf
          repeat (first | (refine Exists.intro _ (And.intro rfl ?_); conv => whnf) | fail)
          first | refine brF (by exact hm) ?_ | fail
          conv => whnf
          repeat (first | (refine Exists.intro _ (And.intro (sload_u8 (i := i + 1) (by first | rfl | omega | fail) (by first | omega | fail)) ?_); conv => whnf) | (refine Exists.intro _ (And.intro (idx_i (m := i + 1) (by first | rfl | fail)) ?_); conv => whnf) | (refine Exists.intro _ (And.intro (sload_u8 (i := (i + 1) % 16) (by first | rfl | omega | fail) (by first | omega | fail)) ?_); conv => whnf) | (refine Exists.intro _ (And.intro (idx_i (m := (i + 1) % 16) (by first | rfl | fail)) ?_); conv => whnf) | (refine Exists.intro _ (And.intro rfl ?_); conv => whnf) | (refine And.intro (by first | omega | (simp [ti5]; omega)) ?_; conv => whnf) | (refine And.intro (by kernel_rfl) ?_; conv => whnf) | fail)
          refine ⟨⟨i + 1 + 1, by omega⟩, by simp only; omega, ?_⟩
          refine Weak.sel [0, 1, 2, 3, 4, 8, 6] rfl rfl ?_ ?_ rfl rfl
          · (repeat' (first | exact trivial | refine And.intro ?_ ?_ | fail)) <;> first | rfl | exact wk_i (by first | exact hp1.symm | fail) | fail
          · (repeat' (first | exact trivial | exact ren_eq (plainL_u8 _) happ.symm | refine And.intro ?_ ?_ | fail)) <;> first | exact ren_m8 (by first | exact hk3 | exact hk4 | fail) | rfl | exact ren_eq (by first | (simp; done) | fail) (by first | rfl | fail) | fail
    · obtain rfl : i = b.length := by omega
      have hlt : decide ((b.length : Int) < (b.length : Int)) = false := by simp
      conv => whnf
      first | refine brF (by exact hlt) ?_ | fail
      conv => whnf
      repeat (fail)
      refine ⟨[0, 1, 2, 3, 5], ?_, rfl, rfl, ?_, rfl⟩
      · (repeat' (fail)) <;> first | rfl | fail
      · (repeat' (first | exact trivial | refine And.intro ?_ ?_ | fail)) <;> first | rfl | exact ren_eq (by first | (simp; done) | fail) (by first | rfl | fail) | fail
end Go.Sh
