/- aes.New, walked. -/
import Derived.Test.YtaknbogocnkmnaaE4a
namespace Go.Sh
open Go.Proofs
set_option maxHeartbeats 8000000
set_option linter.unusedSimpArgs false

@[simp] theorem cells_sl (i o n z : Nat) (f : Bool) : (SV.sl i o n z f).cells = [.sl i o n z f] := rfl
@[simp] theorem cells_p (i o : Nat) : (SV.p i o).cells = [.p i o] := rfl
@[simp] theorem cells_slnil : SV.slnil.cells = [.slnil] := rfl

def xor4 : List UInt8 → List UInt8 → List UInt8
  | [a, b, c, d], [a2, b2, c2, d2] => [a ^^^ a2, b ^^^ b2, c ^^^ c2, d ^^^ d2]
  | _, _ => []
def colN (w : List UInt8) (i : Nat) : List UInt8 := [w.getD (4 * i) 0, w.getD (4 * i + 1) 0, w.getD (4 * i + 2) 0, w.getD (4 * i + 3) 0]
def pwN : Nat → UInt8
  | 0 => 1
  | k + 1 => dbl (pwN k)
def subC : List UInt8 → List UInt8
  | [a, b, c, d] => [sb a, sb b, sb c, sb d]
  | l => l
def rotC (p : UInt8) : List UInt8 → List UInt8
  | [a, b, c, d] => [sb b ^^^ p, sb c, sb d, sb a]
  | l => l
/-- A key's next column. -/
def kcol (key : List UInt8) (n i : Nat) (w : List UInt8) : List UInt8 :=
  if i < n then colN key i
  else xor4 (if i % n = 0 then rotC (pwN ((i - 1) / n)) (colN w (i - 1)) else if n = 8 ∧ i % n = 4 then subC (colN w (i - 1)) else colN w (i - 1)) (colN w (i - n))
def wSt (key : List UInt8) (n : Nat) : Nat → List UInt8
  | 0 => []
  | i + 1 => wSt key n i ++ kcol key n i (wSt key n i)

theorem kcol_len (key : List UInt8) (n i : Nat) (w : List UInt8) : (kcol key n i w).length = 4 := by
  unfold kcol
  split
  · rfl
  · split
    · rfl
    · split <;> rfl
theorem wSt_len (key : List UInt8) (n : Nat) : ∀ i, (wSt key n i).length = 4 * i
  | 0 => rfl
  | i + 1 => by simp only [wSt, List.length_append, kcol_len, wSt_len key n i]; omega

def cH (key : List UInt8) (n : Nat) : Nat → HL
  | 0 => [some (.ro (key.map .u8)), some (.box (sbx.map .u8 ++ [.slnil]))]
  | i + 1 => [some (.ro (key.map .u8)), some (.box (sbx.map .u8 ++ [.sl 2 0 (i + 1) 4 false])), some (.row 137 ((wSt key n (i + 1)).map .u8))]
def cL : Nat → Nat
  | 0 => 2
  | _ + 1 => 3

theorem sfill_ci : sfill (fun i => (List.map (fun f : Nat × Nat × Nat => (f.fst, f.snd.snd)) [(0, 128, 256), (256, 133, 1)])[i]?) (SV.agg (List.replicate 256 (SV.u8 0) ++ [SV.slnil])).cells [(0, SV.agg (List.map SV.u8 sbx))] = some (sbx.map .u8 ++ [.slnil]) := by
  have hl := sbx_len
  have hr : (List.replicate 256 (SV.u8 0)).length = 256 := List.length_replicate
  show (if (SV.agg (List.map SV.u8 sbx)).isTup = false ∧ (SV.agg (List.map SV.u8 sbx)).cells.length = 256 ∧ 0 + 256 ≤ (List.replicate 256 (SV.u8 0) ++ [SV.slnil]).length then some (sput (List.replicate 256 (SV.u8 0) ++ [SV.slnil]) 0 (.agg (sbx.map .u8))) else none) = _
  rw [if_pos ⟨rfl, by show (List.map SV.u8 sbx).length = 256; rw [List.length_map, hl], by rw [List.length_append, hr]; decide⟩]
  show some ((List.replicate 256 (SV.u8 0) ++ [SV.slnil]).take 0 ++ sbx.map .u8 ++ (List.replicate 256 (SV.u8 0) ++ [SV.slnil]).drop (0 + (sbx.map SV.u8).length)) = _
  rw [List.take_zero, List.nil_append, List.length_map, hl, List.drop_append_of_le_length (by rw [hr]; decide), List.drop_of_length_le (by rw [hr]; decide)]
  rfl

theorem w64_p1 (n : Nat) (h : n ≤ 1000) : w64 ((n : Int) + 1) = ((n + 1 : Nat) : Int) := by simp only [w64_eq]; omega
theorem w64_m1 (n : Nat) (h : n ≤ 1000) : w64 (((n + 1 : Nat) : Int) - 1) = (n : Int) := by simp only [w64_eq]; omega
theorem w64_sub (n k : Nat) (h : n ≤ 1000) (hk : k ≤ n) : w64 ((n : Int) - (k : Int)) = ((n - k : Nat) : Int) := by simp only [w64_eq]; omega
theorem w64_4 (n : Nat) (h : n ≤ 1000) : w64 (4 * (n : Int)) = ((4 * n : Nat) : Int) := by simp only [w64_eq]; omega
theorem w64_44 (n : Nat) (h : n ≤ 1000) : w64 (w64 (4 * (n : Int)) + 4) = ((4 * n + 4 : Nat) : Int) := by simp only [w64_eq]; omega
theorem tmod_n (n k : Nat) : ((n : Int)).tmod (k : Int) = ((n % k : Nat) : Int) := by rw [Int.tmod_eq_emod_of_nonneg (by omega)]; omega

theorem kcol_rot {key : List UInt8} {n i : Nat} (h : ¬ i + 1 < n) (hz : (i + 1) % n = 0) : (wSt key n (i + 1 + 1)).map SV.u8 = (wSt key n (i + 1)).map .u8 ++ [.u8 (sb ((wSt key n (i + 1)).getD (4 * i + 1) 0) ^^^ pwN ((i + 1 - 1) / n) ^^^ (wSt key n (i + 1)).getD (4 * (i + 1 - n)) 0), .u8 (sb ((wSt key n (i + 1)).getD (4 * i + 2) 0) ^^^ (wSt key n (i + 1)).getD (4 * (i + 1 - n) + 1) 0), .u8 (sb ((wSt key n (i + 1)).getD (4 * i + 3) 0) ^^^ (wSt key n (i + 1)).getD (4 * (i + 1 - n) + 2) 0), .u8 (sb ((wSt key n (i + 1)).getD (4 * i) 0) ^^^ (wSt key n (i + 1)).getD (4 * (i + 1 - n) + 3) 0)] := by
  show (wSt key n (i + 1) ++ kcol key n (i + 1) (wSt key n (i + 1))).map SV.u8 = _
  unfold kcol
  rw [if_neg h, if_pos hz, List.map_append]
  rfl
theorem kcol_sub {key : List UInt8} {n i : Nat} (h : ¬ i + 1 < n) (hz : (i + 1) % n ≠ 0) (h8 : n = 8 ∧ (i + 1) % n = 4) : (wSt key n (i + 1 + 1)).map SV.u8 = (wSt key n (i + 1)).map .u8 ++ [.u8 (sb ((wSt key n (i + 1)).getD (4 * i) 0) ^^^ (wSt key n (i + 1)).getD (4 * (i + 1 - n)) 0), .u8 (sb ((wSt key n (i + 1)).getD (4 * i + 1) 0) ^^^ (wSt key n (i + 1)).getD (4 * (i + 1 - n) + 1) 0), .u8 (sb ((wSt key n (i + 1)).getD (4 * i + 2) 0) ^^^ (wSt key n (i + 1)).getD (4 * (i + 1 - n) + 2) 0), .u8 (sb ((wSt key n (i + 1)).getD (4 * i + 3) 0) ^^^ (wSt key n (i + 1)).getD (4 * (i + 1 - n) + 3) 0)] := by
  show (wSt key n (i + 1) ++ kcol key n (i + 1) (wSt key n (i + 1))).map SV.u8 = _
  unfold kcol
  rw [if_neg h, if_neg hz, if_pos h8, List.map_append]
  rfl
theorem kcol_xor {key : List UInt8} {n i : Nat} (h : ¬ i + 1 < n) (hz : (i + 1) % n ≠ 0) (h8 : ¬ (n = 8 ∧ (i + 1) % n = 4)) : (wSt key n (i + 1 + 1)).map SV.u8 = (wSt key n (i + 1)).map .u8 ++ [.u8 ((wSt key n (i + 1)).getD (4 * i) 0 ^^^ (wSt key n (i + 1)).getD (4 * (i + 1 - n)) 0), .u8 ((wSt key n (i + 1)).getD (4 * i + 1) 0 ^^^ (wSt key n (i + 1)).getD (4 * (i + 1 - n) + 1) 0), .u8 ((wSt key n (i + 1)).getD (4 * i + 2) 0 ^^^ (wSt key n (i + 1)).getD (4 * (i + 1 - n) + 2) 0), .u8 ((wSt key n (i + 1)).getD (4 * i + 3) 0 ^^^ (wSt key n (i + 1)).getD (4 * (i + 1 - n) + 3) 0)] := by
  show (wSt key n (i + 1) ++ kcol key n (i + 1) (wSt key n (i + 1))).map SV.u8 = _
  unfold kcol
  rw [if_neg h, if_neg hz, if_neg h8, List.map_append]
  rfl

theorem ren_colapp {sel : List Nat} {w : List UInt8} {X : List SV} {k : Nat} {a b c d : UInt8} (hk : w.length = k * 4) (hX : X = w.map .u8 ++ [.u8 a, .u8 b, .u8 c, .u8 d]) : renL sel X = some (List.take (k * 4) (List.drop 0 (w.map .u8)) ++ [SV.u8 a, .u8 b, .u8 c, .u8 d]) := by
  subst hX
  rw [List.drop_zero, List.take_of_length_le (by simp; omega)]
  exact ren_app (plainL_u8 _) rfl

theorem wSt_z (key : List UInt8) (n : Nat) : wSt key n 0 = [] := rfl
theorem wSt_s (key : List UInt8) (n i : Nat) : wSt key n (i + 1) = wSt key n i ++ kcol key n i (wSt key n i) := rfl
attribute [irreducible] wSt

theorem f45n (fl : Bool) (key : List UInt8) (h1 : key.length ≠ 16) (h2 : key.length ≠ 32) : SCall Try.prog 45 [.sl 0 0 key.length 1 fl] [some (.ro (key.map .u8))] (.tup [.pnil, .i 2]) [some (.ro (key.map .u8))] := by
  have g1 : ((key.length : Int) != 16) = true := by simp; omega
  have g2 : ((key.length : Int) != 32) = true := by simp; omega
  refine scall_of ttOk (by kernel_rfl : Try.prog.funcs[45]? = some Try.f45) rfl rfl rfl ?_
  refine sw_ok ttOk mixed (by kernel_rfl) ?_
  conv => whnf
  repeat (first | (refine gdT g1 ?_; conv => whnf) | (refine pkT g1 ?_; conv => whnf) | (refine gdT g2 ?_; conv => whnf) | (refine Exists.intro _ (And.intro rfl ?_); conv => whnf) | fail)
  refine ⟨[0], ?_, rfl, rfl, ?_, rfl⟩
  · (repeat' (first | (refine wk_tup ?_) | (refine wk_cons ?_ ?_))) <;> first | rfl | fail
  · (repeat' (first | exact trivial | refine And.intro ?_ ?_ | fail)) <;> first | exact ren_eq (by first | (simp; done) | fail) (by first | rfl | fail) | fail

theorem f45_4 (fl : Bool) (key : List UInt8) (hk : key.length = 16) : SCall Try.prog 45 [.sl 0 0 16 1 fl] [some (.ro (key.map .u8))] (.tup [.p 1 0, .i 0]) [some (.ro (key.map .u8)), some (.box (sbx.map .u8 ++ [.sl 2 0 44 4 false])), some (.row 137 ((wSt key 4 44).map .u8))] := by
  have hl := sbx_len
  refine scall_of ttOk (by kernel_rfl : Try.prog.funcs[45]? = some Try.f45) rfl rfl rfl ?_
  refine sw_ok ttOk mixed (by kernel_rfl) ?_
  conv => whnf
  repeat (first | (refine brF rfl ?_; conv => whnf) | (refine Exists.intro _ (And.intro rfl ?_); conv => whnf) | fail)
  refine ok1_callF [] [true, true, true, true, true, true, true, true, true, true, true, true] true (f80) rfl rfl ⟨⟨rfl, by first | rfl | fail⟩, trivial, by first | rfl | fail, by first | simp [plainRf, plainR, plainT, plainW], ?_⟩
  conv => whnf
  repeat (fail)
  refine Exists.intro _ (And.intro sfill_ci ?_)
  conv => whnf
  repeat (fail)
  refine loop_rule ttOk mixed (by kernel_rfl) (ι := { i : Nat // i ≤ 44 }) (fun i => [(0, .sl 0 0 16 1 fl), (4, .i 4), (5, .p 1 0), (6, .u8 (pwN ((i.1 - 1) / 4))), (25, .i 44), (26, .i (i.1 : Int))]) (fun i => cH key 4 i.1) (fun i => cL i.1) (fun i => 44 - i.1) ⟨0, by omega⟩ ?_ ?_
  · refine Weak.sel [0, 1] rfl rfl ?_ ?_ rfl rfl
    · (repeat' (first | exact trivial | refine And.intro ?_ ?_ | fail)) <;> first | rfl | exact wk_u8 (by first | (simp [pwN]; done) | fail) | fail
    · (repeat' (first | exact trivial | refine And.intro ?_ ?_ | fail)) <;> first | exact ren_eq (by first | (simp; done) | fail) (by first | rfl | fail) | exact ren_app2 (by first | (simp; done) | fail) (by first | rfl | fail) rfl | fail
  · rintro ⟨i, hi⟩
    have hwl := wSt_len key 4 i
    rcases i with _ | i
    · dsimp only [cH, cL]
      conv => whnf
      repeat (first | (refine brT rfl ?_; conv => whnf) | (refine Exists.intro _ (And.intro (sload_end (by first | rfl | (simp [hl]; done) | fail)) ?_); conv => whnf) | (refine Exists.intro _ (And.intro (sput_end (by first | rfl | (simp [hl]; done) | fail) rfl) ?_); conv => whnf) | (refine Exists.intro _ (And.intro (evb_i (m := 0) rfl (by first | rfl | fail)) ?_); conv => whnf) | (refine Exists.intro _ (And.intro (evb_i (m := 4) rfl (by first | rfl | fail)) ?_); conv => whnf) | (refine Exists.intro _ (And.intro (sload_col (i := 0) (by first | rfl | fail) (by first | omega | fail)) ?_); conv => whnf) | (refine Exists.intro _ (And.intro rfl ?_); conv => whnf) | (refine And.intro (by first | omega | (simp; omega) | fail) ?_; conv => whnf) | (refine And.intro ⟨Nat.le_of_ble_eq_true rfl, Nat.le_of_ble_eq_true rfl⟩ ?_; conv => whnf) | (refine And.intro (by kernel_rfl) ?_; conv => whnf) | fail)
      have hone : wSt key 4 (0 + 1) = colN key 0 := by rw [wSt_s, wSt_z]; unfold kcol; rw [if_pos (by decide)]; rfl
      refine ⟨⟨1, by omega⟩, by simp, ?_⟩
      refine Weak.sel [0, 1, 3] rfl rfl ?_ ?_ rfl rfl
      · (repeat' (first | exact trivial | refine And.intro ?_ ?_ | fail)) <;> first | rfl | fail
      · (repeat' (first | exact trivial | refine And.intro ?_ ?_ | fail)) <;> first | rfl | exact ren_eq (by first | (simp; done) | fail) (by first | rfl | fail) | exact ren_app2 (by first | (simp; done) | fail) (by first | rfl | fail) rfl | exact (by rw [hone]; rfl) | fail
    · dsimp only [cH, cL]
      conv => whnf
      refine ⟨fun hc => ?_, fun hc => ?_⟩
      · have hi2 : i + 1 < 44 := by simp at hc; omega
        have hp1 := w64_p1 (i + 1) (by omega)
        have hm1 := w64_m1 i (by omega)
        have h4 := w64_4 (i + 1) (by omega)
        have h44 := w64_44 (i + 1) (by omega)
        by_cases hin : i + 1 < 4
        · have hlt : decide (((i + 1 : Nat) : Int) < 4) = true := by simp; omega
          conv => whnf
          repeat (first | (refine Exists.intro _ (And.intro (sload_end (by first | rfl | (simp [hl, hwl]; done) | fail)) ?_); conv => whnf) | (refine Exists.intro _ (And.intro (sput_end (by first | rfl | (simp [hl, hwl]; done) | fail) rfl) ?_); conv => whnf) | (refine Exists.intro _ (And.intro (idx_i (m := 4 * (i + 1)) (by first | rfl | omega | fail)) ?_); conv => whnf) | (refine Exists.intro _ (And.intro (idx_i (m := 4 * (i + 1) + 4) (by first | rfl | omega | fail)) ?_); conv => whnf) | (refine Exists.intro _ (And.intro (sload_col (i := 4 * (i + 1)) (by first | rfl | omega | fail) (by first | omega | fail)) ?_); conv => whnf) | (refine gdT hlt ?_; conv => whnf) | (refine Exists.intro _ (And.intro rfl ?_); conv => whnf) | (refine And.intro (by first | omega | (simp; omega) | fail) ?_; conv => whnf) | (refine And.intro (by kernel_rfl) ?_; conv => whnf) | (refine And.intro ⟨by first | (simp [hl, hwl]; omega) | fail, by first | exact Nat.le_of_ble_eq_true rfl | fail, by first | (show _ * 4 ≤ _; omega) | fail⟩ ?_; conv => whnf) | fail)
          have hcol : (wSt key 4 (i + 1 + 1)).map SV.u8 = (wSt key 4 (i + 1)).map SV.u8 ++ [.u8 (key.getD (4 * (i + 1)) 0), .u8 (key.getD (4 * (i + 1) + 1) 0), .u8 (key.getD (4 * (i + 1) + 2) 0), .u8 (key.getD (4 * (i + 1) + 3) 0)] := by
            rw [wSt_s key 4 (i + 1)]
            unfold kcol; rw [if_pos hin]; simp [colN]
          have hpw : pwN ((i + 1 + 1 - 1) / 4) = pwN ((i + 1 - 1) / 4) := by
            rw [show (i + 1 + 1 - 1) / 4 = (i + 1 - 1) / 4 from by omega]
          have htk : List.take ((i + 1) * 4) ((wSt key 4 (i + 1)).map SV.u8) = (wSt key 4 (i + 1)).map SV.u8 := by
            rw [List.take_of_length_le]; simp; omega
          refine ⟨⟨i + 1 + 1, by omega⟩, by simp only; omega, ?_⟩
          refine Weak.sel [0, 1, 4] rfl rfl ?_ ?_ rfl rfl
          · (repeat' (first | exact trivial | refine And.intro ?_ ?_ | fail)) <;> first | rfl | exact wk_i (by first | rfl | exact hp1.symm | fail) | exact wk_u8 (by first | exact hpw | fail) | fail
          · (repeat' (first | exact trivial | refine And.intro ?_ ?_ | fail)) <;> first | rfl | exact ren_eq (by first | (simp; done) | fail) (by first | rfl | fail) | exact ren_app2 (by first | (simp; done) | fail) (by first | rfl | fail) rfl | exact ren_colapp (by omega) hcol | fail
        · have hlt : decide (((i + 1 : Nat) : Int) < 4) = false := by simp; omega
          conv => whnf
          repeat (first | (refine Exists.intro _ (And.intro (sput_all rfl (by first | rfl | fail)) ?_); conv => whnf) | (refine Exists.intro _ (And.intro (sload_end (by first | rfl | (simp [hl, hwl]; done) | fail)) ?_); conv => whnf) | (refine Exists.intro _ (And.intro (idx_i (m := i) (by first | rfl | omega | fail)) ?_); conv => whnf) | (refine Exists.intro _ (And.intro (sload_col (i := 4 * i) (by first | rfl | omega | fail) (by first | omega | fail)) ?_); conv => whnf) | (refine gdF hlt ?_; conv => whnf) | (refine Exists.intro _ (And.intro rfl ?_); conv => whnf) | (refine And.intro (by first | omega | (simp; done) | fail) ?_; conv => whnf) | fail)
          have hf84 := fun a b c d => f84 a b c d (i + 1) false (wSt key 4 (i + 1))
          unfold ciB ciW at hf84
          have hs : w64 (((i + 1 : Nat) : Int) - 4) = ((i + 1 - 4 : Nat) : Int) := w64_sub (i + 1) 4 (by omega) (by omega)
          have htm : (((i + 1 : Nat) : Int)).tmod 4 = (((i + 1) % 4 : Nat) : Int) := tmod_n (i + 1) 4
          by_cases hz : (i + 1) % 4 = 0
          · have hm : ((((i + 1 : Nat) : Int)).tmod 4 == 0) = true := by rw [htm, hz]; rfl
            refine brT hm ?_
            conv => whnf
            repeat (first | (refine Exists.intro _ (And.intro (idx_i (m := 1) (by first | rfl | fail)) ?_); conv => whnf) | (refine Exists.intro _ (And.intro (idx_i (m := 2) (by first | rfl | fail)) ?_); conv => whnf) | (refine Exists.intro _ (And.intro (idx_i (m := 3) (by first | rfl | fail)) ?_); conv => whnf) | (refine Exists.intro _ (And.intro (idx_i (m := 0) (by first | rfl | fail)) ?_); conv => whnf) | (refine Exists.intro _ (And.intro rfl ?_); conv => whnf) | (refine And.intro (by first | omega | fail) ?_; conv => whnf) | fail)
            refine ok1_callF [1, 2] [false, false] true (hf84 _ _ _ _) rfl rfl ⟨⟨rfl, by first | rfl | fail⟩, by (repeat' (first | exact trivial | refine And.intro ?_ ?_)) <;> first | exact ren_eq (by first | (simp; done) | fail) (by first | rfl | fail) | exact ren_app2 (by first | (simp; done) | fail) (by first | rfl | fail) (by first | rfl | fail), by first | rfl | fail, by first | rfl | fail, ?_⟩
            conv => whnf
            repeat (first | (refine Exists.intro _ (And.intro (sput_all rfl (by first | rfl | fail)) ?_); conv => whnf) | (refine Exists.intro _ (And.intro (idx_i (m := 0) (by first | rfl | fail)) ?_); conv => whnf) | (refine Exists.intro _ (And.intro rfl ?_); conv => whnf) | (refine And.intro (by first | omega | (simp; done) | fail) ?_; conv => whnf) | fail)
            refine ok1_callP [] (f85 (pwN ((i + 1 - 1) / 4))) rfl rfl ⟨⟨rfl, by first | rfl | fail⟩, trivial, by first | rfl | fail, ?_⟩
            conv => whnf
            repeat (first | (refine Exists.intro _ (And.intro (sload_all rfl (by first | rfl | fail)) ?_); conv => whnf) | (refine Exists.intro _ (And.intro (sload_end (by first | rfl | (simp [hl, hwl]; done) | fail)) ?_); conv => whnf) | (refine Exists.intro _ (And.intro (idx_i (m := i + 1 - 4) (by first | rfl | omega | fail)) ?_); conv => whnf) | (refine Exists.intro _ (And.intro (sload_col (i := 4 * (i + 1 - 4)) (by first | rfl | omega | fail) (by first | omega | fail)) ?_); conv => whnf) | (refine And.intro (by first | omega | fail) ?_; conv => whnf) | fail)
            refine ok1_callP [] (f86 _ _ _ _ _ _ _ _) rfl rfl ⟨⟨rfl, by first | rfl | fail⟩, trivial, by first | rfl | fail, ?_⟩
            conv => whnf
            repeat (first | (refine Exists.intro _ (And.intro (sput_end (by first | rfl | (simp [hl, hwl]; done) | fail) rfl) ?_); conv => whnf) | (refine Exists.intro _ (And.intro rfl ?_); conv => whnf) | (refine And.intro (by first | omega | (simp; omega) | fail) ?_; conv => whnf) | (refine And.intro (by kernel_rfl) ?_; conv => whnf) | (refine And.intro ⟨by first | (simp [hl, hwl]; omega) | fail, by first | exact Nat.le_of_ble_eq_true rfl | fail, by first | (show _ * 4 ≤ _; omega) | fail⟩ ?_; conv => whnf) | fail)
            have hpw : pwN ((i + 1 + 1 - 1) / 4) = dbl (pwN ((i + 1 - 1) / 4)) := by
              rw [show (i + 1 + 1 - 1) / 4 = (i + 1 - 1) / 4 + 1 from by omega]; rfl
            refine ⟨⟨i + 1 + 1, by omega⟩, by simp only; omega, ?_⟩
            refine Weak.sel [0, 1, 5] rfl rfl ?_ ?_ rfl rfl
            · (repeat' (first | exact trivial | refine And.intro ?_ ?_ | fail)) <;> first | rfl | exact wk_i (by first | rfl | exact hp1.symm | fail) | exact wk_u8 (by first | exact hpw | fail) | fail
            · (repeat' (first | exact trivial | refine And.intro ?_ ?_ | fail)) <;> first | rfl | exact ren_eq (by first | (simp; done) | fail) (by first | rfl | fail) | exact ren_app2 (by first | (simp; done) | fail) (by first | rfl | fail) rfl | exact ren_colapp (by omega) (kcol_rot hin hz) | fail
          · have hm : ((((i + 1 : Nat) : Int)).tmod 4 == 0) = false := by rw [htm]; simp; omega
            refine brF hm ?_
            have hpw : pwN ((i + 1 + 1 - 1) / 4) = pwN ((i + 1 - 1) / 4) := by
              rw [show (i + 1 + 1 - 1) / 4 = (i + 1 - 1) / 4 from by omega]
            by_cases h8 : 4 = 8 ∧ (i + 1) % 4 = 4
            · skip
              exact absurd h8.1 (by decide)
            · skip
              conv => whnf
              repeat (first | (refine brF rfl ?_; conv => whnf) | (refine Exists.intro _ (And.intro (sload_all rfl (by first | rfl | fail)) ?_); conv => whnf) | (refine Exists.intro _ (And.intro (sload_end (by first | rfl | (simp [hl, hwl]; done) | fail)) ?_); conv => whnf) | (refine Exists.intro _ (And.intro (idx_i (m := i + 1 - 4) (by first | rfl | omega | fail)) ?_); conv => whnf) | (refine Exists.intro _ (And.intro (sload_col (i := 4 * (i + 1 - 4)) (by first | rfl | omega | fail) (by first | omega | fail)) ?_); conv => whnf) | (refine Exists.intro _ (And.intro rfl ?_); conv => whnf) | (refine And.intro (by first | omega | fail) ?_; conv => whnf) | fail)
              refine ok1_callP [] (f86 _ _ _ _ _ _ _ _) rfl rfl ⟨⟨rfl, by first | rfl | fail⟩, trivial, by first | rfl | fail, ?_⟩
              conv => whnf
              repeat (first | (refine Exists.intro _ (And.intro (sput_end (by first | rfl | (simp [hl, hwl]; done) | fail) rfl) ?_); conv => whnf) | (refine Exists.intro _ (And.intro rfl ?_); conv => whnf) | (refine And.intro (by first | omega | (simp; omega) | fail) ?_; conv => whnf) | (refine And.intro (by kernel_rfl) ?_; conv => whnf) | (refine And.intro ⟨by first | (simp [hl, hwl]; omega) | fail, by first | exact Nat.le_of_ble_eq_true rfl | fail, by first | (show _ * 4 ≤ _; omega) | fail⟩ ?_; conv => whnf) | fail)
              refine ⟨⟨i + 1 + 1, by omega⟩, by simp only; omega, ?_⟩
              refine Weak.sel [0, 1, 5] rfl rfl ?_ ?_ rfl rfl
              · (repeat' (first | exact trivial | refine And.intro ?_ ?_ | fail)) <;> first | rfl | exact wk_i (by first | rfl | exact hp1.symm | fail) | exact wk_u8 (by first | exact hpw | fail) | fail
              · (repeat' (first | exact trivial | refine And.intro ?_ ?_ | fail)) <;> first | rfl | exact ren_eq (by first | (simp; done) | fail) (by first | rfl | fail) | exact ren_app2 (by first | (simp; done) | fail) (by first | rfl | fail) rfl | exact ren_colapp (by omega) (kcol_xor hin hz h8) | fail
      · obtain rfl : i = 44 - 1 := by simp at hc; omega
        conv => whnf
        refine ⟨[0, 1, 2], ?_, rfl, rfl, ?_, rfl⟩
        · (repeat' (first | (refine wk_tup ?_) | (refine wk_cons ?_ ?_))) <;> first | rfl | fail
        · (repeat' (first | exact trivial | refine And.intro ?_ ?_ | fail)) <;> first | rfl | exact ren_eq (by first | (simp; done) | fail) (by first | rfl | fail) | exact ren_app2 (by first | (simp; done) | fail) (by first | rfl | fail) rfl | fail
theorem f45_8 (fl : Bool) (key : List UInt8) (hk : key.length = 32) : SCall Try.prog 45 [.sl 0 0 32 1 fl] [some (.ro (key.map .u8))] (.tup [.p 1 0, .i 0]) [some (.ro (key.map .u8)), some (.box (sbx.map .u8 ++ [.sl 2 0 60 4 false])), some (.row 137 ((wSt key 8 60).map .u8))] := by
  have hl := sbx_len
  refine scall_of ttOk (by kernel_rfl : Try.prog.funcs[45]? = some Try.f45) rfl rfl rfl ?_
  refine sw_ok ttOk mixed (by kernel_rfl) ?_
  conv => whnf
  repeat (first | (refine brT rfl ?_; conv => whnf) | (refine brF rfl ?_; conv => whnf) | (refine Exists.intro _ (And.intro rfl ?_); conv => whnf) | fail)
  refine ok1_callF [] [true, true, true, true, true, true, true, true, true, true, true, true] true (f80) rfl rfl ⟨⟨rfl, by first | rfl | fail⟩, trivial, by first | rfl | fail, by first | simp [plainRf, plainR, plainT, plainW], ?_⟩
  conv => whnf
  repeat (fail)
  refine Exists.intro _ (And.intro sfill_ci ?_)
  conv => whnf
  repeat (fail)
  refine loop_rule ttOk mixed (by kernel_rfl) (ι := { i : Nat // i ≤ 60 }) (fun i => [(0, .sl 0 0 32 1 fl), (4, .i 8), (5, .p 1 0), (6, .u8 (pwN ((i.1 - 1) / 8))), (25, .i 60), (26, .i (i.1 : Int))]) (fun i => cH key 8 i.1) (fun i => cL i.1) (fun i => 60 - i.1) ⟨0, by omega⟩ ?_ ?_
  · refine Weak.sel [0, 1] rfl rfl ?_ ?_ rfl rfl
    · (repeat' (first | exact trivial | refine And.intro ?_ ?_ | fail)) <;> first | rfl | exact wk_u8 (by first | (simp [pwN]; done) | fail) | fail
    · (repeat' (first | exact trivial | refine And.intro ?_ ?_ | fail)) <;> first | exact ren_eq (by first | (simp; done) | fail) (by first | rfl | fail) | exact ren_app2 (by first | (simp; done) | fail) (by first | rfl | fail) rfl | fail
  · rintro ⟨i, hi⟩
    have hwl := wSt_len key 8 i
    rcases i with _ | i
    · dsimp only [cH, cL]
      conv => whnf
      repeat (first | (refine brT rfl ?_; conv => whnf) | (refine Exists.intro _ (And.intro (sload_end (by first | rfl | (simp [hl]; done) | fail)) ?_); conv => whnf) | (refine Exists.intro _ (And.intro (sput_end (by first | rfl | (simp [hl]; done) | fail) rfl) ?_); conv => whnf) | (refine Exists.intro _ (And.intro (evb_i (m := 0) rfl (by first | rfl | fail)) ?_); conv => whnf) | (refine Exists.intro _ (And.intro (evb_i (m := 4) rfl (by first | rfl | fail)) ?_); conv => whnf) | (refine Exists.intro _ (And.intro (sload_col (i := 0) (by first | rfl | fail) (by first | omega | fail)) ?_); conv => whnf) | (refine Exists.intro _ (And.intro rfl ?_); conv => whnf) | (refine And.intro (by first | omega | (simp; omega) | fail) ?_; conv => whnf) | (refine And.intro ⟨Nat.le_of_ble_eq_true rfl, Nat.le_of_ble_eq_true rfl⟩ ?_; conv => whnf) | (refine And.intro (by kernel_rfl) ?_; conv => whnf) | fail)
      have hone : wSt key 8 (0 + 1) = colN key 0 := by rw [wSt_s, wSt_z]; unfold kcol; rw [if_pos (by decide)]; rfl
      refine ⟨⟨1, by omega⟩, by simp, ?_⟩
      refine Weak.sel [0, 1, 3] rfl rfl ?_ ?_ rfl rfl
      · (repeat' (first | exact trivial | refine And.intro ?_ ?_ | fail)) <;> first | rfl | fail
      · (repeat' (first | exact trivial | refine And.intro ?_ ?_ | fail)) <;> first | rfl | exact ren_eq (by first | (simp; done) | fail) (by first | rfl | fail) | exact ren_app2 (by first | (simp; done) | fail) (by first | rfl | fail) rfl | exact (by rw [hone]; rfl) | fail
    · dsimp only [cH, cL]
      conv => whnf
      refine ⟨fun hc => ?_, fun hc => ?_⟩
      · have hi2 : i + 1 < 60 := by simp at hc; omega
        have hp1 := w64_p1 (i + 1) (by omega)
        have hm1 := w64_m1 i (by omega)
        have h4 := w64_4 (i + 1) (by omega)
        have h44 := w64_44 (i + 1) (by omega)
        by_cases hin : i + 1 < 8
        · have hlt : decide (((i + 1 : Nat) : Int) < 8) = true := by simp; omega
          conv => whnf
          repeat (first | (refine Exists.intro _ (And.intro (sload_end (by first | rfl | (simp [hl, hwl]; done) | fail)) ?_); conv => whnf) | (refine Exists.intro _ (And.intro (sput_end (by first | rfl | (simp [hl, hwl]; done) | fail) rfl) ?_); conv => whnf) | (refine Exists.intro _ (And.intro (idx_i (m := 4 * (i + 1)) (by first | rfl | omega | fail)) ?_); conv => whnf) | (refine Exists.intro _ (And.intro (idx_i (m := 4 * (i + 1) + 4) (by first | rfl | omega | fail)) ?_); conv => whnf) | (refine Exists.intro _ (And.intro (sload_col (i := 4 * (i + 1)) (by first | rfl | omega | fail) (by first | omega | fail)) ?_); conv => whnf) | (refine gdT hlt ?_; conv => whnf) | (refine Exists.intro _ (And.intro rfl ?_); conv => whnf) | (refine And.intro (by first | omega | (simp; omega) | fail) ?_; conv => whnf) | (refine And.intro (by kernel_rfl) ?_; conv => whnf) | (refine And.intro ⟨by first | (simp [hl, hwl]; omega) | fail, by first | exact Nat.le_of_ble_eq_true rfl | fail, by first | (show _ * 4 ≤ _; omega) | fail⟩ ?_; conv => whnf) | fail)
          have hcol : (wSt key 8 (i + 1 + 1)).map SV.u8 = (wSt key 8 (i + 1)).map SV.u8 ++ [.u8 (key.getD (4 * (i + 1)) 0), .u8 (key.getD (4 * (i + 1) + 1) 0), .u8 (key.getD (4 * (i + 1) + 2) 0), .u8 (key.getD (4 * (i + 1) + 3) 0)] := by
            rw [wSt_s key 8 (i + 1)]
            unfold kcol; rw [if_pos hin]; simp [colN]
          have hpw : pwN ((i + 1 + 1 - 1) / 8) = pwN ((i + 1 - 1) / 8) := by
            rw [show (i + 1 + 1 - 1) / 8 = (i + 1 - 1) / 8 from by omega]
          have htk : List.take ((i + 1) * 4) ((wSt key 8 (i + 1)).map SV.u8) = (wSt key 8 (i + 1)).map SV.u8 := by
            rw [List.take_of_length_le]; simp; omega
          refine ⟨⟨i + 1 + 1, by omega⟩, by simp only; omega, ?_⟩
          refine Weak.sel [0, 1, 4] rfl rfl ?_ ?_ rfl rfl
          · (repeat' (first | exact trivial | refine And.intro ?_ ?_ | fail)) <;> first | rfl | exact wk_i (by first | rfl | exact hp1.symm | fail) | exact wk_u8 (by first | exact hpw | fail) | fail
          · (repeat' (first | exact trivial | refine And.intro ?_ ?_ | fail)) <;> first | rfl | exact ren_eq (by first | (simp; done) | fail) (by first | rfl | fail) | exact ren_app2 (by first | (simp; done) | fail) (by first | rfl | fail) rfl | exact ren_colapp (by omega) hcol | fail
        · have hlt : decide (((i + 1 : Nat) : Int) < 8) = false := by simp; omega
          conv => whnf
          repeat (first | (refine Exists.intro _ (And.intro (sput_all rfl (by first | rfl | fail)) ?_); conv => whnf) | (refine Exists.intro _ (And.intro (sload_end (by first | rfl | (simp [hl, hwl]; done) | fail)) ?_); conv => whnf) | (refine Exists.intro _ (And.intro (idx_i (m := i) (by first | rfl | omega | fail)) ?_); conv => whnf) | (refine Exists.intro _ (And.intro (sload_col (i := 4 * i) (by first | rfl | omega | fail) (by first | omega | fail)) ?_); conv => whnf) | (refine gdF hlt ?_; conv => whnf) | (refine Exists.intro _ (And.intro rfl ?_); conv => whnf) | (refine And.intro (by first | omega | (simp; done) | fail) ?_; conv => whnf) | fail)
          have hf84 := fun a b c d => f84 a b c d (i + 1) false (wSt key 8 (i + 1))
          unfold ciB ciW at hf84
          have hs : w64 (((i + 1 : Nat) : Int) - 8) = ((i + 1 - 8 : Nat) : Int) := w64_sub (i + 1) 8 (by omega) (by omega)
          have htm : (((i + 1 : Nat) : Int)).tmod 8 = (((i + 1) % 8 : Nat) : Int) := tmod_n (i + 1) 8
          by_cases hz : (i + 1) % 8 = 0
          · have hm : ((((i + 1 : Nat) : Int)).tmod 8 == 0) = true := by rw [htm, hz]; rfl
            refine brT hm ?_
            conv => whnf
            repeat (first | (refine Exists.intro _ (And.intro (idx_i (m := 1) (by first | rfl | fail)) ?_); conv => whnf) | (refine Exists.intro _ (And.intro (idx_i (m := 2) (by first | rfl | fail)) ?_); conv => whnf) | (refine Exists.intro _ (And.intro (idx_i (m := 3) (by first | rfl | fail)) ?_); conv => whnf) | (refine Exists.intro _ (And.intro (idx_i (m := 0) (by first | rfl | fail)) ?_); conv => whnf) | (refine Exists.intro _ (And.intro rfl ?_); conv => whnf) | (refine And.intro (by first | omega | fail) ?_; conv => whnf) | fail)
            refine ok1_callF [1, 2] [false, false] true (hf84 _ _ _ _) rfl rfl ⟨⟨rfl, by first | rfl | fail⟩, by (repeat' (first | exact trivial | refine And.intro ?_ ?_)) <;> first | exact ren_eq (by first | (simp; done) | fail) (by first | rfl | fail) | exact ren_app2 (by first | (simp; done) | fail) (by first | rfl | fail) (by first | rfl | fail), by first | rfl | fail, by first | rfl | fail, ?_⟩
            conv => whnf
            repeat (first | (refine Exists.intro _ (And.intro (sput_all rfl (by first | rfl | fail)) ?_); conv => whnf) | (refine Exists.intro _ (And.intro (idx_i (m := 0) (by first | rfl | fail)) ?_); conv => whnf) | (refine Exists.intro _ (And.intro rfl ?_); conv => whnf) | (refine And.intro (by first | omega | (simp; done) | fail) ?_; conv => whnf) | fail)
            refine ok1_callP [] (f85 (pwN ((i + 1 - 1) / 8))) rfl rfl ⟨⟨rfl, by first | rfl | fail⟩, trivial, by first | rfl | fail, ?_⟩
            conv => whnf
            repeat (first | (refine Exists.intro _ (And.intro (sload_all rfl (by first | rfl | fail)) ?_); conv => whnf) | (refine Exists.intro _ (And.intro (sload_end (by first | rfl | (simp [hl, hwl]; done) | fail)) ?_); conv => whnf) | (refine Exists.intro _ (And.intro (idx_i (m := i + 1 - 8) (by first | rfl | omega | fail)) ?_); conv => whnf) | (refine Exists.intro _ (And.intro (sload_col (i := 4 * (i + 1 - 8)) (by first | rfl | omega | fail) (by first | omega | fail)) ?_); conv => whnf) | (refine And.intro (by first | omega | fail) ?_; conv => whnf) | fail)
            refine ok1_callP [] (f86 _ _ _ _ _ _ _ _) rfl rfl ⟨⟨rfl, by first | rfl | fail⟩, trivial, by first | rfl | fail, ?_⟩
            conv => whnf
            repeat (first | (refine Exists.intro _ (And.intro (sput_end (by first | rfl | (simp [hl, hwl]; done) | fail) rfl) ?_); conv => whnf) | (refine Exists.intro _ (And.intro rfl ?_); conv => whnf) | (refine And.intro (by first | omega | (simp; omega) | fail) ?_; conv => whnf) | (refine And.intro (by kernel_rfl) ?_; conv => whnf) | (refine And.intro ⟨by first | (simp [hl, hwl]; omega) | fail, by first | exact Nat.le_of_ble_eq_true rfl | fail, by first | (show _ * 4 ≤ _; omega) | fail⟩ ?_; conv => whnf) | fail)
            have hpw : pwN ((i + 1 + 1 - 1) / 8) = dbl (pwN ((i + 1 - 1) / 8)) := by
              rw [show (i + 1 + 1 - 1) / 8 = (i + 1 - 1) / 8 + 1 from by omega]; rfl
            refine ⟨⟨i + 1 + 1, by omega⟩, by simp only; omega, ?_⟩
            refine Weak.sel [0, 1, 5] rfl rfl ?_ ?_ rfl rfl
            · (repeat' (first | exact trivial | refine And.intro ?_ ?_ | fail)) <;> first | rfl | exact wk_i (by first | rfl | exact hp1.symm | fail) | exact wk_u8 (by first | exact hpw | fail) | fail
            · (repeat' (first | exact trivial | refine And.intro ?_ ?_ | fail)) <;> first | rfl | exact ren_eq (by first | (simp; done) | fail) (by first | rfl | fail) | exact ren_app2 (by first | (simp; done) | fail) (by first | rfl | fail) rfl | exact ren_colapp (by omega) (kcol_rot hin hz) | fail
          · have hm : ((((i + 1 : Nat) : Int)).tmod 8 == 0) = false := by rw [htm]; simp; omega
            refine brF hm ?_
            have hpw : pwN ((i + 1 + 1 - 1) / 8) = pwN ((i + 1 - 1) / 8) := by
              rw [show (i + 1 + 1 - 1) / 8 = (i + 1 - 1) / 8 from by omega]
            by_cases h8 : 8 = 8 ∧ (i + 1) % 8 = 4
            · skip
              have hm4 : ((((i + 1 : Nat) : Int)).tmod 8 == 4) = true := by rw [htm, h8.2]; rfl
              conv => whnf
              repeat (first | (refine brT rfl ?_; conv => whnf) | (refine Exists.intro _ (And.intro (sload_all rfl (by first | rfl | fail)) ?_); conv => whnf) | (refine gdT hm4 ?_; conv => whnf) | (refine Exists.intro _ (And.intro rfl ?_); conv => whnf) | fail)
              refine ok1_callF [1, 2] [false, false] true (hf84 _ _ _ _) rfl rfl ⟨⟨rfl, by first | rfl | fail⟩, by (repeat' (first | exact trivial | refine And.intro ?_ ?_)) <;> first | exact ren_eq (by first | (simp; done) | fail) (by first | rfl | fail) | exact ren_app2 (by first | (simp; done) | fail) (by first | rfl | fail) (by first | rfl | fail), by first | rfl | fail, by first | rfl | fail, ?_⟩
              conv => whnf
              repeat (first | (refine Exists.intro _ (And.intro (sload_all rfl (by first | rfl | fail)) ?_); conv => whnf) | (refine Exists.intro _ (And.intro (sput_all rfl (by first | rfl | fail)) ?_); conv => whnf) | (refine Exists.intro _ (And.intro (sload_end (by first | rfl | (simp [hl, hwl]; done) | fail)) ?_); conv => whnf) | (refine Exists.intro _ (And.intro (idx_i (m := i + 1 - 8) (by first | rfl | omega | fail)) ?_); conv => whnf) | (refine Exists.intro _ (And.intro (sload_col (i := 4 * (i + 1 - 8)) (by first | rfl | omega | fail) (by first | omega | fail)) ?_); conv => whnf) | (refine And.intro (by first | omega | (simp; done) | fail) ?_; conv => whnf) | fail)
              refine ok1_callP [] (f86 _ _ _ _ _ _ _ _) rfl rfl ⟨⟨rfl, by first | rfl | fail⟩, trivial, by first | rfl | fail, ?_⟩
              conv => whnf
              repeat (first | (refine Exists.intro _ (And.intro (sput_end (by first | rfl | (simp [hl, hwl]; done) | fail) rfl) ?_); conv => whnf) | (refine Exists.intro _ (And.intro rfl ?_); conv => whnf) | (refine And.intro (by first | omega | (simp; omega) | fail) ?_; conv => whnf) | (refine And.intro (by kernel_rfl) ?_; conv => whnf) | (refine And.intro ⟨by first | (simp [hl, hwl]; omega) | fail, by first | exact Nat.le_of_ble_eq_true rfl | fail, by first | (show _ * 4 ≤ _; omega) | fail⟩ ?_; conv => whnf) | fail)
              refine ⟨⟨i + 1 + 1, by omega⟩, by simp only; omega, ?_⟩
              refine Weak.sel [0, 1, 5] rfl rfl ?_ ?_ rfl rfl
              · (repeat' (first | exact trivial | refine And.intro ?_ ?_ | fail)) <;> first | rfl | exact wk_i (by first | rfl | exact hp1.symm | fail) | exact wk_u8 (by first | exact hpw | fail) | fail
              · (repeat' (first | exact trivial | refine And.intro ?_ ?_ | fail)) <;> first | rfl | exact ren_eq (by first | (simp; done) | fail) (by first | rfl | fail) | exact ren_app2 (by first | (simp; done) | fail) (by first | rfl | fail) rfl | exact ren_colapp (by omega) (kcol_sub hin hz h8) | fail
            · skip
              have hm4 : ((((i + 1 : Nat) : Int)).tmod 8 == 4) = false := by rw [htm]; simp; omega
              conv => whnf
              repeat (first | (refine brT rfl ?_; conv => whnf) | (refine Exists.intro _ (And.intro (sload_all rfl (by first | rfl | fail)) ?_); conv => whnf) | (refine Exists.intro _ (And.intro (sload_end (by first | rfl | (simp [hl, hwl]; done) | fail)) ?_); conv => whnf) | (refine gdF hm4 ?_; conv => whnf) | (refine Exists.intro _ (And.intro (idx_i (m := i + 1 - 8) (by first | rfl | omega | fail)) ?_); conv => whnf) | (refine Exists.intro _ (And.intro (sload_col (i := 4 * (i + 1 - 8)) (by first | rfl | omega | fail) (by first | omega | fail)) ?_); conv => whnf) | (refine Exists.intro _ (And.intro rfl ?_); conv => whnf) | (refine And.intro (by first | omega | fail) ?_; conv => whnf) | fail)
              refine ok1_callP [] (f86 _ _ _ _ _ _ _ _) rfl rfl ⟨⟨rfl, by first | rfl | fail⟩, trivial, by first | rfl | fail, ?_⟩
              conv => whnf
              repeat (first | (refine Exists.intro _ (And.intro (sput_end (by first | rfl | (simp [hl, hwl]; done) | fail) rfl) ?_); conv => whnf) | (refine Exists.intro _ (And.intro rfl ?_); conv => whnf) | (refine And.intro (by first | omega | (simp; omega) | fail) ?_; conv => whnf) | (refine And.intro (by kernel_rfl) ?_; conv => whnf) | (refine And.intro ⟨by first | (simp [hl, hwl]; omega) | fail, by first | exact Nat.le_of_ble_eq_true rfl | fail, by first | (show _ * 4 ≤ _; omega) | fail⟩ ?_; conv => whnf) | fail)
              refine ⟨⟨i + 1 + 1, by omega⟩, by simp only; omega, ?_⟩
              refine Weak.sel [0, 1, 5] rfl rfl ?_ ?_ rfl rfl
              · (repeat' (first | exact trivial | refine And.intro ?_ ?_ | fail)) <;> first | rfl | exact wk_i (by first | rfl | exact hp1.symm | fail) | exact wk_u8 (by first | exact hpw | fail) | fail
              · (repeat' (first | exact trivial | refine And.intro ?_ ?_ | fail)) <;> first | rfl | exact ren_eq (by first | (simp; done) | fail) (by first | rfl | fail) | exact ren_app2 (by first | (simp; done) | fail) (by first | rfl | fail) rfl | exact ren_colapp (by omega) (kcol_xor hin hz h8) | fail
      · obtain rfl : i = 60 - 1 := by simp at hc; omega
        conv => whnf
        refine ⟨[0, 1, 2], ?_, rfl, rfl, ?_, rfl⟩
        · (repeat' (first | (refine wk_tup ?_) | (refine wk_cons ?_ ?_))) <;> first | rfl | fail
        · (repeat' (first | exact trivial | refine And.intro ?_ ?_ | fail)) <;> first | rfl | exact ren_eq (by first | (simp; done) | fail) (by first | rfl | fail) | exact ren_app2 (by first | (simp; done) | fail) (by first | rfl | fail) rfl | fail
end Go.Sh
