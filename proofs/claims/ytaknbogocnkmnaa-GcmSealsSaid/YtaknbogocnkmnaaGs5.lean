/- Merged for a claim: G11, G2, F5, G12, G13, Sh30, G17, G18, G10, G20, G21, Sh18, Sh20. -/
import Derived.Test.YtaknbogocnkmnaaRows
import Derived.ProofKit
import Derived.OpenShut
import Derived.JoinedCond
import Derived.Carry
import Derived.Test.YtaknbogocnkmnaaGs4
/- gcm: tag (f95). -/
namespace Go.Sh
open Go.Proofs
set_option maxHeartbeats 4000000
set_option linter.unusedSimpArgs false

def padN (n : Nat) : Nat := (16 - n % 16) % 16
def padL (b : List UInt8) : List UInt8 := b ++ List.replicate (padN b.length) 0
/-- How many bits there are, as eight bytes. -/
def lb (n : Nat) (j : Nat) : UInt8 := (shr64 (shl64 (u64i (n : Int)) 3) (8 * (7 - j))).toUInt8
def lenP (n k : Nat) : List UInt8 := (List.range k).map (lb n)
def lenB (n : Nat) : List UInt8 := lenP n 8
theorem lenP_len (n k : Nat) : (lenP n k).length = k := rng_len
theorem lenP_0 (n : Nat) : lenP n 0 = [] := rfl
theorem lenP_s (n k : Nat) : lenP n (k + 1) = lenP n k ++ [lb n k] := rng_succ
def allF (aad text : List UInt8) : Nat → List UInt8
  | 0 => []
  | 1 => padL aad
  | _ => padL aad ++ padL text
def endF (aad text : List UInt8) : Nat → List UInt8
  | 0 => []
  | 1 => lenB aad.length
  | _ => lenB aad.length ++ lenB text.length
def tagT (aad text : List UInt8) : List UInt8 := padL aad ++ padL text ++ (lenB aad.length ++ lenB text.length)
def tagL (w : List UInt8) (R : Nat) (nonce aad text : List UInt8) : List UInt8 := turnL w R (nonce ++ [0, 0, 0, 1]) (hashL (sealSt w R (List.replicate 16 0) R) (tagT aad text))
theorem padL_len (b : List UInt8) : (padL b).length = b.length + padN b.length := by unfold padL; simp
theorem padN_lt (n : Nat) : padN n < 16 := by unfold padN; omega
theorem padN_w (n : Nat) (h : n < 1000000) : (w64 (16 - ((n : Int)).tmod 16)).tmod 16 = ((padN n : Nat) : Int) := by
  have h1 : ((n : Int)).tmod 16 = ((n % 16 : Nat) : Int) := by rw [Int.tmod_eq_emod_of_nonneg (by omega)]; omega
  have h2 : w64 (16 - ((n : Int)).tmod 16) = ((16 - n % 16 : Nat) : Int) := by rw [h1, w64_eq]; omega
  unfold padN
  rw [h2, Int.tmod_eq_emod_of_nonneg (by omega)]; omega
theorem cut_pad {X b D : List UInt8} (hD : (D.drop 0).take b.length = b) :
    (X ++ padL b).map SV.u8 = List.take ((X.length + b.length) * 1) (List.drop 0 (List.take (X.length * 1) (List.drop 0 (X.map SV.u8)) ++ List.take (b.length * 1) (List.drop 0 (D.map SV.u8)))) ++ List.replicate (padN b.length) (SV.u8 0) := by
  have e1 : List.take (b.length * 1) (List.drop 0 (D.map SV.u8)) = b.map SV.u8 := by rw [Nat.mul_one]; exact cut_u8 hD
  rw [e1, Nat.mul_one, Nat.mul_one, List.drop_zero, List.drop_zero, List.take_of_length_le (l := X.map SV.u8) (by simp), List.take_of_length_le (by simp)]
  unfold padL
  simp
attribute [local irreducible] padN padL lenP hashL tagT turnL
theorem f95 (n : Nat) (fl : Bool) (w : List UInt8) (R : Nat) (hn : n = 4 * (R + 1)) (hw : w.length = 16 * (R + 1)) (hR1 : 1 ≤ R) (hR2 : R ≤ 20) (nonce aad text A T : List UInt8) (hno : nonce.length = 12)
    (hA : (A.drop 0).take aad.length = aad) (hT : (T.drop 0).take text.length = text) (hoA : 0 + aad.length ≤ A.length) (hoT : 0 + text.length ≤ T.length) (ha : aad.length < 1000000) (ht : text.length < 1000000) (f1 f2 : Bool) :
    SCall Try.prog 95 [.p 0 0, .agg (nonce.map .u8), .sl 2 0 aad.length 1 f1, .sl 3 0 text.length 1 f2] [some (.ro (sbx.map .u8 ++ [.sl 1 0 n 4 fl])), some (.ro (w.map .u8)), some (.ro (A.map .u8)), some (.ro (T.map .u8))]
      (.sl 4 0 16 1 false) [some (.ro (sbx.map .u8 ++ [.sl 1 0 n 4 fl])), some (.ro (w.map .u8)), some (.ro (A.map .u8)), some (.ro (T.map .u8)), some (.row 5 ((tagL w R nonce aad text).map .u8))] := by
  have hse := f47L n fl w R hn hw hR1 hR2 (List.replicate 16 0) rfl
  refine scall_of ttOk (by kernel_rfl : Try.prog.funcs[95]? = some Try.f95) rfl rfl rfl ?_
  refine sw_ok ttOk mixed (by kernel_rfl) ?_
  conv => whnf
  repeat (first | (refine Exists.intro _ (And.intro rfl ?_); conv => whnf) | fail)
  refine SWp.weak (Weak.virt 9 5 1 rfl) ?_
  refine SWp.weak (Weak.virt 10 5 1 rfl) ?_
  refine loop_rule ttOk mixed (by kernel_rfl) (ι := { i : Nat // i ≤ 2 }) (fun i => [(0, .p 0 0), (5, .p 4 0), (9, .sl 6 0 (allF aad text i.1).length 1 false), (10, .sl 7 0 (endF aad text i.1).length 1 false), (19, .sl 5 0 2 1 true), (20, .i 2), (21, .i (i.1 : Int))]) (fun i => [some (.ro (sbx.map .u8 ++ [.sl 1 0 n 4 fl])), some (.ro (w.map .u8)), some (.ro (A.map .u8)), some (.ro (T.map .u8)), some (.box (nonce.map .u8)), some (.ro [.sl 2 0 aad.length 1 f1, .sl 3 0 text.length 1 f2]), some (.row 5 ((allF aad text i.1).map .u8)), some (.row 5 ((endF aad text i.1).map .u8))]) (fun _ => 8) (fun i => 2 - i.1) ⟨0, by omega⟩ ?_ ?_
  · refine Weak.sel [0, 1, 2, 3, 4, 5, 6, 7] rfl rfl ?_ ?_ rfl rfl
    · (repeat' (first | exact trivial | refine And.intro ?_ ?_ | fail)) <;> first | rfl | fail
    · (repeat' (first | exact trivial | refine And.intro ?_ ?_ | (refine wk_cons ?_ ?_))) <;> first | rfl | exact ren_eq (by first | (simp; done) | fail) (by first | rfl | fail) | exact ren_app2 (by first | (simp; done) | fail) (by first | rfl | fail) rfl | fail
  · rintro ⟨i, hi⟩
    have h3 : i = 0 ∨ i = 1 ∨ i = 2 := by omega
    rcases h3 with rfl | rfl | rfl
    ·
      obtain ⟨X, hX⟩ : ∃ X, X = allF aad text 0 := ⟨_, rfl⟩
      obtain ⟨E, hE⟩ : ∃ E, E = endF aad text 0 := ⟨_, rfl⟩
      have hXl : X.length < 2000000 := by rw [hX]; simp only [allF, List.length_nil, padL_len]; have := padN_lt aad.length; omega
      have hXs : X ++ padL aad = allF aad text 1 := by rw [hX]; first | rfl | fail
      have hEs : E ++ lenP (aad).length 8 = endF aad text 1 := by rw [hE]; first | rfl | fail
      have hEl : E.length = 8 * 0 := by rw [hE]; first | rfl | fail
      have hpn := padN_lt (aad).length
      dsimp only
      rw [← hX, ← hE]
      conv => whnf
      first | refine brT (by rfl) ?_ | fail
      conv => whnf
      repeat (first | (refine Exists.intro _ (And.intro rfl ?_); conv => whnf) | (refine And.intro (by first | omega | (simp [ti5]; omega)) ?_; conv => whnf) | fail)
      refine ok1_appZ 5 1 8 0 (X.length + (aad).length) (padN (aad).length) false _ (.u8 0) rfl (by kernel_rfl) (by kernel_rfl) (by kernel_rfl) rfl (by kernel_rfl) (by kernel_rfl) (by decide) rfl rfl (by first | (simp; omega)) (v := (w64 (16 - (((aad).length : Int)).tmod 16)).tmod 16) rfl (padN_w _ (by omega)) (by omega) (Nat.le_of_ble_eq_true rfl) ?_
      conv => whnf
      repeat (fail)
      refine loop_rule ttOk mixed (by kernel_rfl) (ι := { m : Nat // m ≤ 8 }) (fun m => [(0, .p 0 0), (5, .p 4 0), (9, .sl 6 0 (X ++ padL aad).length 1 false), (10, .sl 7 0 (E ++ lenP (aad).length (8 - m.1)).length 1 false), (12, .sl 2 0 (aad).length 1 f1), (13, .i ((m.1 : Int) - 1)), (19, .sl 5 0 2 1 true), (20, .i 2), (21, .i 0)]) (fun m => [some (.ro (sbx.map .u8 ++ [.sl 1 0 n 4 fl])), some (.ro (w.map .u8)), some (.ro (A.map .u8)), some (.ro (T.map .u8)), some (.box (nonce.map .u8)), some (.ro [.sl 2 0 aad.length 1 f1, .sl 3 0 text.length 1 f2]), some (.row 5 ((X ++ padL aad).map .u8)), some (.row 5 ((E ++ lenP (aad).length (8 - m.1)).map .u8))]) (fun _ => 8) (fun m => m.1) ⟨8, by omega⟩ ?_ ?_
      · have hcp := cut_pad (X := X) hA
        have hl1 : (X ++ padL aad).length = X.length + (aad).length + padN (aad).length := by rw [List.length_append, padL_len]; omega
        have hE0 : E ++ lenP (aad).length (8 - 8) = E := by rw [Nat.sub_self, lenP_0, List.append_nil]
        have hE1 : (E ++ lenP (aad).length (8 - 8)).length = E.length := by rw [hE0]
        refine Weak.sel [0, 1, 2, 3, 4, 5, 9, 7] rfl rfl ?_ ?_ rfl rfl
        · (repeat' (first | exact trivial | refine And.intro ?_ ?_ | fail)) <;> first | rfl | exact wk_sl rfl (by first | rfl | fail) (by first | exact hl1 | exact hE1 | fail) | fail
        · (repeat' (first | exact trivial | exact ren_eq (plainL_u8 _) hcp | refine And.intro ?_ ?_ | (refine wk_cons ?_ ?_))) <;> first | exact ren_m8 (by first | exact hE0 | fail) | rfl | exact ren_eq (by first | (simp; done) | fail) (by first | rfl | fail) | exact ren_app2 (by first | (simp; done) | fail) (by first | rfl | fail) rfl | fail
      · rintro ⟨m, hm⟩
        dsimp only
        by_cases hm0 : 0 < m
        · obtain ⟨k, rfl⟩ : ∃ k, m = k + 1 := ⟨m - 1, by omega⟩
          have hlt : decide ((((k + 1 : Nat) : Int) - 1) ≥ 0) = true := by simp
          have hk8 : w64 (8 * (((k + 1 : Nat) : Int) - 1)) = ((8 * k : Nat) : Int) := by simp only [w64_eq]; omega
          have hp1 : w64 (((k + 1 : Nat) : Int) - 1 - 1) = (k : Int) - 1 := by simp only [w64_eq]; omega
          obtain ⟨Y, hY⟩ : ∃ Y, Y = E ++ lenP (aad).length (8 - (k + 1)) := ⟨_, rfl⟩
          have hYl : Y.length = 8 * 0 + (7 - k) := by rw [hY, List.length_append, lenP_len, hEl]; omega
          have hYs : Y ++ [(shr64 (shl64 (u64i ((aad).length : Int)) 3) (8 * k)).toUInt8] = E ++ lenP (aad).length (8 - k) := by
            rw [hY, show 8 - k = (8 - (k + 1)) + 1 by omega, lenP_s, List.append_assoc]
            have : lb (aad).length (8 - (k + 1)) = (shr64 (shl64 (u64i ((aad).length : Int)) 3) (8 * k)).toUInt8 := by
              unfold lb; rw [show 7 - (8 - (k + 1)) = k by omega]
            rw [this]
          have hap : (E ++ lenP (aad).length (8 - k)).map SV.u8 = List.take (Y.length * 1) (List.drop 0 (Y.map SV.u8)) ++ List.take (1 * 1) (List.drop 0 [SV.u8 (shr64 (shl64 (u64i ((aad).length : Int)) 3) (8 * k)).toUInt8]) := by
            rw [app1 rfl, hYs]
          have hal : (E ++ lenP (aad).length (8 - k)).length = Y.length + 1 := by rw [← hYs]; simp
          rw [← hY]
          conv => whnf
          first | refine brT (by exact hlt) ?_ | fail
          conv => whnf
          repeat (first | (refine Exists.intro _ (And.intro (shr_i64 (m := 8 * k) (by first | rfl | omega | fail)) ?_); conv => whnf) | (refine Exists.intro _ (And.intro rfl ?_); conv => whnf) | (refine And.intro (by first | omega | (simp [ti5]; omega)) ?_; conv => whnf) | fail)
          refine ⟨⟨k, by omega⟩, by simp only; omega, ?_⟩
          refine Weak.sel [0, 1, 2, 3, 4, 5, 6, 9] rfl rfl ?_ ?_ rfl rfl
          · (repeat' (first | exact trivial | refine And.intro ?_ ?_ | fail)) <;> first | exact wk_i (by first | exact hp1 | exact hp1.symm | fail) | rfl | exact wk_sl rfl (by first | rfl | fail) (by first | exact hal | fail) | fail
          · (repeat' (first | exact trivial | exact ren_eq (plainL_u8 _) hap | refine And.intro ?_ ?_ | (refine wk_cons ?_ ?_))) <;> first | rfl | exact ren_eq (by first | (simp; done) | fail) (by first | rfl | fail) | exact ren_app2 (by first | (simp; done) | fail) (by first | rfl | fail) rfl | fail
        · obtain rfl : m = 0 := by omega
          conv => whnf
          first | refine brF (by rfl) ?_ | fail
          conv => whnf
          repeat (fail)
          refine ⟨⟨1, by omega⟩, by simp only; omega, ?_⟩
          dsimp only
          rw [← hXs, ← hEs]
          refine Weak.sel [0, 1, 2, 3, 4, 5, 6, 7] rfl rfl ?_ ?_ rfl rfl
          · (repeat' (first | exact trivial | refine And.intro ?_ ?_ | fail)) <;> first | rfl | fail
          · (repeat' (first | exact trivial | refine And.intro ?_ ?_ | (refine wk_cons ?_ ?_))) <;> first | rfl | exact ren_eq (by first | (simp; done) | fail) (by first | rfl | fail) | exact ren_app2 (by first | (simp; done) | fail) (by first | rfl | fail) rfl | fail
    ·
      obtain ⟨X, hX⟩ : ∃ X, X = allF aad text 1 := ⟨_, rfl⟩
      obtain ⟨E, hE⟩ : ∃ E, E = endF aad text 1 := ⟨_, rfl⟩
      have hXl : X.length < 2000000 := by rw [hX]; simp only [allF, List.length_nil, padL_len]; have := padN_lt aad.length; omega
      have hXs : X ++ padL text = allF aad text 2 := by rw [hX]; first | rfl | fail
      have hEs : E ++ lenP (text).length 8 = endF aad text 2 := by rw [hE]; first | rfl | fail
      have hEl : E.length = 8 * 1 := by rw [hE]; first | exact lenP_len _ _
      have hpn := padN_lt (text).length
      dsimp only
      rw [← hX, ← hE]
      conv => whnf
      first | refine brT (by rfl) ?_ | fail
      conv => whnf
      repeat (first | (refine Exists.intro _ (And.intro rfl ?_); conv => whnf) | (refine And.intro (by first | omega | (simp [ti5]; omega)) ?_; conv => whnf) | fail)
      refine ok1_appZ 5 1 8 0 (X.length + (text).length) (padN (text).length) false _ (.u8 0) rfl (by kernel_rfl) (by kernel_rfl) (by kernel_rfl) rfl (by kernel_rfl) (by kernel_rfl) (by decide) rfl rfl (by first | (simp; omega)) (v := (w64 (16 - (((text).length : Int)).tmod 16)).tmod 16) rfl (padN_w _ (by omega)) (by omega) (Nat.le_of_ble_eq_true rfl) ?_
      conv => whnf
      repeat (fail)
      refine loop_rule ttOk mixed (by kernel_rfl) (ι := { m : Nat // m ≤ 8 }) (fun m => [(0, .p 0 0), (5, .p 4 0), (9, .sl 6 0 (X ++ padL text).length 1 false), (10, .sl 7 0 (E ++ lenP (text).length (8 - m.1)).length 1 false), (12, .sl 3 0 (text).length 1 f2), (13, .i ((m.1 : Int) - 1)), (19, .sl 5 0 2 1 true), (20, .i 2), (21, .i 1)]) (fun m => [some (.ro (sbx.map .u8 ++ [.sl 1 0 n 4 fl])), some (.ro (w.map .u8)), some (.ro (A.map .u8)), some (.ro (T.map .u8)), some (.box (nonce.map .u8)), some (.ro [.sl 2 0 aad.length 1 f1, .sl 3 0 text.length 1 f2]), some (.row 5 ((X ++ padL text).map .u8)), some (.row 5 ((E ++ lenP (text).length (8 - m.1)).map .u8))]) (fun _ => 8) (fun m => m.1) ⟨8, by omega⟩ ?_ ?_
      · have hcp := cut_pad (X := X) hT
        have hl1 : (X ++ padL text).length = X.length + (text).length + padN (text).length := by rw [List.length_append, padL_len]; omega
        have hE0 : E ++ lenP (text).length (8 - 8) = E := by rw [Nat.sub_self, lenP_0, List.append_nil]
        have hE1 : (E ++ lenP (text).length (8 - 8)).length = E.length := by rw [hE0]
        refine Weak.sel [0, 1, 2, 3, 4, 5, 9, 7] rfl rfl ?_ ?_ rfl rfl
        · (repeat' (first | exact trivial | refine And.intro ?_ ?_ | fail)) <;> first | rfl | exact wk_sl rfl (by first | rfl | fail) (by first | exact hl1 | exact hE1 | fail) | fail
        · (repeat' (first | exact trivial | exact ren_eq (plainL_u8 _) hcp | refine And.intro ?_ ?_ | (refine wk_cons ?_ ?_))) <;> first | exact ren_m8 (by first | exact hE0 | fail) | rfl | exact ren_eq (by first | (simp; done) | fail) (by first | rfl | fail) | exact ren_app2 (by first | (simp; done) | fail) (by first | rfl | fail) rfl | fail
      · rintro ⟨m, hm⟩
        dsimp only
        by_cases hm0 : 0 < m
        · obtain ⟨k, rfl⟩ : ∃ k, m = k + 1 := ⟨m - 1, by omega⟩
          have hlt : decide ((((k + 1 : Nat) : Int) - 1) ≥ 0) = true := by simp
          have hk8 : w64 (8 * (((k + 1 : Nat) : Int) - 1)) = ((8 * k : Nat) : Int) := by simp only [w64_eq]; omega
          have hp1 : w64 (((k + 1 : Nat) : Int) - 1 - 1) = (k : Int) - 1 := by simp only [w64_eq]; omega
          obtain ⟨Y, hY⟩ : ∃ Y, Y = E ++ lenP (text).length (8 - (k + 1)) := ⟨_, rfl⟩
          have hYl : Y.length = 8 * 1 + (7 - k) := by rw [hY, List.length_append, lenP_len, hEl]; omega
          have hYs : Y ++ [(shr64 (shl64 (u64i ((text).length : Int)) 3) (8 * k)).toUInt8] = E ++ lenP (text).length (8 - k) := by
            rw [hY, show 8 - k = (8 - (k + 1)) + 1 by omega, lenP_s, List.append_assoc]
            have : lb (text).length (8 - (k + 1)) = (shr64 (shl64 (u64i ((text).length : Int)) 3) (8 * k)).toUInt8 := by
              unfold lb; rw [show 7 - (8 - (k + 1)) = k by omega]
            rw [this]
          have hap : (E ++ lenP (text).length (8 - k)).map SV.u8 = List.take (Y.length * 1) (List.drop 0 (Y.map SV.u8)) ++ List.take (1 * 1) (List.drop 0 [SV.u8 (shr64 (shl64 (u64i ((text).length : Int)) 3) (8 * k)).toUInt8]) := by
            rw [app1 rfl, hYs]
          have hal : (E ++ lenP (text).length (8 - k)).length = Y.length + 1 := by rw [← hYs]; simp
          rw [← hY]
          conv => whnf
          first | refine brT (by exact hlt) ?_ | fail
          conv => whnf
          repeat (first | (refine Exists.intro _ (And.intro (shr_i64 (m := 8 * k) (by first | rfl | omega | fail)) ?_); conv => whnf) | (refine Exists.intro _ (And.intro rfl ?_); conv => whnf) | (refine And.intro (by first | omega | (simp [ti5]; omega)) ?_; conv => whnf) | fail)
          refine ⟨⟨k, by omega⟩, by simp only; omega, ?_⟩
          refine Weak.sel [0, 1, 2, 3, 4, 5, 6, 9] rfl rfl ?_ ?_ rfl rfl
          · (repeat' (first | exact trivial | refine And.intro ?_ ?_ | fail)) <;> first | exact wk_i (by first | exact hp1 | exact hp1.symm | fail) | rfl | exact wk_sl rfl (by first | rfl | fail) (by first | exact hal | fail) | fail
          · (repeat' (first | exact trivial | exact ren_eq (plainL_u8 _) hap | refine And.intro ?_ ?_ | (refine wk_cons ?_ ?_))) <;> first | rfl | exact ren_eq (by first | (simp; done) | fail) (by first | rfl | fail) | exact ren_app2 (by first | (simp; done) | fail) (by first | rfl | fail) rfl | fail
        · obtain rfl : m = 0 := by omega
          conv => whnf
          first | refine brF (by rfl) ?_ | fail
          conv => whnf
          repeat (fail)
          refine ⟨⟨2, by omega⟩, by simp only; omega, ?_⟩
          dsimp only
          rw [← hXs, ← hEs]
          refine Weak.sel [0, 1, 2, 3, 4, 5, 6, 7] rfl rfl ?_ ?_ rfl rfl
          · (repeat' (first | exact trivial | refine And.intro ?_ ?_ | fail)) <;> first | rfl | fail
          · (repeat' (first | exact trivial | refine And.intro ?_ ?_ | (refine wk_cons ?_ ?_))) <;> first | rfl | exact ren_eq (by first | (simp; done) | fail) (by first | rfl | fail) | exact ren_app2 (by first | (simp; done) | fail) (by first | rfl | fail) rfl | fail
    · have hpa := padN_lt aad.length
      have hpt := padN_lt text.length
      have hTl : (tagT aad text).length < 100000000000000 := by unfold tagT lenB; simp only [List.length_append, padL_len, lenP_len]; omega
      have h60 := f60 (sealSt w R (List.replicate 16 0) R) (tagT aad text) (tagT aad text) 0 false (sealSt_len w R _ rfl R) (by simp) (by omega) hTl
      obtain ⟨X, hX⟩ : ∃ X, X = allF aad text 2 := ⟨_, rfl⟩
      obtain ⟨E, hE⟩ : ∃ E, E = endF aad text 2 := ⟨_, rfl⟩
      have hXE : X ++ E = tagT aad text := by rw [hX, hE]; unfold tagT; rfl
      have hXEl : X.length + E.length = (tagT aad text).length := by rw [← hXE]; simp
      have hcat : List.take (X.length * 1) (List.drop 0 (X.map SV.u8)) ++ List.take (E.length * 1) (List.drop 0 (SB.row 5 (E.map SV.u8)).cells) = (tagT aad text).map SV.u8 := by
        rw [← hXE, Nat.mul_one, Nat.mul_one, List.drop_zero, List.take_of_length_le (by simp)]
        show _ ++ List.take E.length (List.drop 0 (E.map SV.u8)) = _
        rw [List.drop_zero, List.take_of_length_le (by simp), List.map_append]
      have hle : 0 + E.length * 1 ≤ (SB.row 5 (E.map SV.u8)).cells.length := by show _ ≤ (E.map SV.u8).length; simp
      have hby : (X.length + E.length) * ti5.byt ≤ 140737488355328 := by show _ * 1 ≤ _; omega
      obtain ⟨hs, hhs⟩ : ∃ hs, hs = hashL (sealSt w R (List.replicate 16 0) R) (tagT aad text) := ⟨_, rfl⟩
      have hhl : hs.length = 16 := by rw [hhs]; exact hashL_len _ _
      rw [← hhs] at h60
      have h94 := f94 nonce hno
      have h53 := f53_1 n fl w R hn hw hR1 hR2 (nonce ++ [0, 0, 0, 1]) hs hs 0 (by simp) (by omega) (by simp [hno]) (by omega) true true
      rw [hhl] at h53
      have htag : turnL w R (nonce ++ [0, 0, 0, 1]) hs = tagL w R nonce aad text := by rw [hhs]; rfl
      rw [htag] at h53
      dsimp only
      rw [← hX, ← hE]
      conv => whnf
      first | refine brF (by rfl) ?_ | fail
      conv => whnf
      repeat (first | (refine Exists.intro _ (And.intro rfl ?_); conv => whnf) | fail)
      refine ok1_callF [0, 1] [false, false] true (hse) rfl rfl ⟨⟨rfl, by first | rfl | fail⟩, by (repeat' (first | exact trivial | refine And.intro ?_ ?_)) <;> first | exact ren_eq (by first | (simp; done) | fail) (by first | rfl | fail) | exact ren_app2 (by first | (simp; done) | fail) (by first | rfl | fail) (by first | rfl | fail) | fail, by first | rfl | fail, by first | simp [plainRf, plainR, plainT, plainW], ?_⟩
      conv => whnf
      repeat (first | (refine And.intro (by first | omega | (simp; omega) | fail) ?_; conv => whnf) | fail)
      rw [hcat, hXEl]
      conv => whnf
      repeat (fail)
      refine ok1_callF [8] [false] true (h60) rfl rfl ⟨⟨rfl, by first | ((repeat' (first | exact ren_m8 rfl | exact rfl | (refine wk_agg ?_) | (refine wk_cons ?_ ?_))); done) | fail⟩, by (repeat' (first | exact trivial | refine And.intro ?_ ?_)) <;> first | exact ren_eq (by first | (simp; done) | fail) (by first | rfl | fail) | fail, by first | rfl | fail, by first | simp [plainRf, plainR, plainT, plainW], ?_⟩
      conv => whnf
      repeat (first | (refine Exists.intro _ (And.intro (sload_all rfl (by first | rfl | (simp [hhl]; omega))) ?_); conv => whnf) | (refine Exists.intro _ (And.intro (sput_all rfl (by first | rfl | (simp [hhl]; done) | fail)) ?_); conv => whnf) | (refine And.intro (by first | omega | (simp; omega) | fail) ?_; conv => whnf) | fail)
      refine ok1_callF [] [] true (h94) rfl rfl ⟨⟨rfl, by first | ((repeat' (first | exact wk_nil | exact ren_m8 rfl | (refine wk_agg ?_) | (refine wk_cons ?_ ?_))); done) | fail⟩, trivial, by first | rfl | fail, by first | simp [plainRf, plainR, plainT, plainW], ?_⟩
      conv => whnf
      repeat (first | (refine Exists.intro _ (And.intro rfl ?_); conv => whnf) | (refine And.intro (by first | omega | (simp; omega) | fail) ?_; conv => whnf) | fail)
      refine ok1_callF [0, 1, 10, 9] [false, false, false, false, true] false (h53) rfl rfl ⟨⟨rfl, by first | ((repeat' (first | exact ren_m8 rfl | exact rfl | (refine wk_agg ?_) | (refine wk_cons ?_ ?_))); done) | fail⟩, by (repeat' (first | exact trivial | refine And.intro ?_ ?_)) <;> first | rfl | exact ren_eq (by first | (simp; done) | fail) (by first | rfl | fail) | exact ren_app2 (by first | (simp; done) | fail) (by first | rfl | fail) (by first | rfl | fail) | fail, by first | simp [plainHf, plainB], by first | rfl | fail, ?_⟩
      conv => whnf
      repeat (first | (refine And.intro (by kernel_rfl) ?_; conv => whnf) | fail)
      refine ⟨[0, 1, 2, 3, 11], ?_, rfl, rfl, ?_, rfl⟩
      · (repeat' (fail)) <;> first | rfl | fail
      · (repeat' (first | exact trivial | refine And.intro ?_ ?_ | fail)) <;> first | rfl | exact ren_eq (by first | (simp; done) | fail) (by first | rfl | fail) | exact ren_app2 (by first | (simp; done) | fail) (by first | rfl | fail) rfl | fail
end Go.Sh
/- mac: Same (f96). -/
namespace Go.Sh
open Go.Proofs
set_option maxHeartbeats 4000000
set_option linter.unusedSimpArgs false

/-- What is unlike in the first bytes. -/
def unl (a b : List UInt8) : Nat → UInt8
  | 0 => 0
  | i + 1 => unl a b i ||| (a.getD i 0 ^^^ b.getD i 0)
theorem unl_z (a b : List UInt8) : unl a b 0 = 0 := rfl
theorem unl_s (a b : List UInt8) (i : Nat) : unl a b (i + 1) = unl a b i ||| (a.getD i 0 ^^^ b.getD i 0) := rfl
theorem or_z (x y : UInt8) : x ||| y = 0 ↔ x = 0 ∧ y = 0 := by
  constructor
  · intro h
    have h2 : x.toBitVec ||| y.toBitVec = 0#8 := by have := congrArg UInt8.toBitVec h; simpa using this
    have h3 := BitVec.or_eq_zero_iff.1 h2
    exact ⟨UInt8.toBitVec_inj.1 h3.1, UInt8.toBitVec_inj.1 h3.2⟩
  · rintro ⟨rfl, rfl⟩; rfl
theorem xor_z (x y : UInt8) : x ^^^ y = 0 ↔ x = y := by
  constructor
  · intro h
    have : (x ^^^ y) ^^^ y = 0 ^^^ y := by rw [h]
    rwa [UInt8.xor_assoc, UInt8.xor_self, UInt8.xor_zero, UInt8.zero_xor] at this
  · rintro rfl; exact UInt8.xor_self
theorem unl_iff (a b : List UInt8) : ∀ n, unl a b n = 0 ↔ ∀ j, j < n → a.getD j 0 = b.getD j 0
  | 0 => by simp [unl]
  | n + 1 => by
    rw [unl_s, or_z, unl_iff a b n, xor_z]
    constructor
    · rintro ⟨h1, h2⟩ j hj
      by_cases h : j = n
      · subst h; exact h2
      · exact h1 j (by omega)
    · intro h
      exact ⟨fun j hj => h j (by omega), h n (by omega)⟩
theorem unl_eq (a b : List UInt8) (h : a.length = b.length) : (unl a b a.length == 0) = decide (a = b) := by
  by_cases hab : a = b
  · subst hab
    simp only [decide_true, beq_iff_eq]
    exact (unl_iff a a _).2 fun _ _ => rfl
  · simp only [hab, decide_false, beq_eq_false_iff_ne]
    intro hz
    apply hab
    have hz := (unl_iff a b _).1 hz
    apply List.ext_getElem h
    intro j h1 h2
    have := hz j h1
    rw [List.getD_eq_getElem?_getD, List.getD_eq_getElem?_getD, List.getElem?_eq_getElem h1, List.getElem?_eq_getElem h2] at this
    exact this

theorem cutD {A a : List UInt8} {o : Nat} (h : (A.drop o).take a.length = a) {i : Nat} (hi : i < a.length) : A.getD (o + i) 0 = a.getD i 0 := by
  rw [List.getD_eq_getElem?_getD, List.getD_eq_getElem?_getD]
  have : ((A.drop o).take a.length)[i]? = a[i]? := by rw [h]
  rw [List.getElem?_take_of_lt hi, List.getElem?_drop] at this
  rw [this]
attribute [local irreducible] unl
theorem f96 (a b A B : List UInt8) (o q : Nat) (fa fb : Bool) (hA : (A.drop o).take a.length = a) (hoA : o + a.length ≤ A.length) (hB : (B.drop q).take b.length = b) (hoB : q + b.length ≤ B.length) (hl : a.length < 100000000000000) :
    SCall Try.prog 96 [.sl 0 o a.length 1 fa, .sl 1 q b.length 1 fb] [some (.ro (A.map .u8)), some (.ro (B.map .u8))] (.b (decide (a = b))) [some (.ro (A.map .u8)), some (.ro (B.map .u8))] := by
  by_cases hab : a.length = b.length
  · have g1 : ((a.length : Int) != (b.length : Int)) = false := by simp [hab]
    have hd := unl_eq a b hab
    rw [← hd]
    rw [← hab] at hB hoB ⊢
    refine scall_of ttOk (by kernel_rfl : Try.prog.funcs[96]? = some Try.f96) rfl rfl rfl ?_
    refine sw_ok ttOk mixed (by kernel_rfl) ?_
    conv => whnf
    repeat (first | (refine gdF (by first | (simp; done) | fail) ?_; conv => whnf) | fail)
    refine loop_rule ttOk mixed (by kernel_rfl) (ι := { i : Nat // i ≤ a.length }) (fun i => [(14, .i (i.1 : Int)), (13, .i (a.length : Int)), (5, .u8 (unl a b i.1)), (0, .sl 0 o a.length 1 fa), (1, .sl 1 q a.length 1 fb)]) (fun _ => [some (.ro (A.map .u8)), some (.ro (B.map .u8))]) (fun _ => 2) (fun i => a.length - i.1) ⟨0, by omega⟩ ?_ ?_
    · have h0 := unl_z a b
      refine Weak.sel [0, 1] rfl rfl ?_ ?_ rfl rfl
      · (repeat' (first | exact trivial | refine And.intro ?_ ?_ | fail)) <;> first | rfl | exact wk_u8 (by first | exact h0 | fail) | fail
      · (repeat' (first | exact trivial | refine And.intro ?_ ?_ | fail)) <;> first | exact ren_eq (by first | (simp; done) | fail) (by first | rfl | fail) | fail
    · rintro ⟨i, hi⟩
      dsimp only
      by_cases hi2 : i < a.length
      · have hlt : decide ((i : Int) < (a.length : Int)) = true := by simp; omega
        have hp1 := wp1 i (by omega)
        have hst : unl a b (i + 1) = unl a b i ||| (A.getD (o + i) 0 ^^^ B.getD (q + i) 0) := by
          rw [unl_s, cutD hA hi2]
          rw [hab] at hB hi2
          rw [cutD hB hi2]
        conv => whnf
        first | refine brT (by exact hlt) ?_ | fail
        conv => whnf
        repeat (first | (refine Exists.intro _ (And.intro (sload_u8 (i := o + i) (by first | rfl | omega | fail) (by first | omega | fail)) ?_); conv => whnf) | (refine Exists.intro _ (And.intro (sload_u8 (i := q + i) (by first | rfl | omega | fail) (by first | omega | fail)) ?_); conv => whnf) | (refine Exists.intro _ (And.intro (idx_i (m := i) (by first | rfl | fail)) ?_); conv => whnf) | (refine And.intro (by first | omega | fail) ?_; conv => whnf) | (refine And.intro (by kernel_rfl) ?_; conv => whnf) | fail)
        refine ⟨⟨i + 1, by omega⟩, by simp only; omega, ?_⟩
        refine Weak.sel [0, 1] rfl rfl ?_ ?_ rfl rfl
        · (repeat' (first | exact trivial | refine And.intro ?_ ?_ | fail)) <;> first | exact wk_i (by first | exact hp1 | exact hp1.symm | fail) | rfl | exact wk_u8 (by first | exact hst | fail) | fail
        · (repeat' (first | exact trivial | refine And.intro ?_ ?_ | fail)) <;> first | exact ren_eq (by first | (simp; done) | fail) (by first | rfl | fail) | fail
      · obtain rfl : i = a.length := by omega
        have hlt : decide ((a.length : Int) < (a.length : Int)) = false := by simp
        conv => whnf
        first | refine brF (by exact hlt) ?_ | fail
        conv => whnf
        repeat (fail)
        refine ⟨[0, 1], ?_, rfl, rfl, ?_, rfl⟩
        · (repeat' (fail)) <;> first | rfl | fail
        · (repeat' (first | exact trivial | refine And.intro ?_ ?_ | fail)) <;> first | exact ren_eq (by first | (simp; done) | fail) (by first | rfl | fail) | fail
  · have g1 : ((a.length : Int) != (b.length : Int)) = true := by simp; omega
    have hd : decide (a = b) = false := by simp only [decide_eq_false_iff_not]; intro e; exact hab (by rw [e])
    rw [hd]
    refine scall_of ttOk (by kernel_rfl : Try.prog.funcs[96]? = some Try.f96) rfl rfl rfl ?_
    refine sw_ok ttOk mixed (by kernel_rfl) ?_
    conv => whnf
    repeat (first | (refine gdT g1 ?_; conv => whnf) | fail)
    refine ⟨[0, 1], ?_, rfl, rfl, ?_, rfl⟩
    · (repeat' (fail)) <;> first | rfl | fail
    · (repeat' (first | exact trivial | refine And.intro ?_ ?_ | fail)) <;> first | exact ren_eq (by first | (simp; done) | fail) (by first | rfl | fail) | fail
end Go.Sh
/- ctr: plain facts of a text turned. -/
namespace Go.Sh
open Go.Proofs
set_option linter.unusedSimpArgs false

theorem turnL_len (w : List UInt8) (R : Nat) (c b : List UInt8) : (turnL w R c b).length = b.length := by unfold turnL; exact rng_len
theorem turnL_getD (w : List UInt8) (R : Nat) (c b : List UInt8) (j : Nat) (h : j < b.length) : (turnL w R c b).getD j 0 = trn w R c b j := by unfold turnL; exact rng_getD h
theorem ext_getD {l m : List UInt8} (hl : l.length = m.length) (h : ∀ j, j < l.length → l.getD j 0 = m.getD j 0) : l = m := by
  apply List.ext_getElem hl
  intro j h1 h2
  have := h j h1
  rw [List.getD_eq_getElem?_getD, List.getD_eq_getElem?_getD, List.getElem?_eq_getElem h1, List.getElem?_eq_getElem h2] at this
  exact this
theorem turnL_twice (w : List UInt8) (R : Nat) (c b : List UInt8) : turnL w R c (turnL w R c b) = b := by
  apply ext_getD
  · rw [turnL_len, turnL_len]
  · intro j hj
    rw [turnL_len] at hj
    rw [turnL_getD _ _ _ _ _ hj]
    rw [turnL_len] at hj
    unfold trn
    rw [turnL_getD _ _ _ _ _ hj]
    unfold trn
    rw [UInt8.xor_assoc, UInt8.xor_self, UInt8.xor_zero]
theorem ctrN_add (c : List UInt8) (a : Nat) : ∀ k, ctrN (ctrN c a) k = ctrN c (a + k)
  | 0 => rfl
  | k + 1 => by rw [ctrN_s, ctrN_add c a k]; rfl
theorem drop_getD (l : List UInt8) (n j : Nat) : (l.drop n).getD j 0 = l.getD (n + j) 0 := by
  rw [List.getD_eq_getElem?_getD, List.getD_eq_getElem?_getD, List.getElem?_drop]
theorem turnL_drop (w : List UInt8) (R : Nat) (c b : List UInt8) (a : Nat) : turnL w R (ctrN c a) (b.drop (16 * a)) = (turnL w R c b).drop (16 * a) := by
  apply ext_getD
  · rw [turnL_len, List.length_drop, List.length_drop, turnL_len]
  · intro j hj
    rw [turnL_len] at hj
    rw [turnL_getD _ _ _ _ _ hj, drop_getD]
    rw [List.length_drop] at hj
    rw [turnL_getD _ _ _ _ _ (by omega)]
    unfold trn ksB
    rw [drop_getD, ctrN_add, show (16 * a + j) / 16 = a + j / 16 by omega, show (16 * a + j) % 16 = j % 16 by omega]
end Go.Sh
/- gcm: Seal (f61), Open (f62). -/
namespace Go.Sh
open Go.Proofs
set_option maxHeartbeats 8000000
set_option linter.unusedSimpArgs false

def ctr2 (nonce : List UInt8) : List UInt8 := nonce ++ [0, 0, 0, 2]
theorem next_first {nonce : List UInt8} (h : nonce.length = 12) : nextC (nonce ++ [0, 0, 0, 1]) = ctr2 nonce := by
  match nonce, h with
  | [a, b, c, d, e, f, g, h, i, j, k, l], _ => rfl
def sealT (w : List UInt8) (R : Nat) (nonce plain : List UInt8) : List UInt8 := turnL w R (ctr2 nonce) plain
def sealL (w : List UInt8) (R : Nat) (nonce aad plain : List UInt8) : List UInt8 := sealT w R nonce plain ++ tagL w R nonce aad (sealT w R nonce plain)
theorem tagL_len (w : List UInt8) (R : Nat) (nonce aad text : List UInt8) : (tagL w R nonce aad text).length = 16 := by unfold tagL; rw [turnL_len, hashL_len]
theorem sealT_len (w : List UInt8) (R : Nat) (nonce plain : List UInt8) : (sealT w R nonce plain).length = plain.length := turnL_len ..
theorem sealL_len (w : List UInt8) (R : Nat) (nonce aad plain : List UInt8) : (sealL w R nonce aad plain).length = plain.length + 16 := by unfold sealL; rw [List.length_append, tagL_len, sealT_len]
attribute [local irreducible] tagL sealT

theorem f61k (key nonce aad plain A D : List UInt8) (h1 : key.length ≠ 16) (h2 : key.length ≠ 32) (f0 f1 f2 : Bool) :
    SCall Try.prog 61 [.sl 0 0 key.length 1 f0, .agg (nonce.map .u8), .sl 1 0 aad.length 1 f1, .sl 2 0 plain.length 1 f2] [some (.ro (key.map .u8)), some (.ro (A.map .u8)), some (.ro (D.map .u8))]
      (.tup [.slnil, .i 2]) [some (.ro (key.map .u8)), some (.ro (A.map .u8)), some (.ro (D.map .u8))] := by
  have hn := f45ns f0 key key 0 (by simp) h1 h2
  refine scall_of ttOk (by kernel_rfl : Try.prog.funcs[61]? = some Try.f61) rfl rfl rfl ?_
  try simp only [List.length_cons, List.length_nil, Nat.zero_add, Nat.reduceAdd]
  refine sw_ok ttOk mixed (by kernel_rfl) ?_
  conv => whnf
  repeat (fail)
  refine ok1_callF [0] [false] true (hn) rfl rfl ⟨⟨rfl, by first | rfl | fail⟩, by (repeat' (first | exact trivial | refine And.intro ?_ ?_)) <;> first | exact ren_eq (by first | (simp; done) | fail) (by first | rfl | fail) | fail, by first | rfl | fail, by first | rfl | fail, ?_⟩
  conv => whnf
  repeat (first | (refine brT rfl ?_; conv => whnf) | fail)
  refine ⟨[0, 1, 2], ?_, rfl, rfl, ?_, rfl⟩
  · (repeat' (first | (refine wk_tup ?_) | (refine wk_cons ?_ ?_))) <;> first | rfl | fail
  · (repeat' (first | exact trivial | refine And.intro ?_ ?_ | fail)) <;> first | exact ren_eq (by first | (simp; done) | fail) (by first | rfl | fail) | fail
theorem f61_4 (key nonce aad plain A D : List UInt8) (hk : key.length = 16) (hno : nonce.length = 12) (hA : (A.drop 0).take aad.length = aad) (hD : (D.drop 0).take plain.length = plain) (hoA : 0 + aad.length ≤ A.length) (hoD : 0 + plain.length ≤ D.length)
    (ha : aad.length < 1000000) (hp : plain.length < 1000000) (f0 f1 f2 : Bool) :
    SCall Try.prog 61 [.sl 0 0 16 1 f0, .agg (nonce.map .u8), .sl 1 0 aad.length 1 f1, .sl 2 0 plain.length 1 f2] [some (.ro (key.map .u8)), some (.ro (A.map .u8)), some (.ro (D.map .u8))]
      (.tup [.sl 3 0 (plain.length + 16) 1 false, .i 0]) [some (.ro (key.map .u8)), some (.ro (A.map .u8)), some (.ro (D.map .u8)), some (.row 5 ((sealL (wSt key 4 44) 10 nonce aad plain).map .u8))] := by
  have hwl := wSt_4 key
  obtain ⟨w, hwe⟩ : ∃ w, w = wSt key 4 44 := ⟨_, rfl⟩
  have hn := f45s_4 f0 key key 0 hk (by rw [← hk]; simp)
  rw [← hwe] at hn hwl ⊢
  have h94 := f94 nonce hno
  have h54 := f54L (nonce ++ [0, 0, 0, 1]) (by simp [hno])
  rw [next_first hno] at h54
  obtain ⟨T, hT⟩ : ∃ T, T = sealT w 10 nonce plain := ⟨_, rfl⟩
  have hTl : T.length = plain.length := by rw [hT]; exact sealT_len ..
  have h53 := f53_1 44 false w 10 rfl hwl (by omega) (by omega) (ctr2 nonce) D plain 0 hD hoD (by unfold ctr2; simp [hno]) (by omega) true f2
  rw [show turnL w 10 (ctr2 nonce) plain = T by rw [hT]; unfold sealT; rfl] at h53
  have h95 := f95 44 false w 10 rfl hwl (by omega) (by omega) nonce aad T A T hno hA (by simp) hoA (by omega) ha (by omega) f1 false
  rw [hTl] at h95
  obtain ⟨G, hG⟩ : ∃ G, G = tagL w 10 nonce aad T := ⟨_, rfl⟩
  have hGl : G.length = 16 := by rw [hG]; exact tagL_len ..
  rw [← hG] at h95
  have hse : sealL w 10 nonce aad plain = T ++ G := by unfold sealL; rw [← hT, ← hG]
  rw [hse]
  refine scall_of ttOk (by kernel_rfl : Try.prog.funcs[61]? = some Try.f61) rfl rfl rfl ?_
  try simp only [List.length_cons, List.length_nil, Nat.zero_add, Nat.reduceAdd]
  refine sw_ok ttOk mixed (by kernel_rfl) ?_
  conv => whnf
  repeat (fail)
  refine ok1_callE [0] [some (.ro (key.map .u8)), some (.box (sbx.map .u8 ++ [.sl 5 0 44 4 false])), some (.row 137 (w.map .u8))] (.tup [.p 4 0, .i 0]) (hn) rfl rfl ⟨⟨rfl, by first | rfl | fail⟩, by (repeat' (first | exact trivial | refine And.intro ?_ ?_)) <;> first | exact ren_m8 rfl | fail, by (repeat' (first | exact trivial | refine And.intro ?_ ?_)) <;> first | exact renB_plain _ (by first | (simp; done) | fail) | exact rb_boxa (by first | (simp; done) | fail) rfl | rfl, by first | rfl, ?_⟩
  conv => whnf
  repeat (first | (refine brF rfl ?_; conv => whnf) | (refine Exists.intro _ (And.intro (sload_all rfl (by first | rfl | (simp; omega))) ?_); conv => whnf) | fail)
  refine ok1_callF [] [] true (h94) rfl rfl ⟨⟨rfl, by first | ((repeat' (first | exact wk_nil | exact ren_m8 rfl | (refine wk_agg ?_) | (refine wk_cons ?_ ?_))); done) | fail⟩, trivial, by first | rfl | fail, by first | simp [plainRf, plainR, plainT, plainW], ?_⟩
  conv => whnf
  repeat (fail)
  refine ok1_callF [] [] true (h54) rfl rfl ⟨⟨rfl, by first | ((repeat' (first | exact wk_nil | exact ren_m8 rfl | (refine wk_agg ?_) | (refine wk_cons ?_ ?_))); done) | fail⟩, trivial, by first | rfl | fail, by first | simp [plainRf, plainR, plainT, plainW], ?_⟩
  conv => whnf
  repeat (first | (refine Exists.intro _ (And.intro rfl ?_); conv => whnf) | fail)
  refine ok1_callF [4, 5, 6, 2] [false, false, false, false, true] false (h53) rfl rfl ⟨⟨rfl, by first | ((repeat' (first | exact ren_m8 rfl | exact rfl | (refine wk_agg ?_) | (refine wk_cons ?_ ?_))); done) | fail⟩, by (repeat' (first | exact trivial | refine And.intro ?_ ?_)) <;> first | rfl | exact ren_eq (by first | (simp; done) | fail) (by first | rfl | fail) | exact ren_app2 (by first | (simp; done) | fail) (by first | rfl | fail) (by first | rfl | fail) | fail, by first | simp [plainHf, plainB], by first | rfl | fail, ?_⟩
  conv => whnf
  repeat (first | (refine Exists.intro _ (And.intro (sload_all rfl (by first | rfl | (simp; omega))) ?_); conv => whnf) | fail)
  refine ok1_callF [4, 5, 1, 7] [false, false, false, false, true] false (h95) rfl rfl ⟨⟨rfl, by first | ((repeat' (first | exact ren_m8 rfl | exact rfl | (refine wk_agg ?_) | (refine wk_cons ?_ ?_))); done) | fail⟩, by (repeat' (first | exact trivial | refine And.intro ?_ ?_)) <;> first | exact ren_eq (by first | (simp; done) | fail) (by first | rfl | fail) | exact ren_app2 (by first | (simp; done) | fail) (by first | rfl | fail) (by first | rfl | fail) | fail, by first | simp [plainHf, plainB], by first | rfl | fail, ?_⟩
  conv => whnf
  repeat (first | (refine And.intro (by first | omega | (simp [ti5]; omega)) ?_; conv => whnf) | fail)
  have hcat : (T ++ G).map SV.u8 = List.take (plain.length * 1) (List.drop 0 (T.map SV.u8)) ++ List.take (16 * 1) (List.drop 0 (G.map SV.u8)) := by
    rw [List.drop_zero, List.drop_zero, List.take_of_length_le (by simp; omega), List.take_of_length_le (by simp; omega), List.map_append]
  refine ⟨[0, 1, 2, 9], ?_, rfl, rfl, ?_, rfl⟩
  · (repeat' (first | (refine wk_tup ?_) | (refine wk_cons ?_ ?_))) <;> first | rfl | fail
  · (repeat' (first | exact trivial | exact ren_eq (plainL_u8 _) hcat | refine And.intro ?_ ?_ | fail)) <;> first | rfl | exact ren_eq (by first | (simp; done) | fail) (by first | rfl | fail) | fail
theorem f61_8 (key nonce aad plain A D : List UInt8) (hk : key.length = 32) (hno : nonce.length = 12) (hA : (A.drop 0).take aad.length = aad) (hD : (D.drop 0).take plain.length = plain) (hoA : 0 + aad.length ≤ A.length) (hoD : 0 + plain.length ≤ D.length)
    (ha : aad.length < 1000000) (hp : plain.length < 1000000) (f0 f1 f2 : Bool) :
    SCall Try.prog 61 [.sl 0 0 32 1 f0, .agg (nonce.map .u8), .sl 1 0 aad.length 1 f1, .sl 2 0 plain.length 1 f2] [some (.ro (key.map .u8)), some (.ro (A.map .u8)), some (.ro (D.map .u8))]
      (.tup [.sl 3 0 (plain.length + 16) 1 false, .i 0]) [some (.ro (key.map .u8)), some (.ro (A.map .u8)), some (.ro (D.map .u8)), some (.row 5 ((sealL (wSt key 8 60) 14 nonce aad plain).map .u8))] := by
  have hwl := wSt_8 key
  obtain ⟨w, hwe⟩ : ∃ w, w = wSt key 8 60 := ⟨_, rfl⟩
  have hn := f45s_8 f0 key key 0 hk (by rw [← hk]; simp)
  rw [← hwe] at hn hwl ⊢
  have h94 := f94 nonce hno
  have h54 := f54L (nonce ++ [0, 0, 0, 1]) (by simp [hno])
  rw [next_first hno] at h54
  obtain ⟨T, hT⟩ : ∃ T, T = sealT w 14 nonce plain := ⟨_, rfl⟩
  have hTl : T.length = plain.length := by rw [hT]; exact sealT_len ..
  have h53 := f53_1 60 false w 14 rfl hwl (by omega) (by omega) (ctr2 nonce) D plain 0 hD hoD (by unfold ctr2; simp [hno]) (by omega) true f2
  rw [show turnL w 14 (ctr2 nonce) plain = T by rw [hT]; unfold sealT; rfl] at h53
  have h95 := f95 60 false w 14 rfl hwl (by omega) (by omega) nonce aad T A T hno hA (by simp) hoA (by omega) ha (by omega) f1 false
  rw [hTl] at h95
  obtain ⟨G, hG⟩ : ∃ G, G = tagL w 14 nonce aad T := ⟨_, rfl⟩
  have hGl : G.length = 16 := by rw [hG]; exact tagL_len ..
  rw [← hG] at h95
  have hse : sealL w 14 nonce aad plain = T ++ G := by unfold sealL; rw [← hT, ← hG]
  rw [hse]
  refine scall_of ttOk (by kernel_rfl : Try.prog.funcs[61]? = some Try.f61) rfl rfl rfl ?_
  try simp only [List.length_cons, List.length_nil, Nat.zero_add, Nat.reduceAdd]
  refine sw_ok ttOk mixed (by kernel_rfl) ?_
  conv => whnf
  repeat (fail)
  refine ok1_callE [0] [some (.ro (key.map .u8)), some (.box (sbx.map .u8 ++ [.sl 5 0 60 4 false])), some (.row 137 (w.map .u8))] (.tup [.p 4 0, .i 0]) (hn) rfl rfl ⟨⟨rfl, by first | rfl | fail⟩, by (repeat' (first | exact trivial | refine And.intro ?_ ?_)) <;> first | exact ren_m8 rfl | fail, by (repeat' (first | exact trivial | refine And.intro ?_ ?_)) <;> first | exact renB_plain _ (by first | (simp; done) | fail) | exact rb_boxa (by first | (simp; done) | fail) rfl | rfl, by first | rfl, ?_⟩
  conv => whnf
  repeat (first | (refine brF rfl ?_; conv => whnf) | (refine Exists.intro _ (And.intro (sload_all rfl (by first | rfl | (simp; omega))) ?_); conv => whnf) | fail)
  refine ok1_callF [] [] true (h94) rfl rfl ⟨⟨rfl, by first | ((repeat' (first | exact wk_nil | exact ren_m8 rfl | (refine wk_agg ?_) | (refine wk_cons ?_ ?_))); done) | fail⟩, trivial, by first | rfl | fail, by first | simp [plainRf, plainR, plainT, plainW], ?_⟩
  conv => whnf
  repeat (fail)
  refine ok1_callF [] [] true (h54) rfl rfl ⟨⟨rfl, by first | ((repeat' (first | exact wk_nil | exact ren_m8 rfl | (refine wk_agg ?_) | (refine wk_cons ?_ ?_))); done) | fail⟩, trivial, by first | rfl | fail, by first | simp [plainRf, plainR, plainT, plainW], ?_⟩
  conv => whnf
  repeat (first | (refine Exists.intro _ (And.intro rfl ?_); conv => whnf) | fail)
  refine ok1_callF [4, 5, 6, 2] [false, false, false, false, true] false (h53) rfl rfl ⟨⟨rfl, by first | ((repeat' (first | exact ren_m8 rfl | exact rfl | (refine wk_agg ?_) | (refine wk_cons ?_ ?_))); done) | fail⟩, by (repeat' (first | exact trivial | refine And.intro ?_ ?_)) <;> first | rfl | exact ren_eq (by first | (simp; done) | fail) (by first | rfl | fail) | exact ren_app2 (by first | (simp; done) | fail) (by first | rfl | fail) (by first | rfl | fail) | fail, by first | simp [plainHf, plainB], by first | rfl | fail, ?_⟩
  conv => whnf
  repeat (first | (refine Exists.intro _ (And.intro (sload_all rfl (by first | rfl | (simp; omega))) ?_); conv => whnf) | fail)
  refine ok1_callF [4, 5, 1, 7] [false, false, false, false, true] false (h95) rfl rfl ⟨⟨rfl, by first | ((repeat' (first | exact ren_m8 rfl | exact rfl | (refine wk_agg ?_) | (refine wk_cons ?_ ?_))); done) | fail⟩, by (repeat' (first | exact trivial | refine And.intro ?_ ?_)) <;> first | exact ren_eq (by first | (simp; done) | fail) (by first | rfl | fail) | exact ren_app2 (by first | (simp; done) | fail) (by first | rfl | fail) (by first | rfl | fail) | fail, by first | simp [plainHf, plainB], by first | rfl | fail, ?_⟩
  conv => whnf
  repeat (first | (refine And.intro (by first | omega | (simp [ti5]; omega)) ?_; conv => whnf) | fail)
  have hcat : (T ++ G).map SV.u8 = List.take (plain.length * 1) (List.drop 0 (T.map SV.u8)) ++ List.take (16 * 1) (List.drop 0 (G.map SV.u8)) := by
    rw [List.drop_zero, List.drop_zero, List.take_of_length_le (by simp; omega), List.take_of_length_le (by simp; omega), List.map_append]
  refine ⟨[0, 1, 2, 9], ?_, rfl, rfl, ?_, rfl⟩
  · (repeat' (first | (refine wk_tup ?_) | (refine wk_cons ?_ ?_))) <;> first | rfl | fail
  · (repeat' (first | exact trivial | exact ren_eq (plainL_u8 _) hcat | refine And.intro ?_ ?_ | fail)) <;> first | rfl | exact ren_eq (by first | (simp; done) | fail) (by first | rfl | fail) | fail
end Go.Sh
/- gcm: Open (f62). -/
namespace Go.Sh
open Go.Proofs
set_option maxHeartbeats 8000000
set_option linter.unusedSimpArgs false

def cutN (s : List UInt8) : Nat := s.length - 16
/-- Is the tag at the end the text's? -/
def openOk (w : List UInt8) (R : Nat) (nonce aad s : List UInt8) : Bool := decide (16 ≤ s.length) && decide (tagL w R nonce aad (s.take (cutN s)) = s.drop (cutN s))
def openL (w : List UInt8) (R : Nat) (nonce s : List UInt8) : List UInt8 := sealT w R nonce (s.take (cutN s))
theorem openL_len (w : List UInt8) (R : Nat) (nonce s : List UInt8) : (openL w R nonce s).length = cutN s := by unfold openL; rw [sealT_len, List.length_take]; unfold cutN; omega
attribute [local irreducible] tagL sealT
theorem f62k (key nonce aad s A D : List UInt8) (h1 : key.length ≠ 16) (h2 : key.length ≠ 32) (f0 f1 f2 : Bool) :
    SCall Try.prog 62 [.sl 0 0 key.length 1 f0, .agg (nonce.map .u8), .sl 1 0 aad.length 1 f1, .sl 2 0 s.length 1 f2] [some (.ro (key.map .u8)), some (.ro (A.map .u8)), some (.ro (D.map .u8))]
      (.tup [.slnil, .i 2]) [some (.ro (key.map .u8)), some (.ro (A.map .u8)), some (.ro (D.map .u8))] := by
  have hn := f45ns f0 key key 0 (by simp) h1 h2
  refine scall_of ttOk (by kernel_rfl : Try.prog.funcs[62]? = some Try.f62) rfl rfl rfl ?_
  try simp only [List.length_cons, List.length_nil, Nat.zero_add, Nat.reduceAdd]
  refine sw_ok ttOk mixed (by kernel_rfl) ?_
  conv => whnf
  repeat (fail)
  refine ok1_callF [0] [false] true (hn) rfl rfl ⟨⟨rfl, by first | rfl | fail⟩, by (repeat' (first | exact trivial | refine And.intro ?_ ?_)) <;> first | exact ren_eq (by first | (simp; done) | fail) (by first | rfl | fail) | fail, by first | rfl | fail, by first | rfl | fail, ?_⟩
  conv => whnf
  repeat (first | (refine brT rfl ?_; conv => whnf) | fail)
  refine ⟨[0, 1, 2], ?_, rfl, rfl, ?_, rfl⟩
  · (repeat' (first | (refine wk_tup ?_) | (refine wk_cons ?_ ?_))) <;> first | rfl | fail
  · (repeat' (first | exact trivial | refine And.intro ?_ ?_ | fail)) <;> first | exact ren_eq (by first | (simp; done) | fail) (by first | rfl | fail) | fail
theorem f62s_4 (key nonce aad s A D : List UInt8) (hk : key.length = 16) (hs : s.length < 16) (f0 f1 f2 : Bool) :
    SCall Try.prog 62 [.sl 0 0 16 1 f0, .agg (nonce.map .u8), .sl 1 0 aad.length 1 f1, .sl 2 0 s.length 1 f2] [some (.ro (key.map .u8)), some (.ro (A.map .u8)), some (.ro (D.map .u8))]
      (.tup [.slnil, .i 140]) [some (.ro (key.map .u8)), some (.ro (A.map .u8)), some (.ro (D.map .u8))] := by
  have hn := f45s_4 f0 key key 0 hk (by rw [← hk]; simp)
  have g1 : decide (w64 ((s.length : Int) - 16) < 0) = true := by simp only [w64_eq, decide_eq_true_eq]; omega
  refine scall_of ttOk (by kernel_rfl : Try.prog.funcs[62]? = some Try.f62) rfl rfl rfl ?_
  try simp only [List.length_cons, List.length_nil, Nat.zero_add, Nat.reduceAdd]
  refine sw_ok ttOk mixed (by kernel_rfl) ?_
  conv => whnf
  repeat (fail)
  refine ok1_callE [0] [some (.ro (key.map .u8)), some (.box (sbx.map .u8 ++ [.sl 5 0 44 4 false])), some (.row 137 ((wSt key 4 44).map .u8))] (.tup [.p 4 0, .i 0]) (hn) rfl rfl ⟨⟨rfl, by first | rfl | fail⟩, by (repeat' (first | exact trivial | refine And.intro ?_ ?_)) <;> first | exact ren_m8 rfl | fail, by (repeat' (first | exact trivial | refine And.intro ?_ ?_)) <;> first | exact renB_plain _ (by first | (simp; done) | fail) | exact rb_boxa (by first | (simp; done) | fail) rfl | rfl, by first | rfl, ?_⟩
  conv => whnf
  repeat (first | (refine brT rfl ?_; conv => whnf) | (refine brF rfl ?_; conv => whnf) | (refine gdF g1 ?_; conv => whnf) | (refine pkT g1 ?_; conv => whnf) | (refine And.intro (by kernel_rfl) ?_; conv => whnf) | fail)
  refine ⟨[0, 1, 2], ?_, rfl, rfl, ?_, rfl⟩
  · (repeat' (first | (refine wk_tup ?_) | (refine wk_cons ?_ ?_))) <;> first | rfl | fail
  · (repeat' (first | exact trivial | refine And.intro ?_ ?_ | fail)) <;> first | exact ren_eq (by first | (simp; done) | fail) (by first | rfl | fail) | fail
theorem f62b_4 (key nonce aad s A D : List UInt8) (hk : key.length = 16) (hs : 16 ≤ s.length) (hno : nonce.length = 12) (hA : (A.drop 0).take aad.length = aad) (hD : (D.drop 0).take s.length = s) (hoA : 0 + aad.length ≤ A.length) (hoD : 0 + s.length ≤ D.length)
    (ha : aad.length < 1000000) (hp : s.length < 1000000) (hok : openOk (wSt key 4 44) 10 nonce aad s = false) (f0 f1 f2 : Bool) :
    SCall Try.prog 62 [.sl 0 0 16 1 f0, .agg (nonce.map .u8), .sl 1 0 aad.length 1 f1, .sl 2 0 s.length 1 f2] [some (.ro (key.map .u8)), some (.ro (A.map .u8)), some (.ro (D.map .u8))]
      (.tup [.slnil, .i 140]) [some (.ro (key.map .u8)), some (.ro (A.map .u8)), some (.ro (D.map .u8))] := by
  have hwl := wSt_4 key
  obtain ⟨w, hwe⟩ : ∃ w, w = wSt key 4 44 := ⟨_, rfl⟩
  have hn := f45s_4 f0 key key 0 hk (by rw [← hk]; simp)
  try rw [← hwe]
  rw [← hwe] at hn hwl hok
  have hcn : s.length = cutN s + 16 := by unfold cutN; omega
  obtain ⟨q, hq⟩ : ∃ q, q = cutN s := ⟨_, rfl⟩
  have hq2 : s.length = q + 16 := by rw [hq]; exact hcn
  have g1 : decide (w64 ((s.length : Int) - 16) < 0) = false := by simp only [w64_eq, decide_eq_false_iff_not]; omega
  have hw : w64 ((s.length : Int) - 16) = (q : Int) := by simp only [w64_eq]; omega
  have h94 := f94 nonce hno
  have h54 := f54L (nonce ++ [0, 0, 0, 1]) (by simp [hno])
  rw [next_first hno] at h54
  obtain ⟨t, ht⟩ : ∃ t, t = s.take q := ⟨_, rfl⟩
  obtain ⟨u, hu⟩ : ∃ u, u = s.drop q := ⟨_, rfl⟩
  have htl : t.length = q := by rw [ht, List.length_take]; omega
  have hul : u.length = 16 := by rw [hu, List.length_drop]; omega
  have hDt : (D.drop 0).take t.length = t := by
    have : (D.drop 0).take q = ((D.drop 0).take s.length).take q := by rw [List.take_take]; congr 1; omega
    rw [htl, this, hD, ht]
  have hDu : (D.drop q).take u.length = u := by
    have : ((D.drop 0).take s.length).drop q = (D.drop q).take (s.length - q) := by rw [List.drop_take, List.drop_zero]
    rw [hul, show 16 = s.length - q by omega, ← this, hD, hu]
  have h95 := f95 44 false w 10 rfl hwl (by omega) (by omega) nonce aad t A D hno hA hDt hoA (by omega) ha (by omega) f1
  simp only [htl] at h95
  obtain ⟨G, hG⟩ : ∃ G, G = tagL w 10 nonce aad t := ⟨_, rfl⟩
  have hGl : G.length = 16 := by rw [hG]; exact tagL_len ..
  simp only [← hG] at h95
  have h96 := fun f => f96 G u G D 0 (0 + q * 1) false f (by simp) (by omega) (by rw [show 0 + q * 1 = q by omega]; exact hDu) (by omega) (by omega)
  have hGu : decide (G = u) = false := by
    have : openOk w 10 nonce aad s = decide (G = u) := by unfold openOk; rw [← hq, ← ht, ← hu, ← hG]; simp [hs]
    rw [← this]; exact hok
  simp only [hGu, hGl, show u.length = s.length - q by omega] at h96
  have h53 := f53_1 44 false w 10 rfl hwl (by omega) (by omega) (ctr2 nonce) D t 0 hDt (by omega) (by unfold ctr2; simp [hno]) (by omega) true
  obtain ⟨X, hX⟩ : ∃ X, X = openL w 10 nonce s := ⟨_, rfl⟩
  simp only [show turnL w 10 (ctr2 nonce) t = X by rw [hX, ht, hq]; unfold openL sealT; rfl, htl] at h53
  try rw [← hX, ← hq]
  refine scall_of ttOk (by kernel_rfl : Try.prog.funcs[62]? = some Try.f62) rfl rfl rfl ?_
  try simp only [List.length_cons, List.length_nil, Nat.zero_add, Nat.reduceAdd]
  refine sw_ok ttOk mixed (by kernel_rfl) ?_
  conv => whnf
  repeat (fail)
  refine ok1_callE [0] [some (.ro (key.map .u8)), some (.box (sbx.map .u8 ++ [.sl 5 0 44 4 false])), some (.row 137 (w.map .u8))] (.tup [.p 4 0, .i 0]) (hn) rfl rfl ⟨⟨rfl, by first | rfl | fail⟩, by (repeat' (first | exact trivial | refine And.intro ?_ ?_)) <;> first | exact ren_m8 rfl | fail, by (repeat' (first | exact trivial | refine And.intro ?_ ?_)) <;> first | exact renB_plain _ (by first | (simp; done) | fail) | exact rb_boxa (by first | (simp; done) | fail) rfl | rfl, by first | rfl, ?_⟩
  conv => whnf
  repeat (first | (refine brF rfl ?_; conv => whnf) | (refine Exists.intro _ (And.intro (sload_all rfl (by first | rfl | (simp; omega))) ?_); conv => whnf) | (refine gdT g1 ?_; conv => whnf) | (refine Exists.intro _ (And.intro (idx_i (m := q) (by first | rfl | omega | fail)) ?_); conv => whnf) | (refine Exists.intro _ (And.intro rfl ?_); conv => whnf) | (refine And.intro (by first | omega | fail) ?_; conv => whnf) | fail)
  refine ok1_callF [4, 5, 1, 2] [false, false, false, false, true] false (h95 _) rfl rfl ⟨⟨rfl, by first | ((repeat' (first | exact ren_m8 rfl | exact rfl | (refine wk_agg ?_) | (refine wk_cons ?_ ?_))); done) | fail⟩, by (repeat' (first | exact trivial | refine And.intro ?_ ?_)) <;> first | exact ren_eq (by first | (simp; done) | fail) (by first | rfl | fail) | exact ren_app2 (by first | (simp; done) | fail) (by first | rfl | fail) (by first | rfl | fail) | fail, by first | simp [plainHf, plainB], by first | rfl | fail, ?_⟩
  conv => whnf
  repeat (first | (refine gdT g1 ?_; conv => whnf) | (refine Exists.intro _ (And.intro (idx_i (m := q) (by first | rfl | omega | fail)) ?_); conv => whnf) | (refine Exists.intro _ (And.intro rfl ?_); conv => whnf) | (refine And.intro (by first | omega | fail) ?_; conv => whnf) | fail)
  refine ok1_callF [6, 2] [false, false] true (h96 _) rfl rfl ⟨⟨rfl, by first | rfl | fail⟩, by (repeat' (first | exact trivial | refine And.intro ?_ ?_)) <;> first | exact ren_eq (by first | (simp; done) | fail) (by first | rfl | fail) | fail, by first | rfl | fail, by first | rfl | fail, ?_⟩
  conv => whnf
  repeat (first | (refine brT rfl ?_; conv => whnf) | (refine gdT g1 ?_; conv => whnf) | (refine pkF g1 ?_; conv => whnf) | (refine And.intro (by kernel_rfl) ?_; conv => whnf) | fail)
  refine ⟨[0, 1, 2], ?_, rfl, rfl, ?_, rfl⟩
  · (repeat' (first | (refine wk_tup ?_) | (refine wk_cons ?_ ?_))) <;> first | rfl | fail
  · (repeat' (first | exact trivial | refine And.intro ?_ ?_ | fail)) <;> first | exact ren_eq (by first | (simp; done) | fail) (by first | rfl | fail) | fail
theorem f62o_4 (key nonce aad s A D : List UInt8) (hk : key.length = 16) (hs : 16 ≤ s.length) (hno : nonce.length = 12) (hA : (A.drop 0).take aad.length = aad) (hD : (D.drop 0).take s.length = s) (hoA : 0 + aad.length ≤ A.length) (hoD : 0 + s.length ≤ D.length)
    (ha : aad.length < 1000000) (hp : s.length < 1000000) (hok : openOk (wSt key 4 44) 10 nonce aad s = true) (f0 f1 f2 : Bool) :
    SCall Try.prog 62 [.sl 0 0 16 1 f0, .agg (nonce.map .u8), .sl 1 0 aad.length 1 f1, .sl 2 0 s.length 1 f2] [some (.ro (key.map .u8)), some (.ro (A.map .u8)), some (.ro (D.map .u8))]
      (.tup [.sl 3 0 (cutN s) 1 false, .i 0]) [some (.ro (key.map .u8)), some (.ro (A.map .u8)), some (.ro (D.map .u8)), some (.row 5 ((openL (wSt key 4 44) 10 nonce s).map .u8))] := by
  have hwl := wSt_4 key
  obtain ⟨w, hwe⟩ : ∃ w, w = wSt key 4 44 := ⟨_, rfl⟩
  have hn := f45s_4 f0 key key 0 hk (by rw [← hk]; simp)
  try rw [← hwe]
  rw [← hwe] at hn hwl hok
  have hcn : s.length = cutN s + 16 := by unfold cutN; omega
  obtain ⟨q, hq⟩ : ∃ q, q = cutN s := ⟨_, rfl⟩
  have hq2 : s.length = q + 16 := by rw [hq]; exact hcn
  have g1 : decide (w64 ((s.length : Int) - 16) < 0) = false := by simp only [w64_eq, decide_eq_false_iff_not]; omega
  have hw : w64 ((s.length : Int) - 16) = (q : Int) := by simp only [w64_eq]; omega
  have h94 := f94 nonce hno
  have h54 := f54L (nonce ++ [0, 0, 0, 1]) (by simp [hno])
  rw [next_first hno] at h54
  obtain ⟨t, ht⟩ : ∃ t, t = s.take q := ⟨_, rfl⟩
  obtain ⟨u, hu⟩ : ∃ u, u = s.drop q := ⟨_, rfl⟩
  have htl : t.length = q := by rw [ht, List.length_take]; omega
  have hul : u.length = 16 := by rw [hu, List.length_drop]; omega
  have hDt : (D.drop 0).take t.length = t := by
    have : (D.drop 0).take q = ((D.drop 0).take s.length).take q := by rw [List.take_take]; congr 1; omega
    rw [htl, this, hD, ht]
  have hDu : (D.drop q).take u.length = u := by
    have : ((D.drop 0).take s.length).drop q = (D.drop q).take (s.length - q) := by rw [List.drop_take, List.drop_zero]
    rw [hul, show 16 = s.length - q by omega, ← this, hD, hu]
  have h95 := f95 44 false w 10 rfl hwl (by omega) (by omega) nonce aad t A D hno hA hDt hoA (by omega) ha (by omega) f1
  simp only [htl] at h95
  obtain ⟨G, hG⟩ : ∃ G, G = tagL w 10 nonce aad t := ⟨_, rfl⟩
  have hGl : G.length = 16 := by rw [hG]; exact tagL_len ..
  simp only [← hG] at h95
  have h96 := fun f => f96 G u G D 0 (0 + q * 1) false f (by simp) (by omega) (by rw [show 0 + q * 1 = q by omega]; exact hDu) (by omega) (by omega)
  have hGu : decide (G = u) = true := by
    have : openOk w 10 nonce aad s = decide (G = u) := by unfold openOk; rw [← hq, ← ht, ← hu, ← hG]; simp [hs]
    rw [← this]; exact hok
  simp only [hGu, hGl, show u.length = s.length - q by omega] at h96
  have h53 := f53_1 44 false w 10 rfl hwl (by omega) (by omega) (ctr2 nonce) D t 0 hDt (by omega) (by unfold ctr2; simp [hno]) (by omega) true
  obtain ⟨X, hX⟩ : ∃ X, X = openL w 10 nonce s := ⟨_, rfl⟩
  simp only [show turnL w 10 (ctr2 nonce) t = X by rw [hX, ht, hq]; unfold openL sealT; rfl, htl] at h53
  try rw [← hX, ← hq]
  refine scall_of ttOk (by kernel_rfl : Try.prog.funcs[62]? = some Try.f62) rfl rfl rfl ?_
  try simp only [List.length_cons, List.length_nil, Nat.zero_add, Nat.reduceAdd]
  refine sw_ok ttOk mixed (by kernel_rfl) ?_
  conv => whnf
  repeat (fail)
  refine ok1_callE [0] [some (.ro (key.map .u8)), some (.box (sbx.map .u8 ++ [.sl 5 0 44 4 false])), some (.row 137 (w.map .u8))] (.tup [.p 4 0, .i 0]) (hn) rfl rfl ⟨⟨rfl, by first | rfl | fail⟩, by (repeat' (first | exact trivial | refine And.intro ?_ ?_)) <;> first | exact ren_m8 rfl | fail, by (repeat' (first | exact trivial | refine And.intro ?_ ?_)) <;> first | exact renB_plain _ (by first | (simp; done) | fail) | exact rb_boxa (by first | (simp; done) | fail) rfl | rfl, by first | rfl, ?_⟩
  conv => whnf
  repeat (first | (refine brF rfl ?_; conv => whnf) | (refine Exists.intro _ (And.intro (sload_all rfl (by first | rfl | (simp; omega))) ?_); conv => whnf) | (refine gdT g1 ?_; conv => whnf) | (refine Exists.intro _ (And.intro (idx_i (m := q) (by first | rfl | omega | fail)) ?_); conv => whnf) | (refine Exists.intro _ (And.intro rfl ?_); conv => whnf) | (refine And.intro (by first | omega | fail) ?_; conv => whnf) | fail)
  refine ok1_callF [4, 5, 1, 2] [false, false, false, false, true] false (h95 _) rfl rfl ⟨⟨rfl, by first | ((repeat' (first | exact ren_m8 rfl | exact rfl | (refine wk_agg ?_) | (refine wk_cons ?_ ?_))); done) | fail⟩, by (repeat' (first | exact trivial | refine And.intro ?_ ?_)) <;> first | exact ren_eq (by first | (simp; done) | fail) (by first | rfl | fail) | exact ren_app2 (by first | (simp; done) | fail) (by first | rfl | fail) (by first | rfl | fail) | fail, by first | simp [plainHf, plainB], by first | rfl | fail, ?_⟩
  conv => whnf
  repeat (first | (refine gdT g1 ?_; conv => whnf) | (refine Exists.intro _ (And.intro (idx_i (m := q) (by first | rfl | omega | fail)) ?_); conv => whnf) | (refine Exists.intro _ (And.intro rfl ?_); conv => whnf) | (refine And.intro (by first | omega | fail) ?_; conv => whnf) | fail)
  refine ok1_callF [6, 2] [false, false] true (h96 _) rfl rfl ⟨⟨rfl, by first | rfl | fail⟩, by (repeat' (first | exact trivial | refine And.intro ?_ ?_)) <;> first | exact ren_eq (by first | (simp; done) | fail) (by first | rfl | fail) | fail, by first | rfl | fail, by first | rfl | fail, ?_⟩
  conv => whnf
  repeat (first | (refine brF rfl ?_; conv => whnf) | (refine Exists.intro _ (And.intro (sload_all rfl (by first | rfl | (simp; omega))) ?_); conv => whnf) | (refine gdT g1 ?_; conv => whnf) | (refine pkF g1 ?_; conv => whnf) | (refine And.intro (by kernel_rfl) ?_; conv => whnf) | fail)
  refine ok1_callF [] [] true (h94) rfl rfl ⟨⟨rfl, by first | ((repeat' (first | exact wk_nil | exact ren_m8 rfl | (refine wk_agg ?_) | (refine wk_cons ?_ ?_))); done) | fail⟩, trivial, by first | rfl | fail, by first | simp [plainRf, plainR, plainT, plainW], ?_⟩
  conv => whnf
  repeat (fail)
  refine ok1_callF [] [] true (h54) rfl rfl ⟨⟨rfl, by first | ((repeat' (first | exact wk_nil | exact ren_m8 rfl | (refine wk_agg ?_) | (refine wk_cons ?_ ?_))); done) | fail⟩, trivial, by first | rfl | fail, by first | simp [plainRf, plainR, plainT, plainW], ?_⟩
  conv => whnf
  repeat (first | (refine Exists.intro _ (And.intro (idx_i (m := q) (by first | rfl | omega | fail)) ?_); conv => whnf) | (refine Exists.intro _ (And.intro rfl ?_); conv => whnf) | (refine And.intro (by first | omega | fail) ?_; conv => whnf) | fail)
  refine ok1_callF [4, 5, 7, 2] [false, false, false, false, true] false (h53 _) rfl rfl ⟨⟨rfl, by first | ((repeat' (first | exact ren_m8 rfl | exact rfl | (refine wk_agg ?_) | (refine wk_cons ?_ ?_))); done) | fail⟩, by (repeat' (first | exact trivial | refine And.intro ?_ ?_)) <;> first | rfl | exact ren_eq (by first | (simp; done) | fail) (by first | rfl | fail) | exact ren_app2 (by first | (simp; done) | fail) (by first | rfl | fail) (by first | rfl | fail) | fail, by first | simp [plainHf, plainB], by first | rfl | fail, ?_⟩
  conv => whnf
  repeat (first | (refine And.intro (by kernel_rfl) ?_; conv => whnf) | fail)
  refine ⟨[0, 1, 2, 8], ?_, rfl, rfl, ?_, rfl⟩
  · (repeat' (first | (refine wk_tup ?_) | (refine wk_cons ?_ ?_))) <;> first | rfl | fail
  · (repeat' (first | exact trivial | refine And.intro ?_ ?_ | fail)) <;> first | rfl | exact ren_eq (by first | (simp; done) | fail) (by first | rfl | fail) | fail
theorem f62s_8 (key nonce aad s A D : List UInt8) (hk : key.length = 32) (hs : s.length < 16) (f0 f1 f2 : Bool) :
    SCall Try.prog 62 [.sl 0 0 32 1 f0, .agg (nonce.map .u8), .sl 1 0 aad.length 1 f1, .sl 2 0 s.length 1 f2] [some (.ro (key.map .u8)), some (.ro (A.map .u8)), some (.ro (D.map .u8))]
      (.tup [.slnil, .i 140]) [some (.ro (key.map .u8)), some (.ro (A.map .u8)), some (.ro (D.map .u8))] := by
  have hn := f45s_8 f0 key key 0 hk (by rw [← hk]; simp)
  have g1 : decide (w64 ((s.length : Int) - 16) < 0) = true := by simp only [w64_eq, decide_eq_true_eq]; omega
  refine scall_of ttOk (by kernel_rfl : Try.prog.funcs[62]? = some Try.f62) rfl rfl rfl ?_
  try simp only [List.length_cons, List.length_nil, Nat.zero_add, Nat.reduceAdd]
  refine sw_ok ttOk mixed (by kernel_rfl) ?_
  conv => whnf
  repeat (fail)
  refine ok1_callE [0] [some (.ro (key.map .u8)), some (.box (sbx.map .u8 ++ [.sl 5 0 60 4 false])), some (.row 137 ((wSt key 8 60).map .u8))] (.tup [.p 4 0, .i 0]) (hn) rfl rfl ⟨⟨rfl, by first | rfl | fail⟩, by (repeat' (first | exact trivial | refine And.intro ?_ ?_)) <;> first | exact ren_m8 rfl | fail, by (repeat' (first | exact trivial | refine And.intro ?_ ?_)) <;> first | exact renB_plain _ (by first | (simp; done) | fail) | exact rb_boxa (by first | (simp; done) | fail) rfl | rfl, by first | rfl, ?_⟩
  conv => whnf
  repeat (first | (refine brT rfl ?_; conv => whnf) | (refine brF rfl ?_; conv => whnf) | (refine gdF g1 ?_; conv => whnf) | (refine pkT g1 ?_; conv => whnf) | (refine And.intro (by kernel_rfl) ?_; conv => whnf) | fail)
  refine ⟨[0, 1, 2], ?_, rfl, rfl, ?_, rfl⟩
  · (repeat' (first | (refine wk_tup ?_) | (refine wk_cons ?_ ?_))) <;> first | rfl | fail
  · (repeat' (first | exact trivial | refine And.intro ?_ ?_ | fail)) <;> first | exact ren_eq (by first | (simp; done) | fail) (by first | rfl | fail) | fail
theorem f62b_8 (key nonce aad s A D : List UInt8) (hk : key.length = 32) (hs : 16 ≤ s.length) (hno : nonce.length = 12) (hA : (A.drop 0).take aad.length = aad) (hD : (D.drop 0).take s.length = s) (hoA : 0 + aad.length ≤ A.length) (hoD : 0 + s.length ≤ D.length)
    (ha : aad.length < 1000000) (hp : s.length < 1000000) (hok : openOk (wSt key 8 60) 14 nonce aad s = false) (f0 f1 f2 : Bool) :
    SCall Try.prog 62 [.sl 0 0 32 1 f0, .agg (nonce.map .u8), .sl 1 0 aad.length 1 f1, .sl 2 0 s.length 1 f2] [some (.ro (key.map .u8)), some (.ro (A.map .u8)), some (.ro (D.map .u8))]
      (.tup [.slnil, .i 140]) [some (.ro (key.map .u8)), some (.ro (A.map .u8)), some (.ro (D.map .u8))] := by
  have hwl := wSt_8 key
  obtain ⟨w, hwe⟩ : ∃ w, w = wSt key 8 60 := ⟨_, rfl⟩
  have hn := f45s_8 f0 key key 0 hk (by rw [← hk]; simp)
  try rw [← hwe]
  rw [← hwe] at hn hwl hok
  have hcn : s.length = cutN s + 16 := by unfold cutN; omega
  obtain ⟨q, hq⟩ : ∃ q, q = cutN s := ⟨_, rfl⟩
  have hq2 : s.length = q + 16 := by rw [hq]; exact hcn
  have g1 : decide (w64 ((s.length : Int) - 16) < 0) = false := by simp only [w64_eq, decide_eq_false_iff_not]; omega
  have hw : w64 ((s.length : Int) - 16) = (q : Int) := by simp only [w64_eq]; omega
  have h94 := f94 nonce hno
  have h54 := f54L (nonce ++ [0, 0, 0, 1]) (by simp [hno])
  rw [next_first hno] at h54
  obtain ⟨t, ht⟩ : ∃ t, t = s.take q := ⟨_, rfl⟩
  obtain ⟨u, hu⟩ : ∃ u, u = s.drop q := ⟨_, rfl⟩
  have htl : t.length = q := by rw [ht, List.length_take]; omega
  have hul : u.length = 16 := by rw [hu, List.length_drop]; omega
  have hDt : (D.drop 0).take t.length = t := by
    have : (D.drop 0).take q = ((D.drop 0).take s.length).take q := by rw [List.take_take]; congr 1; omega
    rw [htl, this, hD, ht]
  have hDu : (D.drop q).take u.length = u := by
    have : ((D.drop 0).take s.length).drop q = (D.drop q).take (s.length - q) := by rw [List.drop_take, List.drop_zero]
    rw [hul, show 16 = s.length - q by omega, ← this, hD, hu]
  have h95 := f95 60 false w 14 rfl hwl (by omega) (by omega) nonce aad t A D hno hA hDt hoA (by omega) ha (by omega) f1
  simp only [htl] at h95
  obtain ⟨G, hG⟩ : ∃ G, G = tagL w 14 nonce aad t := ⟨_, rfl⟩
  have hGl : G.length = 16 := by rw [hG]; exact tagL_len ..
  simp only [← hG] at h95
  have h96 := fun f => f96 G u G D 0 (0 + q * 1) false f (by simp) (by omega) (by rw [show 0 + q * 1 = q by omega]; exact hDu) (by omega) (by omega)
  have hGu : decide (G = u) = false := by
    have : openOk w 14 nonce aad s = decide (G = u) := by unfold openOk; rw [← hq, ← ht, ← hu, ← hG]; simp [hs]
    rw [← this]; exact hok
  simp only [hGu, hGl, show u.length = s.length - q by omega] at h96
  have h53 := f53_1 60 false w 14 rfl hwl (by omega) (by omega) (ctr2 nonce) D t 0 hDt (by omega) (by unfold ctr2; simp [hno]) (by omega) true
  obtain ⟨X, hX⟩ : ∃ X, X = openL w 14 nonce s := ⟨_, rfl⟩
  simp only [show turnL w 14 (ctr2 nonce) t = X by rw [hX, ht, hq]; unfold openL sealT; rfl, htl] at h53
  try rw [← hX, ← hq]
  refine scall_of ttOk (by kernel_rfl : Try.prog.funcs[62]? = some Try.f62) rfl rfl rfl ?_
  try simp only [List.length_cons, List.length_nil, Nat.zero_add, Nat.reduceAdd]
  refine sw_ok ttOk mixed (by kernel_rfl) ?_
  conv => whnf
  repeat (fail)
  refine ok1_callE [0] [some (.ro (key.map .u8)), some (.box (sbx.map .u8 ++ [.sl 5 0 60 4 false])), some (.row 137 (w.map .u8))] (.tup [.p 4 0, .i 0]) (hn) rfl rfl ⟨⟨rfl, by first | rfl | fail⟩, by (repeat' (first | exact trivial | refine And.intro ?_ ?_)) <;> first | exact ren_m8 rfl | fail, by (repeat' (first | exact trivial | refine And.intro ?_ ?_)) <;> first | exact renB_plain _ (by first | (simp; done) | fail) | exact rb_boxa (by first | (simp; done) | fail) rfl | rfl, by first | rfl, ?_⟩
  conv => whnf
  repeat (first | (refine brF rfl ?_; conv => whnf) | (refine Exists.intro _ (And.intro (sload_all rfl (by first | rfl | (simp; omega))) ?_); conv => whnf) | (refine gdT g1 ?_; conv => whnf) | (refine Exists.intro _ (And.intro (idx_i (m := q) (by first | rfl | omega | fail)) ?_); conv => whnf) | (refine Exists.intro _ (And.intro rfl ?_); conv => whnf) | (refine And.intro (by first | omega | fail) ?_; conv => whnf) | fail)
  refine ok1_callF [4, 5, 1, 2] [false, false, false, false, true] false (h95 _) rfl rfl ⟨⟨rfl, by first | ((repeat' (first | exact ren_m8 rfl | exact rfl | (refine wk_agg ?_) | (refine wk_cons ?_ ?_))); done) | fail⟩, by (repeat' (first | exact trivial | refine And.intro ?_ ?_)) <;> first | exact ren_eq (by first | (simp; done) | fail) (by first | rfl | fail) | exact ren_app2 (by first | (simp; done) | fail) (by first | rfl | fail) (by first | rfl | fail) | fail, by first | simp [plainHf, plainB], by first | rfl | fail, ?_⟩
  conv => whnf
  repeat (first | (refine gdT g1 ?_; conv => whnf) | (refine Exists.intro _ (And.intro (idx_i (m := q) (by first | rfl | omega | fail)) ?_); conv => whnf) | (refine Exists.intro _ (And.intro rfl ?_); conv => whnf) | (refine And.intro (by first | omega | fail) ?_; conv => whnf) | fail)
  refine ok1_callF [6, 2] [false, false] true (h96 _) rfl rfl ⟨⟨rfl, by first | rfl | fail⟩, by (repeat' (first | exact trivial | refine And.intro ?_ ?_)) <;> first | exact ren_eq (by first | (simp; done) | fail) (by first | rfl | fail) | fail, by first | rfl | fail, by first | rfl | fail, ?_⟩
  conv => whnf
  repeat (first | (refine brT rfl ?_; conv => whnf) | (refine gdT g1 ?_; conv => whnf) | (refine pkF g1 ?_; conv => whnf) | (refine And.intro (by kernel_rfl) ?_; conv => whnf) | fail)
  refine ⟨[0, 1, 2], ?_, rfl, rfl, ?_, rfl⟩
  · (repeat' (first | (refine wk_tup ?_) | (refine wk_cons ?_ ?_))) <;> first | rfl | fail
  · (repeat' (first | exact trivial | refine And.intro ?_ ?_ | fail)) <;> first | exact ren_eq (by first | (simp; done) | fail) (by first | rfl | fail) | fail
theorem f62o_8 (key nonce aad s A D : List UInt8) (hk : key.length = 32) (hs : 16 ≤ s.length) (hno : nonce.length = 12) (hA : (A.drop 0).take aad.length = aad) (hD : (D.drop 0).take s.length = s) (hoA : 0 + aad.length ≤ A.length) (hoD : 0 + s.length ≤ D.length)
    (ha : aad.length < 1000000) (hp : s.length < 1000000) (hok : openOk (wSt key 8 60) 14 nonce aad s = true) (f0 f1 f2 : Bool) :
    SCall Try.prog 62 [.sl 0 0 32 1 f0, .agg (nonce.map .u8), .sl 1 0 aad.length 1 f1, .sl 2 0 s.length 1 f2] [some (.ro (key.map .u8)), some (.ro (A.map .u8)), some (.ro (D.map .u8))]
      (.tup [.sl 3 0 (cutN s) 1 false, .i 0]) [some (.ro (key.map .u8)), some (.ro (A.map .u8)), some (.ro (D.map .u8)), some (.row 5 ((openL (wSt key 8 60) 14 nonce s).map .u8))] := by
  have hwl := wSt_8 key
  obtain ⟨w, hwe⟩ : ∃ w, w = wSt key 8 60 := ⟨_, rfl⟩
  have hn := f45s_8 f0 key key 0 hk (by rw [← hk]; simp)
  try rw [← hwe]
  rw [← hwe] at hn hwl hok
  have hcn : s.length = cutN s + 16 := by unfold cutN; omega
  obtain ⟨q, hq⟩ : ∃ q, q = cutN s := ⟨_, rfl⟩
  have hq2 : s.length = q + 16 := by rw [hq]; exact hcn
  have g1 : decide (w64 ((s.length : Int) - 16) < 0) = false := by simp only [w64_eq, decide_eq_false_iff_not]; omega
  have hw : w64 ((s.length : Int) - 16) = (q : Int) := by simp only [w64_eq]; omega
  have h94 := f94 nonce hno
  have h54 := f54L (nonce ++ [0, 0, 0, 1]) (by simp [hno])
  rw [next_first hno] at h54
  obtain ⟨t, ht⟩ : ∃ t, t = s.take q := ⟨_, rfl⟩
  obtain ⟨u, hu⟩ : ∃ u, u = s.drop q := ⟨_, rfl⟩
  have htl : t.length = q := by rw [ht, List.length_take]; omega
  have hul : u.length = 16 := by rw [hu, List.length_drop]; omega
  have hDt : (D.drop 0).take t.length = t := by
    have : (D.drop 0).take q = ((D.drop 0).take s.length).take q := by rw [List.take_take]; congr 1; omega
    rw [htl, this, hD, ht]
  have hDu : (D.drop q).take u.length = u := by
    have : ((D.drop 0).take s.length).drop q = (D.drop q).take (s.length - q) := by rw [List.drop_take, List.drop_zero]
    rw [hul, show 16 = s.length - q by omega, ← this, hD, hu]
  have h95 := f95 60 false w 14 rfl hwl (by omega) (by omega) nonce aad t A D hno hA hDt hoA (by omega) ha (by omega) f1
  simp only [htl] at h95
  obtain ⟨G, hG⟩ : ∃ G, G = tagL w 14 nonce aad t := ⟨_, rfl⟩
  have hGl : G.length = 16 := by rw [hG]; exact tagL_len ..
  simp only [← hG] at h95
  have h96 := fun f => f96 G u G D 0 (0 + q * 1) false f (by simp) (by omega) (by rw [show 0 + q * 1 = q by omega]; exact hDu) (by omega) (by omega)
  have hGu : decide (G = u) = true := by
    have : openOk w 14 nonce aad s = decide (G = u) := by unfold openOk; rw [← hq, ← ht, ← hu, ← hG]; simp [hs]
    rw [← this]; exact hok
  simp only [hGu, hGl, show u.length = s.length - q by omega] at h96
  have h53 := f53_1 60 false w 14 rfl hwl (by omega) (by omega) (ctr2 nonce) D t 0 hDt (by omega) (by unfold ctr2; simp [hno]) (by omega) true
  obtain ⟨X, hX⟩ : ∃ X, X = openL w 14 nonce s := ⟨_, rfl⟩
  simp only [show turnL w 14 (ctr2 nonce) t = X by rw [hX, ht, hq]; unfold openL sealT; rfl, htl] at h53
  try rw [← hX, ← hq]
  refine scall_of ttOk (by kernel_rfl : Try.prog.funcs[62]? = some Try.f62) rfl rfl rfl ?_
  try simp only [List.length_cons, List.length_nil, Nat.zero_add, Nat.reduceAdd]
  refine sw_ok ttOk mixed (by kernel_rfl) ?_
  conv => whnf
  repeat (fail)
  refine ok1_callE [0] [some (.ro (key.map .u8)), some (.box (sbx.map .u8 ++ [.sl 5 0 60 4 false])), some (.row 137 (w.map .u8))] (.tup [.p 4 0, .i 0]) (hn) rfl rfl ⟨⟨rfl, by first | rfl | fail⟩, by (repeat' (first | exact trivial | refine And.intro ?_ ?_)) <;> first | exact ren_m8 rfl | fail, by (repeat' (first | exact trivial | refine And.intro ?_ ?_)) <;> first | exact renB_plain _ (by first | (simp; done) | fail) | exact rb_boxa (by first | (simp; done) | fail) rfl | rfl, by first | rfl, ?_⟩
  conv => whnf
  repeat (first | (refine brF rfl ?_; conv => whnf) | (refine Exists.intro _ (And.intro (sload_all rfl (by first | rfl | (simp; omega))) ?_); conv => whnf) | (refine gdT g1 ?_; conv => whnf) | (refine Exists.intro _ (And.intro (idx_i (m := q) (by first | rfl | omega | fail)) ?_); conv => whnf) | (refine Exists.intro _ (And.intro rfl ?_); conv => whnf) | (refine And.intro (by first | omega | fail) ?_; conv => whnf) | fail)
  refine ok1_callF [4, 5, 1, 2] [false, false, false, false, true] false (h95 _) rfl rfl ⟨⟨rfl, by first | ((repeat' (first | exact ren_m8 rfl | exact rfl | (refine wk_agg ?_) | (refine wk_cons ?_ ?_))); done) | fail⟩, by (repeat' (first | exact trivial | refine And.intro ?_ ?_)) <;> first | exact ren_eq (by first | (simp; done) | fail) (by first | rfl | fail) | exact ren_app2 (by first | (simp; done) | fail) (by first | rfl | fail) (by first | rfl | fail) | fail, by first | simp [plainHf, plainB], by first | rfl | fail, ?_⟩
  conv => whnf
  repeat (first | (refine gdT g1 ?_; conv => whnf) | (refine Exists.intro _ (And.intro (idx_i (m := q) (by first | rfl | omega | fail)) ?_); conv => whnf) | (refine Exists.intro _ (And.intro rfl ?_); conv => whnf) | (refine And.intro (by first | omega | fail) ?_; conv => whnf) | fail)
  refine ok1_callF [6, 2] [false, false] true (h96 _) rfl rfl ⟨⟨rfl, by first | rfl | fail⟩, by (repeat' (first | exact trivial | refine And.intro ?_ ?_)) <;> first | exact ren_eq (by first | (simp; done) | fail) (by first | rfl | fail) | fail, by first | rfl | fail, by first | rfl | fail, ?_⟩
  conv => whnf
  repeat (first | (refine brF rfl ?_; conv => whnf) | (refine Exists.intro _ (And.intro (sload_all rfl (by first | rfl | (simp; omega))) ?_); conv => whnf) | (refine gdT g1 ?_; conv => whnf) | (refine pkF g1 ?_; conv => whnf) | (refine And.intro (by kernel_rfl) ?_; conv => whnf) | fail)
  refine ok1_callF [] [] true (h94) rfl rfl ⟨⟨rfl, by first | ((repeat' (first | exact wk_nil | exact ren_m8 rfl | (refine wk_agg ?_) | (refine wk_cons ?_ ?_))); done) | fail⟩, trivial, by first | rfl | fail, by first | simp [plainRf, plainR, plainT, plainW], ?_⟩
  conv => whnf
  repeat (fail)
  refine ok1_callF [] [] true (h54) rfl rfl ⟨⟨rfl, by first | ((repeat' (first | exact wk_nil | exact ren_m8 rfl | (refine wk_agg ?_) | (refine wk_cons ?_ ?_))); done) | fail⟩, trivial, by first | rfl | fail, by first | simp [plainRf, plainR, plainT, plainW], ?_⟩
  conv => whnf
  repeat (first | (refine Exists.intro _ (And.intro (idx_i (m := q) (by first | rfl | omega | fail)) ?_); conv => whnf) | (refine Exists.intro _ (And.intro rfl ?_); conv => whnf) | (refine And.intro (by first | omega | fail) ?_; conv => whnf) | fail)
  refine ok1_callF [4, 5, 7, 2] [false, false, false, false, true] false (h53 _) rfl rfl ⟨⟨rfl, by first | ((repeat' (first | exact ren_m8 rfl | exact rfl | (refine wk_agg ?_) | (refine wk_cons ?_ ?_))); done) | fail⟩, by (repeat' (first | exact trivial | refine And.intro ?_ ?_)) <;> first | rfl | exact ren_eq (by first | (simp; done) | fail) (by first | rfl | fail) | exact ren_app2 (by first | (simp; done) | fail) (by first | rfl | fail) (by first | rfl | fail) | fail, by first | simp [plainHf, plainB], by first | rfl | fail, ?_⟩
  conv => whnf
  repeat (first | (refine And.intro (by kernel_rfl) ?_; conv => whnf) | fail)
  refine ⟨[0, 1, 2, 8], ?_, rfl, rfl, ?_, rfl⟩
  · (repeat' (first | (refine wk_tup ?_) | (refine wk_cons ?_ ?_))) <;> first | rfl | fail
  · (repeat' (first | exact trivial | refine And.intro ?_ ?_ | fail)) <;> first | rfl | exact ren_eq (by first | (simp; done) | fail) (by first | rfl | fail) | fail
end Go.Sh
/- A nil slice for an empty one, among a function's arguments. -/
namespace Go.Sh

theorem rels_nil {ρ : Ren} {id o sz : Nat} {fl : Bool} {rb : RB} (hr : ρ id = some rb) {bs : List SV} : ∀ {xs : List SV} {vs : List Value}, Rels ρ (xs ++ .slnil :: bs) vs → Rels ρ (xs ++ .sl id o 0 sz fl :: bs) vs
  | [], vs, h => by
    simp only [List.nil_append, Rels, Rel] at h ⊢
    obtain ⟨y, ys, rfl, rfl, h2⟩ := h
    exact ⟨_, ys, rfl, ⟨rb, none, 0, hr, rfl, Nat.le_refl _, fun _ => rfl, .inl rfl⟩, h2⟩
  | a :: xs, vs, h => by
    simp only [List.cons_append, Rels] at h ⊢
    obtain ⟨y, ys, rfl, h1, h2⟩ := h
    exact ⟨y, ys, rfl, h1, rels_nil hr h2⟩
/-- What holds of an empty slice holds of nil. -/
theorem SCall.nil {P : Program} {f : Nat} {ret : SV} {H0 H1 : HL} (xs : List SV) {bs : List SV} {id o sz : Nat} {fl : Bool} {b : SB} (h : SCall P f (xs ++ .sl id o 0 sz fl :: bs) H0 ret H1) (hid : hk H0 id = some b) : SCall P f (xs ++ .slnil :: bs) H0 ret H1 := by
  refine ⟨h.fn, fun n ρ w vs hv hH hS hf => h.call n ρ w vs ?_ hH hS hf⟩
  rw [hk_eq] at hid
  obtain ⟨rb, hr, _⟩ := hH id b hid
  exact rels_nil hr hv
end Go.Sh
/- gcm's laws: the document's rows (f59). -/
namespace Go.Sh
open Go.Proofs
set_option maxHeartbeats 8000000
set_option linter.unusedSimpArgs false
set_option linter.unusedVariables false

def z12 : List UInt8 := List.replicate 12 0
def k16 : List UInt8 := List.replicate 16 0
def k24 : List UInt8 := List.replicate 24 0
def k32 : List UInt8 := List.replicate 32 0
def lit1 : List UInt8 := [0x58, 0xe2, 0xfc, 0xce, 0xfa, 0x7e, 0x30, 0x61, 0x36, 0x7f, 0x1d, 0x57, 0xa4, 0xe7, 0x45, 0x5a]
def lit2 : List UInt8 := [0xce, 0xa7, 0x40, 0x3d, 0x4d, 0x60, 0x6b, 0x6e, 0x07, 0x4e, 0xc5, 0xd3, 0xba, 0xf3, 0x9d, 0x18, 0xd0, 0xd1, 0xc8, 0xa7, 0x99, 0x99, 0x6b, 0xf0, 0x26, 0x5b, 0x98, 0xb5, 0xd4, 0x8a, 0xb9, 0x19]
theorem kn1 : sealL (wSt k16 4 44) 10 z12 [] [] = lit1 := by kernel_rfl
theorem kn2 : sealL (wSt k32 8 60) 14 z12 [] k16 = lit2 := by kernel_rfl
theorem kn3 : openOk (wSt k32 8 60) 14 z12 [] lit2 = true := by kernel_rfl
theorem kn4 : openL (wSt k32 8 60) 14 z12 lit2 = k16 := by kernel_rfl
theorem kn5 : openOk (wSt k32 8 60) 14 z12 [] (lit2.drop 1) = false := by kernel_rfl
end Go.Sh
/- gcm's laws: known (f59), walked. -/
namespace Go.Sh
open Go.Proofs
set_option maxHeartbeats 8000000
set_option linter.unusedSimpArgs false
set_option linter.unusedVariables false

theorem s1 (f0 : Bool) : SCall Try.prog 61 [.sl 0 0 16 1 f0, .agg (z12.map .u8), .slnil, .slnil] [some (.ro (k16.map .u8)), some (.ro (k16.map .u8)), some (.ro (k16.map .u8))]
    (.tup [.sl 3 0 16 1 false, .i 0]) [some (.ro (k16.map .u8)), some (.ro (k16.map .u8)), some (.ro (k16.map .u8)), some (.row 5 (lit1.map .u8))] := by
  have h := f61_4 k16 z12 [] [] k16 k16 rfl rfl rfl rfl (by decide) (by decide) (by decide) (by decide) f0 false false
  rw [kn1] at h
  exact SCall.nil [_, _, _] (SCall.nil [_, _] h rfl) rfl
theorem s2 (f0 f2 : Bool) : SCall Try.prog 61 [.sl 0 0 32 1 f0, .agg (z12.map .u8), .slnil, .sl 2 0 16 1 f2] [some (.ro (k32.map .u8)), some (.ro (k32.map .u8)), some (.ro (k16.map .u8))]
    (.tup [.sl 3 0 32 1 false, .i 0]) [some (.ro (k32.map .u8)), some (.ro (k32.map .u8)), some (.ro (k16.map .u8)), some (.row 5 (lit2.map .u8))] := by
  have h := f61_8 k32 z12 [] k16 k32 k16 rfl rfl rfl rfl (by decide) (by decide) (by decide) (by decide) f0 false f2
  rw [kn2] at h
  exact SCall.nil [_, _] h rfl
theorem s3 (f0 : Bool) : SCall Try.prog 61 [.sl 0 0 24 1 f0, .agg (z12.map .u8), .slnil, .slnil] [some (.ro (k24.map .u8)), some (.ro (k24.map .u8)), some (.ro (k24.map .u8))]
    (.tup [.slnil, .i 2]) [some (.ro (k24.map .u8)), some (.ro (k24.map .u8)), some (.ro (k24.map .u8))] := by
  have h := f61k k24 z12 [] [] k24 k24 (by decide) (by decide) f0 false false
  exact SCall.nil [_, _, _] (SCall.nil [_, _] h rfl) rfl
theorem o1 (f0 f2 : Bool) : SCall Try.prog 62 [.sl 0 0 32 1 f0, .agg (z12.map .u8), .slnil, .sl 2 0 32 1 f2] [some (.ro (k32.map .u8)), some (.ro (k32.map .u8)), some (.ro (lit2.map .u8))]
    (.tup [.sl 3 0 16 1 false, .i 0]) [some (.ro (k32.map .u8)), some (.ro (k32.map .u8)), some (.ro (lit2.map .u8)), some (.row 5 (k16.map .u8))] := by
  have h := f62o_8 k32 z12 [] lit2 k32 lit2 rfl (by decide) rfl rfl rfl (by decide) (by decide) (by decide) (by decide) kn3 f0 false f2
  rw [kn4] at h
  exact SCall.nil [_, _] h rfl
theorem o2 (f0 f2 : Bool) : SCall Try.prog 62 [.sl 0 0 32 1 f0, .agg (z12.map .u8), .slnil, .sl 2 1 31 1 f2] [some (.ro (k32.map .u8)), some (.ro (k32.map .u8)), some (.ro (lit2.map .u8))]
    (.tup [.slnil, .i 140]) [some (.ro (k32.map .u8)), some (.ro (k32.map .u8)), some (.ro (lit2.map .u8))] := by
  have h := f62b_8 k32 z12 [] (lit2.drop 1) k32 (lit2.drop 1) rfl (by decide) rfl rfl rfl (by decide) (by decide) (by decide) (by decide) kn5 f0 false f2
  have h2 := h.sub 2 1 (lit2.map .u8) ((lit2.drop 1).map .u8) 6 rfl rfl rfl rfl rfl (by decide) ⟨.inr ⟨rfl, rfl⟩, .inr ⟨rfl, rfl⟩, .inr ⟨rfl, rfl⟩, .inl rfl, trivial⟩ rfl
    ⟨.inr (.inl (by simp [plainB])), .inr (.inl (by simp [plainB])), .inl rfl, trivial⟩ ⟨.inr (.inl (by simp [plainB])), .inr (.inl (by simp [plainB])), .inl rfl, trivial⟩
  exact SCall.nil [_, _] h2 rfl
theorem o3 (f0 f2 : Bool) : SCall Try.prog 62 [.sl 0 0 32 1 f0, .agg (z12.map .u8), .slnil, .sl 2 0 15 1 f2] [some (.ro (k32.map .u8)), some (.ro (k32.map .u8)), some (.ro (lit2.map .u8))]
    (.tup [.slnil, .i 140]) [some (.ro (k32.map .u8)), some (.ro (k32.map .u8)), some (.ro (lit2.map .u8))] := by
  have h := f62s_8 k32 z12 [] (lit2.take 15) k32 lit2 rfl (by decide) f0 false f2
  exact SCall.nil [_, _] h rfl
theorem o4 (f2 : Bool) : SCall Try.prog 62 [.slnil, .agg (z12.map .u8), .slnil, .sl 2 0 32 1 f2] [some (.ro (lit2.map .u8)), some (.ro (lit2.map .u8)), some (.ro (lit2.map .u8))]
    (.tup [.slnil, .i 2]) [some (.ro (lit2.map .u8)), some (.ro (lit2.map .u8)), some (.ro (lit2.map .u8))] := by
  have h := f62k [] z12 [] lit2 lit2 lit2 (by decide) (by decide) false false f2
  have h2 := h.sub 0 0 (lit2.map .u8) [] 6 rfl rfl rfl rfl rfl (by decide) ⟨.inl rfl, .inr ⟨rfl, rfl⟩, .inr ⟨rfl, rfl⟩, .inr ⟨rfl, rfl⟩, trivial⟩ rfl
    ⟨.inl rfl, .inr (.inl (by simp [plainB])), .inr (.inl (by simp [plainB])), trivial⟩ ⟨.inl rfl, .inr (.inl (by simp [plainB])), .inr (.inl (by simp [plainB])), trivial⟩
  exact SCall.nil [_, _] (SCall.nil [] h2 rfl) rfl
theorem f59 : SCall Try.prog 59 [] [] (.b true) [] := by
  refine scall_of ttOk (by kernel_rfl : Try.prog.funcs[59]? = some Try.f59) rfl rfl rfl ?_
  try simp only [List.length_cons, List.length_nil, Nat.zero_add, Nat.reduceAdd]
  refine sw_ok ttOk mixed (by kernel_rfl) ?_
  conv => whnf
  repeat (first | (refine Exists.intro _ (And.intro (sload_all rfl (by first | rfl | fail)) ?_); conv => whnf) | (refine And.intro ⟨by first | omega | fail, by first | decide | fail⟩ ?_; conv => whnf) | fail)
  refine ok1_callF [1, 1, 1] [false, false, false, true] false (s1 _) rfl rfl ⟨⟨rfl, by first | rfl | fail⟩, by (repeat' (first | exact trivial | refine And.intro ?_ ?_)) <;> first | rfl | fail, by first | rfl | fail, by first | rfl | fail, ?_⟩
  conv => whnf
  repeat (first | (refine Exists.intro _ (And.intro (sload_all rfl (by first | rfl | fail)) ?_); conv => whnf) | (refine And.intro (by kernel_rfl) ?_; conv => whnf) | (refine And.intro ⟨by first | omega | fail, by first | decide | fail⟩ ?_; conv => whnf) | fail)
  refine ok1_callF [3, 3, 4] [false, false, false, true] false (s2 _ _) rfl rfl ⟨⟨rfl, by first | rfl | fail⟩, by (repeat' (first | exact trivial | refine And.intro ?_ ?_)) <;> first | rfl | fail, by first | rfl | fail, by first | rfl | fail, ?_⟩
  conv => whnf
  repeat (first | (refine Exists.intro _ (And.intro (sload_all rfl (by first | rfl | fail)) ?_); conv => whnf) | (refine And.intro (by kernel_rfl) ?_; conv => whnf) | (refine And.intro ⟨by first | omega | fail, by first | decide | fail⟩ ?_; conv => whnf) | fail)
  refine ok1_callF [6, 6, 6] [false, false, false] true (s3 _) rfl rfl ⟨⟨rfl, by first | rfl | fail⟩, by (repeat' (first | exact trivial | refine And.intro ?_ ?_)) <;> first | rfl | fail, by first | rfl | fail, by first | rfl | fail, ?_⟩
  conv => whnf
  repeat (first | (refine Exists.intro _ (And.intro (bytesOf_cut rfl) ?_); conv => whnf) | (refine brF rfl ?_; conv => whnf) | (refine gdT rfl ?_; conv => whnf) | (refine Exists.intro _ (And.intro (sload_all rfl (by first | rfl | fail)) ?_); conv => whnf) | (refine Exists.intro _ (And.intro rfl ?_); conv => whnf) | (refine And.intro (Nat.le_of_ble_eq_true rfl) ?_; conv => whnf) | (refine And.intro (by kernel_rfl) ?_; conv => whnf) | (refine And.intro ⟨by first | omega | fail, by first | decide | fail⟩ ?_; conv => whnf) | fail)
  refine ok1_callF [7, 7, 5] [false, false, false, true] false (o1 _ _) rfl rfl ⟨⟨rfl, by first | rfl | fail⟩, by (repeat' (first | exact trivial | refine And.intro ?_ ?_)) <;> first | rfl | fail, by first | rfl | fail, by first | rfl | fail, ?_⟩
  conv => whnf
  repeat (first | (refine Exists.intro _ (And.intro (sload_all rfl (by first | rfl | fail)) ?_); conv => whnf) | (refine Exists.intro _ (And.intro rfl ?_); conv => whnf) | (refine And.intro (by first | omega | fail) ?_; conv => whnf) | (refine And.intro (by kernel_rfl) ?_; conv => whnf) | (refine And.intro ⟨by first | omega | fail, by first | decide | fail⟩ ?_; conv => whnf) | fail)
  refine ok1_callF [9, 9, 5] [false, false, false] true (o2 _ _) rfl rfl ⟨⟨rfl, by first | rfl | fail⟩, by (repeat' (first | exact trivial | refine And.intro ?_ ?_)) <;> first | rfl | fail, by first | rfl | fail, by first | rfl | fail, ?_⟩
  conv => whnf
  repeat (first | (refine Exists.intro _ (And.intro (sload_all rfl (by first | rfl | fail)) ?_); conv => whnf) | (refine Exists.intro _ (And.intro rfl ?_); conv => whnf) | (refine And.intro (by first | omega | fail) ?_; conv => whnf) | (refine And.intro (by kernel_rfl) ?_; conv => whnf) | (refine And.intro ⟨by first | omega | fail, by first | decide | fail⟩ ?_; conv => whnf) | fail)
  refine ok1_callF [10, 10, 5] [false, false, false] true (o3 _ _) rfl rfl ⟨⟨rfl, by first | rfl | fail⟩, by (repeat' (first | exact trivial | refine And.intro ?_ ?_)) <;> first | rfl | fail, by first | rfl | fail, by first | rfl | fail, ?_⟩
  conv => whnf
  repeat (first | (refine Exists.intro _ (And.intro (sload_all rfl (by first | rfl | fail)) ?_); conv => whnf) | (refine And.intro (by kernel_rfl) ?_; conv => whnf) | fail)
  refine ok1_callF [5, 5, 5] [false, false, false] true (o4 _) rfl rfl ⟨⟨rfl, by first | rfl | fail⟩, by (repeat' (first | exact trivial | refine And.intro ?_ ?_)) <;> first | rfl | fail, by first | rfl | fail, by first | rfl | fail, ?_⟩
  conv => whnf
  repeat (first | (refine Exists.intro _ (And.intro (bytesOf_cut rfl) ?_); conv => whnf) | (refine brT rfl ?_; conv => whnf) | (refine Exists.intro _ (And.intro rfl ?_); conv => whnf) | (refine And.intro (by first | (simp; done) | fail) ?_; conv => whnf) | (refine And.intro (Nat.le_of_ble_eq_true rfl) ?_; conv => whnf) | (refine And.intro (by kernel_rfl) ?_; conv => whnf) | (refine And.intro ⟨by first | omega | fail, by first | decide | fail⟩ ?_; conv => whnf) | fail)
  refine ⟨[], ?_, rfl, rfl, ?_, rfl⟩
  · (repeat' (fail)) <;> first | rfl | fail
  · (repeat' (first | exact trivial | fail)) <;> fail
end Go.Sh
/- gcm's reference: Hash (f63). -/
namespace Go.Sh
open Go.Proofs
set_option maxHeartbeats 4000000
set_option linter.unusedSimpArgs false

theorem pb_ext {p q : UInt64 × UInt64} (h : ∀ n, n < 128 → pb p n = pb q n) : p = q := by
  have h1 : p.1 = q.1 := b64_ext fun i hi => by
    have := h i (by omega)
    unfold pb at this
    rwa [if_pos hi, if_pos hi] at this
  have h2 : p.2 = q.2 := b64_ext fun i hi => by
    have := h (64 + i) (by omega)
    unfold pb at this
    rwa [if_neg (by omega), if_neg (by omega), show 64 + i - 64 = i by omega] at this
  exact Prod.ext h1 h2
theorem ofL_blk (o : UInt64 × UInt64) : ofL (blkL o) = o := pb_ext fun n hn => by rw [pb_of _ n hn, cb_blk _ n hn]
def xorB (y : List UInt8) (c : Nat → UInt8) : List UInt8 := (List.range 16).map fun j => y.getD j 0 ^^^ c j
theorem bit8_xor (x y : UInt8) (i : Nat) : bit8 (x ^^^ y) i = (bit8 x i ^^ bit8 y i) := by unfold bit8; rw [UInt8.toNat_xor, Nat.testBit_xor]
theorem ofL_xor (y b : List UInt8) (k : Nat) : ofL (xorB y fun j => b.getD (16 * k + j) 0) = ((ofL y).1 ^^^ (ofL (chnk b k)).1, (ofL y).2 ^^^ (ofL (chnk b k)).2) := pb_ext fun n hn => by
  rw [pb_of _ n hn, pb_add, pb_of _ n hn, pb_of _ n hn]
  unfold cb xorB chnk
  rw [rng_getD (by omega), rng_getD (by omega), bit8_xor]
theorem yS_blk (h b : List UInt8) (k : Nat) : mulB (xorB (blkL (yS h b k)) fun j => b.getD (16 * k + j) 0) h = blkL (yS h b (k + 1)) := by
  unfold mulB
  rw [ofL_xor, ofL_blk, yS_s]
theorem fil_tail {α : Type} {n i : Nat} {f g : Nat → α} (h : ∀ j, i ≤ j → j < n → f j = g j) : fil n i f g = fil n n f g := by
  unfold fil
  apply List.map_congr_left
  intro j hj
  have hj : j < n := by simpa using hj
  by_cases h1 : j < i
  · rw [if_pos h1, if_pos hj]
  · rw [if_neg h1, if_pos hj, h j (by omega) hj]
theorem blk_zero : blkL (0, 0) = List.replicate 16 0 := by decide +kernel
attribute [local irreducible] yS chnk tms blkL
theorem f63 (fh fb : Bool) (h b : List UInt8) (hh : h.length = 16) (hb : b.length < 100000000000000) :
    SCall Try.prog 63 [.sl 0 0 16 1 fh, .sl 1 0 b.length 1 fb] [some (.ro (h.map .u8)), some (.ro (b.map .u8))] (.sl 2 0 16 1 true) [some (.ro (h.map .u8)), some (.ro (b.map .u8)), some (.row 5 ((hashL h b).map .u8))] := by
  refine scall_of ttOk (by kernel_rfl : Try.prog.funcs[63]? = some Try.f63) rfl rfl rfl ?_
  refine sw_ok ttOk mixed (by kernel_rfl) ?_
  conv => whnf
  repeat (first | (refine And.intro ⟨by first | omega | fail, by first | decide | fail⟩ ?_; conv => whnf) | fail)
  refine loop_rule ttOk mixed (by kernel_rfl) (ι := { k : Nat // k ≤ (b.length + 15) / 16 }) (fun k => [(0, .sl 0 0 16 1 fh), (1, .sl 1 0 b.length 1 fb), (5, .sl 2 0 16 1 true), (6, .i ((16 * k.1 : Nat) : Int))]) (fun k => [some (.ro (h.map .u8)), some (.ro (b.map .u8)), some (.row 5 ((blkL (yS h b k.1)).map .u8))]) (fun _ => 3) (fun k => (b.length + 15) / 16 - k.1) ⟨0, by omega⟩ ?_ ?_
  · have hz : blkL (yS h b 0) = List.replicate 16 0 := by rw [yS_z]; exact blk_zero
    refine Weak.sel [0, 1, 2] rfl rfl ?_ ?_ rfl rfl
    · (repeat' (first | exact trivial | refine And.intro ?_ ?_ | fail)) <;> first | rfl | fail
    · (repeat' (first | exact trivial | refine And.intro ?_ ?_ | fail)) <;> first | exact ren_m8 (by first | exact hz | fail) | rfl | exact ren_eq (by first | (simp; done) | fail) (by first | rfl | fail) | fail
  · rintro ⟨k, hk⟩
    obtain ⟨Y, hY⟩ : ∃ Y, Y = blkL (yS h b k) := ⟨_, rfl⟩
    have hYl : Y.length = 16 := by rw [hY]; unfold blkL; exact rng_len
    have hyb := yS_blk h b k
    dsimp only
    rw [← hY] at hyb ⊢
    by_cases hk2 : 16 * k < b.length
    · have hlt : decide (((16 * k : Nat) : Int) < (b.length : Int)) = true := by simp; omega
      have hp16 : w64 (((16 * k : Nat) : Int) + 16) = ((16 * (k + 1) : Nat) : Int) := by simp only [w64_eq]; omega
      conv => whnf
      first | refine brT (by exact hlt) ?_ | fail
      conv => whnf
      repeat (fail)
      refine loop_rule ttOk mixed (by kernel_rfl) (ι := { j : Nat // j ≤ 16 ∧ 16 * k + j ≤ b.length }) (fun j => [(0, .sl 0 0 16 1 fh), (1, .sl 1 0 b.length 1 fb), (5, .sl 2 0 16 1 true), (6, .i ((16 * k : Nat) : Int)), (7, .i (j.1 : Int))]) (fun j => [some (.ro (h.map .u8)), some (.ro (b.map .u8)), some (.row 5 ((fil 16 j.1 (fun j => Y.getD j 0 ^^^ b.getD (16 * k + j) 0) (fun j => Y.getD j 0)).map .u8))]) (fun _ => 3) (fun j => 16 - j.1) ⟨0, by omega, by omega⟩ ?_ ?_
      · have hz : fil 16 0 (fun j => Y.getD j 0 ^^^ b.getD (16 * k + j) 0) (fun j => Y.getD j 0) = Y := fil_of_list hYl
        refine Weak.sel [0, 1, 2] rfl rfl ?_ ?_ rfl rfl
        · (repeat' (first | exact trivial | refine And.intro ?_ ?_ | fail)) <;> first | rfl | fail
        · (repeat' (first | exact trivial | refine And.intro ?_ ?_ | fail)) <;> first | exact ren_m8 (by first | exact hz | fail) | rfl | exact ren_eq (by first | (simp; done) | fail) (by first | rfl | fail) | fail
      · rintro ⟨j, hj, hj2⟩
        have hf := fil_len 16 j (fun j => Y.getD j 0 ^^^ b.getD (16 * k + j) 0) (fun j => Y.getD j 0)
        have hkj : w64 (((16 * k : Nat) : Int) + (j : Int)) = ((16 * k + j : Nat) : Int) := by simp only [w64_eq]; omega
        dsimp only
        by_cases hc : j < 16 ∧ 16 * k + j < b.length
        · obtain ⟨hc1, hc2⟩ := hc
          have hl1 : decide ((j : Int) < 16) = true := by simp; omega
          have hl2 : decide (w64 (((16 * k : Nat) : Int) + (j : Int)) < (b.length : Int)) = true := by rw [hkj]; simp; omega
          have hp1 := wp1 j (by omega)
          have hx : (fil 16 j (fun j => Y.getD j 0 ^^^ b.getD (16 * k + j) 0) (fun j => Y.getD j 0)).getD j 0 ^^^ b.getD (16 * k + j) 0 = Y.getD j 0 ^^^ b.getD (16 * k + j) 0 := by rw [fil_getD hc1, if_neg (by omega)]
          have hst := fil_setx (f := fun j => Y.getD j 0 ^^^ b.getD (16 * k + j) 0) (g := fun j => Y.getD j 0) hc1 hx
          conv => whnf
          repeat (first | (refine gdT hl1 ?_; conv => whnf) | (refine pkT hl1 ?_; conv => whnf) | (refine gdT hl2 ?_; conv => whnf) | (refine Exists.intro _ (And.intro (sput_m8 (i := j) (by first | rfl | omega | fail)) ?_); conv => whnf) | (refine Exists.intro _ (And.intro (sload_u8 (i := j) (by first | rfl | omega | fail) (by first | omega | fail)) ?_); conv => whnf) | (refine Exists.intro _ (And.intro (idx_i (m := j) (by first | rfl | fail)) ?_); conv => whnf) | (refine Exists.intro _ (And.intro (sload_u8 (i := 16 * k + j) (by first | rfl | omega | fail) (by first | omega | fail)) ?_); conv => whnf) | (refine Exists.intro _ (And.intro (idx_i (m := 16 * k + j) (by first | rfl | omega | fail)) ?_); conv => whnf) | (refine And.intro (by first | omega | fail) ?_; conv => whnf) | (refine And.intro (by kernel_rfl) ?_; conv => whnf) | (refine And.intro ⟨by first | exact @rfl Nat _ | fail, by first | (simp only [hf, ti5, List.length_map]; omega) | fail⟩ ?_; conv => whnf) | fail)
          refine ⟨⟨j + 1, by omega, by omega⟩, by simp only; omega, ?_⟩
          refine Weak.sel [0, 1, 2] rfl rfl ?_ ?_ rfl rfl
          · (repeat' (first | exact trivial | refine And.intro ?_ ?_ | fail)) <;> first | exact wk_i (by first | exact hp1 | exact hp1.symm | fail) | rfl | fail
          · (repeat' (first | exact trivial | refine And.intro ?_ ?_ | fail)) <;> first | exact ren_m8 (by first | exact hst | exact hst.symm | fail) | rfl | exact ren_eq (by first | (simp; done) | fail) (by first | rfl | fail) | fail
        · have hfu : fil 16 j (fun j => Y.getD j 0 ^^^ b.getD (16 * k + j) 0) (fun j => Y.getD j 0) = xorB Y fun j => b.getD (16 * k + j) 0 := by
            rw [fil_tail (fun q h1 h2 => ?_), fil_full]
            · rfl
            · have : b.getD (16 * k + q) 0 = 0 := by
                rw [List.getD_eq_getElem?_getD, List.getElem?_eq_none (by omega)]; rfl
              rw [this, UInt8.xor_zero]
          have h97 := f97 true fh (xorB Y fun j => b.getD (16 * k + j) 0) h rng_len hh
          rw [hyb] at h97
          rw [hfu]
          by_cases hc1 : j < 16
          · have hl1 : decide ((j : Int) < 16) = true := by simp; omega
            have hl2 : decide (w64 (((16 * k : Nat) : Int) + (j : Int)) < (b.length : Int)) = false := by rw [hkj]; simp; omega
            conv => whnf
            repeat (first | (refine gdT hl1 ?_; conv => whnf) | (refine pkT hl1 ?_; conv => whnf) | (refine gdF hl2 ?_; conv => whnf) | fail)
            refine ok1_callP [2, 0] (h97) rfl rfl ⟨⟨rfl, by first | rfl | fail⟩, by (repeat' (first | exact trivial | refine And.intro ?_ ?_)) <;> first | rfl | exact ren_eq (by first | (simp; done) | fail) (by first | rfl | fail), by first | simp [plainH], ?_⟩
            conv => whnf
            repeat (fail)
            refine ⟨⟨k + 1, by omega⟩, by simp only; omega, ?_⟩
            refine Weak.sel [0, 1, 3] rfl rfl ?_ ?_ rfl rfl
            · (repeat' (first | exact trivial | refine And.intro ?_ ?_ | fail)) <;> first | exact wk_i (by first | exact hp16 | exact hp16.symm | fail) | rfl | fail
            · (repeat' (first | exact trivial | refine And.intro ?_ ?_ | fail)) <;> first | rfl | exact ren_eq (by first | (simp; done) | fail) (by first | rfl | fail) | fail
          · have hl1 : decide ((j : Int) < 16) = false := by simp; omega
            conv => whnf
            repeat (first | (refine brF rfl ?_; conv => whnf) | (refine gdF hl1 ?_; conv => whnf) | (refine pkF hl1 ?_; conv => whnf) | fail)
            refine ok1_callP [2, 0] (h97) rfl rfl ⟨⟨rfl, by first | rfl | fail⟩, by (repeat' (first | exact trivial | refine And.intro ?_ ?_)) <;> first | rfl | exact ren_eq (by first | (simp; done) | fail) (by first | rfl | fail), by first | simp [plainH], ?_⟩
            conv => whnf
            repeat (fail)
            refine ⟨⟨k + 1, by omega⟩, by simp only; omega, ?_⟩
            refine Weak.sel [0, 1, 3] rfl rfl ?_ ?_ rfl rfl
            · (repeat' (first | exact trivial | refine And.intro ?_ ?_ | fail)) <;> first | exact wk_i (by first | exact hp16 | exact hp16.symm | fail) | rfl | fail
            · (repeat' (first | exact trivial | refine And.intro ?_ ?_ | fail)) <;> first | rfl | exact ren_eq (by first | (simp; done) | fail) (by first | rfl | fail) | fail
    · have hlt : decide (((16 * k : Nat) : Int) < (b.length : Int)) = false := by simp; omega
      have hke : k = (b.length + 15) / 16 := by omega
      have hfin : Y = hashL h b := by rw [hY, hke]; rfl
      conv => whnf
      first | refine brF (by exact hlt) ?_ | fail
      conv => whnf
      repeat (fail)
      refine ⟨[0, 1, 2], ?_, rfl, rfl, ?_, rfl⟩
      · (repeat' (fail)) <;> first | rfl | fail
      · (repeat' (first | exact trivial | refine And.intro ?_ ?_ | fail)) <;> first | exact ren_m8 (by first | exact hfin | exact hfin.symm | fail) | rfl | exact ren_eq (by first | (simp; done) | fail) (by first | rfl | fail) | fail
end Go.Sh
/- gcm: the hash is a sum (plain). -/
namespace Go.Sh
set_option maxHeartbeats 4000000
set_option linter.unusedSimpArgs false

def xoL (a b : List UInt8) : List UInt8 := (List.range a.length).map fun i => a.getD i 0 ^^^ b.getD i 0
theorem xoL_len (a b : List UInt8) : (xoL a b).length = a.length := rng_len
theorem xoL_getD (a b : List UInt8) (h : a.length = b.length) (i : Nat) : (xoL a b).getD i 0 = a.getD i 0 ^^^ b.getD i 0 := by
  by_cases hi : i < a.length
  · exact rng_getD hi
  · have e1 : (xoL a b).getD i 0 = 0 := by rw [List.getD_eq_getElem?_getD, List.getElem?_eq_none (by rw [xoL_len]; omega)]; rfl
    have e2 : a.getD i 0 = 0 := by rw [List.getD_eq_getElem?_getD, List.getElem?_eq_none (by omega)]; rfl
    have e3 : b.getD i 0 = 0 := by rw [List.getD_eq_getElem?_getD, List.getElem?_eq_none (by omega)]; rfl
    rw [e1, e2, e3]; rfl
theorem xt_add (f g : Po) (n : Nat) : xt (add f g) n = (xt f n ^^ xt g n) := by
  unfold xt add
  by_cases hn : n < 128
  · by_cases h0 : 0 < n
    · simp only [hn, h0, decide_true, Bool.true_and]
      cases f (n - 1) <;> cases g (n - 1) <;> cases f 127 <;> cases g 127 <;> cases tap n <;> rfl
    · simp only [hn, h0, decide_true, decide_false, Bool.true_and, Bool.false_and]
      cases f 127 <;> cases g 127 <;> cases tap n <;> rfl
  · simp only [hn, decide_false, Bool.false_and]; rfl
theorem hor_add (p p2 q : Po) : ∀ k, k ≤ 128 → ∀ n, hor (add p p2) q k n = (hor p q k n ^^ hor p2 q k n)
  | 0, _, _ => rfl
  | k + 1, hk, n => by
    have ih : hor (add p p2) q k = add (hor p q k) (hor p2 q k) := by funext m; exact hor_add p p2 q k (by omega) m
    show (xt (hor (add p p2) q k) n ^^ (add p p2 (127 - k) && _)) = ((xt (hor p q k) n ^^ _) ^^ (xt (hor p2 q k) n ^^ _))
    rw [ih, xt_add]
    unfold add
    generalize xt (hor p q k) n = a
    generalize xt (hor p2 q k) n = b
    generalize (decide (n < 128) && q n) = c
    cases a <;> cases b <;> cases c <;> cases p (127 - k) <;> cases p2 (127 - k) <;> rfl
theorem tms_add (p p2 q : UInt64 × UInt64) : tms (p.1 ^^^ p2.1, p.2 ^^^ p2.2) q 128 = ((tms p q 128).1 ^^^ (tms p2 q 128).1, (tms p q 128).2 ^^^ (tms p2 q 128).2) := pb_ext fun n hn => by
  rw [pb_add, pb_tms _ _ 128 (by omega) n hn, pb_tms _ _ 128 (by omega) n hn, pb_tms _ _ 128 (by omega) n hn, ← hor_add _ _ _ 128 (by omega)]
  exact hor_congr (fun m _ => pb_add p p2 m) (fun m _ => rfl) 128 (by omega) n hn
theorem chnk_xor (a b : List UInt8) (h : a.length = b.length) (k : Nat) : ofL (chnk (xoL a b) k) = ((ofL (chnk a k)).1 ^^^ (ofL (chnk b k)).1, (ofL (chnk a k)).2 ^^^ (ofL (chnk b k)).2) := pb_ext fun n hn => by
  rw [pb_of _ n hn, pb_add, pb_of _ n hn, pb_of _ n hn]
  unfold cb chnk
  rw [rng_getD (by omega), rng_getD (by omega), rng_getD (by omega), xoL_getD _ _ h, bit8_xor]
theorem x4 (a b c d : UInt64) : a ^^^ b ^^^ (c ^^^ d) = a ^^^ c ^^^ (b ^^^ d) := by
  rw [UInt64.xor_assoc, UInt64.xor_assoc, ← UInt64.xor_assoc b, UInt64.xor_comm b c, UInt64.xor_assoc c]
theorem yS_xor (h a b : List UInt8) (hl : a.length = b.length) : ∀ k, yS h (xoL a b) k = ((yS h a k).1 ^^^ (yS h b k).1, (yS h a k).2 ^^^ (yS h b k).2)
  | 0 => by rw [yS_z, yS_z, yS_z]; rfl
  | k + 1 => by
    rw [yS_s, yS_s, yS_s, ← tms_add, yS_xor h a b hl k, chnk_xor a b hl k]
    simp only
    rw [x4, x4 (yS h a k).2]
theorem bB_xor (a b c d : UInt64) (i : Nat) (hi : i < 16) : bB (a ^^^ b) (c ^^^ d) i = bB a c i ^^^ bB b d i := by
  have e : blkL (a ^^^ b, c ^^^ d) = xoL (blkL (a, c)) (blkL (b, d)) := by
    have hl : (blkL (a, c)).length = (blkL (b, d)).length := by unfold blkL; rw [rng_len, rng_len]
    apply cb_ext (by unfold blkL; exact rng_len) (by rw [xoL_len]; unfold blkL; exact rng_len)
    intro n hn
    rw [cb_blk _ n hn, show ((a ^^^ b, c ^^^ d) : UInt64 × UInt64) = ((a, c).1 ^^^ (b, d).1, (a, c).2 ^^^ (b, d).2) from rfl, pb_add, ← cb_blk _ n hn, ← cb_blk _ n hn]
    unfold cb
    rw [xoL_getD _ _ hl, bit8_xor]
  have e2 := congrArg (fun l => l.getD i 0) e
  have hl : (blkL (a, c)).length = (blkL (b, d)).length := by unfold blkL; rw [rng_len, rng_len]
  simp only [xoL_getD _ _ hl] at e2
  unfold blkL at e2
  rwa [rng_getD hi, rng_getD hi, rng_getD hi] at e2
/-- The hash of a sum. -/
theorem hash_xor (h a b : List UInt8) (hl : a.length = b.length) (i : Nat) (hi : i < 16) : (hashL h (xoL a b)).getD i 0 = (hashL h a).getD i 0 ^^^ (hashL h b).getD i 0 := by
  unfold hashL
  rw [xoL_len, yS_xor h a b hl, ← hl]
  unfold blkL
  rw [rng_getD hi, rng_getD hi, rng_getD hi]
  exact bB_xor _ _ _ _ i hi

/-! ### Under a block 1 -/
def oneP : Po := fun n => n == 0
theorem hor_one (p : Po) : ∀ k, k ≤ 128 → ∀ n, n < 128 → hor p oneP k n = (decide (n < k) && p (128 - k + n))
  | 0, _, n, _ => by simp [hor]
  | k + 1, hk, n, hn => by
    show (xt (hor p oneP k) n ^^ (p (127 - k) && (decide (n < 128) && oneP n))) = _
    have h127 : hor p oneP k 127 = false := by rw [hor_one p k (by omega) 127 (by omega)]; simp; omega
    unfold xt
    rw [h127]
    simp only [hn, decide_true, Bool.true_and, Bool.false_and, Bool.xor_false]
    by_cases h0 : 0 < n
    · rw [hor_one p k (by omega) (n - 1) (by omega)]
      have e : oneP n = false := by unfold oneP; simp; omega
      rw [e, show 128 - (k + 1) + n = 128 - k + (n - 1) by omega]
      have : decide (n < k + 1) = decide (n - 1 < k) := by rw [Bool.eq_iff_iff]; simp; omega
      rw [this]; simp [h0]
    · obtain rfl : n = 0 := by omega
      have e : oneP 0 = true := rfl
      rw [e, show 128 - (k + 1) + 0 = 127 - k by omega]; simp
def oneB : List UInt8 := [128, 0, 0, 0, 0, 0, 0, 0, 0, 0, 0, 0, 0, 0, 0, 0]
theorem cb_one : ∀ n, n < 128 → cb oneB n = oneP n := by decide +kernel
theorem tms_one (p : UInt64 × UInt64) : tms p (ofL oneB) 128 = p := pb_ext fun n hn => by
  rw [pb_tms _ _ 128 (by omega) n hn, hor_congr (p2 := pb p) (q2 := oneP) (fun _ _ => rfl) (fun m hm => by rw [pb_of _ m hm, cb_one m hm]) 128 (by omega) n hn, hor_one _ 128 (by omega) n hn]
  simp [hn]
/-- All bytes at j modulo 16 among the first n, added. -/
def xs (s : List UInt8) (j : Nat) : Nat → UInt8
  | 0 => 0
  | n + 1 => if n % 16 = j then xs s j n ^^^ s.getD n 0 else xs s j n
def accL (s : List UInt8) (n : Nat) : List UInt8 := (List.range 16).map fun j => xs s j n
theorem accL_len (s : List UInt8) (n : Nat) : (accL s n).length = 16 := rng_len
theorem accL_z (s : List UInt8) : accL s 0 = List.replicate 16 0 := rfl
theorem accL_s (s : List UInt8) (n : Nat) {x : UInt8} (h : x = (accL s n).getD (n % 16) 0 ^^^ s.getD n 0) : (accL s n).set (n % 16) x = accL s (n + 1) := by
  subst h
  unfold accL
  rw [rng_set, rng_getD (by omega)]
  apply List.map_congr_left
  intro m _
  show _ = if n % 16 = m then _ else _
  by_cases h : m = n % 16
  · rw [if_pos h, if_pos h.symm, h]
  · rw [if_neg h, if_neg (fun e => h e.symm)]
theorem xs_ge (s : List UInt8) (j : Nat) : ∀ n, s.length ≤ n → xs s j n = xs s j s.length
  | 0, h => by rw [Nat.le_zero.1 h]
  | n + 1, h => by
    by_cases hn : s.length ≤ n
    · have ih := xs_ge s j n hn
      show (if n % 16 = j then xs s j n ^^^ s.getD n 0 else xs s j n) = _
      have e : s.getD n 0 = 0 := by rw [List.getD_eq_getElem?_getD, List.getElem?_eq_none hn]; rfl
      rw [e, UInt8.xor_zero, ite_self, ih]
    · rw [show s.length = n + 1 by omega]
theorem xs_run (s : List UInt8) (j k : Nat) (hj : j < 16) : ∀ m, m ≤ 16 → xs s j (16 * k + m) = if j < m then xs s j (16 * k) ^^^ s.getD (16 * k + j) 0 else xs s j (16 * k)
  | 0, _ => by simp
  | m + 1, hm => by
    show (if (16 * k + m) % 16 = j then xs s j (16 * k + m) ^^^ s.getD (16 * k + m) 0 else xs s j (16 * k + m)) = _
    rw [xs_run s j k hj m (by omega)]
    by_cases h : (16 * k + m) % 16 = j
    · have : m = j := by omega
      subst this
      rw [if_pos h, if_neg (by omega), if_pos (by omega)]
    · rw [if_neg h]
      by_cases h2 : j < m
      · rw [if_pos h2, if_pos (by omega)]
      · rw [if_neg h2, if_neg (by omega)]
theorem xs_blk (s : List UInt8) (j k : Nat) (hj : j < 16) : xs s j (16 * (k + 1)) = xs s j (16 * k) ^^^ s.getD (16 * k + j) 0 := by
  rw [show 16 * (k + 1) = 16 * k + 16 by omega, xs_run s j k hj 16 (by omega), if_pos hj]
theorem zero16 : ((0, 0) : UInt64 × UInt64) = ofL (List.replicate 16 0) := by decide +kernel
theorem yS_one (s : List UInt8) : ∀ k, yS oneB s k = ofL (accL s (16 * k))
  | 0 => by rw [yS_z]; exact zero16
  | k + 1 => by
    rw [yS_s, tms_one, yS_one s k]
    refine pb_ext fun n hn => ?_
    rw [pb_add, pb_of _ n hn, pb_of _ n hn, pb_of _ n hn]
    unfold cb chnk accL
    rw [rng_getD (by omega), rng_getD (by omega), rng_getD (by omega), ← bit8_xor, xs_blk _ _ _ (by omega)]
/-- Under a block 1 the hash is all blocks added. -/
theorem hash_one (s : List UInt8) : hashL oneB s = accL s s.length := by
  unfold hashL
  rw [yS_one]
  apply cb_ext (by unfold blkL; exact rng_len) (accL_len _ _)
  intro n hn
  rw [cb_blk _ n hn, pb_of _ n hn]
  unfold cb accL
  rw [rng_getD (by omega), rng_getD (by omega), xs_ge s (n / 8) (16 * ((s.length + 15) / 16)) (by omega)]
end Go.Sh
/- gcm's law GcmSums (f14), walked. -/
namespace Go.Sh
open Go.Proofs
set_option maxHeartbeats 8000000
set_option linter.unusedSimpArgs false
set_option linter.unusedVariables false

theorem eq_oneB : (SV.agg (oneB.map SV.u8)) = .agg [.u8 128, .u8 0, .u8 0, .u8 0, .u8 0, .u8 0, .u8 0, .u8 0, .u8 0, .u8 0, .u8 0, .u8 0, .u8 0, .u8 0, .u8 0, .u8 0] := rfl
theorem eqcs_rf : ∀ (l : List UInt8), eqcs (l.map SV.u8) (l.map SV.u8) = true
  | [] => rfl
  | a :: l => by simp only [List.map_cons, eqcs, eqc, beq_self_eq_true, Bool.true_and]; exact eqcs_rf l
theorem f14x (h a b : List UInt8) (hh : h.length = 16) (hx : a.length > 400 ∨ a.length ≠ b.length) :
    SCall Try.prog 14 [.agg (h.map .u8), .sl 0 0 a.length 1 false, .sl 1 0 b.length 1 false] [some (.ro (a.map .u8)), some (.ro (b.map .u8))] (.b true) [some (.ro (a.map .u8)), some (.ro (b.map .u8))] := by
  refine scall_of ttOk (by kernel_rfl : Try.prog.funcs[14]? = some Try.f14) rfl rfl rfl ?_
  try simp only [List.length_cons, List.length_nil, Nat.zero_add, Nat.reduceAdd]
  refine sw_ok ttOk mixed (by kernel_rfl) ?_
  conv => whnf
  repeat (fail)
  refine ok1_callF [] [] true (f59) rfl rfl ⟨⟨rfl, by first | rfl | fail⟩, trivial, by first | rfl | fail, by first | rfl | fail, ?_⟩
  conv => whnf
  by_cases h1 : a.length > 400
  · have g1 : decide ((a.length : Int) > 400) = true := by simp; omega
    repeat (first | (refine brT rfl ?_; conv => whnf) | (refine brF rfl ?_; conv => whnf) | (refine gdF g1 ?_; conv => whnf) | (refine pkT g1 ?_; conv => whnf) | fail)
    refine ⟨[0, 1], ?_, rfl, rfl, ?_, rfl⟩
    · (repeat' (fail)) <;> first | rfl | fail
    · (repeat' (first | exact trivial | refine And.intro ?_ ?_ | fail)) <;> first | exact ren_eq (by first | (simp; done) | fail) (by first | rfl | fail) | fail
  · have g1 : decide ((a.length : Int) > 400) = false := by simp; omega
    have g2 : ((a.length : Int) != (b.length : Int)) = true := by simp; omega
    repeat (first | (refine brF rfl ?_; conv => whnf) | (refine gdT g1 ?_; conv => whnf) | (refine pkF g1 ?_; conv => whnf) | (refine gdT g2 ?_; conv => whnf) | fail)
    refine ⟨[0, 1], ?_, rfl, rfl, ?_, rfl⟩
    · (repeat' (fail)) <;> first | rfl | fail
    · (repeat' (first | exact trivial | refine And.intro ?_ ?_ | fail)) <;> first | exact ren_eq (by first | (simp; done) | fail) (by first | rfl | fail) | fail
theorem f14m (h a b : List UInt8) (hh : h.length = 16) (ha : a.length ≤ 400) (hab : a.length = b.length) :
    SCall Try.prog 14 [.agg (h.map .u8), .sl 0 0 a.length 1 false, .sl 1 0 b.length 1 false] [some (.ro (a.map .u8)), some (.ro (b.map .u8))] (.b true) [some (.ro (a.map .u8)), some (.ro (b.map .u8))] := by
  have g1 : decide ((a.length : Int) > 400) = false := by simp; omega
  have g2 : ((a.length : Int) != (a.length : Int)) = false := by simp
  obtain ⟨s, hs⟩ : ∃ s, s = xoL a b := ⟨_, rfl⟩
  have hsl : s.length = a.length := by rw [hs]; exact xoL_len ..
  have hA := fun f => f60 h a a 0 f hh (by simp) (by omega) (by omega)
  have hB := fun f => f60 h b b 0 f hh (by simp) (by omega) (by omega)
  have hS := fun f => f60 h s s 0 f hh (by simp) (by omega) (by omega)
  have h1 := fun f => f60 oneB s s 0 f rfl (by simp) (by omega) (by omega)
  rw [hash_one] at h1
  obtain ⟨x, hx⟩ : ∃ x, x = hashL h a := ⟨_, rfl⟩
  obtain ⟨y, hy⟩ : ∃ y, y = hashL h b := ⟨_, rfl⟩
  obtain ⟨z, hz⟩ : ∃ z, z = hashL h s := ⟨_, rfl⟩
  have hxl : x.length = 16 := by rw [hx]; exact hashL_len ..
  have hyl : y.length = 16 := by rw [hy]; exact hashL_len ..
  have hzl : z.length = 16 := by rw [hz]; exact hashL_len ..
  have hzx : ∀ i, i < 16 → z.getD i 0 = x.getD i 0 ^^^ y.getD i 0 := fun i hi => by rw [hz, hs, hx, hy]; exact hash_xor h a b hab i hi
  rw [← hx] at hA
  rw [← hy] at hB
  rw [← hz] at hS
  rw [← hab] at hB ⊢
  rw [hsl] at hS h1
  refine scall_of ttOk (by kernel_rfl : Try.prog.funcs[14]? = some Try.f14) rfl rfl rfl ?_
  try simp only [List.length_cons, List.length_nil, Nat.zero_add, Nat.reduceAdd]
  refine sw_ok ttOk mixed (by kernel_rfl) ?_
  conv => whnf
  repeat (fail)
  refine ok1_callF [] [] true (f59) rfl rfl ⟨⟨rfl, by first | rfl | fail⟩, trivial, by first | rfl | fail, by first | rfl | fail, ?_⟩
  conv => whnf
  repeat (first | (refine brF rfl ?_; conv => whnf) | (refine gdT g1 ?_; conv => whnf) | (refine pkF g1 ?_; conv => whnf) | (refine gdF g2 ?_; conv => whnf) | (refine Exists.intro _ (And.intro rfl ?_); conv => whnf) | (refine And.intro (by first | omega | (simp [ti5]; omega)) ?_; conv => whnf) | fail)
  refine loop_rule ttOk mixed (by kernel_rfl) (ι := { i : Nat // i ≤ a.length }) (fun i => [(1, .sl 0 0 a.length 1 false), (2, .sl 1 0 a.length 1 false), (3, .p 2 0), (7, .sl 3 0 a.length 1 false), (8, .p 4 0), (30, .i (a.length : Int)), (31, .i (i.1 : Int))]) (fun i => [some (.ro (a.map .u8)), some (.ro (b.map .u8)), some (.box (h.map .u8)), some (.row 5 ((fil a.length i.1 (fun j => s.getD j 0) (fun j => a.getD j 0)).map .u8)), some (.box ((accL s i.1).map .u8))]) (fun _ => 5) (fun i => a.length - i.1) ⟨0, by omega⟩ ?_ ?_
  · have hz0 : fil a.length 0 (fun j => s.getD j 0) (fun j => a.getD j 0) = a := fil_of_list rfl
    have hz1 := accL_z s
    dsimp only
    rw [hz0, hz1]
    have hc : a.map SV.u8 = List.take (0 * 1) (List.drop 0 ([] : List SV)) ++ List.take (a.length * 1) (List.drop 0 (a.map SV.u8)) := by rw [Nat.zero_mul, List.take_zero, List.nil_append, Nat.mul_one, List.drop_zero, List.take_of_length_le (by simp)]
    refine Weak.sel [0, 1, 2, 4, 5] rfl rfl ?_ ?_ rfl rfl
    · (repeat' (first | exact trivial | refine And.intro ?_ ?_ | fail)) <;> first | rfl | exact wk_i (by first | rfl | omega | fail) | exact wk_sl rfl (by first | rfl | fail) (by first | omega | fail) | fail
    · (repeat' (first | exact trivial | exact ren_eq (plainL_u8 _) hc | exact ren_z8 | refine And.intro ?_ ?_ | fail)) <;> first | rfl | exact ren_eq (by first | (simp; done) | fail) (by first | rfl | fail) | fail
  · rintro ⟨i, hi⟩
    have hf := fil_len a.length i (fun j => s.getD j 0) (fun j => a.getD j 0)
    have hal := accL_len s i
    dsimp only
    by_cases hi2 : i < a.length
    · have hlt : decide ((i : Int) < (a.length : Int)) = true := by simp; omega
      have hp1 := wp1 i (by omega)
      have hm : ((i : Int)).tmod 16 = ((i % 16 : Nat) : Int) := by rw [Int.tmod_eq_emod_of_nonneg (by omega)]; omega
      have hx0 : (fil a.length i (fun j => s.getD j 0) (fun j => a.getD j 0)).getD i 0 ^^^ b.getD i 0 = s.getD i 0 := by
        rw [fil_getD hi2, if_neg (by omega), hs, xoL_getD _ _ hab]
      have hst := fil_setx (g := fun j => a.getD j 0) (f := fun j => s.getD j 0) hi2 hx0
      have hsl2 : ((fil a.length i (fun j => s.getD j 0) (fun j => a.getD j 0)).set i ((fil a.length i (fun j => s.getD j 0) (fun j => a.getD j 0)).getD i 0 ^^^ b.getD i 0)).length = a.length := by rw [List.length_set]; exact hf
      have hg : ((fil a.length i (fun j => s.getD j 0) (fun j => a.getD j 0)).set i ((fil a.length i (fun j => s.getD j 0) (fun j => a.getD j 0)).getD i 0 ^^^ b.getD i 0)).getD i 0 = s.getD i 0 := by
        rw [hst, fil_getD hi2, if_pos (by omega)]
      have hacc := accL_s s i (x := (accL s i).getD (i % 16) 0 ^^^ ((fil a.length i (fun j => s.getD j 0) (fun j => a.getD j 0)).set i ((fil a.length i (fun j => s.getD j 0) (fun j => a.getD j 0)).getD i 0 ^^^ b.getD i 0)).getD i 0) (by rw [hg])
      conv => whnf
      first | refine brT (by exact hlt) ?_ | fail
      conv => whnf
      repeat (first | (refine Exists.intro _ (And.intro (sput_m8 (i := i) (by first | rfl | omega | fail)) ?_); conv => whnf) | (refine Exists.intro _ (And.intro (sload_u8 (i := i) (by first | rfl | omega | fail) (by first | omega | fail)) ?_); conv => whnf) | (refine Exists.intro _ (And.intro (idx_i (m := i) (by first | rfl | fail)) ?_); conv => whnf) | (refine Exists.intro _ (And.intro (sput_m8 (i := i % 16) (by first | rfl | (simp; done) | fail)) ?_); conv => whnf) | (refine Exists.intro _ (And.intro (sload_u8 (i := i % 16) (by first | rfl | (simp; done) | fail) (by first | omega | fail)) ?_); conv => whnf) | (refine Exists.intro _ (And.intro (idx_i (m := i % 16) (by first | rfl | fail)) ?_); conv => whnf) | (refine Exists.intro _ (And.intro rfl ?_); conv => whnf) | (refine And.intro (by first | omega | (simp; omega) | fail) ?_; conv => whnf) | (refine And.intro (by kernel_rfl) ?_; conv => whnf) | (refine And.intro ⟨by first | exact @rfl Nat _ | fail, by first | (simp only [hf, hal, hsl2, ti5, List.length_map]; omega) | fail⟩ ?_; conv => whnf) | fail)
      refine ⟨⟨i + 1, by omega⟩, by simp only; omega, ?_⟩
      refine Weak.sel [0, 1, 2, 3, 4] rfl rfl ?_ ?_ rfl rfl
      · (repeat' (first | exact trivial | refine And.intro ?_ ?_ | fail)) <;> first | exact wk_i (by first | exact hp1 | exact hp1.symm | fail) | rfl | fail
      · (repeat' (first | exact trivial | refine And.intro ?_ ?_ | fail)) <;> first | exact ren_m8 (by first | exact hst | exact hst.symm | exact hacc.symm | fail) | rfl | exact ren_eq (by first | (simp; done) | fail) (by first | rfl | fail) | fail
    · obtain rfl : i = a.length := by omega
      have hlt : decide ((a.length : Int) < (a.length : Int)) = false := by simp
      have hff : fil a.length a.length (fun j => s.getD j 0) (fun j => a.getD j 0) = s := by
        rw [fil_full, ← hsl]
        apply List.ext_getElem?
        intro j
        by_cases hj : j < s.length
        · rw [List.getElem?_map, List.getElem?_range hj, Option.map_some, List.getD_eq_getElem?_getD, List.getElem?_eq_getElem hj]; rfl
        · rw [List.getElem?_eq_none (by simp; omega), List.getElem?_eq_none (by omega)]
      have heq : eqcs ((accL s a.length).map SV.u8) ((accL s a.length).map SV.u8) = true := eqcs_rf _
      rw [hff]
      conv => whnf
      first | refine brF (by exact hlt) ?_ | fail
      conv => whnf
      repeat (first | (refine Exists.intro _ (And.intro (sload_all rfl (by first | rfl | (simp; omega))) ?_); conv => whnf) | fail)
      refine ok1_callF [0] [false] true (hA _) rfl rfl ⟨⟨rfl, by first | ((repeat' (first | exact ren_m8 rfl | exact rfl | (refine wk_agg ?_) | (refine wk_cons ?_ ?_))); done) | fail⟩, by (repeat' (first | exact trivial | refine And.intro ?_ ?_)) <;> first | exact ren_eq (by first | (simp; done) | fail) (by first | rfl | fail) | fail, by first | rfl | fail, by first | simp [plainRf, plainR, plainT, plainW], ?_⟩
      conv => whnf
      repeat (first | (refine Exists.intro _ (And.intro (sload_all rfl (by first | rfl | (simp; omega))) ?_); conv => whnf) | fail)
      refine ok1_callF [1] [false] true (hB _) rfl rfl ⟨⟨rfl, by first | ((repeat' (first | exact ren_m8 rfl | exact rfl | (refine wk_agg ?_) | (refine wk_cons ?_ ?_))); done) | fail⟩, by (repeat' (first | exact trivial | refine And.intro ?_ ?_)) <;> first | exact ren_eq (by first | (simp; done) | fail) (by first | rfl | fail) | fail, by first | rfl | fail, by first | simp [plainRf, plainR, plainT, plainW], ?_⟩
      conv => whnf
      repeat (first | (refine Exists.intro _ (And.intro (sload_all rfl (by first | rfl | (simp; omega))) ?_); conv => whnf) | fail)
      refine ok1_callF [3] [false] true (hS _) rfl rfl ⟨⟨rfl, by first | ((repeat' (first | exact ren_m8 rfl | exact rfl | (refine wk_agg ?_) | (refine wk_cons ?_ ?_))); done) | fail⟩, by (repeat' (first | exact trivial | refine And.intro ?_ ?_)) <;> first | exact ren_eq (by first | (simp; done) | fail) (by first | rfl | fail) | fail, by first | rfl | fail, by first | simp [plainRf, plainR, plainT, plainW], ?_⟩
      conv => whnf
      repeat (first | (refine Exists.intro _ (And.intro (sput_all rfl (by first | rfl | (simp [hxl, hyl, hzl]; done) | fail)) ?_); conv => whnf) | (refine And.intro (by first | omega | (simp; omega) | fail) ?_; conv => whnf) | (refine And.intro (by kernel_rfl) ?_; conv => whnf) | fail)
      refine loop_rule ttOk mixed (by kernel_rfl) (ι := { j : Nat // j ≤ 16 }) (fun j => [(7, .sl 3 0 a.length 1 false), (8, .p 4 0), (10, .p 5 0), (11, .p 6 0), (12, .p 7 0), (64, .i (j.1 : Int))]) (fun _ => [some (.ro (a.map .u8)), some (.ro (b.map .u8)), none, some (.ro (s.map .u8)), some (.box ((accL s a.length).map .u8)), some (.box (x.map .u8)), some (.box (y.map .u8)), some (.box (z.map .u8))]) (fun _ => 8) (fun j => 16 - j.1) ⟨0, by omega⟩ ?_ ?_
      · refine Weak.sel [0, 1, 2, 3, 4, 5, 6, 7] rfl rfl ?_ ?_ rfl rfl
        · (repeat' (first | exact trivial | refine And.intro ?_ ?_ | fail)) <;> first | rfl | fail
        · (repeat' (first | exact trivial | refine And.intro ?_ ?_ | (refine wk_cons ?_ ?_))) <;> first | rfl | exact ren_eq (by first | (simp; done) | fail) (by first | rfl | fail) | fail
      · rintro ⟨j, hj⟩
        have hal := accL_len s a.length
        dsimp only
        by_cases hj2 : j < 16
        · have hlt : decide ((j : Int) < 16) = true := by simp; omega
          have hp1 := wp1 j (by omega)
          have hne : (z.getD j 0 != (x.getD j 0 ^^^ y.getD j 0)) = false := by rw [hzx j hj2]; simp
          conv => whnf
          first | refine brT (by exact hlt) ?_ | fail
          conv => whnf
          repeat (first | (refine gdF hne ?_; conv => whnf) | (refine Exists.intro _ (And.intro (sload_u8 (i := j) (by first | rfl | (simp; done) | fail) (by first | omega | fail)) ?_); conv => whnf) | (refine Exists.intro _ (And.intro (idx_i (m := j) (by first | rfl | fail)) ?_); conv => whnf) | (refine And.intro (by first | omega | fail) ?_; conv => whnf) | (refine And.intro (by kernel_rfl) ?_; conv => whnf) | fail)
          refine ⟨⟨j + 1, by omega⟩, by simp only; omega, ?_⟩
          refine Weak.sel [0, 1, 2, 3, 4, 5, 6, 7] rfl rfl ?_ ?_ rfl rfl
          · (repeat' (first | exact trivial | refine And.intro ?_ ?_ | fail)) <;> first | exact wk_i (by first | exact hp1 | exact hp1.symm | fail) | rfl | fail
          · (repeat' (first | exact trivial | refine And.intro ?_ ?_ | (refine wk_cons ?_ ?_))) <;> first | rfl | exact ren_eq (by first | (simp; done) | fail) (by first | rfl | fail) | fail
        · obtain rfl : j = 16 := by omega
          conv => whnf
          first | refine brF (by rfl) ?_ | fail
          conv => whnf
          repeat (first | (refine Exists.intro _ (And.intro rfl ?_); conv => whnf) | fail)
          refine ok1_callF [3] [false] true (h1 _) rfl rfl ⟨⟨rfl, by first | rfl | fail⟩, by (repeat' (first | exact trivial | refine And.intro ?_ ?_)) <;> first | exact ren_eq (by first | (simp; done) | fail) (by first | rfl | fail) | fail, by first | rfl | fail, by first | rfl | fail, ?_⟩
          conv => whnf
          repeat (first | (refine Exists.intro _ (And.intro (sload_all rfl (by first | rfl | fail)) ?_); conv => whnf) | (refine And.intro ⟨rfl, rfl⟩ ?_; conv => whnf) | (refine And.intro (by kernel_rfl) ?_; conv => whnf) | fail)
          refine ⟨[0, 1], ?_, rfl, rfl, ?_, rfl⟩
          · (repeat' (fail)) <;> first | exact wk_b (by first | exact heq.symm | fail) | fail
          · (repeat' (first | exact trivial | refine And.intro ?_ ?_ | fail)) <;> first | exact ren_eq (by first | (simp; done) | fail) (by first | rfl | fail) | fail
theorem f14 (h a b : List UInt8) (hh : h.length = 16) :
    SCall Try.prog 14 [.agg (h.map .u8), .sl 0 0 a.length 1 false, .sl 1 0 b.length 1 false] [some (.ro (a.map .u8)), some (.ro (b.map .u8))] (.b true) [some (.ro (a.map .u8)), some (.ro (b.map .u8))] := by
  by_cases hx : a.length > 400 ∨ a.length ≠ b.length
  · exact f14x h a b hh hx
  · exact f14m h a b hh (by omega) (by omega)
end Go.Sh
/- From a function's promise to a law's statement: 'it returns true; what it was handed reads as it did'. -/
namespace Go.Sh
open Go.ChangeShapes Go.WideShapes Go.ChangeAt Go.RowKit
set_option linter.unusedSimpArgs false

theorem Rels.of_get {ρ : Ren} : ∀ {xs : List SV} {vs : List Value}, xs.length = vs.length → (∀ (i : Nat) x, xs[i]? = some x → ∃ v, vs[i]? = some v ∧ Rel ρ x v) → Rels ρ xs vs
  | [], vs, hl, _ => by
    have : vs = [] := List.eq_nil_of_length_eq_zero (by simpa using hl.symm)
    subst this; exact Rels.nil_iff.2 rfl
  | x :: xs, [], hl, _ => by simp at hl
  | x :: xs, v :: vs, hl, h => by
    obtain ⟨u, hu, hr⟩ := h 0 x rfl
    simp at hu; subst hu
    exact Rels.cons hr (Rels.of_get (by simpa using hl) (fun i y hy => by simpa using h (i + 1) y (by simpa using hy)))

theorem calls_of_scall {P : Program} {f : Nat} {args : List SV} {H0 H1 : HL} (hc : SCall P f args H0 (.b true) H1) (hro : ∀ (id : Nat) b, hg H0 id = some b → b.own = false) {vs : List Value} {W : World} {ρ : Ren}
    (hvs : Rels ρ args vs) (hh : HRel ρ (hg H0) W) (hfr : ∀ id, H0.length ≤ id → ρ id = none) : Calls P f ⟨vs⟩ W fun e w' => e = .returned (.bool true) ∧ RowKit.Below W.heap.size W w' := by
  have h := hc.call 0 ρ W vs hvs hh (fun i j bi bj ri rj _ hi _ _ _ hown => by rw [hro i bi hi] at hown; cases hown) hfr
  refine (callsIn_wide.1 h).mono ?_
  intro e w' hr
  cases e with
  | returned v =>
    obtain ⟨ρ', h1, _, _, _, h5⟩ := hr
    simp only [Rel] at h1
    refine ⟨by rw [h1], h5.fr.below (fun x o _ hown => ?_)⟩
    obtain ⟨id, b, rb, g1, _, g3, _⟩ := hown
    rw [hro id b g1] at g3; cases g3
  | _ => exact hr.elim

theorem trodAll_stays {H : Type} {enc : TypeId × Value → H} {P : Program} (hl : laidOutB P = true) {W W' : World} (hb : RowKit.Below W.heap.size W W') : ∀ {ts : List TypeId} {vs : List Value} {ds : List (DataW H)} {ps : List MemPlace},
    (∀ t ∈ ts, P.readableRec t = true ∧ t < P.types.size) → DataW.TrodAll enc P W 0 (fun _ => true) true ts vs ds ps → (∀ x ∈ ps, x.block < W.heap.size) → ∀ sp : Nat → Bool, (∀ x ∈ ps, sp x.block = true) →
    DataW.TrodAll enc P W' 0 sp true ts vs ds ps
  | [], vs, ds, ps, _, h, _, sp, _ => by
    obtain ⟨rfl, rfl, rfl⟩ := trodAll_nil h
    exact trodAll_mk0
  | t :: ts, vs, ds, ps, ht, h, hlt, sp, hsp => by
    obtain ⟨v, vs', d, ds', p, q, rfl, rfl, rfl, h1, h2⟩ := trodAll_cons h
    obtain ⟨r1, r2⟩ := ht t (List.mem_cons_self ..)
    exact trodAll_cons_mk (WideElems.Trod_stays hl r1 r2 h1 (fun x hx => hb.same (hlt x (List.mem_append_left _ hx))) (fun x hx => hsp x (List.mem_append_left _ hx)))
      (trodAll_stays hl hb (fun u hu => ht u (List.mem_cons_of_mem _ hu)) h2 (fun x hx => hlt x (List.mem_append_right _ hx)) sp (fun x hx => hsp x (List.mem_append_right _ hx)))

/-- 'True, and what came in reads as it did.' -/
theorem same_post {H : Type} {enc : TypeId × Value → H} {P : Program} {fn : Func} {s : ChangeSpec} {W W' : World} {args : Array Value} {ds gs : List (DataW H)} {before : List MemPlace} {bt : TypeId} {apart fresh handsOn again : Bool}
    (hl : laidOutB P = true) (hparams : ∀ t ∈ fn.params.toList, P.readableRec t = true ∧ t < P.types.size) (hbt : P.underlying bt = some .bool) (hrt : fn.resultTypes = #[bt]) (hvars : s.vars = [])
    (hW : DataW.Whole enc P fn.params.toList s.vars apart W args.toList ds gs before) (hspec : s.fn H ds = { results := [.lit (.bool true)], args := ds }) (hb : RowKit.Below W.heap.size W W') :
    s.post enc P fn apart fresh handsOn again W args (.bool true) W' := by
  have hlt := hW.lt
  have hW' := hW
  obtain ⟨p, q, hA, hV, rfl, hfz, hnd⟩ := hW
  rw [hvars] at hV
  obtain ⟨rfl, rfl⟩ := trodVars_none hV
  have hargs : ∀ sp : Nat → Bool, (∀ x ∈ p, sp x.block = true) → DataW.TrodAll enc P W' 0 sp true fn.params.toList args.toList ds p := fun sp hsp =>
    trodAll_stays hl hb hparams hA (fun x hx => hlt x (by simpa using hx)) sp hsp
  have hres : ∀ (b : Nat) (sp : Nat → Bool) (hd : Bool), DataW.TrodAll enc P W' b sp hd fn.resultTypes.toList ((Value.bool true).resultList fn.resultTypes.size) [.lit (.bool true)] [] := fun b sp hd => by
    rw [hrt]
    exact trodAll_cons_mk (shut_bool hbt _) trodAll_mk0
  refine ⟨ds, [], p ++ [], [], p, [], hW', ?_, ?_, ?_, World.keptBut_mono (fun x hx => ⟨hx, ?_⟩) (hb.frame (fun x => x ∈ p ++ [])), fun _ => ?_⟩
  · rw [List.append_nil, hspec]; exact hres _ _ _
  · rw [List.append_nil, hspec]
    exact hargs _ (fun x hx => by simpa using hlt x (by simpa using hx))
  · rw [List.append_nil, hspec, hvars]
    rfl
  · exact .inr (.inl (by simpa using hx))
  · refine ⟨ok_one hrt rfl (okWide_bool_mk hbt _), _, [], ([] ++ p) ++ [], ⟨[] ++ p, [], trodAll_append (hargs _ (fun _ _ => rfl)) (hres _ _ _), by rw [hvars]; rfl, rfl, ?_, ?_⟩, ?_⟩
    · intro b off hp
      have hpl := hlt (.cell b off) (by simpa using hp)
      rw [hb.frozen (p := ⟨b, off, none⟩) hpl]
      exact hfz b off (by simpa using hp)
    · intro ha
      simpa using hnd ha
    · intro x hx _
      simpa using hx

/-! ### What comes in, opened -/

/-- A number of 64 bits. -/
theorem open_u64 {H : Type} {enc : TypeId × Value → H} {P : Program} {w : World} {base : Nat} {spare : Nat → Bool} {held : Bool} {r : Reach} {b0 : Nat} {t : TypeId} {v : Value} {d : DataW H} {ps : List MemPlace}
    (ht : P.underlying t = some (.int .u64)) (hval : Value.okWide P w r b0 t v) (hd : DataW.Trod enc P w base spare held t v d ps) : ∃ x : UInt64, ∀ ρ, Rel ρ (.u64 x) v := by
  obtain ⟨n, rfl, _, _, hw⟩ := open_int ht hval hd
  have hx : 0 ≤ n ∧ n < 18446744073709551616 := by
    simp only [Lit.wf, Bool.and_eq_true, decide_eq_true_eq, IntKind.min, IntKind.max, IntKind.signed, IntKind.bits] at hw
    have h2 := hw.2
    simp at h2 hw
    omega
  refine ⟨UInt64.ofNat n.toNat, fun ρ => ?_⟩
  simp only [Rel]
  congr 1
  simp only [UInt64.toNat_ofNat']
  omega

theorem atoms_u8 (l : List UInt8) : atoms (l.map .u8) = true := by induction l <;> simp_all [atoms, SV.atom]

theorem lits_length {H : Type} (k : IntKind) (zs : List Int) : (lits (H := H) k zs).length = zs.length := by simp [lits]

/-- A row of bytes. -/
theorem open_bytes {H : Type} {enc : TypeId × Value → H} {P : Program} {w : World} {base : Nat} {r : Reach} {b0 : Nat} {t e : TypeId} {v : Value} {d : DataW H} {ps : List MemPlace}
    (ht : P.underlying t = some (.slice e)) (he : P.underlying e = some (.int .u8)) (hc : P.cellsOf e = 1) (hval : Value.okWide P w r b0 t v) (hd : DataW.Trod enc P w base (fun _ => true) true t v d ps) :
    ∃ (bs : List UInt8) (rb : RB), (∀ ρ id, ρ id = some rb → Rel ρ (.sl id 0 bs.length 1 false) v) ∧ (∀ ρ, BRel ρ w rb (.ro (bs.map .u8))) ∧
      (bs = [] ∨ ∃ zs rest : List Int, d = .slice (lits .u8 zs) (lits .u8 rest) ∧ zs.length = bs.length) := by
  obtain ⟨a, len, cap, rfl⟩ := okWide_slice ht hval
  obtain ⟨fuel, hf⟩ := hd
  have hcs : (Value.slice a len cap).cells.toList = [.slice a len cap] := rfl
  rw [hcs] at hf
  rcases open_ints ht he hc hf with ⟨h1, h2⟩ | ⟨a', len', cap', zs, h1, _, hlc, _, hzl, h2, hcell, hwf⟩
  · cases h1
    refine ⟨[], ⟨0, 0, 0, true⟩, fun ρ id hr => ?_, fun ρ => .inl rfl, .inl rfl⟩
    simp only [Rel]
    exact ⟨_, none, 0, hr, rfl, Nat.le_refl _, fun h => (by cases h), .inl rfl⟩
  · cases h1
    simp only [if_true] at hzl
    have hb : ∀ z ∈ zs, 0 ≤ z ∧ z < 256 := by
      intro z hz
      have hw := hwf z hz
      simp only [Lit.wf, Bool.and_eq_true, decide_eq_true_eq, IntKind.min, IntKind.max, IntKind.signed, IntKind.bits] at hw
      have h2 := hw.2
      simp at h2 hw
      omega
    have hbl : ((zs.take len).map fun z => UInt8.ofNat z.toNat).length = len := by simp; omega
    refine ⟨(zs.take len).map fun z => UInt8.ofNat z.toNat, ⟨a'.block, a'.off, cap, false⟩, fun ρ id hr => ?_, fun ρ => ?_, .inr ⟨zs.take len, zs.drop len, ?_, by simp⟩⟩
    · rw [hbl]
      simp only [Rel]
      refine ⟨_, some a', cap, hr, rfl, hlc, fun h => (by cases h), ?_⟩
      by_cases h0 : cap = 0
      · exact .inl h0
      · right
        have := hcell 0 (by omega)
        have hsp : a'.spot = none := by
          unfold World.cell? at this
          split at this
          · split at this
            · cases this
            · rename_i hs
              have : (a'.add 0).spot = a'.spot := by unfold Addr.add; split <;> simp_all
              rw [this] at hs
              simpa using hs
          · cases this
        refine ⟨rfl, ?_, by simp⟩
        cases a'; simp at hsp; simp [hsp]
    · by_cases h0 : len = 0
      · left
        subst h0
        simp
      · right
        have key : ∀ i, i < zs.length → ∃ c t fz, w.heap[a'.block]? = some (.cells c t fz) ∧ c[a'.off + i]? = some (.int .u8 (zs.getD i 0)) := by
          intro i hi
          have h := hcell i hi
          unfold World.cell? at h
          have e1 : (a'.add i).block = a'.block := by unfold Addr.add; split <;> rfl
          rw [e1] at h
          split at h
          · rename_i c t fz hh
            split at h
            · cases h
            · rename_i hs
              have e2 : (a'.add i).off = a'.off + i := by
                unfold Addr.add at hs ⊢
                split
                · simp_all
                · rfl
              rw [e2] at h
              exact ⟨c, t, fz, hh, h⟩
          · cases h
        obtain ⟨c, t2, fz, hh, _⟩ := key 0 (by omega)
        have key2 : ∀ i, i < zs.length → c[a'.off + i]? = some (.int .u8 (zs.getD i 0)) := by
          intro i hi
          obtain ⟨c', t', fz', hh', hv⟩ := key i hi
          rw [hh] at hh'; cases hh'
          exact hv
        have hsz : a'.off + len ≤ c.size := by
          have := key2 (len - 1) (by omega)
          have := (Array.getElem?_eq_some_iff.1 this).1
          omega
        refine ⟨⟨c, t2, fz, hh, atoms_u8 _, ?_, fun h => (by cases h), by simp; omega⟩, by simp; omega, rfl⟩
        apply Rels.of_get
        · simp; omega
        · intro i x hx
          have hi : i < len := by have := (List.getElem?_eq_some_iff.1 hx).1; simp at this; omega
          have hzi : i < zs.length := by omega
          have hg : zs.getD i 0 = zs[i] := by simp [hzi]
          simp only [List.map_map, List.getElem?_map, List.getElem?_take_of_lt hi, List.getElem?_eq_getElem hzi, Option.map_some, Option.some.injEq, Function.comp] at hx
          subst hx
          refine ⟨.int .u8 (zs.getD i 0), ?_, ?_⟩
          · rw [List.length_map, hbl, List.getElem?_take_of_lt hi, List.getElem?_drop, Array.getElem?_toList]
            exact key2 i hzi
          · rw [hg]
            simp only [Rel]
            have := hb zs[i] (List.getElem_mem hzi)
            congr 1
            simp only [UInt8.toNat_ofNat']
            omega
    · have := congrArg Prod.fst h2
      exact this
end Go.Sh
/- What comes in, opened: numbers, truths, texts, arrays and structs of such; rows of such. -/
namespace Go.Sh
open Go.ChangeShapes Go.WideShapes Go.ChangeAt Go.RowKit
set_option linter.unusedSimpArgs false

section
variable {H : Type} {enc : TypeId × Value → H} {P : Program} {w : World} {base : Nat} {spare : Nat → Bool} {held : Bool}

/-- It can be read. -/
def Rd (enc : TypeId × Value → H) (P : Program) (w : World) (base : Nat) (spare : Nat → Bool) (held : Bool) (t : TypeId) (cs : List Value) : Prop := ∃ fuel x, DataW.trod enc P w base spare held fuel t cs = some x

theorem psz_cells {t : TypeId} {n : Nat} (h : psz P t = some n) : P.cellsOf t = n := by
  unfold psz at h; unfold Program.cellsOf; rw [h]; rfl

/-- Pieces of one size, one behind the other. -/
theorem chunks {ks : List Nat} {R : List Value → Prop} (hR : ∀ c, R c → ∃ xs : List SV, xs.map kd = ks.map some ∧ ∀ ρ, Rels ρ xs c) (cs : List Value) : ∀ n : Nat, n * ks.length ≤ cs.length →
    (∀ i, i < n → R ((cs.drop (i * ks.length)).take ks.length)) → ∃ xs : List SV, xs.map kd = (List.replicate n ks).flatten.map some ∧ ∀ ρ, Rels ρ xs (cs.take (n * ks.length))
  | 0, _, _ => ⟨[], by simp, fun ρ => by simp [Rels]⟩
  | n + 1, hl, h => by
    have hn : (n + 1) * ks.length = n * ks.length + ks.length := by rw [Nat.add_mul]; omega
    obtain ⟨xs, hx, hxr⟩ := chunks hR cs n (by omega) (fun i hi => h i (by omega))
    obtain ⟨ys, hy, hyr⟩ := hR _ (h n (by omega))
    refine ⟨xs ++ ys, ?_, fun ρ => ?_⟩
    · rw [List.map_append, hx, hy, List.replicate_succ', List.flatten_concat, List.map_append]
    · rw [hn, List.take_add]
      exact Rels.append (hxr ρ) (hyr ρ)

theorem int_kd {k : IntKind} {q : Nat} {n : Int} (hk : kdT (.int k) = some q) (hw : (Lit.int k n).wf = true) : ∃ x : SV, kd x = some q ∧ ∀ ρ, Rel ρ x (.int k n) := by
  cases k <;> simp only [kdT] at hk <;> (try (cases hk; done)) <;> simp only [Option.some.injEq] at hk <;> subst hk
  · exact ⟨.i n, rfl, fun ρ => by simp only [Rel]⟩
  all_goals
    simp only [Lit.wf, Bool.and_eq_true, decide_eq_true_eq, IntKind.min, IntKind.max, IntKind.signed, IntKind.bits] at hw
    have h2 := hw.2
    simp at h2 hw
  · exact ⟨.u8 (UInt8.ofNat n.toNat), rfl, fun ρ => by simp only [Rel, UInt8.toNat_ofNat']; congr 1; omega⟩
  · exact ⟨.u16 (UInt16.ofNat n.toNat), rfl, fun ρ => by simp only [Rel, UInt16.toNat_ofNat']; congr 1; omega⟩
  · exact ⟨.u32 (UInt32.ofNat n.toNat), rfl, fun ρ => by simp only [Rel, UInt32.toNat_ofNat']; congr 1; omega⟩
  · exact ⟨.u64 (UInt64.ofNat n.toNat), rfl, fun ρ => by simp only [Rel, UInt64.toNat_ofNat']; congr 1; omega⟩

theorem open_kinds_both : ∀ d : Nat,
    (∀ {t : TypeId} {ks : List Nat}, kinds P d t = some ks → ∀ {cs : List Value}, Rd enc P w base spare held t cs → ∃ xs : List SV, xs.map kd = ks.map some ∧ ∀ ρ, Rels ρ xs cs) ∧
    (∀ {off : Nat} {fs : List Field} {ks : List Nat}, kindsF P d off fs = some ks → ∀ {cs : List Value}, (∀ f ∈ fs, Rd enc P w base spare held f.type ((cs.drop f.offset).take (P.cellsOf f.type))) → off + ks.length ≤ cs.length →
      ∃ xs : List SV, xs.map kd = ks.map some ∧ ∀ ρ, Rels ρ xs ((cs.drop off).take ks.length))
  | 0 => by
    refine ⟨fun h => by simp [kinds] at h, fun {off fs ks} h => ?_⟩
    cases fs with
    | nil => simp [kindsF] at h; subst h; intro cs _ _; exact ⟨[], rfl, fun ρ => by simp [Rels]⟩
    | cons f fs => simp [kindsF] at h
  | d + 1 => by
    obtain ⟨ihA, ihB⟩ := open_kinds_both d
    refine ⟨fun {t ks} h {cs} hr => ?_, fun {off fs ks} h {cs} hr hl => ?_⟩
    · obtain ⟨fuel, x, hx⟩ := hr
      have hsz := kinds_size h
      simp only [kinds] at h
      split at h
      · rename_i fs hu
        split at h
        · cases h
        · obtain ⟨ks', h1, h2⟩ := Option.bind_eq_some_iff.1 h
          split at h2
          · cases h2
            obtain ⟨xs, n, rfl, rfl, hcl, hxl, hf⟩ := DataW.trod_struct hu hx
            have hcs : cs.length = ks.length := by rw [hcl, psz_cells hsz]
            obtain ⟨ys, hy, hyr⟩ := ihB h1 (cs := cs) (fun f hfm => by
              obtain ⟨i, hi, hfi⟩ := List.getElem_of_mem hfm
              have hi' : i < fs.size := by simpa using hi
              have hget : fs[i]? = some f := by rw [Array.getElem?_eq_getElem hi']; simpa using hfi
              have := hf i f hget
              rw [List.getElem?_eq_getElem (by omega : i < xs.length)] at this
              exact ⟨n, _, this⟩) (by omega)
            refine ⟨ys, hy, fun ρ => ?_⟩
            have := hyr ρ
            rwa [List.drop_zero, List.take_of_length_le (by omega)] at this
          · cases h2
      · rename_i n e hu
        obtain ⟨ks', h1, h2⟩ := Option.bind_eq_some_iff.1 h
        split at h2
        · rename_i hps
          cases h2
          obtain ⟨xs, m, rfl, rfl, hcl, hxl, hf⟩ := DataW.trod_array hu hx
          have hcs : cs.length = n * ks'.length := by rw [hcl, psz_cells hps]
          have he : P.cellsOf e = ks'.length := psz_cells (kinds_size h1)
          obtain ⟨ys, hy, hyr⟩ := chunks (R := fun c => Rd enc P w base spare held e c) (fun c hc => ihA h1 hc) cs n (by omega) (fun i hi => by
            have := hf i hi
            rw [he, List.getElem?_eq_getElem (by omega : i < xs.length)] at this
            exact ⟨m, _, this⟩)
          refine ⟨ys, hy, fun ρ => ?_⟩
          have := hyr ρ
          rwa [List.take_of_length_le (by omega)] at this
        · cases h2
      · rename_i ds hns hna hu
        obtain ⟨k, h1, h2⟩ := Option.bind_eq_some_iff.1 h
        split at h2
        · cases h2
          cases ds with
          | int kk =>
            obtain ⟨n, rfl, _, hw⟩ := DataW.trod_int hu hx
            obtain ⟨y, hy, hyr⟩ := int_kd h1 hw
            exact ⟨[y], by simp [hy], fun ρ => Rels.cons (hyr ρ) (Rels.nil_iff.2 rfl)⟩
          | bool =>
            obtain ⟨b, rfl, _⟩ := DataW.trod_bool hu hx
            simp only [kdT, Option.some.injEq] at h1; subst h1
            exact ⟨[.b b], rfl, fun ρ => Rels.cons (by simp only [Rel]) (Rels.nil_iff.2 rfl)⟩
          | string =>
            obtain ⟨s, rfl, _, _⟩ := DataW.trod_string hu hx
            simp only [kdT, Option.some.injEq] at h1; subst h1
            exact ⟨[.s s.data.toList], rfl, fun ρ => Rels.cons (by simp only [Rel]) (Rels.nil_iff.2 rfl)⟩
          | _ => simp [kdT] at h1
        · cases h2
      · cases h
    · cases fs with
      | nil => simp [kindsF] at h; subst h; exact ⟨[], rfl, fun ρ => by simp [Rels]⟩
      | cons f fs =>
        simp only [kindsF] at h
        split at h
        · rename_i hf
          obtain ⟨k1, h1, h2⟩ := Option.bind_eq_some_iff.1 h
          obtain ⟨k2, h3, h4⟩ := Option.map_eq_some_iff.1 h2
          subst h4
          have he : P.cellsOf f.type = k1.length := psz_cells (kinds_size h1)
          have hr1 := hr f (List.mem_cons_self ..)
          rw [hf.2, he] at hr1
          simp only [List.length_append] at hl
          obtain ⟨xs, hx, hxr⟩ := ihA h1 hr1
          obtain ⟨ys, hy, hyr⟩ := ihB h3 (cs := cs) (fun g hg => hr g (List.mem_cons_of_mem _ hg)) (by omega)
          refine ⟨xs ++ ys, by simp [hx, hy], fun ρ => ?_⟩
          rw [List.length_append, List.take_add, List.drop_drop]
          exact Rels.append (hxr ρ) (hyr ρ)
        · cases h

theorem open_kinds {d : Nat} {t : TypeId} {ks : List Nat} (h : kinds P d t = some ks) {cs : List Value} (hr : Rd enc P w base spare held t cs) : ∃ xs : List SV, xs.map kd = ks.map some ∧ ∀ ρ, Rels ρ xs cs :=
  (open_kinds_both d).1 h hr

/-! ### Kinds, told -/
theorem kd_0 {x : SV} (h : kd x = some 0) : ∃ n, x = .i n := by cases x <;> simp [kd] at h; exact ⟨_, rfl⟩
theorem kd_1 {x : SV} (h : kd x = some 1) : ∃ n, x = .u8 n := by cases x <;> simp [kd] at h; exact ⟨_, rfl⟩
theorem kd_2 {x : SV} (h : kd x = some 2) : ∃ n, x = .u16 n := by cases x <;> simp [kd] at h; exact ⟨_, rfl⟩
theorem kd_3 {x : SV} (h : kd x = some 3) : ∃ n, x = .u32 n := by cases x <;> simp [kd] at h; exact ⟨_, rfl⟩
theorem kd_4 {x : SV} (h : kd x = some 4) : ∃ n, x = .u64 n := by cases x <;> simp [kd] at h; exact ⟨_, rfl⟩
theorem kd_5 {x : SV} (h : kd x = some 5) : ∃ n, x = .b n := by cases x <;> simp [kd] at h; exact ⟨_, rfl⟩
theorem kd_nil {xs : List SV} (h : xs.map kd = ([] : List Nat).map some) : xs = [] := by simpa using h
theorem kd_cons {xs : List SV} {k : Nat} {ks : List Nat} (h : xs.map kd = (k :: ks).map some) : ∃ x ys, xs = x :: ys ∧ kd x = some k ∧ ys.map kd = ks.map some := by
  cases xs with
  | nil => simp at h
  | cons x ys => simp at h; exact ⟨x, ys, rfl, h.1, h.2⟩
theorem kd_append {xs : List SV} {k1 k2 : List Nat} (h : xs.map kd = (k1 ++ k2).map some) : ∃ ys zs, xs = ys ++ zs ∧ ys.map kd = k1.map some ∧ zs.map kd = k2.map some := by
  refine ⟨xs.take k1.length, xs.drop k1.length, (List.take_append_drop ..).symm, ?_, ?_⟩
  · rw [List.map_take, h, List.map_append, List.take_left' (by simp)]
  · rw [List.map_drop, h, List.map_append, List.drop_left' (by simp)]
theorem kd_rep {α : Type} {f : α → SV} {k : Nat} (hf : ∀ x, kd x = some k → ∃ a, x = f a) : ∀ {n : Nat} {xs : List SV}, xs.map kd = (List.replicate n k).map some → ∃ l : List α, xs = l.map f ∧ l.length = n
  | 0, xs, h => by
    have : xs = [] := kd_nil h
    subst this; exact ⟨[], rfl, rfl⟩
  | n + 1, xs, h => by
    rw [List.replicate_succ] at h
    obtain ⟨x, ys, rfl, hx, hy⟩ := kd_cons h
    obtain ⟨a, rfl⟩ := hf x hx
    obtain ⟨l, rfl, hl⟩ := kd_rep hf hy
    exact ⟨a :: l, rfl, by simp [hl]⟩
theorem kd_atoms : ∀ {xs : List SV} {ks : List Nat}, xs.map kd = ks.map some → atoms xs = true
  | [], _, _ => rfl
  | x :: xs, [], h => by simp at h
  | x :: xs, k :: ks, h => by
    simp only [List.map_cons, List.cons.injEq] at h
    simp only [atoms, List.all_cons, kd_atom h.1, Bool.true_and]
    exact kd_atoms h.2

/-- An aggregate of numbers. -/
theorem open_agg_k {r : Reach} {b0 d : Nat} {t : TypeId} {ks : List Nat} {v : Value} {y : DataW H} {ps : List MemPlace} (hk : kinds P d t = some ks) (ha : isRow P t = true) (hval : Value.okWide P w r b0 t v) (hd : DataW.Trod enc P w base spare held t v y ps) :
    ∃ xs : List SV, xs.map kd = ks.map some ∧ ∀ ρ, Rel ρ (.agg xs) v := by
  have : ∃ cs, v = .agg cs := by
    unfold Value.okWide at hval
    unfold isRow at ha
    cases hu : P.underlying t with
    | none => rw [hu] at ha; cases ha
    | some ds =>
      rw [hu] at ha hval
      cases ds <;> first | (simp at ha; done) | (obtain ⟨cs, h, _⟩ := hval; exact ⟨cs, h⟩)
  obtain ⟨cs, rfl⟩ := this
  obtain ⟨fuel, hf⟩ := hd
  obtain ⟨xs, hx, hxr⟩ := open_kinds hk (cs := cs.toList) ⟨fuel, _, hf⟩
  refine ⟨xs, hx, fun ρ => ?_⟩
  simp only [Rel]
  exact ⟨cs.toList, rfl, kd_atoms hx, hxr ρ⟩

/-- A number, a truth, a text. -/
theorem open_one_k {r : Reach} {b0 k : Nat} {t : TypeId} {ds : TypeDesc} {v : Value} {y : DataW H} {ps : List MemPlace} (hu : P.underlying t = some ds) (hk : kdT ds = some k) (hk6 : k ≠ 6) (hval : Value.okWide P w r b0 t v) (hd : DataW.Trod enc P w base spare held t v y ps) :
    ∃ x : SV, kd x = some k ∧ ∀ ρ, Rel ρ x v := by
  cases ds with
  | int kk =>
    obtain ⟨n, rfl, _, _, hw⟩ := open_int hu hval hd
    exact int_kd hk hw
  | bool =>
    obtain ⟨b, rfl, _⟩ := open_bool hu hval hd
    simp only [kdT, Option.some.injEq] at hk; subst hk
    exact ⟨.b b, rfl, fun ρ => by simp only [Rel]⟩
  | string => simp only [kdT, Option.some.injEq] at hk; exact absurd hk.symm hk6
  | _ => simp [kdT] at hk

/-! ### Rows -/
theorem cells_get {a : Addr} {n : Nat} {l : List Value} (h : w.cells? base a n = some l) : l.length = n ∧ ∀ i, i < n → w.cell? (a.add i) = l[i]? := by
  unfold World.cells? at h
  split at h
  · refine ⟨by simpa using mapM_some_length h, fun i hi => ?_⟩
    simpa using mapM_some_get h i i (by simp [hi])
  · cases h

theorem addr_add (a : Addr) (i : Nat) (h : a.spot = none) : a.add i = ⟨a.block, a.off + i, none⟩ := by
  cases a; simp only at h; subst h
  unfold Addr.add
  split
  · rename_i h0; subst h0; rfl
  · rfl
theorem addr_block (a : Addr) (i : Nat) : (a.add i).block = a.block := by unfold Addr.add; split <;> rfl
theorem addr_zero (a : Addr) : a.add 0 = a := by simp [Addr.add]

/-- A row that came in: nothing, or cells that can be read. -/
structure Row (enc : TypeId × Value → H) (P : Program) (w : World) (base : Nat) (spare : Nat → Bool) (held : Bool) (e : TypeId) (sz : Nat) (a : Addr) (len cap : Nat) (vs : List Value) : Prop where
  le : len ≤ cap
  most : cap ≤ maxLen
  spot : 0 < cap → a.spot = none
  len : vs.length = cap * sz
  cell : ∀ i, i < cap * sz → w.cell? ⟨a.block, a.off + i, none⟩ = vs[i]?
  read : ∀ i, i < cap → Rd enc P w base spare held e ((vs.drop (i * sz)).take sz)

theorem rows_of {α : Type} (f : Nat → Option (List α)) (sz : Nat) : ∀ n, (∀ i, i < n → ∃ l, f i = some l ∧ l.length = sz) → ∃ vs : List α, vs.length = n * sz ∧ ∀ i, i < n → f i = some ((vs.drop (i * sz)).take sz)
  | 0, _ => ⟨[], by simp, fun i hi => by omega⟩
  | n + 1, h => by
    obtain ⟨vs, h1, h2⟩ := rows_of f sz n (fun i hi => h i (by omega))
    obtain ⟨l, hl, hls⟩ := h n (by omega)
    refine ⟨vs ++ l, by simp [h1, hls, Nat.add_mul], fun i hi => ?_⟩
    by_cases hin : i < n
    · rw [h2 i hin]
      have hle : i * sz + sz ≤ vs.length := by
        rw [h1]; calc i * sz + sz = (i + 1) * sz := by rw [Nat.add_mul]; omega
          _ ≤ n * sz := Nat.mul_le_mul_right _ hin
      rw [List.drop_append_of_le_length (by omega), List.take_append_of_le_length (by simp; omega)]
    · have : i = n := by omega
      subst this
      rw [hl, ← h1, List.drop_left, List.take_of_length_le (by omega)]

theorem open_row {e t : TypeId} {sz : Nat} {cs : List Value} (ht : P.underlying t = some (.slice e)) (hs : psz P e = some sz) (h0 : 0 < sz) (hsp : spare = fun _ => true) (hr : Rd enc P w base spare held t cs) :
    cs = [.slice none 0 0] ∨ ∃ a len cap vs, cs = [.slice (some a) len cap] ∧ Row enc P w base spare held e sz a len cap vs := by
  obtain ⟨fuel, x, hx⟩ := hr
  have he := psz_cells hs
  rcases DataW.trod_slice ht hx with ⟨h, _⟩ | ⟨a, len, cap, elems, rest, n, rfl, rfl, _, hb, hlc, hm, hel, h1, h2, _⟩
  · exact .inl h
  · right
    rw [he] at h1 h2
    obtain ⟨hrl, h2⟩ := h2 (by rw [hsp])
    have all : ∀ i, i < cap → ∃ l, w.cells? base (a.add (i * sz)) sz = some l ∧ Rd enc P w base spare held e l := by
      intro i hi
      by_cases hil : i < len
      · have := h1 i hil
        rw [List.getElem?_eq_getElem (by omega : i < elems.length)] at this
        obtain ⟨l, hl, hr⟩ := Option.bind_eq_some_iff.1 this
        exact ⟨l, hl, n, _, hr⟩
      · have := h2 (i - len) (by omega)
        rw [List.getElem?_eq_getElem (by omega : i - len < rest.length), show len + (i - len) = i from by omega] at this
        obtain ⟨l, hl, hr⟩ := Option.bind_eq_some_iff.1 this
        exact ⟨l, hl, n, _, hr⟩
    obtain ⟨vs, hvl, hv⟩ := rows_of (fun i => w.cells? base (a.add (i * sz)) sz) sz cap (fun i hi => by
      obtain ⟨l, hl, _⟩ := all i hi
      exact ⟨l, hl, (cells_get hl).1⟩)
    have hspot : 0 < cap → a.spot = none := by
      intro hc
      obtain ⟨l, hl, _⟩ := all 0 hc
      obtain ⟨g1, g2⟩ := cells_get hl
      have := g2 0 h0
      rw [List.getElem?_eq_getElem (by omega)] at this
      unfold World.cell? at this
      split at this
      · split at this
        · cases this
        · rename_i hs2
          have h3 : ((a.add (0 * sz)).add 0).spot = none := by simpa using hs2
          rwa [Nat.zero_mul, addr_zero, addr_zero] at h3
      · cases this
    refine ⟨a, len, cap, vs, rfl, hlc, hm, hspot, hvl, fun i hi => ?_, fun i hi => ?_⟩
    · have hc : 0 < cap := by
        rcases Nat.eq_zero_or_pos cap with h | h
        · subst h; omega
        · exact h
      have hi2 : i / sz < cap := by rw [Nat.div_lt_iff_lt_mul h0]; exact hi
      have hl := hv (i / sz) hi2
      obtain ⟨g1, g2⟩ := cells_get hl
      have hmod : i % sz < sz := Nat.mod_lt _ h0
      have := g2 (i % sz) hmod
      rw [addr_add a _ (hspot hc), addr_add _ _ rfl] at this
      have hdm : i / sz * sz + i % sz = i := by rw [Nat.mul_comm]; exact Nat.div_add_mod i sz
      rw [List.getElem?_take_of_lt hmod, List.getElem?_drop, hdm] at this
      simp only [Nat.add_assoc, hdm] at this
      exact this
    · obtain ⟨l, hl, hr⟩ := all i hi
      have := hv i hi
      rw [hl] at this
      rw [← Option.some.inj this]; exact hr

/-- Its block, read alone. -/
theorem Row.block {e : TypeId} {sz : Nat} {a : Addr} {len cap : Nat} {vs : List Value} (h : Row enc P w base spare held e sz a len cap vs) {ρ : Ren} {ys : List SV} (hr : Rels ρ ys (vs.take (len * sz))) (ha : atoms ys = true) :
    (∀ id, ρ id = some ⟨a.block, a.off, cap * sz, false⟩ → Rel ρ (.sl id 0 len sz false) (.slice (some a) len cap)) ∧ BRel ρ w ⟨a.block, a.off, cap * sz, false⟩ (.ro ys) := by
  have hyl : ys.length = len * sz := by
    have := hr.length
    rw [List.length_take, h.len] at this
    have hle : len * sz ≤ cap * sz := Nat.mul_le_mul_right _ h.le
    omega
  refine ⟨fun id hid => ?_, ?_⟩
  · simp only [Rel]
    refine ⟨_, some a, cap, hid, rfl, h.le, fun h => (by cases h), ?_⟩
    by_cases h0 : cap = 0
    · exact .inl h0
    · right
      refine ⟨rfl, ?_, by simp⟩
      have := h.spot (by omega)
      cases a; simp only at this; subst this; simp
  · by_cases h0 : len * sz = 0
    · left; exact List.eq_nil_of_length_eq_zero (by omega)
    · right
      have hle : len * sz ≤ cap * sz := Nat.mul_le_mul_right _ h.le
      have key : ∀ i, i < cap * sz → ∃ c t fz, w.heap[a.block]? = some (.cells c t fz) ∧ c[a.off + i]? = vs[i]? := by
        intro i hi
        have hc := h.cell i hi
        rw [List.getElem?_eq_getElem (by rw [h.len]; exact hi)] at hc
        unfold World.cell? at hc
        split at hc
        · rename_i c t fz hh
          simp only at hc
          exact ⟨c, t, fz, hh, by rw [List.getElem?_eq_getElem (by rw [h.len]; exact hi)]; simpa using hc⟩
        · cases hc
      obtain ⟨c, t2, fz, hh, _⟩ := key 0 (by omega)
      have key2 : ∀ i, i < cap * sz → c[a.off + i]? = vs[i]? := by
        intro i hi
        obtain ⟨c', t', fz', hh', hv⟩ := key i hi
        rw [hh] at hh'; cases hh'; exact hv
      have hsz : a.off + len * sz ≤ c.size := by
        have := key2 (len * sz - 1) (by omega)
        rw [List.getElem?_eq_getElem (by rw [h.len]; omega)] at this
        have := (Array.getElem?_eq_some_iff.1 this).1
        omega
      refine ⟨⟨c, t2, fz, hh, ha, ?_, fun h => (by cases h), by rw [hyl]; exact hsz⟩, by rw [hyl]; exact hle, rfl⟩
      have e1 : (c.toList.drop a.off).take ys.length = vs.take (len * sz) := by
        apply List.ext_getElem?
        intro i
        rw [hyl]
        by_cases hi : i < len * sz
        · rw [List.getElem?_take_of_lt hi, List.getElem?_take_of_lt hi, List.getElem?_drop, Array.getElem?_toList]
          exact key2 i (by omega)
        · rw [List.getElem?_take_eq_none (by omega), List.getElem?_take_eq_none (by omega)]
      rw [e1]; exact hr

/-- A row of numbers, of structs of such. -/
theorem open_row_k {r : Reach} {b0 d : Nat} {e t : TypeId} {ks : List Nat} {v : Value} {y : DataW H} {ps : List MemPlace} (ht : P.underlying t = some (.slice e)) (hk : kinds P d e = some ks) (h0 : 0 < ks.length) (hval : Value.okWide P w r b0 t v)
    (hd : DataW.Trod enc P w base (fun _ => true) held t v y ps) : ∃ (n : Nat) (ys : List SV) (rb : RB), n ≤ maxLen ∧ ys.map kd = (List.replicate n ks).flatten.map some ∧ (∀ ρ id, ρ id = some rb → Rel ρ (.sl id 0 n ks.length false) v) ∧ ∀ ρ, BRel ρ w rb (.ro ys) := by
  obtain ⟨a, len, cap, rfl⟩ := okWide_slice ht hval
  obtain ⟨fuel, hf⟩ := hd
  have hcs : (Value.slice a len cap).cells.toList = [.slice a len cap] := rfl
  rw [hcs] at hf
  rcases open_row ht (kinds_size hk) h0 rfl ⟨fuel, _, hf⟩ with h | ⟨a', len', cap', vs, h, hrow⟩
  · cases h
    refine ⟨0, [], ⟨0, 0, 0, true⟩, Nat.zero_le _, rfl, fun ρ id hr => ?_, fun ρ => .inl rfl⟩
    simp only [Rel]
    exact ⟨_, none, 0, hr, rfl, Nat.le_refl _, fun h => (by cases h), .inl rfl⟩
  · cases h
    have hle : len * ks.length ≤ cap * ks.length := Nat.mul_le_mul_right _ hrow.le
    obtain ⟨ys, hy, hyr⟩ := chunks (R := fun c => Rd enc P w base (fun _ => true) held e c) (fun c hc => open_kinds hk hc) vs len (by rw [hrow.len]; exact hle) (fun i hi => hrow.read i (Nat.lt_of_lt_of_le hi hrow.le))
    exact ⟨len, ys, _, Nat.le_trans hrow.le hrow.most, hy, fun ρ id hid => (hrow.block (hyr ρ) (kd_atoms hy)).1 id hid, fun ρ => (hrow.block (hyr ρ) (kd_atoms hy)).2⟩

theorem flat_rep1 (n k : Nat) : (List.replicate n [k]).flatten = List.replicate n k := by
  induction n with
  | zero => rfl
  | succ n ih => rw [List.replicate_succ, List.flatten_cons, ih]; rfl

/-- A row of bytes; of words. -/
theorem open_row1 {α : Type} {f : α → SV} {r : Reach} {b0 d k : Nat} {e t : TypeId} {v : Value} {y : DataW H} {ps : List MemPlace} (ht : P.underlying t = some (.slice e)) (hk : kinds P d e = some [k]) (hf : ∀ x, kd x = some k → ∃ a, x = f a) (hval : Value.okWide P w r b0 t v)
    (hd : DataW.Trod enc P w base (fun _ => true) held t v y ps) : ∃ (l : List α) (rb : RB), l.length ≤ maxLen ∧ (∀ ρ id, ρ id = some rb → Rel ρ (.sl id 0 l.length 1 false) v) ∧ ∀ ρ, BRel ρ w rb (.ro (l.map f)) := by
  obtain ⟨n, ys, rb, hm, hy, h1, h2⟩ := open_row_k ht hk (by simp) hval hd
  rw [flat_rep1] at hy
  obtain ⟨l, rfl, rfl⟩ := kd_rep hf hy
  exact ⟨l, rb, hm, h1, h2⟩
end
end Go.Sh
