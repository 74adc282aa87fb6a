import Derived.Test.YtaknbogocnkmnaaT2
namespace Go.Sh
open Go.Proofs

/-- The digits of a number, base 256, the great ones first. -/
def digs (n : Nat) : List UInt8 := if _h : n = 0 then [] else digs (n / 256) ++ [UInt8.ofNat n]
termination_by n
decreasing_by omega

theorem digs_zero : digs 0 = [] := by rw [digs]; simp
theorem digs_pos {n : Nat} (h : n ≠ 0) : digs n = digs (n / 256) ++ [UInt8.ofNat n] := by rw [digs, dif_neg h]
theorem digs_len : ∀ (k n : Nat), n < 256 ^ k → (digs n).length ≤ k
  | 0, n, h => by have : n = 0 := by simpa using h
                  subst this; simp [digs_zero]
  | k + 1, n, h => by
    by_cases h0 : n = 0
    · subst h0; simp [digs_zero]
    · rw [digs_pos h0]
      have := digs_len k (n / 256) (by rw [Nat.div_lt_iff_lt_mul (by omega)]; rw [Nat.pow_succ] at h; exact h)
      simp; omega
theorem digs_ne {n : Nat} (h : n ≠ 0) : digs n ≠ [] := by rw [digs_pos h]; simp

def refB (u : UInt64) : List UInt8 := if u = 0 then [0] else digs u.toNat

theorem refB_len (u : UInt64) : (refB u).length ≤ 8 ∧ 0 < (refB u).length := by
  unfold refB
  split
  · simp
  · rename_i h
    refine ⟨digs_len 8 _ (by have := UInt64.toNat_lt u; omega), List.length_pos_iff.2 (digs_ne (fun e => h (UInt64.toNat_inj.1 (by simpa using e))))⟩

theorem f67 (u : UInt64) : SCall Try.prog 67 [.u64 u] [] (.sl 0 0 (refB u).length 1 false) [some (.row 5 ((refB u).map .u8))] := by
  refine scall_of ttOk (by kernel_rfl : Try.prog.funcs[67]? = some Try.f67) rfl rfl rfl ?_
  refine sw_ok ttOk mixed rfl ?_
  conv => whnf
  refine ⟨.u64 (u % 256), by simp [sarith], ?_⟩
  conv => whnf
  refine ⟨_, rfl, ?_⟩
  conv => whnf
  refine ⟨.u64 (u / 256), by simp [sarith], ?_⟩
  conv => whnf
  have hstep : ∀ v : UInt64, (v % 256).toUInt8 = UInt8.ofNat v.toNat := fun v => by
    apply UInt8.toNat_inj.1
    simp only [UInt64.toNat_toUInt8, UInt64.toNat_mod, UInt8.toNat_ofNat']
    show v.toNat % 256 % 256 = v.toNat % 256
    omega
  have hdiv : ∀ v : UInt64, (v / 256).toNat = v.toNat / 256 := fun v => by rw [UInt64.toNat_div]; rfl
  have hrow0 : digs (u / 256).toNat ++ [(u % 256).toUInt8] = refB u := by
    rw [hstep, hdiv]
    unfold refB
    split
    · rename_i h; subst h; simp [digs_zero]
    · rename_i h
      rw [← digs_pos (fun e => h (UInt64.toNat_inj.1 (by simpa using e)))]
  refine loop_rule ttOk mixed rfl (ι := { p : UInt64 × List UInt8 // digs p.1.toNat ++ p.2 = refB u ∧ 0 < p.2.length }) (fun p => [(0, .u64 p.1.1), (3, .sl 0 0 p.1.2.length 1 false)]) (fun p => [some (.row 5 (p.1.2.map .u8))]) (fun _ => 1) (fun p => p.1.1.toNat)
    ⟨(u / 256, [(u % 256).toUInt8]), hrow0, by simp⟩ ?_ ?_
  · exact (Weak.unfull 3 rfl).trans (Weak.sel [0] rfl rfl ⟨rfl, rfl, trivial⟩ ⟨⟨rfl, ren_eq (by simp) (by simp)⟩, trivial⟩ rfl rfl)
  · rintro ⟨⟨v, l⟩, hvl, hl0⟩
    have hll : l.length ≤ 8 := by
      have h1 := congrArg List.length hvl
      have h2 := refB_len u
      simp only [List.length_append] at h1
      omega
    conv => whnf
    refine ⟨fun hc => ?_, fun hc => ?_⟩
    · conv => whnf
      refine ⟨.u64 (v % 256), by simp [sarith], ?_⟩
      conv => whnf
      refine ⟨_, rfl, ?_⟩
      conv => whnf
      refine ⟨⟨by simp, by simp, by simp [ti5]; omega, hl0⟩, ?_⟩
      conv => whnf
      refine ⟨.u64 (v / 256), by simp [sarith], ?_⟩
      conv => whnf
      have hv0 : v.toNat ≠ 0 := by
        simp only [decide_eq_true_eq] at hc
        have : 0 < v.toNat := by simpa [UInt64.lt_iff_toNat_lt] using hc
        omega
      refine ⟨⟨(v / 256, (v % 256).toUInt8 :: l), ?_, by simp⟩, ?_, Weak.sel [2] rfl rfl ?_ ?_ rfl rfl⟩
      · simp only
        rw [← hvl, hstep, hdiv, digs_pos hv0]; simp
      · simp only [hdiv]; omega
      · refine ⟨rfl, ?_, trivial⟩
        simp [lk, renV, Nat.add_comm]
      · exact ⟨⟨rfl, ren_eq (by simp) (by simp)⟩, trivial⟩
    · conv => whnf
      have hv0 : v.toNat = 0 := by
        simp only [decide_eq_false_iff_not] at hc
        have : ¬ 0 < v.toNat := by simpa [UInt64.lt_iff_toNat_lt] using hc
        omega
      have : l = refB u := by rw [← hvl, hv0, digs_zero]; rfl
      subst this
      exact ⟨[0], rfl, rfl, rfl, ⟨⟨rfl, ren_eq (by simp) rfl⟩, trivial⟩, rfl⟩
end Go.Sh
