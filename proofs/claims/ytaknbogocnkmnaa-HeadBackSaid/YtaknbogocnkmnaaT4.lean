import Derived.Test.YtaknbogocnkmnaaT3
namespace Go.Sh
open Go.Proofs

theorem hbL_digs (u : UInt64) : ∀ i, i ≤ 8 → hbL u i = digs (u.toNat / 2 ^ (64 - 8 * i))
  | 0, _ => by
    have := UInt64.toNat_lt u
    rw [Nat.div_eq_of_lt (by simpa using this), digs_zero]; rfl
  | i + 1, hi => by
    have ih := hbL_digs u i (by omega)
    have e1 : 2 ^ (64 - 8 * i) = 2 ^ (56 - 8 * i) * 256 := by
      rw [show (256 : Nat) = 2 ^ 8 from rfl, ← Nat.pow_add]; congr 1; omega
    have e2 : u.toNat / 2 ^ (64 - 8 * i) = u.toNat / 2 ^ (56 - 8 * i) / 256 := by rw [e1, Nat.div_div_eq_div_mul]
    have e3 : 64 - 8 * (i + 1) = 56 - 8 * i := by omega
    have eb : (shr64 u (56 - 8 * i)).toUInt8 = UInt8.ofNat (u.toNat / 2 ^ (56 - 8 * i)) := by
      unfold shr64
      rw [if_pos (by omega)]
      apply UInt8.toNat_inj.1
      simp only [UInt64.toNat_toUInt8, UInt64.toNat_shiftRight, UInt64.toNat_ofNat', UInt8.toNat_ofNat', Nat.shiftRight_eq_div_pow]
      rw [Nat.mod_eq_of_lt (by omega : 56 - 8 * i < 2 ^ 64), Nat.mod_eq_of_lt (by omega : 56 - 8 * i < 64)]
    simp only [hbL, ih, e3, eb, e2]
    generalize u.toNat / 2 ^ (56 - 8 * i) = m
    by_cases hm : m = 0
    · subst hm
      simp [digs_zero]
    · rw [digs_pos hm]
      rw [if_pos]
      by_cases hq : m / 256 = 0
      · left
        intro h
        have h2 := congrArg UInt8.toNat h
        simp at h2
        omega
      · right
        exact List.length_pos_iff.2 (digs_ne hq)

theorem hbL_eq (u : UInt64) : hbL u 8 = digs u.toNat := by rw [hbL_digs u 8 (by omega)]; simp

/-- What 'bytes' hands back. -/
def hB (u : UInt64) : List UInt8 := if u < 8 then [] else digs u.toNat

def refN (k : UInt64) : Int := if k < 8 then (k.toNat : Int) else 8 + ((refB k).length : Int) - 1
def refD (k : UInt64) : List UInt8 := if k < 8 then [] else refB k
def refPut (k c : UInt64) : List UInt8 := u8i (16 * refN k + refN c) :: (refD k ++ refD c)

theorem n8 {k : UInt64} (h : k < 8) : k.toNat < 8 := by simpa [UInt64.lt_iff_toNat_lt] using h

theorem f16_tt (k c : UInt64) (hk : k < 8) (hc : c < 8) : SCall Try.prog 16 [.agg [.u64 k, .u64 c]] [] (.sl 0 0 (refPut k c).length 1 true) [some (.row 5 ((refPut k c).map .u8))] := by
  refine scall_of ttOk (by kernel_rfl : Try.prog.funcs[16]? = some Try.f16) rfl rfl rfl ?_
  refine sw_ok ttOk mixed (by kernel_rfl) ?_
  have lk1 := refB_len k
  have lc1 := refB_len c
  have kk := UInt64.toNat_lt k
  have kc := UInt64.toNat_lt c
  conv => whnf
  refine Exists.intro _ (And.intro rfl ?_)
  conv => whnf
  refine ok1_callP [] (f67 k) rfl rfl ⟨⟨rfl, rfl⟩, trivial, by simp [plainH], ?_⟩
  conv => whnf
  refine Exists.intro _ (And.intro rfl ?_)
  conv => whnf
  refine ok1_callP [] (f67 c) rfl rfl ⟨⟨rfl, rfl⟩, trivial, by simp [plainH], ?_⟩
  conv => whnf
  refine ⟨by kernel_rfl, ?_⟩
  conv => whnf
  refine Exists.intro _ (And.intro rfl ?_)
  conv => whnf
  refine brT (by simpa using hk) ?_
  conv => whnf
  refine Exists.intro _ (And.intro rfl ?_)
  conv => whnf
  refine Exists.intro _ (And.intro rfl ?_)
  conv => whnf
  refine brT (by simpa using hc) ?_
  conv => whnf
  refine Exists.intro _ (And.intro rfl ?_)
  conv => whnf
  refine Exists.intro _ (And.intro rfl ?_)
  conv => whnf
  have n1 := n8 hk
  have n2 := n8 hc
  have e : w64 (w64 (16 * w64 (k.toNat : Int)) + w64 (c.toNat : Int)) = 16 * refN k + refN c := by
    simp only [refN, if_pos hk, if_pos hc, w64_eq]; omega
  refine ⟨[3], ?_, rfl, rfl, ⟨⟨rfl, ren_eq (by simp) ?_⟩, trivial⟩, rfl⟩
  · simp [renV, refPut, refD, hk, hc, tupOf]
  · simp [refPut, refD, hk, hc, e]


theorem f16_tf (k c : UInt64) (hk : k < 8) (hc : ¬ c < 8) : SCall Try.prog 16 [.agg [.u64 k, .u64 c]] [] (.sl 0 0 (refPut k c).length 1 false) [some (.row 5 ((refPut k c).map .u8))] := by
  refine scall_of ttOk (by kernel_rfl : Try.prog.funcs[16]? = some Try.f16) rfl rfl rfl ?_
  refine sw_ok ttOk mixed (by kernel_rfl) ?_
  have lk1 := refB_len k
  have lc1 := refB_len c
  have kk := UInt64.toNat_lt k
  have kc := UInt64.toNat_lt c
  conv => whnf
  refine Exists.intro _ (And.intro rfl ?_)
  conv => whnf
  refine ok1_callP [] (f67 k) rfl rfl ⟨⟨rfl, rfl⟩, trivial, by simp [plainH], ?_⟩
  conv => whnf
  refine Exists.intro _ (And.intro rfl ?_)
  conv => whnf
  refine ok1_callP [] (f67 c) rfl rfl ⟨⟨rfl, rfl⟩, trivial, by simp [plainH], ?_⟩
  conv => whnf
  refine ⟨by kernel_rfl, ?_⟩
  conv => whnf
  refine Exists.intro _ (And.intro rfl ?_)
  conv => whnf
  refine brT (by simpa using hk) ?_
  conv => whnf
  refine Exists.intro _ (And.intro rfl ?_)
  conv => whnf
  refine Exists.intro _ (And.intro rfl ?_)
  conv => whnf
  refine brF (by simpa using hc) ?_
  conv => whnf
  refine Exists.intro _ (And.intro rfl ?_)
  conv => whnf
  refine ⟨⟨by simp, by simp, by simp [ti5]; omega, by omega⟩, ?_⟩
  conv => whnf
  have n1 := n8 hk
  have e : w64 (w64 (w64 (w64 (16 * w64 (k.toNat : Int)) + 8) + ((refB c).length : Int)) - 1) = 16 * refN k + refN c := by
    simp only [refN, if_pos hk, if_neg hc, w64_eq]; omega
  refine ⟨[4], ?_, rfl, rfl, ⟨⟨rfl, ren_eq (by simp) ?_⟩, trivial⟩, rfl⟩
  · simp [renV, refPut, refD, hk, hc, tupOf]; omega
  · simp [refPut, refD, hk, hc, e]


theorem f16_ft (k c : UInt64) (hk : ¬ k < 8) (hc : c < 8) : SCall Try.prog 16 [.agg [.u64 k, .u64 c]] [] (.sl 0 0 (refPut k c).length 1 false) [some (.row 5 ((refPut k c).map .u8))] := by
  refine scall_of ttOk (by kernel_rfl : Try.prog.funcs[16]? = some Try.f16) rfl rfl rfl ?_
  refine sw_ok ttOk mixed (by kernel_rfl) ?_
  have lk1 := refB_len k
  have lc1 := refB_len c
  have kk := UInt64.toNat_lt k
  have kc := UInt64.toNat_lt c
  conv => whnf
  refine Exists.intro _ (And.intro rfl ?_)
  conv => whnf
  refine ok1_callP [] (f67 k) rfl rfl ⟨⟨rfl, rfl⟩, trivial, by simp [plainH], ?_⟩
  conv => whnf
  refine Exists.intro _ (And.intro rfl ?_)
  conv => whnf
  refine ok1_callP [] (f67 c) rfl rfl ⟨⟨rfl, rfl⟩, trivial, by simp [plainH], ?_⟩
  conv => whnf
  refine ⟨by kernel_rfl, ?_⟩
  conv => whnf
  refine Exists.intro _ (And.intro rfl ?_)
  conv => whnf
  refine brF (by simpa using hk) ?_
  conv => whnf
  refine Exists.intro _ (And.intro rfl ?_)
  conv => whnf
  refine brT (by simpa using hc) ?_
  conv => whnf
  refine Exists.intro _ (And.intro rfl ?_)
  conv => whnf
  refine Exists.intro _ (And.intro rfl ?_)
  conv => whnf
  refine ⟨⟨by simp, by simp, by simp [ti5]; omega, by omega⟩, ?_⟩
  conv => whnf
  have n2 := n8 hc
  have e : w64 (w64 (16 * w64 (w64 (8 + ((refB k).length : Int)) - 1)) + w64 (c.toNat : Int)) = 16 * refN k + refN c := by
    simp only [refN, if_neg hk, if_pos hc, w64_eq]; omega
  refine ⟨[4], ?_, rfl, rfl, ⟨⟨rfl, ren_eq (by simp) ?_⟩, trivial⟩, rfl⟩
  · simp [renV, refPut, refD, hk, hc, tupOf]; omega
  · simp [refPut, refD, hk, hc, e]


theorem f16_ff (k c : UInt64) (hk : ¬ k < 8) (hc : ¬ c < 8) : SCall Try.prog 16 [.agg [.u64 k, .u64 c]] [] (.sl 0 0 (refPut k c).length 1 false) [some (.row 5 ((refPut k c).map .u8))] := by
  refine scall_of ttOk (by kernel_rfl : Try.prog.funcs[16]? = some Try.f16) rfl rfl rfl ?_
  refine sw_ok ttOk mixed (by kernel_rfl) ?_
  have lk1 := refB_len k
  have lc1 := refB_len c
  have kk := UInt64.toNat_lt k
  have kc := UInt64.toNat_lt c
  conv => whnf
  refine Exists.intro _ (And.intro rfl ?_)
  conv => whnf
  refine ok1_callP [] (f67 k) rfl rfl ⟨⟨rfl, rfl⟩, trivial, by simp [plainH], ?_⟩
  conv => whnf
  refine Exists.intro _ (And.intro rfl ?_)
  conv => whnf
  refine ok1_callP [] (f67 c) rfl rfl ⟨⟨rfl, rfl⟩, trivial, by simp [plainH], ?_⟩
  conv => whnf
  refine ⟨by kernel_rfl, ?_⟩
  conv => whnf
  refine Exists.intro _ (And.intro rfl ?_)
  conv => whnf
  refine brF (by simpa using hk) ?_
  conv => whnf
  refine Exists.intro _ (And.intro rfl ?_)
  conv => whnf
  refine brF (by simpa using hc) ?_
  conv => whnf
  refine Exists.intro _ (And.intro rfl ?_)
  conv => whnf
  refine ⟨⟨by simp, by simp, by simp [ti5]; omega, by omega⟩, ?_⟩
  conv => whnf
  refine ⟨⟨by simp; omega, by simp, by simp [ti5]; omega⟩, ?_⟩
  conv => whnf
  have e : w64 (w64 (w64 (w64 (16 * w64 (w64 (8 + ((refB k).length : Int)) - 1)) + 8) + ((refB c).length : Int)) - 1) = 16 * refN k + refN c := by
    simp only [refN, if_neg hk, if_neg hc, w64_eq]; omega
  refine ⟨[5], ?_, rfl, rfl, ⟨⟨rfl, ren_eq (by simp) ?_⟩, trivial⟩, rfl⟩
  · simp [renV, refPut, refD, hk, hc, tupOf]; omega
  · have ht : List.take (1 + (refB k).length) (SV.u8 (u8i (16 * refN k + refN c)) :: List.map SV.u8 (refB k)) = SV.u8 (u8i (16 * refN k + refN c)) :: List.map SV.u8 (refB k) := take_all (by simp; omega)
    simp [refPut, refD, hk, hc, e, ht]


end Go.Sh
