import Derived.Test.YtaknbogocnkmnaaT5
namespace Go.Sh
open Go.Proofs

theorem f20_tt (k c : UInt64) (hk : k < 8) (hc : c < 8) : SCall Try.prog 20 [.agg [.u64 k, .u64 c]] [] (.i ((hPut k c).length : Int)) [] := by
  refine scall_of ttOk (by kernel_rfl : Try.prog.funcs[20]? = some Try.f20) rfl rfl rfl ?_
  refine sw_ok ttOk mixed (by kernel_rfl) ?_
  have lk1 := hbL_len k 8
  have lc1 := hbL_len c 8
  conv => whnf
  repeat (first | (refine Exists.intro _ (And.intro rfl ?_); conv => whnf) | (refine And.intro (Nat.le_of_ble_eq_true rfl) ?_; conv => whnf) | (refine And.intro ⟨rfl, Nat.le_of_ble_eq_true rfl⟩ ?_; conv => whnf) | (refine brT rfl ?_; conv => whnf) | (refine brF rfl ?_; conv => whnf) | (refine And.intro (by first | omega | (simp; done) | (simp; omega) | (simp [ti5]; omega)) ?_; conv => whnf))
  refine ok1_callP [] (f68a k hk) rfl rfl ⟨⟨rfl, rfl⟩, trivial, by simp [plainH], ?_⟩
  conv => whnf
  repeat (first | (refine Exists.intro _ (And.intro rfl ?_); conv => whnf) | (refine And.intro (Nat.le_of_ble_eq_true rfl) ?_; conv => whnf) | (refine And.intro ⟨rfl, Nat.le_of_ble_eq_true rfl⟩ ?_; conv => whnf) | (refine brT rfl ?_; conv => whnf) | (refine brF rfl ?_; conv => whnf) | (refine And.intro (by first | omega | (simp; done) | (simp; omega) | (simp [ti5]; omega)) ?_; conv => whnf))
  refine ok1_callP [] (f68a c hc) rfl rfl ⟨⟨rfl, rfl⟩, trivial, by simp [plainH], ?_⟩
  conv => whnf
  refine And.intro (by kernel_rfl) ?_
  conv => whnf
  refine ⟨[], ?_, rfl, rfl, trivial, rfl⟩
  simp [renV, tupOf, hPut, hD, hk, hc, w64_eq]

theorem f20_tf (k c : UInt64) (hk : k < 8) (hc : ¬ c < 8) : SCall Try.prog 20 [.agg [.u64 k, .u64 c]] [] (.i ((hPut k c).length : Int)) [] := by
  refine scall_of ttOk (by kernel_rfl : Try.prog.funcs[20]? = some Try.f20) rfl rfl rfl ?_
  refine sw_ok ttOk mixed (by kernel_rfl) ?_
  have lk1 := hbL_len k 8
  have lc1 := hbL_len c 8
  conv => whnf
  repeat (first | (refine Exists.intro _ (And.intro rfl ?_); conv => whnf) | (refine And.intro (Nat.le_of_ble_eq_true rfl) ?_; conv => whnf) | (refine And.intro ⟨rfl, Nat.le_of_ble_eq_true rfl⟩ ?_; conv => whnf) | (refine brT rfl ?_; conv => whnf) | (refine brF rfl ?_; conv => whnf) | (refine And.intro (by first | omega | (simp; done) | (simp; omega) | (simp [ti5]; omega)) ?_; conv => whnf))
  refine ok1_callP [] (f68a k hk) rfl rfl ⟨⟨rfl, rfl⟩, trivial, by simp [plainH], ?_⟩
  conv => whnf
  repeat (first | (refine Exists.intro _ (And.intro rfl ?_); conv => whnf) | (refine And.intro (Nat.le_of_ble_eq_true rfl) ?_; conv => whnf) | (refine And.intro ⟨rfl, Nat.le_of_ble_eq_true rfl⟩ ?_; conv => whnf) | (refine brT rfl ?_; conv => whnf) | (refine brF rfl ?_; conv => whnf) | (refine And.intro (by first | omega | (simp; done) | (simp; omega) | (simp [ti5]; omega)) ?_; conv => whnf))
  refine ok1_callP [] (f68b c hc) rfl rfl ⟨⟨rfl, rfl⟩, trivial, by simp [plainH], ?_⟩
  conv => whnf
  refine And.intro (by kernel_rfl) ?_
  conv => whnf
  refine ⟨[], ?_, rfl, rfl, trivial, rfl⟩
  simp [renV, tupOf, hPut, hD, hk, hc, w64_eq]
  omega

theorem f20_ft (k c : UInt64) (hk : ¬ k < 8) (hc : c < 8) : SCall Try.prog 20 [.agg [.u64 k, .u64 c]] [] (.i ((hPut k c).length : Int)) [] := by
  refine scall_of ttOk (by kernel_rfl : Try.prog.funcs[20]? = some Try.f20) rfl rfl rfl ?_
  refine sw_ok ttOk mixed (by kernel_rfl) ?_
  have lk1 := hbL_len k 8
  have lc1 := hbL_len c 8
  conv => whnf
  repeat (first | (refine Exists.intro _ (And.intro rfl ?_); conv => whnf) | (refine And.intro (Nat.le_of_ble_eq_true rfl) ?_; conv => whnf) | (refine And.intro ⟨rfl, Nat.le_of_ble_eq_true rfl⟩ ?_; conv => whnf) | (refine brT rfl ?_; conv => whnf) | (refine brF rfl ?_; conv => whnf) | (refine And.intro (by first | omega | (simp; done) | (simp; omega) | (simp [ti5]; omega)) ?_; conv => whnf))
  refine ok1_callP [] (f68b k hk) rfl rfl ⟨⟨rfl, rfl⟩, trivial, by simp [plainH], ?_⟩
  conv => whnf
  repeat (first | (refine Exists.intro _ (And.intro rfl ?_); conv => whnf) | (refine And.intro (Nat.le_of_ble_eq_true rfl) ?_; conv => whnf) | (refine And.intro ⟨rfl, Nat.le_of_ble_eq_true rfl⟩ ?_; conv => whnf) | (refine brT rfl ?_; conv => whnf) | (refine brF rfl ?_; conv => whnf) | (refine And.intro (by first | omega | (simp; done) | (simp; omega) | (simp [ti5]; omega)) ?_; conv => whnf))
  refine ok1_callP [] (f68a c hc) rfl rfl ⟨⟨rfl, rfl⟩, trivial, by simp [plainH], ?_⟩
  conv => whnf
  refine And.intro (by kernel_rfl) ?_
  conv => whnf
  refine ⟨[], ?_, rfl, rfl, trivial, rfl⟩
  simp [renV, tupOf, hPut, hD, hk, hc, w64_eq]
  omega

theorem f20_ff (k c : UInt64) (hk : ¬ k < 8) (hc : ¬ c < 8) : SCall Try.prog 20 [.agg [.u64 k, .u64 c]] [] (.i ((hPut k c).length : Int)) [] := by
  refine scall_of ttOk (by kernel_rfl : Try.prog.funcs[20]? = some Try.f20) rfl rfl rfl ?_
  refine sw_ok ttOk mixed (by kernel_rfl) ?_
  have lk1 := hbL_len k 8
  have lc1 := hbL_len c 8
  conv => whnf
  repeat (first | (refine Exists.intro _ (And.intro rfl ?_); conv => whnf) | (refine And.intro (Nat.le_of_ble_eq_true rfl) ?_; conv => whnf) | (refine And.intro ⟨rfl, Nat.le_of_ble_eq_true rfl⟩ ?_; conv => whnf) | (refine brT rfl ?_; conv => whnf) | (refine brF rfl ?_; conv => whnf) | (refine And.intro (by first | omega | (simp; done) | (simp; omega) | (simp [ti5]; omega)) ?_; conv => whnf))
  refine ok1_callP [] (f68b k hk) rfl rfl ⟨⟨rfl, rfl⟩, trivial, by simp [plainH], ?_⟩
  conv => whnf
  repeat (first | (refine Exists.intro _ (And.intro rfl ?_); conv => whnf) | (refine And.intro (Nat.le_of_ble_eq_true rfl) ?_; conv => whnf) | (refine And.intro ⟨rfl, Nat.le_of_ble_eq_true rfl⟩ ?_; conv => whnf) | (refine brT rfl ?_; conv => whnf) | (refine brF rfl ?_; conv => whnf) | (refine And.intro (by first | omega | (simp; done) | (simp; omega) | (simp [ti5]; omega)) ?_; conv => whnf))
  refine ok1_callP [] (f68b c hc) rfl rfl ⟨⟨rfl, rfl⟩, trivial, by simp [plainH], ?_⟩
  conv => whnf
  refine And.intro (by kernel_rfl) ?_
  conv => whnf
  refine ⟨[], ?_, rfl, rfl, trivial, rfl⟩
  simp [renV, tupOf, hPut, hD, hk, hc, w64_eq]
  omega

end Go.Sh
