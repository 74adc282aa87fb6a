import Derived.Test.YtaknbogocnkmnaaT4
namespace Go.Sh
open Go.Proofs

def hX (n : UInt64) : UInt8 := if n < 8 then (n &&& 7).toUInt8 else 8 ||| u8i (w64 (((hbL n 8).length : Int) - 1))
def hD (n : UInt64) : List UInt8 := if n < 8 then [] else hbL n 8
def hPut (k c : UInt64) : List UInt8 := (shl8 (shl8 0 4 ||| hX k) 4 ||| hX c) :: (hD k ++ hD c)

theorem hbL_pos {u : UInt64} (h : ¬ u < 8) : 0 < (hbL u 8).length := by
  rw [hbL_eq]
  exact List.length_pos_iff.2 (digs_ne (fun e => h (by simp [UInt64.lt_iff_toNat_lt, e])))

theorem take1 {α : Type} (f : α → SV) (x : SV) (l : List α) : (x :: l.map f).take (1 + l.length) = x :: l.map f := take_all (by simp; omega)

theorem f19_tt (k c : UInt64) (hk : k < 8) (hc : c < 8) : SCall Try.prog 19 [.agg [.u64 k, .u64 c]] [] (.sl 0 0 (hPut k c).length 1 true) [some (.row 5 ((hPut k c).map .u8))] := by
  refine scall_of ttOk (by kernel_rfl : Try.prog.funcs[19]? = some Try.f19) rfl rfl rfl ?_
  refine sw_ok ttOk mixed (by kernel_rfl) ?_
  have lk1 := hbL_len k 8
  have lc1 := hbL_len c 8
  conv => whnf
  repeat (first | (refine Exists.intro _ (And.intro rfl ?_); conv => whnf) | (refine And.intro (Nat.le_of_ble_eq_true rfl) ?_; conv => whnf) | (refine And.intro ⟨rfl, Nat.le_of_ble_eq_true rfl⟩ ?_; conv => whnf) | (refine brT rfl ?_; conv => whnf) | (refine brF rfl ?_; conv => whnf) | (refine And.intro (by first | omega | (simp; done) | (simp; omega) | (simp [ti5]; omega)) ?_; conv => whnf))
  refine loop_rounds ttOk mixed (by kernel_rfl) 3 ?_
  conv => whnf
  repeat (first | (refine Exists.intro _ (And.intro rfl ?_); conv => whnf) | (refine And.intro (Nat.le_of_ble_eq_true rfl) ?_; conv => whnf) | (refine And.intro ⟨rfl, Nat.le_of_ble_eq_true rfl⟩ ?_; conv => whnf) | (refine brT rfl ?_; conv => whnf) | (refine brF rfl ?_; conv => whnf) | (refine And.intro (by first | omega | (simp; done) | (simp; omega) | (simp [ti5]; omega)) ?_; conv => whnf))
  refine ok1_callP [] (f68a k hk) rfl rfl ⟨⟨rfl, rfl⟩, trivial, by simp [plainH], ?_⟩
  conv => whnf
  repeat (first | (refine Exists.intro _ (And.intro rfl ?_); conv => whnf) | (refine And.intro (Nat.le_of_ble_eq_true rfl) ?_; conv => whnf) | (refine And.intro ⟨rfl, Nat.le_of_ble_eq_true rfl⟩ ?_; conv => whnf) | (refine brT rfl ?_; conv => whnf) | (refine brF rfl ?_; conv => whnf) | (refine And.intro (by first | omega | (simp; done) | (simp; omega) | (simp [ti5]; omega)) ?_; conv => whnf))
  refine ok1_callP [] (f68a c hc) rfl rfl ⟨⟨rfl, rfl⟩, trivial, by simp [plainH], ?_⟩
  conv => whnf
  repeat (first | (refine Exists.intro _ (And.intro rfl ?_); conv => whnf) | (refine And.intro (Nat.le_of_ble_eq_true rfl) ?_; conv => whnf) | (refine And.intro ⟨rfl, Nat.le_of_ble_eq_true rfl⟩ ?_; conv => whnf) | (refine brT rfl ?_; conv => whnf) | (refine brF rfl ?_; conv => whnf) | (refine And.intro (by first | omega | (simp; done) | (simp; omega) | (simp [ti5]; omega)) ?_; conv => whnf))
  refine ⟨[1], ?_, rfl, rfl, ⟨⟨rfl, ren_eq (by simp) ?_⟩, trivial⟩, rfl⟩
  · simp [renV, hPut, hD, hk, hc, tupOf]
  · simp [hPut, hD, hX, hk, hc]

theorem f19_tf (k c : UInt64) (hk : k < 8) (hc : ¬ c < 8) : SCall Try.prog 19 [.agg [.u64 k, .u64 c]] [] (.sl 0 0 (hPut k c).length 1 false) [some (.row 5 ((hPut k c).map .u8))] := by
  refine scall_of ttOk (by kernel_rfl : Try.prog.funcs[19]? = some Try.f19) rfl rfl rfl ?_
  refine sw_ok ttOk mixed (by kernel_rfl) ?_
  have lk1 := hbL_len k 8
  have lc1 := hbL_len c 8
  have pc := hbL_pos hc
  conv => whnf
  repeat (first | (refine Exists.intro _ (And.intro rfl ?_); conv => whnf) | (refine And.intro (Nat.le_of_ble_eq_true rfl) ?_; conv => whnf) | (refine And.intro ⟨rfl, Nat.le_of_ble_eq_true rfl⟩ ?_; conv => whnf) | (refine brT rfl ?_; conv => whnf) | (refine brF rfl ?_; conv => whnf) | (refine And.intro (by first | omega | (simp; done) | (simp; omega) | (simp [ti5]; omega)) ?_; conv => whnf))
  refine loop_rounds ttOk mixed (by kernel_rfl) 3 ?_
  conv => whnf
  repeat (first | (refine Exists.intro _ (And.intro rfl ?_); conv => whnf) | (refine And.intro (Nat.le_of_ble_eq_true rfl) ?_; conv => whnf) | (refine And.intro ⟨rfl, Nat.le_of_ble_eq_true rfl⟩ ?_; conv => whnf) | (refine brT rfl ?_; conv => whnf) | (refine brF rfl ?_; conv => whnf) | (refine And.intro (by first | omega | (simp; done) | (simp; omega) | (simp [ti5]; omega)) ?_; conv => whnf))
  refine ok1_callP [] (f68a k hk) rfl rfl ⟨⟨rfl, rfl⟩, trivial, by simp [plainH], ?_⟩
  conv => whnf
  repeat (first | (refine Exists.intro _ (And.intro rfl ?_); conv => whnf) | (refine And.intro (Nat.le_of_ble_eq_true rfl) ?_; conv => whnf) | (refine And.intro ⟨rfl, Nat.le_of_ble_eq_true rfl⟩ ?_; conv => whnf) | (refine brT rfl ?_; conv => whnf) | (refine brF rfl ?_; conv => whnf) | (refine And.intro (by first | omega | (simp; done) | (simp; omega) | (simp [ti5]; omega)) ?_; conv => whnf))
  refine ok1_callP [] (f68b c hc) rfl rfl ⟨⟨rfl, rfl⟩, trivial, by simp [plainH], ?_⟩
  conv => whnf
  repeat (first | (refine Exists.intro _ (And.intro rfl ?_); conv => whnf) | (refine And.intro (Nat.le_of_ble_eq_true rfl) ?_; conv => whnf) | (refine And.intro ⟨rfl, Nat.le_of_ble_eq_true rfl⟩ ?_; conv => whnf) | (refine brT rfl ?_; conv => whnf) | (refine brF rfl ?_; conv => whnf) | (refine And.intro (by first | omega | (simp; done) | (simp; omega) | (simp [ti5]; omega)) ?_; conv => whnf))
  refine brT (by simpa using pc) ?_
  conv => whnf
  repeat (first | (refine Exists.intro _ (And.intro rfl ?_); conv => whnf) | (refine And.intro (Nat.le_of_ble_eq_true rfl) ?_; conv => whnf) | (refine And.intro ⟨rfl, Nat.le_of_ble_eq_true rfl⟩ ?_; conv => whnf) | (refine brT rfl ?_; conv => whnf) | (refine brF rfl ?_; conv => whnf) | (refine And.intro (by first | omega | (simp; done) | (simp; omega) | (simp [ti5]; omega)) ?_; conv => whnf))
  refine ⟨[3], ?_, rfl, rfl, ⟨⟨rfl, ren_eq (by simp) ?_⟩, trivial⟩, rfl⟩
  · simp [renV, hPut, hD, hk, hc, tupOf]; omega
  · simp [hPut, hD, hX, hk, hc]

theorem f19_ft (k c : UInt64) (hk : ¬ k < 8) (hc : c < 8) : SCall Try.prog 19 [.agg [.u64 k, .u64 c]] [] (.sl 0 0 (hPut k c).length 1 false) [some (.row 5 ((hPut k c).map .u8))] := by
  refine scall_of ttOk (by kernel_rfl : Try.prog.funcs[19]? = some Try.f19) rfl rfl rfl ?_
  refine sw_ok ttOk mixed (by kernel_rfl) ?_
  have lk1 := hbL_len k 8
  have lc1 := hbL_len c 8
  have pk := hbL_pos hk
  conv => whnf
  repeat (first | (refine Exists.intro _ (And.intro rfl ?_); conv => whnf) | (refine And.intro (Nat.le_of_ble_eq_true rfl) ?_; conv => whnf) | (refine And.intro ⟨rfl, Nat.le_of_ble_eq_true rfl⟩ ?_; conv => whnf) | (refine brT rfl ?_; conv => whnf) | (refine brF rfl ?_; conv => whnf) | (refine And.intro (by first | omega | (simp; done) | (simp; omega) | (simp [ti5]; omega)) ?_; conv => whnf))
  refine loop_rounds ttOk mixed (by kernel_rfl) 3 ?_
  conv => whnf
  repeat (first | (refine Exists.intro _ (And.intro rfl ?_); conv => whnf) | (refine And.intro (Nat.le_of_ble_eq_true rfl) ?_; conv => whnf) | (refine And.intro ⟨rfl, Nat.le_of_ble_eq_true rfl⟩ ?_; conv => whnf) | (refine brT rfl ?_; conv => whnf) | (refine brF rfl ?_; conv => whnf) | (refine And.intro (by first | omega | (simp; done) | (simp; omega) | (simp [ti5]; omega)) ?_; conv => whnf))
  refine ok1_callP [] (f68b k hk) rfl rfl ⟨⟨rfl, rfl⟩, trivial, by simp [plainH], ?_⟩
  conv => whnf
  repeat (first | (refine Exists.intro _ (And.intro rfl ?_); conv => whnf) | (refine And.intro (Nat.le_of_ble_eq_true rfl) ?_; conv => whnf) | (refine And.intro ⟨rfl, Nat.le_of_ble_eq_true rfl⟩ ?_; conv => whnf) | (refine brT rfl ?_; conv => whnf) | (refine brF rfl ?_; conv => whnf) | (refine And.intro (by first | omega | (simp; done) | (simp; omega) | (simp [ti5]; omega)) ?_; conv => whnf))
  refine brT (by simpa using pk) ?_
  conv => whnf
  repeat (first | (refine Exists.intro _ (And.intro rfl ?_); conv => whnf) | (refine And.intro (Nat.le_of_ble_eq_true rfl) ?_; conv => whnf) | (refine And.intro ⟨rfl, Nat.le_of_ble_eq_true rfl⟩ ?_; conv => whnf) | (refine brT rfl ?_; conv => whnf) | (refine brF rfl ?_; conv => whnf) | (refine And.intro (by first | omega | (simp; done) | (simp; omega) | (simp [ti5]; omega)) ?_; conv => whnf))
  refine ok1_callP [] (f68a c hc) rfl rfl ⟨⟨rfl, rfl⟩, trivial, by simp [plainH], ?_⟩
  conv => whnf
  repeat (first | (refine Exists.intro _ (And.intro rfl ?_); conv => whnf) | (refine And.intro (Nat.le_of_ble_eq_true rfl) ?_; conv => whnf) | (refine And.intro ⟨rfl, Nat.le_of_ble_eq_true rfl⟩ ?_; conv => whnf) | (refine brT rfl ?_; conv => whnf) | (refine brF rfl ?_; conv => whnf) | (refine And.intro (by first | omega | (simp; done) | (simp; omega) | (simp [ti5]; omega)) ?_; conv => whnf))
  refine ⟨[3], ?_, rfl, rfl, ⟨⟨rfl, ren_eq (by simp) ?_⟩, trivial⟩, rfl⟩
  · simp [renV, hPut, hD, hk, hc, tupOf]; omega
  · simp [hPut, hD, hX, hk, hc]

theorem f19_ff (k c : UInt64) (hk : ¬ k < 8) (hc : ¬ c < 8) : SCall Try.prog 19 [.agg [.u64 k, .u64 c]] [] (.sl 0 0 (hPut k c).length 1 false) [some (.row 5 ((hPut k c).map .u8))] := by
  refine scall_of ttOk (by kernel_rfl : Try.prog.funcs[19]? = some Try.f19) rfl rfl rfl ?_
  refine sw_ok ttOk mixed (by kernel_rfl) ?_
  have lk1 := hbL_len k 8
  have lc1 := hbL_len c 8
  have pk := hbL_pos hk
  have pc := hbL_pos hc
  conv => whnf
  repeat (first | (refine Exists.intro _ (And.intro rfl ?_); conv => whnf) | (refine And.intro (Nat.le_of_ble_eq_true rfl) ?_; conv => whnf) | (refine And.intro ⟨rfl, Nat.le_of_ble_eq_true rfl⟩ ?_; conv => whnf) | (refine brT rfl ?_; conv => whnf) | (refine brF rfl ?_; conv => whnf) | (refine And.intro (by first | omega | (simp; done) | (simp; omega) | (simp [ti5]; omega)) ?_; conv => whnf))
  refine loop_rounds ttOk mixed (by kernel_rfl) 3 ?_
  conv => whnf
  repeat (first | (refine Exists.intro _ (And.intro rfl ?_); conv => whnf) | (refine And.intro (Nat.le_of_ble_eq_true rfl) ?_; conv => whnf) | (refine And.intro ⟨rfl, Nat.le_of_ble_eq_true rfl⟩ ?_; conv => whnf) | (refine brT rfl ?_; conv => whnf) | (refine brF rfl ?_; conv => whnf) | (refine And.intro (by first | omega | (simp; done) | (simp; omega) | (simp [ti5]; omega)) ?_; conv => whnf))
  refine ok1_callP [] (f68b k hk) rfl rfl ⟨⟨rfl, rfl⟩, trivial, by simp [plainH], ?_⟩
  conv => whnf
  repeat (first | (refine Exists.intro _ (And.intro rfl ?_); conv => whnf) | (refine And.intro (Nat.le_of_ble_eq_true rfl) ?_; conv => whnf) | (refine And.intro ⟨rfl, Nat.le_of_ble_eq_true rfl⟩ ?_; conv => whnf) | (refine brT rfl ?_; conv => whnf) | (refine brF rfl ?_; conv => whnf) | (refine And.intro (by first | omega | (simp; done) | (simp; omega) | (simp [ti5]; omega)) ?_; conv => whnf))
  refine brT (by simpa using pk) ?_
  conv => whnf
  repeat (first | (refine Exists.intro _ (And.intro rfl ?_); conv => whnf) | (refine And.intro (Nat.le_of_ble_eq_true rfl) ?_; conv => whnf) | (refine And.intro ⟨rfl, Nat.le_of_ble_eq_true rfl⟩ ?_; conv => whnf) | (refine brT rfl ?_; conv => whnf) | (refine brF rfl ?_; conv => whnf) | (refine And.intro (by first | omega | (simp; done) | (simp; omega) | (simp [ti5]; omega)) ?_; conv => whnf))
  refine ok1_callP [] (f68b c hc) rfl rfl ⟨⟨rfl, rfl⟩, trivial, by simp [plainH], ?_⟩
  conv => whnf
  repeat (first | (refine Exists.intro _ (And.intro rfl ?_); conv => whnf) | (refine And.intro (Nat.le_of_ble_eq_true rfl) ?_; conv => whnf) | (refine And.intro ⟨rfl, Nat.le_of_ble_eq_true rfl⟩ ?_; conv => whnf) | (refine brT rfl ?_; conv => whnf) | (refine brF rfl ?_; conv => whnf) | (refine And.intro (by first | omega | (simp; done) | (simp; omega) | (simp [ti5]; omega)) ?_; conv => whnf))
  refine brT (by simpa using pc) ?_
  conv => whnf
  repeat (first | (refine Exists.intro _ (And.intro rfl ?_); conv => whnf) | (refine And.intro (Nat.le_of_ble_eq_true rfl) ?_; conv => whnf) | (refine And.intro ⟨rfl, Nat.le_of_ble_eq_true rfl⟩ ?_; conv => whnf) | (refine brT rfl ?_; conv => whnf) | (refine brF rfl ?_; conv => whnf) | (refine And.intro (by first | omega | (simp; done) | (simp; omega) | (simp [ti5]; omega)) ?_; conv => whnf))
  refine ⟨[5], ?_, rfl, rfl, ⟨⟨rfl, ren_eq (by simp) ?_⟩, trivial⟩, rfl⟩
  · simp [renV, hPut, hD, hk, hc, tupOf]; omega
  · simp [hPut, hD, hX, hk, hc, take1]

end Go.Sh
