/- aes: columns; a cipher's columns. -/
import Derived.Test.YtaknbogocnkmnaaE2
namespace Go.Sh
open Go.Proofs
set_option maxHeartbeats 4000000
set_option linter.unusedSimpArgs false

/-- A cipher in memory: its box and its columns. -/
def ciB (n : Nat) (fl : Bool) : SB := .ro (sbx.map .u8 ++ [.sl 1 0 n 4 fl])
def ciW (w : List UInt8) : SB := .ro (w.map .u8)

theorem f84 (a b c d : UInt8) (n : Nat) (fl : Bool) (w : List UInt8) : SCall Try.prog 84 [.p 0 0, .agg [.u8 a, .u8 b, .u8 c, .u8 d]] [some (ciB n fl), some (ciW w)] (.agg [.u8 (sb a), .u8 (sb b), .u8 (sb c), .u8 (sb d)]) [some (ciB n fl), some (ciW w)] := by
  have hl := sbx_len
  have ha : a.toNat < 256 := UInt8.toNat_lt _
  have hb : b.toNat < 256 := UInt8.toNat_lt _
  have hc : c.toNat < 256 := UInt8.toNat_lt _
  have hd : d.toNat < 256 := UInt8.toNat_lt _
  unfold ciB ciW
  refine scall_of ttOk (by kernel_rfl : Try.prog.funcs[84]? = some Try.f84) rfl rfl rfl ?_
  refine sw_ok ttOk mixed (by kernel_rfl) ?_
  conv => whnf
  repeat (first | (refine Exists.intro _ (And.intro (sload_all rfl (by first | rfl | fail)) ?_); conv => whnf) | fail)
  refine loop_rounds ttOk mixed (by kernel_rfl) 5 ?_
  conv => whnf
  repeat (first | (refine brT rfl ?_; conv => whnf) | (refine brF rfl ?_; conv => whnf) | (refine Exists.intro _ (And.intro (sload_all rfl (by first | rfl | fail)) ?_); conv => whnf) | (refine Exists.intro _ (And.intro (sput_all rfl (by first | rfl | fail)) ?_); conv => whnf) | (refine Exists.intro _ (And.intro (sload_pre8 (i := a.toNat) (by first | rfl | (simp; done) | fail) (by first | omega | fail)) ?_); conv => whnf) | (refine Exists.intro _ (And.intro (sload_pre8 (i := b.toNat) (by first | rfl | (simp; done) | fail) (by first | omega | fail)) ?_); conv => whnf) | (refine Exists.intro _ (And.intro (sload_pre8 (i := c.toNat) (by first | rfl | (simp; done) | fail) (by first | omega | fail)) ?_); conv => whnf) | (refine Exists.intro _ (And.intro (sload_pre8 (i := d.toNat) (by first | rfl | (simp; done) | fail) (by first | omega | fail)) ?_); conv => whnf) | (refine Exists.intro _ (And.intro rfl ?_); conv => whnf) | (refine And.intro (by first | omega | (simp; done) | fail) ?_; conv => whnf) | (refine And.intro (Nat.le_of_ble_eq_true rfl) ?_; conv => whnf) | (refine And.intro ⟨rfl, Nat.le_of_ble_eq_true rfl⟩ ?_; conv => whnf) | fail)
  refine ⟨[0, 1], ?_, rfl, rfl, ?_, rfl⟩
  · (repeat' (first | (refine wk_agg ?_) | (refine wk_cons ?_ ?_))) <;> first | rfl | fail
  · (repeat' (first | exact trivial | refine And.intro ?_ ?_ | fail)) <;> first | exact ren_eq (by first | (simp; done) | fail) (by first | rfl | fail) | exact ren_app2 (by first | (simp; done) | fail) (by first | rfl | fail) rfl | fail

theorem f86 (a b c d a2 b2 c2 d2 : UInt8) : SCall Try.prog 86 [.agg [.u8 a, .u8 b, .u8 c, .u8 d], .agg [.u8 a2, .u8 b2, .u8 c2, .u8 d2]] [] (.agg [.u8 (a ^^^ a2), .u8 (b ^^^ b2), .u8 (c ^^^ c2), .u8 (d ^^^ d2)]) [] := by
  refine scall_of ttOk (by kernel_rfl : Try.prog.funcs[86]? = some Try.f86) rfl rfl rfl ?_
  refine sw_ok ttOk mixed (by kernel_rfl) ?_
  conv => whnf
  repeat (first | (refine Exists.intro _ (And.intro (sload_all rfl (by first | rfl | fail)) ?_); conv => whnf) | fail)
  refine loop_rounds ttOk mixed (by kernel_rfl) 5 ?_
  conv => whnf
  repeat (first | (refine brT rfl ?_; conv => whnf) | (refine brF rfl ?_; conv => whnf) | (refine Exists.intro _ (And.intro (sload_all rfl (by first | rfl | fail)) ?_); conv => whnf) | (refine Exists.intro _ (And.intro (sput_all rfl (by first | rfl | fail)) ?_); conv => whnf) | (refine Exists.intro _ (And.intro rfl ?_); conv => whnf) | (refine And.intro (by first | omega | (simp; done) | fail) ?_; conv => whnf) | (refine And.intro (Nat.le_of_ble_eq_true rfl) ?_; conv => whnf) | (refine And.intro ⟨rfl, Nat.le_of_ble_eq_true rfl⟩ ?_; conv => whnf) | fail)
  refine ⟨[], ?_, rfl, rfl, ?_, rfl⟩
  · (repeat' (first | (refine wk_agg ?_) | (refine wk_cons ?_ ?_))) <;> first | rfl | fail
  · (repeat' (first | exact trivial | fail)) <;> fail

def mx (a b c d : UInt8) : UInt8 := a ^^^ (a ^^^ b ^^^ c ^^^ d) ^^^ dbl (a ^^^ b)

theorem f88 (a b c d : UInt8) : SCall Try.prog 88 [.agg [.u8 a, .u8 b, .u8 c, .u8 d]] [] (.agg [.u8 (a ^^^ (a ^^^ b ^^^ c ^^^ d) ^^^ dbl (a ^^^ b)), .u8 (b ^^^ (a ^^^ b ^^^ c ^^^ d) ^^^ dbl (b ^^^ c)), .u8 (c ^^^ (a ^^^ b ^^^ c ^^^ d) ^^^ dbl (c ^^^ d)), .u8 (d ^^^ (a ^^^ b ^^^ c ^^^ d) ^^^ dbl (d ^^^ a))]) [] := by
  refine scall_of ttOk (by kernel_rfl : Try.prog.funcs[88]? = some Try.f88) rfl rfl rfl ?_
  refine sw_ok ttOk mixed (by kernel_rfl) ?_
  conv => whnf
  repeat (first | (refine Exists.intro _ (And.intro (sload_all rfl (by first | rfl | fail)) ?_); conv => whnf) | (refine Exists.intro _ (And.intro rfl ?_); conv => whnf) | (refine And.intro (by first | omega | fail) ?_; conv => whnf) | fail)
  refine loop_rounds ttOk mixed (by kernel_rfl) 5 ?_
  conv => whnf
  repeat (first | (refine brT rfl ?_; conv => whnf) | (refine Exists.intro _ (And.intro rfl ?_); conv => whnf) | (refine And.intro (by first | omega | fail) ?_; conv => whnf) | (refine And.intro (Nat.le_of_ble_eq_true rfl) ?_; conv => whnf) | fail)
  refine ok1_callP [] (f85 (a ^^^ b)) rfl rfl ⟨⟨rfl, by first | rfl | fail⟩, trivial, by first | rfl | fail, ?_⟩
  conv => whnf
  repeat (first | (refine brT rfl ?_; conv => whnf) | (refine Exists.intro _ (And.intro rfl ?_); conv => whnf) | (refine And.intro (by first | omega | (simp; done) | fail) ?_; conv => whnf) | (refine And.intro (Nat.le_of_ble_eq_true rfl) ?_; conv => whnf) | fail)
  refine ok1_callP [] (f85 (b ^^^ c)) rfl rfl ⟨⟨rfl, by first | rfl | fail⟩, trivial, by first | rfl | fail, ?_⟩
  conv => whnf
  repeat (first | (refine brT rfl ?_; conv => whnf) | (refine Exists.intro _ (And.intro rfl ?_); conv => whnf) | (refine And.intro (Nat.le_of_ble_eq_true rfl) ?_; conv => whnf) | (refine And.intro ⟨rfl, Nat.le_of_ble_eq_true rfl⟩ ?_; conv => whnf) | fail)
  refine ok1_callP [] (f85 (c ^^^ d)) rfl rfl ⟨⟨rfl, by first | rfl | fail⟩, trivial, by first | rfl | fail, ?_⟩
  conv => whnf
  repeat (first | (refine brT rfl ?_; conv => whnf) | (refine Exists.intro _ (And.intro rfl ?_); conv => whnf) | (refine And.intro (Nat.le_of_ble_eq_true rfl) ?_; conv => whnf) | (refine And.intro ⟨rfl, Nat.le_of_ble_eq_true rfl⟩ ?_; conv => whnf) | fail)
  refine ok1_callP [] (f85 (d ^^^ a)) rfl rfl ⟨⟨rfl, by first | rfl | fail⟩, trivial, by first | rfl | fail, ?_⟩
  conv => whnf
  repeat (first | (refine brF rfl ?_; conv => whnf) | (refine Exists.intro _ (And.intro (sload_all rfl (by first | rfl | fail)) ?_); conv => whnf) | (refine Exists.intro _ (And.intro (sput_all rfl (by first | rfl | fail)) ?_); conv => whnf) | (refine Exists.intro _ (And.intro rfl ?_); conv => whnf) | (refine And.intro (by first | (simp; done) | fail) ?_; conv => whnf) | (refine And.intro (Nat.le_of_ble_eq_true rfl) ?_; conv => whnf) | (refine And.intro ⟨rfl, Nat.le_of_ble_eq_true rfl⟩ ?_; conv => whnf) | fail)
  refine ⟨[], ?_, rfl, rfl, ?_, rfl⟩
  · (repeat' (first | (refine wk_agg ?_) | (refine wk_cons ?_ ?_))) <;> first | rfl | fail
  · (repeat' (first | exact trivial | fail)) <;> fail

theorem f48 (n : Nat) (hn : n < 1000000000) (fl : Bool) (w : List UInt8) : SCall Try.prog 48 [.p 0 0] [some (ciB n fl), some (ciW w)] (.i ((n / 4 : Nat) - 1 : Int)) [some (ciB n fl), some (ciW w)] := by
  have hl := sbx_len
  have he : w64 (w64 ((n : Int).tdiv 4) - 1) = ((n / 4 : Nat) : Int) - 1 := by
    rw [Int.tdiv_eq_ediv_of_nonneg (by omega)]
    simp only [w64_eq]; omega
  unfold ciB ciW
  refine scall_of ttOk (by kernel_rfl : Try.prog.funcs[48]? = some Try.f48) rfl rfl rfl ?_
  refine sw_ok ttOk mixed (by kernel_rfl) ?_
  conv => whnf
  repeat (first | (refine brF rfl ?_; conv => whnf) | (refine Exists.intro _ (And.intro (sload_end (by first | rfl | (simp [hl]; done) | fail)) ?_); conv => whnf) | (refine Exists.intro _ (And.intro rfl ?_); conv => whnf) | (refine And.intro (by kernel_rfl) ?_; conv => whnf) | fail)
  refine ⟨[0, 1], ?_, rfl, rfl, ?_, rfl⟩
  · (repeat' (fail)) <;> first | exact wk_i (by first | exact he.symm | fail) | fail
  · (repeat' (first | exact trivial | refine And.intro ?_ ?_ | fail)) <;> first | exact ren_eq (by first | (simp; done) | fail) (by first | rfl | fail) | exact ren_app2 (by first | (simp; done) | fail) (by first | rfl | fail) rfl | fail
theorem f48n : SCall Try.prog 48 [.pnil] [] (.i 0) [] := by
  refine scall_of ttOk (by kernel_rfl : Try.prog.funcs[48]? = some Try.f48) rfl rfl rfl ?_
  refine sw_ok ttOk mixed (by kernel_rfl) ?_
  conv => whnf
  repeat (first | (refine brT rfl ?_; conv => whnf) | (refine And.intro (by kernel_rfl) ?_; conv => whnf) | fail)
  refine ⟨[], ?_, rfl, rfl, ?_, rfl⟩
  · (repeat' (fail)) <;> first | rfl | fail
  · (repeat' (first | exact trivial | fail)) <;> fail

theorem f87 (n : Nat) (fl : Bool) (w : List UInt8) (l : List UInt8) : SCall Try.prog 87 [.p 0 0, .agg (l.map .u8)] [some (ciB n fl), some (ciW w)] (.fn 101 [.p 3 0, .p 2 0]) [some (ciB n fl), some (ciW w), some (.box [.p 0 0]), some (.box (l.map .u8))] := by
  unfold ciB ciW
  refine scall_of ttOk (by kernel_rfl : Try.prog.funcs[87]? = some Try.f87) rfl rfl rfl ?_
  refine sw_ok ttOk mixed (by kernel_rfl) ?_
  conv => whnf
  repeat (fail)
  refine ⟨[0, 1, 2, 3], ?_, rfl, rfl, ?_, rfl⟩
  · (repeat' (fail)) <;> first | rfl | fail
  · (repeat' (first | exact trivial | refine And.intro ?_ ?_ | (refine wk_cons ?_ ?_))) <;> first | rfl | exact ren_eq (by first | (simp; done) | fail) (by first | rfl | fail) | exact ren_app2 (by first | (simp; done) | fail) (by first | rfl | fail) rfl | fail
end Go.Sh
