/- Merged for a claim: U4, U5, U7, Sh18, Sh20. -/
import Derived.Test.YtannakicfkjhbaaRows
import Derived.ProofKit
import Derived.OpenShut
import Derived.JoinedCond
import Derived.Carry
import Derived.Test.YtannakicfkjhbaaUa3
set_option linter.unusedSimpArgs false
set_option linter.unusedVariables false
namespace Go.Sh
open Go.Proofs
set_option maxHeartbeats 8000000
attribute [local irreducible] mac_n mac_w exO_n exO_w
theorem f50_nil_n (b : List UInt8) (hb : b.length < 100000000000000) (f : Bool) : SCall Try.prog 50 [.u8 1, .slnil, .sl 1 0 b.length 1 f] [some (.ro (b.map .u8)), some (.ro (b.map .u8))] (.sl 2 0 32 1 true) [some (.ro (b.map .u8)), some (.ro (b.map .u8)), some (.box ((mac_n [] b).map .u8))] :=
 SCall.nil [.u8 1] ((f50_n [] b (by decide) hb true f).sub 0 0 (b.map .u8) [] 3 rfl rfl rfl (plainL_u8 _) rfl (by decide) ⟨.inr ⟨rfl, rfl⟩, .inl rfl, .inr ⟨rfl, rfl⟩, trivial⟩ rfl ⟨.inl rfl, .inr (.inl (by simp [plainB])), trivial⟩ ⟨.inl rfl, .inr (.inl (by simp [plainB])), .inr (.inl (by simp [plainB])), trivial⟩) rfl
theorem f50_nil_w (b : List UInt8) (hb : b.length < 100000000000000) (f : Bool) : SCall Try.prog 50 [.u8 2, .slnil, .sl 1 0 b.length 1 f] [some (.ro (b.map .u8)), some (.ro (b.map .u8))] (.sl 2 0 64 1 true) [some (.ro (b.map .u8)), some (.ro (b.map .u8)), some (.box ((mac_w [] b).map .u8))] :=
 SCall.nil [.u8 2] ((f50_w [] b (by decide) hb true f).sub 0 0 (b.map .u8) [] 3 rfl rfl rfl (plainL_u8 _) rfl (by decide) ⟨.inr ⟨rfl, rfl⟩, .inl rfl, .inr ⟨rfl, rfl⟩, trivial⟩ rfl ⟨.inl rfl, .inr (.inl (by simp [plainB])), trivial⟩ ⟨.inl rfl, .inr (.inl (by simp [plainB])), .inr (.inl (by simp [plainB])), trivial⟩) rfl
def keyS : List UInt8 := [83, 70, 114, 97, 109, 101, 32, 49, 46, 48, 32, 83, 101, 99, 114, 101, 116, 32, 107, 101, 121, 32]
def saltS : List UInt8 := [83, 70, 114, 97, 109, 101, 32, 49, 46, 48, 32, 83, 101, 99, 114, 101, 116, 32, 115, 97, 108, 116, 32]
def ratS : List UInt8 := [83, 70, 114, 97, 109, 101, 32, 49, 46, 48, 32, 82, 97, 116, 99, 104, 101, 116]
theorem f115_1 (b : List UInt8) (h0 : 0 < b.length) (h1 : b.length ≤ 1024) (f : Bool) : SCall Try.prog 115 [.u16 1, .sl 0 0 b.length 1 f] [some (.ro (b.map .u8))] (.tup [infoS 1 48 16 10 32, .sl 1 0 32 1 true, .i 0]) [some (.ro (b.map .u8)), some (.box ((mac_n [] b).map .u8))] := by
 have q := f50_nil_n b (by omega) f
 have l := mac_len_n [] b
 obtain ⟨X, hX⟩ : ∃ X, X = mac_n [] b := ⟨_, rfl⟩
 rw [← hX] at q l ⊢
 have e1 : ((b.length : Int) == 0) = false := by rw [beq_eq_false_iff_ne]; omega
 have e2 : decide ((b.length : Int) > 1024) = false := by simp; omega
 refine scall_of ttOk (by kernel_rfl : Try.prog.funcs[115]? = some Try.f115) rfl rfl rfl ?_
 try simp only [List.length_cons, List.length_nil, Nat.zero_add, Nat.reduceAdd]
 refine sw_ok ttOk mixed (by kernel_rfl) ?_
 conv => whnf
 repeat (fail)
 refine ok1_callF [] [] true (f66_1) rfl rfl ⟨⟨rfl, by first | rfl | fail⟩, trivial, by first | rfl | fail, by first | rfl | fail, ?_⟩
 conv => whnf
 repeat (first | (refine brF rfl ?_; conv => whnf) | (refine Exists.intro _ (And.intro (sload_all rfl (by first | rfl | fail)) ?_); conv => whnf) | (refine Exists.intro _ (And.intro (sput_all rfl (by first | rfl | fail)) ?_); conv => whnf) | (refine gdT e1 ?_; conv => whnf) | (refine pkF e1 ?_; conv => whnf) | (refine gdF e2 ?_; conv => whnf) | (refine Exists.intro _ (And.intro rfl ?_); conv => whnf) | (refine And.intro ⟨rfl, Nat.le_of_ble_eq_true rfl⟩ ?_; conv => whnf) | fail)
 refine ok1_callF [0, 0] [false, false, true] false (q) rfl rfl ⟨⟨rfl, by first | rfl | fail⟩, by (repeat' (first | exact trivial | refine And.intro ?_ ?_)) <;> first | exact ren_eq (by first | (simp; done) | fail) (by first | rfl | fail) | fail, by first | simp [plainHf, plainB], by first | rfl | fail, ?_⟩
 conv => whnf
 repeat (first | (refine Exists.intro _ (And.intro (sload_all rfl (by first | rfl | fail)) ?_); conv => whnf) | (refine Exists.intro _ (And.intro (sput_all rfl (by first | rfl | fail)) ?_); conv => whnf) | (refine And.intro (by first | omega | (simp; done) | fail) ?_; conv => whnf) | (refine And.intro (by kernel_rfl) ?_; conv => whnf) | fail)
 refine ⟨[0, 3], ?_, rfl, rfl, ?_, rfl⟩
 ·
  (repeat' (first | (refine wk_tup ?_) | (refine wk_agg ?_) | (refine wk_cons ?_ ?_))) <;> first | rfl | fail
 ·
  (repeat' (first | exact trivial | refine And.intro ?_ ?_ | fail)) <;> first | exact ren_eq (by first | (simp; done) | fail) (by first | rfl | fail) | fail
theorem f115_1_x (b : List UInt8) (h0 : b.length = 0 ∨ 1024 < b.length) (f : Bool) : SCall Try.prog 115 [.u16 1, .sl 0 0 b.length 1 f] [some (.ro (b.map .u8))] (.tup [infoS 1 48 16 10 32, .slnil, .i 2]) [some (.ro (b.map .u8))] := by
 refine scall_of ttOk (by kernel_rfl : Try.prog.funcs[115]? = some Try.f115) rfl rfl rfl ?_
 try simp only [List.length_cons, List.length_nil, Nat.zero_add, Nat.reduceAdd]
 refine sw_ok ttOk mixed (by kernel_rfl) ?_
 conv => whnf
 repeat (fail)
 refine ok1_callF [] [] true (f66_1) rfl rfl ⟨⟨rfl, by first | rfl | fail⟩, trivial, by first | rfl | fail, by first | rfl | fail, ?_⟩
 conv => whnf
 by_cases hz : b.length = 0
 ·
  have e1 : ((b.length : Int) == 0) = true := by rw [hz]; rfl
  repeat (first | (refine brT rfl ?_; conv => whnf) | (refine brF rfl ?_; conv => whnf) | (refine Exists.intro _ (And.intro (sload_all rfl (by first | rfl | fail)) ?_); conv => whnf) | (refine Exists.intro _ (And.intro (sput_all rfl (by first | rfl | fail)) ?_); conv => whnf) | (refine gdF e1 ?_; conv => whnf) | (refine pkT e1 ?_; conv => whnf) | (refine And.intro (by first | omega | (simp; done) | fail) ?_; conv => whnf) | (refine And.intro ⟨rfl, Nat.le_of_ble_eq_true rfl⟩ ?_; conv => whnf) | fail)
  refine ⟨[0], ?_, rfl, rfl, ?_, rfl⟩
  ·
   (repeat' (first | (refine wk_tup ?_) | (refine wk_agg ?_) | (refine wk_cons ?_ ?_))) <;> first | rfl | fail
  ·
   (repeat' (first | exact trivial | refine And.intro ?_ ?_ | fail)) <;> first | exact ren_eq (by first | (simp; done) | fail) (by first | rfl | fail) | fail
 ·
  have e1 : ((b.length : Int) == 0) = false := by rw [beq_eq_false_iff_ne]; omega
  have e2 : decide ((b.length : Int) > 1024) = true := by simp; omega
  repeat (first | (refine brF rfl ?_; conv => whnf) | (refine Exists.intro _ (And.intro (sload_all rfl (by first | rfl | fail)) ?_); conv => whnf) | (refine Exists.intro _ (And.intro (sput_all rfl (by first | rfl | fail)) ?_); conv => whnf) | (refine gdT e1 ?_; conv => whnf) | (refine pkF e1 ?_; conv => whnf) | (refine gdT e2 ?_; conv => whnf) | (refine And.intro (by first | omega | (simp; done) | fail) ?_; conv => whnf) | (refine And.intro ⟨rfl, Nat.le_of_ble_eq_true rfl⟩ ?_; conv => whnf) | fail)
  refine ⟨[0], ?_, rfl, rfl, ?_, rfl⟩
  ·
   (repeat' (first | (refine wk_tup ?_) | (refine wk_agg ?_) | (refine wk_cons ?_ ?_))) <;> first | rfl | fail
  ·
   (repeat' (first | exact trivial | refine And.intro ?_ ?_ | fail)) <;> first | exact ren_eq (by first | (simp; done) | fail) (by first | rfl | fail) | fail
theorem f68_1 (b : List UInt8) (h0 : 0 < b.length) (h1 : b.length ≤ 1024) (f : Bool) : SCall Try.prog 68 [.u16 1, .sl 0 0 b.length 1 f] [some (.ro (b.map .u8))] (.tup [.sl 1 0 32 1 true, .i 0]) [some (.ro (b.map .u8)), some (.row 5 ((exO_n (mac_n [] b) ratS 1).map .u8))] := by
 have q := f115_1 b h0 h1 f
 have l := mac_len_n [] b
 have q2 := f51_n (mac_n [] b) ratS (by omega) (by decide) 32 (by decide) (by decide) true true
 rw [show exO_n (mac_n [] b) ratS ((32 + (32 - 1)) / 32) = exO_n (mac_n [] b) ratS 1 from rfl, l] at q2
 have l2 := exO_len_n (mac_n [] b) ratS 1
 obtain ⟨X, hX⟩ : ∃ X, X = mac_n [] b := ⟨_, rfl⟩
 rw [← hX] at q q2 l l2 ⊢
 obtain ⟨Y, hY⟩ : ∃ Y, Y = exO_n X ratS 1 := ⟨_, rfl⟩
 rw [← hY] at q2 l2 ⊢
 refine scall_of ttOk (by kernel_rfl : Try.prog.funcs[68]? = some Try.f68) rfl rfl rfl ?_
 try simp only [List.length_cons, List.length_nil, Nat.zero_add, Nat.reduceAdd]
 refine sw_ok ttOk mixed (by kernel_rfl) ?_
 conv => whnf
 repeat (fail)
 refine ok1_callF [0] [false, true] false (q) rfl rfl ⟨⟨rfl, by first | rfl | fail⟩, by (repeat' (first | exact trivial | refine And.intro ?_ ?_)) <;> first | exact ren_eq (by first | (simp; done) | fail) (by first | rfl | fail) | fail, by first | simp [plainHf, plainB], by first | rfl | fail, ?_⟩
 conv => whnf
 repeat (first | (refine brF rfl ?_; conv => whnf) | (refine Exists.intro _ (And.intro (sput_all rfl (by first | rfl | fail)) ?_); conv => whnf) | (refine Exists.intro _ (And.intro rfl ?_); conv => whnf) | (refine And.intro (by first | omega | (simp; done) | fail) ?_; conv => whnf) | fail)
 refine ok1_callF [1, 3] [false, false, true] false (q2) rfl rfl ⟨⟨rfl, by first | rfl | fail⟩, by (repeat' (first | exact trivial | refine And.intro ?_ ?_)) <;> first | rfl | exact ren_eq (by first | (simp; done) | fail) (by first | rfl | fail) | fail, by first | simp [plainHf, plainB], by first | rfl | fail, ?_⟩
 conv => whnf
 repeat (fail)
 refine ⟨[0, 4], ?_, rfl, rfl, ?_, rfl⟩
 ·
  (repeat' (first | (refine wk_tup ?_) | (refine wk_cons ?_ ?_))) <;> first | rfl | fail
 ·
  (repeat' (first | exact trivial | refine And.intro ?_ ?_ | fail)) <;> first | rfl | exact ren_eq (by first | (simp; done) | fail) (by first | rfl | fail) | fail
theorem f68_1_x (b : List UInt8) (h0 : b.length = 0 ∨ 1024 < b.length) (f : Bool) : SCall Try.prog 68 [.u16 1, .sl 0 0 b.length 1 f] [some (.ro (b.map .u8))] (.tup [.slnil, .i 2]) [some (.ro (b.map .u8))] := by
 have q := f115_1_x b h0 f
 refine scall_of ttOk (by kernel_rfl : Try.prog.funcs[68]? = some Try.f68) rfl rfl rfl ?_
 try simp only [List.length_cons, List.length_nil, Nat.zero_add, Nat.reduceAdd]
 refine sw_ok ttOk mixed (by kernel_rfl) ?_
 conv => whnf
 repeat (fail)
 refine ok1_callF [0] [false] false (q) rfl rfl ⟨⟨rfl, by first | rfl | fail⟩, by (repeat' (first | exact trivial | refine And.intro ?_ ?_)) <;> first | exact ren_eq (by first | (simp; done) | fail) (by first | rfl | fail) | fail, by first | rfl | fail, by first | rfl | fail, ?_⟩
 conv => whnf
 repeat (first | (refine brT rfl ?_; conv => whnf) | (refine Exists.intro _ (And.intro (sput_all rfl (by first | rfl | fail)) ?_); conv => whnf) | (refine And.intro (by first | omega | (simp; done) | fail) ?_; conv => whnf) | fail)
 refine ⟨[0], ?_, rfl, rfl, ?_, rfl⟩
 ·
  (repeat' (first | (refine wk_tup ?_) | (refine wk_cons ?_ ?_))) <;> first | rfl | fail
 ·
  (repeat' (first | exact trivial | refine And.intro ?_ ?_ | fail)) <;> first | exact ren_eq (by first | (simp; done) | fail) (by first | rfl | fail) | fail
theorem f115_2 (b : List UInt8) (h0 : 0 < b.length) (h1 : b.length ≤ 1024) (f : Bool) : SCall Try.prog 115 [.u16 2, .sl 0 0 b.length 1 f] [some (.ro (b.map .u8))] (.tup [infoS 1 48 16 8 32, .sl 1 0 32 1 true, .i 0]) [some (.ro (b.map .u8)), some (.box ((mac_n [] b).map .u8))] := by
 have q := f50_nil_n b (by omega) f
 have l := mac_len_n [] b
 obtain ⟨X, hX⟩ : ∃ X, X = mac_n [] b := ⟨_, rfl⟩
 rw [← hX] at q l ⊢
 have e1 : ((b.length : Int) == 0) = false := by rw [beq_eq_false_iff_ne]; omega
 have e2 : decide ((b.length : Int) > 1024) = false := by simp; omega
 refine scall_of ttOk (by kernel_rfl : Try.prog.funcs[115]? = some Try.f115) rfl rfl rfl ?_
 try simp only [List.length_cons, List.length_nil, Nat.zero_add, Nat.reduceAdd]
 refine sw_ok ttOk mixed (by kernel_rfl) ?_
 conv => whnf
 repeat (fail)
 refine ok1_callF [] [] true (f66_2) rfl rfl ⟨⟨rfl, by first | rfl | fail⟩, trivial, by first | rfl | fail, by first | rfl | fail, ?_⟩
 conv => whnf
 repeat (first | (refine brF rfl ?_; conv => whnf) | (refine Exists.intro _ (And.intro (sload_all rfl (by first | rfl | fail)) ?_); conv => whnf) | (refine Exists.intro _ (And.intro (sput_all rfl (by first | rfl | fail)) ?_); conv => whnf) | (refine gdT e1 ?_; conv => whnf) | (refine pkF e1 ?_; conv => whnf) | (refine gdF e2 ?_; conv => whnf) | (refine Exists.intro _ (And.intro rfl ?_); conv => whnf) | (refine And.intro ⟨rfl, Nat.le_of_ble_eq_true rfl⟩ ?_; conv => whnf) | fail)
 refine ok1_callF [0, 0] [false, false, true] false (q) rfl rfl ⟨⟨rfl, by first | rfl | fail⟩, by (repeat' (first | exact trivial | refine And.intro ?_ ?_)) <;> first | exact ren_eq (by first | (simp; done) | fail) (by first | rfl | fail) | fail, by first | simp [plainHf, plainB], by first | rfl | fail, ?_⟩
 conv => whnf
 repeat (first | (refine Exists.intro _ (And.intro (sload_all rfl (by first | rfl | fail)) ?_); conv => whnf) | (refine Exists.intro _ (And.intro (sput_all rfl (by first | rfl | fail)) ?_); conv => whnf) | (refine And.intro (by first | omega | (simp; done) | fail) ?_; conv => whnf) | (refine And.intro (by kernel_rfl) ?_; conv => whnf) | fail)
 refine ⟨[0, 3], ?_, rfl, rfl, ?_, rfl⟩
 ·
  (repeat' (first | (refine wk_tup ?_) | (refine wk_agg ?_) | (refine wk_cons ?_ ?_))) <;> first | rfl | fail
 ·
  (repeat' (first | exact trivial | refine And.intro ?_ ?_ | fail)) <;> first | exact ren_eq (by first | (simp; done) | fail) (by first | rfl | fail) | fail
theorem f115_2_x (b : List UInt8) (h0 : b.length = 0 ∨ 1024 < b.length) (f : Bool) : SCall Try.prog 115 [.u16 2, .sl 0 0 b.length 1 f] [some (.ro (b.map .u8))] (.tup [infoS 1 48 16 8 32, .slnil, .i 2]) [some (.ro (b.map .u8))] := by
 refine scall_of ttOk (by kernel_rfl : Try.prog.funcs[115]? = some Try.f115) rfl rfl rfl ?_
 try simp only [List.length_cons, List.length_nil, Nat.zero_add, Nat.reduceAdd]
 refine sw_ok ttOk mixed (by kernel_rfl) ?_
 conv => whnf
 repeat (fail)
 refine ok1_callF [] [] true (f66_2) rfl rfl ⟨⟨rfl, by first | rfl | fail⟩, trivial, by first | rfl | fail, by first | rfl | fail, ?_⟩
 conv => whnf
 by_cases hz : b.length = 0
 ·
  have e1 : ((b.length : Int) == 0) = true := by rw [hz]; rfl
  repeat (first | (refine brT rfl ?_; conv => whnf) | (refine brF rfl ?_; conv => whnf) | (refine Exists.intro _ (And.intro (sload_all rfl (by first | rfl | fail)) ?_); conv => whnf) | (refine Exists.intro _ (And.intro (sput_all rfl (by first | rfl | fail)) ?_); conv => whnf) | (refine gdF e1 ?_; conv => whnf) | (refine pkT e1 ?_; conv => whnf) | (refine And.intro (by first | omega | (simp; done) | fail) ?_; conv => whnf) | (refine And.intro ⟨rfl, Nat.le_of_ble_eq_true rfl⟩ ?_; conv => whnf) | fail)
  refine ⟨[0], ?_, rfl, rfl, ?_, rfl⟩
  ·
   (repeat' (first | (refine wk_tup ?_) | (refine wk_agg ?_) | (refine wk_cons ?_ ?_))) <;> first | rfl | fail
  ·
   (repeat' (first | exact trivial | refine And.intro ?_ ?_ | fail)) <;> first | exact ren_eq (by first | (simp; done) | fail) (by first | rfl | fail) | fail
 ·
  have e1 : ((b.length : Int) == 0) = false := by rw [beq_eq_false_iff_ne]; omega
  have e2 : decide ((b.length : Int) > 1024) = true := by simp; omega
  repeat (first | (refine brF rfl ?_; conv => whnf) | (refine Exists.intro _ (And.intro (sload_all rfl (by first | rfl | fail)) ?_); conv => whnf) | (refine Exists.intro _ (And.intro (sput_all rfl (by first | rfl | fail)) ?_); conv => whnf) | (refine gdT e1 ?_; conv => whnf) | (refine pkF e1 ?_; conv => whnf) | (refine gdT e2 ?_; conv => whnf) | (refine And.intro (by first | omega | (simp; done) | fail) ?_; conv => whnf) | (refine And.intro ⟨rfl, Nat.le_of_ble_eq_true rfl⟩ ?_; conv => whnf) | fail)
  refine ⟨[0], ?_, rfl, rfl, ?_, rfl⟩
  ·
   (repeat' (first | (refine wk_tup ?_) | (refine wk_agg ?_) | (refine wk_cons ?_ ?_))) <;> first | rfl | fail
  ·
   (repeat' (first | exact trivial | refine And.intro ?_ ?_ | fail)) <;> first | exact ren_eq (by first | (simp; done) | fail) (by first | rfl | fail) | fail
theorem f68_2 (b : List UInt8) (h0 : 0 < b.length) (h1 : b.length ≤ 1024) (f : Bool) : SCall Try.prog 68 [.u16 2, .sl 0 0 b.length 1 f] [some (.ro (b.map .u8))] (.tup [.sl 1 0 32 1 true, .i 0]) [some (.ro (b.map .u8)), some (.row 5 ((exO_n (mac_n [] b) ratS 1).map .u8))] := by
 have q := f115_2 b h0 h1 f
 have l := mac_len_n [] b
 have q2 := f51_n (mac_n [] b) ratS (by omega) (by decide) 32 (by decide) (by decide) true true
 rw [show exO_n (mac_n [] b) ratS ((32 + (32 - 1)) / 32) = exO_n (mac_n [] b) ratS 1 from rfl, l] at q2
 have l2 := exO_len_n (mac_n [] b) ratS 1
 obtain ⟨X, hX⟩ : ∃ X, X = mac_n [] b := ⟨_, rfl⟩
 rw [← hX] at q q2 l l2 ⊢
 obtain ⟨Y, hY⟩ : ∃ Y, Y = exO_n X ratS 1 := ⟨_, rfl⟩
 rw [← hY] at q2 l2 ⊢
 refine scall_of ttOk (by kernel_rfl : Try.prog.funcs[68]? = some Try.f68) rfl rfl rfl ?_
 try simp only [List.length_cons, List.length_nil, Nat.zero_add, Nat.reduceAdd]
 refine sw_ok ttOk mixed (by kernel_rfl) ?_
 conv => whnf
 repeat (fail)
 refine ok1_callF [0] [false, true] false (q) rfl rfl ⟨⟨rfl, by first | rfl | fail⟩, by (repeat' (first | exact trivial | refine And.intro ?_ ?_)) <;> first | exact ren_eq (by first | (simp; done) | fail) (by first | rfl | fail) | fail, by first | simp [plainHf, plainB], by first | rfl | fail, ?_⟩
 conv => whnf
 repeat (first | (refine brF rfl ?_; conv => whnf) | (refine Exists.intro _ (And.intro (sput_all rfl (by first | rfl | fail)) ?_); conv => whnf) | (refine Exists.intro _ (And.intro rfl ?_); conv => whnf) | (refine And.intro (by first | omega | (simp; done) | fail) ?_; conv => whnf) | fail)
 refine ok1_callF [1, 3] [false, false, true] false (q2) rfl rfl ⟨⟨rfl, by first | rfl | fail⟩, by (repeat' (first | exact trivial | refine And.intro ?_ ?_)) <;> first | rfl | exact ren_eq (by first | (simp; done) | fail) (by first | rfl | fail) | fail, by first | simp [plainHf, plainB], by first | rfl | fail, ?_⟩
 conv => whnf
 repeat (fail)
 refine ⟨[0, 4], ?_, rfl, rfl, ?_, rfl⟩
 ·
  (repeat' (first | (refine wk_tup ?_) | (refine wk_cons ?_ ?_))) <;> first | rfl | fail
 ·
  (repeat' (first | exact trivial | refine And.intro ?_ ?_ | fail)) <;> first | rfl | exact ren_eq (by first | (simp; done) | fail) (by first | rfl | fail) | fail
theorem f68_2_x (b : List UInt8) (h0 : b.length = 0 ∨ 1024 < b.length) (f : Bool) : SCall Try.prog 68 [.u16 2, .sl 0 0 b.length 1 f] [some (.ro (b.map .u8))] (.tup [.slnil, .i 2]) [some (.ro (b.map .u8))] := by
 have q := f115_2_x b h0 f
 refine scall_of ttOk (by kernel_rfl : Try.prog.funcs[68]? = some Try.f68) rfl rfl rfl ?_
 try simp only [List.length_cons, List.length_nil, Nat.zero_add, Nat.reduceAdd]
 refine sw_ok ttOk mixed (by kernel_rfl) ?_
 conv => whnf
 repeat (fail)
 refine ok1_callF [0] [false] false (q) rfl rfl ⟨⟨rfl, by first | rfl | fail⟩, by (repeat' (first | exact trivial | refine And.intro ?_ ?_)) <;> first | exact ren_eq (by first | (simp; done) | fail) (by first | rfl | fail) | fail, by first | rfl | fail, by first | rfl | fail, ?_⟩
 conv => whnf
 repeat (first | (refine brT rfl ?_; conv => whnf) | (refine Exists.intro _ (And.intro (sput_all rfl (by first | rfl | fail)) ?_); conv => whnf) | (refine And.intro (by first | omega | (simp; done) | fail) ?_; conv => whnf) | fail)
 refine ⟨[0], ?_, rfl, rfl, ?_, rfl⟩
 ·
  (repeat' (first | (refine wk_tup ?_) | (refine wk_cons ?_ ?_))) <;> first | rfl | fail
 ·
  (repeat' (first | exact trivial | refine And.intro ?_ ?_ | fail)) <;> first | exact ren_eq (by first | (simp; done) | fail) (by first | rfl | fail) | fail
theorem f115_3 (b : List UInt8) (h0 : 0 < b.length) (h1 : b.length ≤ 1024) (f : Bool) : SCall Try.prog 115 [.u16 3, .sl 0 0 b.length 1 f] [some (.ro (b.map .u8))] (.tup [infoS 1 48 16 4 32, .sl 1 0 32 1 true, .i 0]) [some (.ro (b.map .u8)), some (.box ((mac_n [] b).map .u8))] := by
 have q := f50_nil_n b (by omega) f
 have l := mac_len_n [] b
 obtain ⟨X, hX⟩ : ∃ X, X = mac_n [] b := ⟨_, rfl⟩
 rw [← hX] at q l ⊢
 have e1 : ((b.length : Int) == 0) = false := by rw [beq_eq_false_iff_ne]; omega
 have e2 : decide ((b.length : Int) > 1024) = false := by simp; omega
 refine scall_of ttOk (by kernel_rfl : Try.prog.funcs[115]? = some Try.f115) rfl rfl rfl ?_
 try simp only [List.length_cons, List.length_nil, Nat.zero_add, Nat.reduceAdd]
 refine sw_ok ttOk mixed (by kernel_rfl) ?_
 conv => whnf
 repeat (fail)
 refine ok1_callF [] [] true (f66_3) rfl rfl ⟨⟨rfl, by first | rfl | fail⟩, trivial, by first | rfl | fail, by first | rfl | fail, ?_⟩
 conv => whnf
 repeat (first | (refine brF rfl ?_; conv => whnf) | (refine Exists.intro _ (And.intro (sload_all rfl (by first | rfl | fail)) ?_); conv => whnf) | (refine Exists.intro _ (And.intro (sput_all rfl (by first | rfl | fail)) ?_); conv => whnf) | (refine gdT e1 ?_; conv => whnf) | (refine pkF e1 ?_; conv => whnf) | (refine gdF e2 ?_; conv => whnf) | (refine Exists.intro _ (And.intro rfl ?_); conv => whnf) | (refine And.intro ⟨rfl, Nat.le_of_ble_eq_true rfl⟩ ?_; conv => whnf) | fail)
 refine ok1_callF [0, 0] [false, false, true] false (q) rfl rfl ⟨⟨rfl, by first | rfl | fail⟩, by (repeat' (first | exact trivial | refine And.intro ?_ ?_)) <;> first | exact ren_eq (by first | (simp; done) | fail) (by first | rfl | fail) | fail, by first | simp [plainHf, plainB], by first | rfl | fail, ?_⟩
 conv => whnf
 repeat (first | (refine Exists.intro _ (And.intro (sload_all rfl (by first | rfl | fail)) ?_); conv => whnf) | (refine Exists.intro _ (And.intro (sput_all rfl (by first | rfl | fail)) ?_); conv => whnf) | (refine And.intro (by first | omega | (simp; done) | fail) ?_; conv => whnf) | (refine And.intro (by kernel_rfl) ?_; conv => whnf) | fail)
 refine ⟨[0, 3], ?_, rfl, rfl, ?_, rfl⟩
 ·
  (repeat' (first | (refine wk_tup ?_) | (refine wk_agg ?_) | (refine wk_cons ?_ ?_))) <;> first | rfl | fail
 ·
  (repeat' (first | exact trivial | refine And.intro ?_ ?_ | fail)) <;> first | exact ren_eq (by first | (simp; done) | fail) (by first | rfl | fail) | fail
theorem f115_3_x (b : List UInt8) (h0 : b.length = 0 ∨ 1024 < b.length) (f : Bool) : SCall Try.prog 115 [.u16 3, .sl 0 0 b.length 1 f] [some (.ro (b.map .u8))] (.tup [infoS 1 48 16 4 32, .slnil, .i 2]) [some (.ro (b.map .u8))] := by
 refine scall_of ttOk (by kernel_rfl : Try.prog.funcs[115]? = some Try.f115) rfl rfl rfl ?_
 try simp only [List.length_cons, List.length_nil, Nat.zero_add, Nat.reduceAdd]
 refine sw_ok ttOk mixed (by kernel_rfl) ?_
 conv => whnf
 repeat (fail)
 refine ok1_callF [] [] true (f66_3) rfl rfl ⟨⟨rfl, by first | rfl | fail⟩, trivial, by first | rfl | fail, by first | rfl | fail, ?_⟩
 conv => whnf
 by_cases hz : b.length = 0
 ·
  have e1 : ((b.length : Int) == 0) = true := by rw [hz]; rfl
  repeat (first | (refine brT rfl ?_; conv => whnf) | (refine brF rfl ?_; conv => whnf) | (refine Exists.intro _ (And.intro (sload_all rfl (by first | rfl | fail)) ?_); conv => whnf) | (refine Exists.intro _ (And.intro (sput_all rfl (by first | rfl | fail)) ?_); conv => whnf) | (refine gdF e1 ?_; conv => whnf) | (refine pkT e1 ?_; conv => whnf) | (refine And.intro (by first | omega | (simp; done) | fail) ?_; conv => whnf) | (refine And.intro ⟨rfl, Nat.le_of_ble_eq_true rfl⟩ ?_; conv => whnf) | fail)
  refine ⟨[0], ?_, rfl, rfl, ?_, rfl⟩
  ·
   (repeat' (first | (refine wk_tup ?_) | (refine wk_agg ?_) | (refine wk_cons ?_ ?_))) <;> first | rfl | fail
  ·
   (repeat' (first | exact trivial | refine And.intro ?_ ?_ | fail)) <;> first | exact ren_eq (by first | (simp; done) | fail) (by first | rfl | fail) | fail
 ·
  have e1 : ((b.length : Int) == 0) = false := by rw [beq_eq_false_iff_ne]; omega
  have e2 : decide ((b.length : Int) > 1024) = true := by simp; omega
  repeat (first | (refine brF rfl ?_; conv => whnf) | (refine Exists.intro _ (And.intro (sload_all rfl (by first | rfl | fail)) ?_); conv => whnf) | (refine Exists.intro _ (And.intro (sput_all rfl (by first | rfl | fail)) ?_); conv => whnf) | (refine gdT e1 ?_; conv => whnf) | (refine pkF e1 ?_; conv => whnf) | (refine gdT e2 ?_; conv => whnf) | (refine And.intro (by first | omega | (simp; done) | fail) ?_; conv => whnf) | (refine And.intro ⟨rfl, Nat.le_of_ble_eq_true rfl⟩ ?_; conv => whnf) | fail)
  refine ⟨[0], ?_, rfl, rfl, ?_, rfl⟩
  ·
   (repeat' (first | (refine wk_tup ?_) | (refine wk_agg ?_) | (refine wk_cons ?_ ?_))) <;> first | rfl | fail
  ·
   (repeat' (first | exact trivial | refine And.intro ?_ ?_ | fail)) <;> first | exact ren_eq (by first | (simp; done) | fail) (by first | rfl | fail) | fail
theorem f68_3 (b : List UInt8) (h0 : 0 < b.length) (h1 : b.length ≤ 1024) (f : Bool) : SCall Try.prog 68 [.u16 3, .sl 0 0 b.length 1 f] [some (.ro (b.map .u8))] (.tup [.sl 1 0 32 1 true, .i 0]) [some (.ro (b.map .u8)), some (.row 5 ((exO_n (mac_n [] b) ratS 1).map .u8))] := by
 have q := f115_3 b h0 h1 f
 have l := mac_len_n [] b
 have q2 := f51_n (mac_n [] b) ratS (by omega) (by decide) 32 (by decide) (by decide) true true
 rw [show exO_n (mac_n [] b) ratS ((32 + (32 - 1)) / 32) = exO_n (mac_n [] b) ratS 1 from rfl, l] at q2
 have l2 := exO_len_n (mac_n [] b) ratS 1
 obtain ⟨X, hX⟩ : ∃ X, X = mac_n [] b := ⟨_, rfl⟩
 rw [← hX] at q q2 l l2 ⊢
 obtain ⟨Y, hY⟩ : ∃ Y, Y = exO_n X ratS 1 := ⟨_, rfl⟩
 rw [← hY] at q2 l2 ⊢
 refine scall_of ttOk (by kernel_rfl : Try.prog.funcs[68]? = some Try.f68) rfl rfl rfl ?_
 try simp only [List.length_cons, List.length_nil, Nat.zero_add, Nat.reduceAdd]
 refine sw_ok ttOk mixed (by kernel_rfl) ?_
 conv => whnf
 repeat (fail)
 refine ok1_callF [0] [false, true] false (q) rfl rfl ⟨⟨rfl, by first | rfl | fail⟩, by (repeat' (first | exact trivial | refine And.intro ?_ ?_)) <;> first | exact ren_eq (by first | (simp; done) | fail) (by first | rfl | fail) | fail, by first | simp [plainHf, plainB], by first | rfl | fail, ?_⟩
 conv => whnf
 repeat (first | (refine brF rfl ?_; conv => whnf) | (refine Exists.intro _ (And.intro (sput_all rfl (by first | rfl | fail)) ?_); conv => whnf) | (refine Exists.intro _ (And.intro rfl ?_); conv => whnf) | (refine And.intro (by first | omega | (simp; done) | fail) ?_; conv => whnf) | fail)
 refine ok1_callF [1, 3] [false, false, true] false (q2) rfl rfl ⟨⟨rfl, by first | rfl | fail⟩, by (repeat' (first | exact trivial | refine And.intro ?_ ?_)) <;> first | rfl | exact ren_eq (by first | (simp; done) | fail) (by first | rfl | fail) | fail, by first | simp [plainHf, plainB], by first | rfl | fail, ?_⟩
 conv => whnf
 repeat (fail)
 refine ⟨[0, 4], ?_, rfl, rfl, ?_, rfl⟩
 ·
  (repeat' (first | (refine wk_tup ?_) | (refine wk_cons ?_ ?_))) <;> first | rfl | fail
 ·
  (repeat' (first | exact trivial | refine And.intro ?_ ?_ | fail)) <;> first | rfl | exact ren_eq (by first | (simp; done) | fail) (by first | rfl | fail) | fail
theorem f68_3_x (b : List UInt8) (h0 : b.length = 0 ∨ 1024 < b.length) (f : Bool) : SCall Try.prog 68 [.u16 3, .sl 0 0 b.length 1 f] [some (.ro (b.map .u8))] (.tup [.slnil, .i 2]) [some (.ro (b.map .u8))] := by
 have q := f115_3_x b h0 f
 refine scall_of ttOk (by kernel_rfl : Try.prog.funcs[68]? = some Try.f68) rfl rfl rfl ?_
 try simp only [List.length_cons, List.length_nil, Nat.zero_add, Nat.reduceAdd]
 refine sw_ok ttOk mixed (by kernel_rfl) ?_
 conv => whnf
 repeat (fail)
 refine ok1_callF [0] [false] false (q) rfl rfl ⟨⟨rfl, by first | rfl | fail⟩, by (repeat' (first | exact trivial | refine And.intro ?_ ?_)) <;> first | exact ren_eq (by first | (simp; done) | fail) (by first | rfl | fail) | fail, by first | rfl | fail, by first | rfl | fail, ?_⟩
 conv => whnf
 repeat (first | (refine brT rfl ?_; conv => whnf) | (refine Exists.intro _ (And.intro (sput_all rfl (by first | rfl | fail)) ?_); conv => whnf) | (refine And.intro (by first | omega | (simp; done) | fail) ?_; conv => whnf) | fail)
 refine ⟨[0], ?_, rfl, rfl, ?_, rfl⟩
 ·
  (repeat' (first | (refine wk_tup ?_) | (refine wk_cons ?_ ?_))) <;> first | rfl | fail
 ·
  (repeat' (first | exact trivial | refine And.intro ?_ ?_ | fail)) <;> first | exact ren_eq (by first | (simp; done) | fail) (by first | rfl | fail) | fail
theorem f115_4 (b : List UInt8) (h0 : 0 < b.length) (h1 : b.length ≤ 1024) (f : Bool) : SCall Try.prog 115 [.u16 4, .sl 0 0 b.length 1 f] [some (.ro (b.map .u8))] (.tup [infoS 1 16 16 16 32, .sl 1 0 32 1 true, .i 0]) [some (.ro (b.map .u8)), some (.box ((mac_n [] b).map .u8))] := by
 have q := f50_nil_n b (by omega) f
 have l := mac_len_n [] b
 obtain ⟨X, hX⟩ : ∃ X, X = mac_n [] b := ⟨_, rfl⟩
 rw [← hX] at q l ⊢
 have e1 : ((b.length : Int) == 0) = false := by rw [beq_eq_false_iff_ne]; omega
 have e2 : decide ((b.length : Int) > 1024) = false := by simp; omega
 refine scall_of ttOk (by kernel_rfl : Try.prog.funcs[115]? = some Try.f115) rfl rfl rfl ?_
 try simp only [List.length_cons, List.length_nil, Nat.zero_add, Nat.reduceAdd]
 refine sw_ok ttOk mixed (by kernel_rfl) ?_
 conv => whnf
 repeat (fail)
 refine ok1_callF [] [] true (f66_4) rfl rfl ⟨⟨rfl, by first | rfl | fail⟩, trivial, by first | rfl | fail, by first | rfl | fail, ?_⟩
 conv => whnf
 repeat (first | (refine brF rfl ?_; conv => whnf) | (refine Exists.intro _ (And.intro (sload_all rfl (by first | rfl | fail)) ?_); conv => whnf) | (refine Exists.intro _ (And.intro (sput_all rfl (by first | rfl | fail)) ?_); conv => whnf) | (refine gdT e1 ?_; conv => whnf) | (refine pkF e1 ?_; conv => whnf) | (refine gdF e2 ?_; conv => whnf) | (refine Exists.intro _ (And.intro rfl ?_); conv => whnf) | (refine And.intro ⟨rfl, Nat.le_of_ble_eq_true rfl⟩ ?_; conv => whnf) | fail)
 refine ok1_callF [0, 0] [false, false, true] false (q) rfl rfl ⟨⟨rfl, by first | rfl | fail⟩, by (repeat' (first | exact trivial | refine And.intro ?_ ?_)) <;> first | exact ren_eq (by first | (simp; done) | fail) (by first | rfl | fail) | fail, by first | simp [plainHf, plainB], by first | rfl | fail, ?_⟩
 conv => whnf
 repeat (first | (refine Exists.intro _ (And.intro (sload_all rfl (by first | rfl | fail)) ?_); conv => whnf) | (refine Exists.intro _ (And.intro (sput_all rfl (by first | rfl | fail)) ?_); conv => whnf) | (refine And.intro (by first | omega | (simp; done) | fail) ?_; conv => whnf) | (refine And.intro (by kernel_rfl) ?_; conv => whnf) | fail)
 refine ⟨[0, 3], ?_, rfl, rfl, ?_, rfl⟩
 ·
  (repeat' (first | (refine wk_tup ?_) | (refine wk_agg ?_) | (refine wk_cons ?_ ?_))) <;> first | rfl | fail
 ·
  (repeat' (first | exact trivial | refine And.intro ?_ ?_ | fail)) <;> first | exact ren_eq (by first | (simp; done) | fail) (by first | rfl | fail) | fail
theorem f115_4_x (b : List UInt8) (h0 : b.length = 0 ∨ 1024 < b.length) (f : Bool) : SCall Try.prog 115 [.u16 4, .sl 0 0 b.length 1 f] [some (.ro (b.map .u8))] (.tup [infoS 1 16 16 16 32, .slnil, .i 2]) [some (.ro (b.map .u8))] := by
 refine scall_of ttOk (by kernel_rfl : Try.prog.funcs[115]? = some Try.f115) rfl rfl rfl ?_
 try simp only [List.length_cons, List.length_nil, Nat.zero_add, Nat.reduceAdd]
 refine sw_ok ttOk mixed (by kernel_rfl) ?_
 conv => whnf
 repeat (fail)
 refine ok1_callF [] [] true (f66_4) rfl rfl ⟨⟨rfl, by first | rfl | fail⟩, trivial, by first | rfl | fail, by first | rfl | fail, ?_⟩
 conv => whnf
 by_cases hz : b.length = 0
 ·
  have e1 : ((b.length : Int) == 0) = true := by rw [hz]; rfl
  repeat (first | (refine brT rfl ?_; conv => whnf) | (refine brF rfl ?_; conv => whnf) | (refine Exists.intro _ (And.intro (sload_all rfl (by first | rfl | fail)) ?_); conv => whnf) | (refine Exists.intro _ (And.intro (sput_all rfl (by first | rfl | fail)) ?_); conv => whnf) | (refine gdF e1 ?_; conv => whnf) | (refine pkT e1 ?_; conv => whnf) | (refine And.intro (by first | omega | (simp; done) | fail) ?_; conv => whnf) | (refine And.intro ⟨rfl, Nat.le_of_ble_eq_true rfl⟩ ?_; conv => whnf) | fail)
  refine ⟨[0], ?_, rfl, rfl, ?_, rfl⟩
  ·
   (repeat' (first | (refine wk_tup ?_) | (refine wk_agg ?_) | (refine wk_cons ?_ ?_))) <;> first | rfl | fail
  ·
   (repeat' (first | exact trivial | refine And.intro ?_ ?_ | fail)) <;> first | exact ren_eq (by first | (simp; done) | fail) (by first | rfl | fail) | fail
 ·
  have e1 : ((b.length : Int) == 0) = false := by rw [beq_eq_false_iff_ne]; omega
  have e2 : decide ((b.length : Int) > 1024) = true := by simp; omega
  repeat (first | (refine brF rfl ?_; conv => whnf) | (refine Exists.intro _ (And.intro (sload_all rfl (by first | rfl | fail)) ?_); conv => whnf) | (refine Exists.intro _ (And.intro (sput_all rfl (by first | rfl | fail)) ?_); conv => whnf) | (refine gdT e1 ?_; conv => whnf) | (refine pkF e1 ?_; conv => whnf) | (refine gdT e2 ?_; conv => whnf) | (refine And.intro (by first | omega | (simp; done) | fail) ?_; conv => whnf) | (refine And.intro ⟨rfl, Nat.le_of_ble_eq_true rfl⟩ ?_; conv => whnf) | fail)
  refine ⟨[0], ?_, rfl, rfl, ?_, rfl⟩
  ·
   (repeat' (first | (refine wk_tup ?_) | (refine wk_agg ?_) | (refine wk_cons ?_ ?_))) <;> first | rfl | fail
  ·
   (repeat' (first | exact trivial | refine And.intro ?_ ?_ | fail)) <;> first | exact ren_eq (by first | (simp; done) | fail) (by first | rfl | fail) | fail
theorem f68_4 (b : List UInt8) (h0 : 0 < b.length) (h1 : b.length ≤ 1024) (f : Bool) : SCall Try.prog 68 [.u16 4, .sl 0 0 b.length 1 f] [some (.ro (b.map .u8))] (.tup [.sl 1 0 32 1 true, .i 0]) [some (.ro (b.map .u8)), some (.row 5 ((exO_n (mac_n [] b) ratS 1).map .u8))] := by
 have q := f115_4 b h0 h1 f
 have l := mac_len_n [] b
 have q2 := f51_n (mac_n [] b) ratS (by omega) (by decide) 32 (by decide) (by decide) true true
 rw [show exO_n (mac_n [] b) ratS ((32 + (32 - 1)) / 32) = exO_n (mac_n [] b) ratS 1 from rfl, l] at q2
 have l2 := exO_len_n (mac_n [] b) ratS 1
 obtain ⟨X, hX⟩ : ∃ X, X = mac_n [] b := ⟨_, rfl⟩
 rw [← hX] at q q2 l l2 ⊢
 obtain ⟨Y, hY⟩ : ∃ Y, Y = exO_n X ratS 1 := ⟨_, rfl⟩
 rw [← hY] at q2 l2 ⊢
 refine scall_of ttOk (by kernel_rfl : Try.prog.funcs[68]? = some Try.f68) rfl rfl rfl ?_
 try simp only [List.length_cons, List.length_nil, Nat.zero_add, Nat.reduceAdd]
 refine sw_ok ttOk mixed (by kernel_rfl) ?_
 conv => whnf
 repeat (fail)
 refine ok1_callF [0] [false, true] false (q) rfl rfl ⟨⟨rfl, by first | rfl | fail⟩, by (repeat' (first | exact trivial | refine And.intro ?_ ?_)) <;> first | exact ren_eq (by first | (simp; done) | fail) (by first | rfl | fail) | fail, by first | simp [plainHf, plainB], by first | rfl | fail, ?_⟩
 conv => whnf
 repeat (first | (refine brF rfl ?_; conv => whnf) | (refine Exists.intro _ (And.intro (sput_all rfl (by first | rfl | fail)) ?_); conv => whnf) | (refine Exists.intro _ (And.intro rfl ?_); conv => whnf) | (refine And.intro (by first | omega | (simp; done) | fail) ?_; conv => whnf) | fail)
 refine ok1_callF [1, 3] [false, false, true] false (q2) rfl rfl ⟨⟨rfl, by first | rfl | fail⟩, by (repeat' (first | exact trivial | refine And.intro ?_ ?_)) <;> first | rfl | exact ren_eq (by first | (simp; done) | fail) (by first | rfl | fail) | fail, by first | simp [plainHf, plainB], by first | rfl | fail, ?_⟩
 conv => whnf
 repeat (fail)
 refine ⟨[0, 4], ?_, rfl, rfl, ?_, rfl⟩
 ·
  (repeat' (first | (refine wk_tup ?_) | (refine wk_cons ?_ ?_))) <;> first | rfl | fail
 ·
  (repeat' (first | exact trivial | refine And.intro ?_ ?_ | fail)) <;> first | rfl | exact ren_eq (by first | (simp; done) | fail) (by first | rfl | fail) | fail
theorem f68_4_x (b : List UInt8) (h0 : b.length = 0 ∨ 1024 < b.length) (f : Bool) : SCall Try.prog 68 [.u16 4, .sl 0 0 b.length 1 f] [some (.ro (b.map .u8))] (.tup [.slnil, .i 2]) [some (.ro (b.map .u8))] := by
 have q := f115_4_x b h0 f
 refine scall_of ttOk (by kernel_rfl : Try.prog.funcs[68]? = some Try.f68) rfl rfl rfl ?_
 try simp only [List.length_cons, List.length_nil, Nat.zero_add, Nat.reduceAdd]
 refine sw_ok ttOk mixed (by kernel_rfl) ?_
 conv => whnf
 repeat (fail)
 refine ok1_callF [0] [false] false (q) rfl rfl ⟨⟨rfl, by first | rfl | fail⟩, by (repeat' (first | exact trivial | refine And.intro ?_ ?_)) <;> first | exact ren_eq (by first | (simp; done) | fail) (by first | rfl | fail) | fail, by first | rfl | fail, by first | rfl | fail, ?_⟩
 conv => whnf
 repeat (first | (refine brT rfl ?_; conv => whnf) | (refine Exists.intro _ (And.intro (sput_all rfl (by first | rfl | fail)) ?_); conv => whnf) | (refine And.intro (by first | omega | (simp; done) | fail) ?_; conv => whnf) | fail)
 refine ⟨[0], ?_, rfl, rfl, ?_, rfl⟩
 ·
  (repeat' (first | (refine wk_tup ?_) | (refine wk_cons ?_ ?_))) <;> first | rfl | fail
 ·
  (repeat' (first | exact trivial | refine And.intro ?_ ?_ | fail)) <;> first | exact ren_eq (by first | (simp; done) | fail) (by first | rfl | fail) | fail
theorem f115_5 (b : List UInt8) (h0 : 0 < b.length) (h1 : b.length ≤ 1024) (f : Bool) : SCall Try.prog 115 [.u16 5, .sl 0 0 b.length 1 f] [some (.ro (b.map .u8))] (.tup [infoS 2 32 32 16 64, .sl 1 0 64 1 true, .i 0]) [some (.ro (b.map .u8)), some (.box ((mac_w [] b).map .u8))] := by
 have q := f50_nil_w b (by omega) f
 have l := mac_len_w [] b
 obtain ⟨X, hX⟩ : ∃ X, X = mac_w [] b := ⟨_, rfl⟩
 rw [← hX] at q l ⊢
 have e1 : ((b.length : Int) == 0) = false := by rw [beq_eq_false_iff_ne]; omega
 have e2 : decide ((b.length : Int) > 1024) = false := by simp; omega
 refine scall_of ttOk (by kernel_rfl : Try.prog.funcs[115]? = some Try.f115) rfl rfl rfl ?_
 try simp only [List.length_cons, List.length_nil, Nat.zero_add, Nat.reduceAdd]
 refine sw_ok ttOk mixed (by kernel_rfl) ?_
 conv => whnf
 repeat (fail)
 refine ok1_callF [] [] true (f66_5) rfl rfl ⟨⟨rfl, by first | rfl | fail⟩, trivial, by first | rfl | fail, by first | rfl | fail, ?_⟩
 conv => whnf
 repeat (first | (refine brF rfl ?_; conv => whnf) | (refine Exists.intro _ (And.intro (sload_all rfl (by first | rfl | fail)) ?_); conv => whnf) | (refine Exists.intro _ (And.intro (sput_all rfl (by first | rfl | fail)) ?_); conv => whnf) | (refine gdT e1 ?_; conv => whnf) | (refine pkF e1 ?_; conv => whnf) | (refine gdF e2 ?_; conv => whnf) | (refine Exists.intro _ (And.intro rfl ?_); conv => whnf) | (refine And.intro ⟨rfl, Nat.le_of_ble_eq_true rfl⟩ ?_; conv => whnf) | fail)
 refine ok1_callF [0, 0] [false, false, true] false (q) rfl rfl ⟨⟨rfl, by first | rfl | fail⟩, by (repeat' (first | exact trivial | refine And.intro ?_ ?_)) <;> first | exact ren_eq (by first | (simp; done) | fail) (by first | rfl | fail) | fail, by first | simp [plainHf, plainB], by first | rfl | fail, ?_⟩
 conv => whnf
 repeat (first | (refine Exists.intro _ (And.intro (sload_all rfl (by first | rfl | fail)) ?_); conv => whnf) | (refine Exists.intro _ (And.intro (sput_all rfl (by first | rfl | fail)) ?_); conv => whnf) | (refine And.intro (by first | omega | (simp; done) | fail) ?_; conv => whnf) | (refine And.intro (by kernel_rfl) ?_; conv => whnf) | fail)
 refine ⟨[0, 3], ?_, rfl, rfl, ?_, rfl⟩
 ·
  (repeat' (first | (refine wk_tup ?_) | (refine wk_agg ?_) | (refine wk_cons ?_ ?_))) <;> first | rfl | fail
 ·
  (repeat' (first | exact trivial | refine And.intro ?_ ?_ | fail)) <;> first | exact ren_eq (by first | (simp; done) | fail) (by first | rfl | fail) | fail
theorem f115_5_x (b : List UInt8) (h0 : b.length = 0 ∨ 1024 < b.length) (f : Bool) : SCall Try.prog 115 [.u16 5, .sl 0 0 b.length 1 f] [some (.ro (b.map .u8))] (.tup [infoS 2 32 32 16 64, .slnil, .i 2]) [some (.ro (b.map .u8))] := by
 refine scall_of ttOk (by kernel_rfl : Try.prog.funcs[115]? = some Try.f115) rfl rfl rfl ?_
 try simp only [List.length_cons, List.length_nil, Nat.zero_add, Nat.reduceAdd]
 refine sw_ok ttOk mixed (by kernel_rfl) ?_
 conv => whnf
 repeat (fail)
 refine ok1_callF [] [] true (f66_5) rfl rfl ⟨⟨rfl, by first | rfl | fail⟩, trivial, by first | rfl | fail, by first | rfl | fail, ?_⟩
 conv => whnf
 by_cases hz : b.length = 0
 ·
  have e1 : ((b.length : Int) == 0) = true := by rw [hz]; rfl
  repeat (first | (refine brT rfl ?_; conv => whnf) | (refine brF rfl ?_; conv => whnf) | (refine Exists.intro _ (And.intro (sload_all rfl (by first | rfl | fail)) ?_); conv => whnf) | (refine Exists.intro _ (And.intro (sput_all rfl (by first | rfl | fail)) ?_); conv => whnf) | (refine gdF e1 ?_; conv => whnf) | (refine pkT e1 ?_; conv => whnf) | (refine And.intro (by first | omega | (simp; done) | fail) ?_; conv => whnf) | (refine And.intro ⟨rfl, Nat.le_of_ble_eq_true rfl⟩ ?_; conv => whnf) | fail)
  refine ⟨[0], ?_, rfl, rfl, ?_, rfl⟩
  ·
   (repeat' (first | (refine wk_tup ?_) | (refine wk_agg ?_) | (refine wk_cons ?_ ?_))) <;> first | rfl | fail
  ·
   (repeat' (first | exact trivial | refine And.intro ?_ ?_ | fail)) <;> first | exact ren_eq (by first | (simp; done) | fail) (by first | rfl | fail) | fail
 ·
  have e1 : ((b.length : Int) == 0) = false := by rw [beq_eq_false_iff_ne]; omega
  have e2 : decide ((b.length : Int) > 1024) = true := by simp; omega
  repeat (first | (refine brF rfl ?_; conv => whnf) | (refine Exists.intro _ (And.intro (sload_all rfl (by first | rfl | fail)) ?_); conv => whnf) | (refine Exists.intro _ (And.intro (sput_all rfl (by first | rfl | fail)) ?_); conv => whnf) | (refine gdT e1 ?_; conv => whnf) | (refine pkF e1 ?_; conv => whnf) | (refine gdT e2 ?_; conv => whnf) | (refine And.intro (by first | omega | (simp; done) | fail) ?_; conv => whnf) | (refine And.intro ⟨rfl, Nat.le_of_ble_eq_true rfl⟩ ?_; conv => whnf) | fail)
  refine ⟨[0], ?_, rfl, rfl, ?_, rfl⟩
  ·
   (repeat' (first | (refine wk_tup ?_) | (refine wk_agg ?_) | (refine wk_cons ?_ ?_))) <;> first | rfl | fail
  ·
   (repeat' (first | exact trivial | refine And.intro ?_ ?_ | fail)) <;> first | exact ren_eq (by first | (simp; done) | fail) (by first | rfl | fail) | fail
theorem f68_5 (b : List UInt8) (h0 : 0 < b.length) (h1 : b.length ≤ 1024) (f : Bool) : SCall Try.prog 68 [.u16 5, .sl 0 0 b.length 1 f] [some (.ro (b.map .u8))] (.tup [.sl 1 0 64 1 true, .i 0]) [some (.ro (b.map .u8)), some (.row 5 ((exO_w (mac_w [] b) ratS 1).map .u8))] := by
 have q := f115_5 b h0 h1 f
 have l := mac_len_w [] b
 have q2 := f51_w (mac_w [] b) ratS (by omega) (by decide) 64 (by decide) (by decide) true true
 rw [show exO_w (mac_w [] b) ratS ((64 + (64 - 1)) / 64) = exO_w (mac_w [] b) ratS 1 from rfl, l] at q2
 have l2 := exO_len_w (mac_w [] b) ratS 1
 obtain ⟨X, hX⟩ : ∃ X, X = mac_w [] b := ⟨_, rfl⟩
 rw [← hX] at q q2 l l2 ⊢
 obtain ⟨Y, hY⟩ : ∃ Y, Y = exO_w X ratS 1 := ⟨_, rfl⟩
 rw [← hY] at q2 l2 ⊢
 refine scall_of ttOk (by kernel_rfl : Try.prog.funcs[68]? = some Try.f68) rfl rfl rfl ?_
 try simp only [List.length_cons, List.length_nil, Nat.zero_add, Nat.reduceAdd]
 refine sw_ok ttOk mixed (by kernel_rfl) ?_
 conv => whnf
 repeat (fail)
 refine ok1_callF [0] [false, true] false (q) rfl rfl ⟨⟨rfl, by first | rfl | fail⟩, by (repeat' (first | exact trivial | refine And.intro ?_ ?_)) <;> first | exact ren_eq (by first | (simp; done) | fail) (by first | rfl | fail) | fail, by first | simp [plainHf, plainB], by first | rfl | fail, ?_⟩
 conv => whnf
 repeat (first | (refine brF rfl ?_; conv => whnf) | (refine Exists.intro _ (And.intro (sput_all rfl (by first | rfl | fail)) ?_); conv => whnf) | (refine Exists.intro _ (And.intro rfl ?_); conv => whnf) | (refine And.intro (by first | omega | (simp; done) | fail) ?_; conv => whnf) | fail)
 refine ok1_callF [1, 3] [false, false, true] false (q2) rfl rfl ⟨⟨rfl, by first | rfl | fail⟩, by (repeat' (first | exact trivial | refine And.intro ?_ ?_)) <;> first | rfl | exact ren_eq (by first | (simp; done) | fail) (by first | rfl | fail) | fail, by first | simp [plainHf, plainB], by first | rfl | fail, ?_⟩
 conv => whnf
 repeat (fail)
 refine ⟨[0, 4], ?_, rfl, rfl, ?_, rfl⟩
 ·
  (repeat' (first | (refine wk_tup ?_) | (refine wk_cons ?_ ?_))) <;> first | rfl | fail
 ·
  (repeat' (first | exact trivial | refine And.intro ?_ ?_ | fail)) <;> first | rfl | exact ren_eq (by first | (simp; done) | fail) (by first | rfl | fail) | fail
theorem f68_5_x (b : List UInt8) (h0 : b.length = 0 ∨ 1024 < b.length) (f : Bool) : SCall Try.prog 68 [.u16 5, .sl 0 0 b.length 1 f] [some (.ro (b.map .u8))] (.tup [.slnil, .i 2]) [some (.ro (b.map .u8))] := by
 have q := f115_5_x b h0 f
 refine scall_of ttOk (by kernel_rfl : Try.prog.funcs[68]? = some Try.f68) rfl rfl rfl ?_
 try simp only [List.length_cons, List.length_nil, Nat.zero_add, Nat.reduceAdd]
 refine sw_ok ttOk mixed (by kernel_rfl) ?_
 conv => whnf
 repeat (fail)
 refine ok1_callF [0] [false] false (q) rfl rfl ⟨⟨rfl, by first | rfl | fail⟩, by (repeat' (first | exact trivial | refine And.intro ?_ ?_)) <;> first | exact ren_eq (by first | (simp; done) | fail) (by first | rfl | fail) | fail, by first | rfl | fail, by first | rfl | fail, ?_⟩
 conv => whnf
 repeat (first | (refine brT rfl ?_; conv => whnf) | (refine Exists.intro _ (And.intro (sput_all rfl (by first | rfl | fail)) ?_); conv => whnf) | (refine And.intro (by first | omega | (simp; done) | fail) ?_; conv => whnf) | fail)
 refine ⟨[0], ?_, rfl, rfl, ?_, rfl⟩
 ·
  (repeat' (first | (refine wk_tup ?_) | (refine wk_cons ?_ ?_))) <;> first | rfl | fail
 ·
  (repeat' (first | exact trivial | refine And.intro ?_ ?_ | fail)) <;> first | exact ren_eq (by first | (simp; done) | fail) (by first | rfl | fail) | fail
end Go.Sh
namespace Go.Sh
open Go.Proofs
set_option maxHeartbeats 8000000
theorem sput_salt {a b c : SV} {Y : List UInt8} (h : Y.length = 12) : sput [a, b, c, .u8 0, .u8 0, .u8 0, .u8 0, .u8 0, .u8 0, .u8 0, .u8 0, .u8 0, .u8 0, .u8 0, .u8 0] 3 (.agg (Y.map .u8)) = a :: b :: c :: Y.map .u8 := by
 have hl : (Y.map SV.u8).length = 12 := by rw [List.length_map, h]
 simp [sput, hl]
attribute [local irreducible] mac_n mac_w exO_n exO_w
theorem f67_1 (b : List UInt8) (h0 : 0 < b.length) (h1 : b.length ≤ 1024) (f : Bool) (kid : UInt64) : SCall Try.prog 67 [.u16 1, .sl 0 0 b.length 1 f, .u64 kid] [some (.ro (b.map .u8))] (.tup [.agg (.u16 1 :: .u64 kid :: .sl 1 0 48 1 true :: ((exO_n (mac_n [] b) (infoL saltS kid 1) 1).take 12).map .u8), .i 0]) [some (.ro (b.map .u8)), some (.row 5 ((exO_n (mac_n [] b) (infoL keyS kid 1) 2).map .u8))] := by
 have q := f115_1 b h0 h1 f
 have l := mac_len_n [] b
 have p1 := f116 keyS (by decide) kid 1
 have p2 := f116 saltS (by decide) kid 1
 have i1 := infoL_len keyS kid 1
 have i2 := infoL_len saltS kid 1
 have q2 := f51_n (mac_n [] b) (infoL keyS kid 1) (by omega) (by rw [i1]; decide) 48 (by decide) (by decide) true false
 have q3 := f51_n (mac_n [] b) (infoL saltS kid 1) (by omega) (by rw [i2]; decide) 12 (by decide) (by decide) true false
 rw [show exO_n (mac_n [] b) (infoL keyS kid 1) ((48 + (32 - 1)) / 32) = exO_n (mac_n [] b) (infoL keyS kid 1) 2 from rfl, l, i1] at q2
 rw [show exO_n (mac_n [] b) (infoL saltS kid 1) ((12 + (32 - 1)) / 32) = exO_n (mac_n [] b) (infoL saltS kid 1) 1 from rfl, l, i2] at q3
 have l2 := exO_len_n (mac_n [] b) (infoL keyS kid 1) 2
 have l3 := exO_len_n (mac_n [] b) (infoL saltS kid 1) 1
 obtain ⟨X, hX⟩ : ∃ X, X = mac_n [] b := ⟨_, rfl⟩
 rw [← hX] at q q2 q3 l l2 l3 ⊢
 obtain ⟨I1, hI1⟩ : ∃ Y, Y = infoL keyS kid 1 := ⟨_, rfl⟩
 obtain ⟨I2, hI2⟩ : ∃ Y, Y = infoL saltS kid 1 := ⟨_, rfl⟩
 rw [← hI1] at p1 q2 l2 i1 ⊢
 rw [← hI2] at p2 q3 l3 i2 ⊢
 obtain ⟨Y, hY⟩ : ∃ Y, Y = exO_n X I1 2 := ⟨_, rfl⟩
 obtain ⟨W, hW⟩ : ∃ Y, Y = exO_n X I2 1 := ⟨_, rfl⟩
 rw [← hY] at q2 l2 ⊢
 rw [← hW] at q3 l3 ⊢
 have l4 : (W.take 12).length = 12 := by rw [List.length_take]; omega
 have ht : List.take (min 12 (12 - 0) * 1) (List.take (12 * 1) (List.drop 0 (W.map SV.u8))) = (W.take 12).map .u8 := by
  show List.take 12 (List.take 12 (W.map SV.u8)) = _
  rw [List.take_take, List.map_take]; rfl
 have hld : sload true 15 (sput [.u16 1, .u64 kid, .sl 6 0 48 1 true, .u8 0, .u8 0, .u8 0, .u8 0, .u8 0, .u8 0, .u8 0, .u8 0, .u8 0, .u8 0, .u8 0, .u8 0] 3 (.agg (List.take (min 12 (12 - 0) * 1) (List.take (12 * 1) (List.drop 0 (W.map SV.u8)))))) 0 = some (.agg (.u16 1 :: .u64 kid :: .sl 6 0 48 1 true :: (W.take 12).map .u8)) := by
  rw [ht, sput_salt l4]
  have hl2 : (SV.u16 1 :: .u64 kid :: .sl 6 0 48 1 true :: (W.take 12).map SV.u8).length = 15 := by simp [l4]; omega
  simp only [sload, if_true, List.drop_zero]
  rw [if_pos (by omega), List.take_of_length_le (by omega)]
 clear hX hI1 hI2 hY hW
 refine scall_of ttOk (by kernel_rfl : Try.prog.funcs[67]? = some Try.f67) rfl rfl rfl ?_
 try simp only [List.length_cons, List.length_nil, Nat.zero_add, Nat.reduceAdd]
 refine sw_ok ttOk mixed (by kernel_rfl) ?_
 conv => whnf
 repeat (fail)
 refine ok1_callF [0] [false, true] false (q) rfl rfl ⟨⟨rfl, by first | rfl | fail⟩, by (repeat' (first | exact trivial | refine And.intro ?_ ?_)) <;> first | exact ren_eq (by first | (simp; done) | fail) (by first | rfl | fail) | fail, by first | simp [plainHf, plainB], by first | rfl | fail, ?_⟩
 conv => whnf
 repeat (first | (refine brF rfl ?_; conv => whnf) | (refine Exists.intro _ (And.intro (sput_all rfl (by first | rfl | fail)) ?_); conv => whnf) | (refine Exists.intro _ (And.intro rfl ?_); conv => whnf) | (refine And.intro (by first | omega | (simp; done) | fail) ?_; conv => whnf) | (refine And.intro ⟨rfl, Nat.le_of_ble_eq_true rfl⟩ ?_; conv => whnf) | fail)
 refine ok1_callF [] [true] false (p1) rfl rfl ⟨⟨rfl, by first | rfl | fail⟩, trivial, by first | simp [plainHf, plainB], by first | rfl | fail, ?_⟩
 conv => whnf
 repeat (first | (refine Exists.intro _ (And.intro rfl ?_); conv => whnf) | fail)
 refine ok1_callF [2, 5] [false, false, true] false (q2) rfl rfl ⟨⟨rfl, by first | rfl | fail⟩, by (repeat' (first | exact trivial | refine And.intro ?_ ?_)) <;> first | exact ren_eq (by first | (simp; done) | fail) (by first | rfl | fail) | fail, by first | simp [plainHf, plainB], by first | rfl | fail, ?_⟩
 conv => whnf
 repeat (first | (refine Exists.intro _ (And.intro rfl ?_); conv => whnf) | (refine And.intro ⟨rfl, Nat.le_of_ble_eq_true rfl⟩ ?_; conv => whnf) | (refine And.intro (by kernel_rfl) ?_; conv => whnf) | fail)
 refine ok1_callF [] [true] false (p2) rfl rfl ⟨⟨rfl, by first | rfl | fail⟩, trivial, by first | simp [plainHf, plainB], by first | rfl | fail, ?_⟩
 conv => whnf
 repeat (fail)
 refine ok1_callF [2, 7] [false, false, true] false (q3) rfl rfl ⟨⟨rfl, by first | rfl | fail⟩, by (repeat' (first | exact trivial | refine And.intro ?_ ?_)) <;> first | exact ren_eq (by first | (simp; done) | fail) (by first | rfl | fail) | fail, by first | simp [plainHf, plainB], by first | rfl | fail, ?_⟩
 conv => whnf
 repeat (first | (refine Exists.intro _ (And.intro (sload_all rfl (by first | rfl | (simp [l2, l3, l4]; done) | fail)) ?_); conv => whnf) | (refine Exists.intro _ (And.intro (sput_all rfl (by first | rfl | (simp [l2, l3, l4]; done) | fail)) ?_); conv => whnf) | (refine Exists.intro _ (And.intro (hld) ?_); conv => whnf) | (refine Exists.intro _ (And.intro rfl ?_); conv => whnf) | (refine And.intro (by first | omega | (simp; omega) | fail) ?_; conv => whnf) | (refine And.intro ⟨Nat.le_of_ble_eq_true rfl, Nat.le_of_ble_eq_true rfl, Nat.le_of_ble_eq_true rfl, Nat.le_of_ble_eq_true rfl⟩ ?_; conv => whnf) | (refine And.intro (by kernel_rfl) ?_; conv => whnf) | (refine And.intro ⟨by first | exact Nat.le_of_ble_eq_true rfl | fail, by first | (simp [l2, l3, l4]; done) | fail, by first | exact Nat.le_of_ble_eq_true rfl | fail⟩ ?_; conv => whnf) | fail)
 refine ⟨[0, 6], ?_, rfl, rfl, ?_, rfl⟩
 ·
  (repeat' (first | (refine wk_tup ?_) | (refine wk_agg ?_) | (refine wk_cons ?_ ?_))) <;> first | rfl | exact ren_m8 (by first | rfl | fail) | fail
 ·
  (repeat' (first | exact trivial | refine And.intro ?_ ?_ | fail)) <;> first | rfl | exact ren_eq (by first | (simp; done) | fail) (by first | rfl | fail) | fail
theorem f67_1_x (b : List UInt8) (h0 : b.length = 0 ∨ 1024 < b.length) (f : Bool) (kid : UInt64) : SCall Try.prog 67 [.u16 1, .sl 0 0 b.length 1 f, .u64 kid] [some (.ro (b.map .u8))] (.tup [.agg (.u16 0 :: .u64 0 :: .slnil :: List.replicate 12 (.u8 0)), .i 2]) [some (.ro (b.map .u8))] := by
 have q := f115_1_x b h0 f
 refine scall_of ttOk (by kernel_rfl : Try.prog.funcs[67]? = some Try.f67) rfl rfl rfl ?_
 try simp only [List.length_cons, List.length_nil, Nat.zero_add, Nat.reduceAdd]
 refine sw_ok ttOk mixed (by kernel_rfl) ?_
 conv => whnf
 repeat (fail)
 refine ok1_callF [0] [false] false (q) rfl rfl ⟨⟨rfl, by first | rfl | fail⟩, by (repeat' (first | exact trivial | refine And.intro ?_ ?_)) <;> first | exact ren_eq (by first | (simp; done) | fail) (by first | rfl | fail) | fail, by first | rfl | fail, by first | rfl | fail, ?_⟩
 conv => whnf
 repeat (first | (refine brT rfl ?_; conv => whnf) | (refine Exists.intro _ (And.intro (sload_all rfl (by first | rfl | fail)) ?_); conv => whnf) | (refine Exists.intro _ (And.intro (sput_all rfl (by first | rfl | fail)) ?_); conv => whnf) | (refine Exists.intro _ (And.intro rfl ?_); conv => whnf) | (refine And.intro (by first | omega | (simp; done) | fail) ?_; conv => whnf) | fail)
 refine ⟨[0], ?_, rfl, rfl, ?_, rfl⟩
 ·
  (repeat' (first | (refine wk_tup ?_) | (refine wk_agg ?_) | (refine wk_cons ?_ ?_))) <;> first | rfl | fail
 ·
  (repeat' (first | exact trivial | refine And.intro ?_ ?_ | fail)) <;> first | exact ren_eq (by first | (simp; done) | fail) (by first | rfl | fail) | fail
theorem f67_2 (b : List UInt8) (h0 : 0 < b.length) (h1 : b.length ≤ 1024) (f : Bool) (kid : UInt64) : SCall Try.prog 67 [.u16 2, .sl 0 0 b.length 1 f, .u64 kid] [some (.ro (b.map .u8))] (.tup [.agg (.u16 2 :: .u64 kid :: .sl 1 0 48 1 true :: ((exO_n (mac_n [] b) (infoL saltS kid 2) 1).take 12).map .u8), .i 0]) [some (.ro (b.map .u8)), some (.row 5 ((exO_n (mac_n [] b) (infoL keyS kid 2) 2).map .u8))] := by
 have q := f115_2 b h0 h1 f
 have l := mac_len_n [] b
 have p1 := f116 keyS (by decide) kid 2
 have p2 := f116 saltS (by decide) kid 2
 have i1 := infoL_len keyS kid 2
 have i2 := infoL_len saltS kid 2
 have q2 := f51_n (mac_n [] b) (infoL keyS kid 2) (by omega) (by rw [i1]; decide) 48 (by decide) (by decide) true false
 have q3 := f51_n (mac_n [] b) (infoL saltS kid 2) (by omega) (by rw [i2]; decide) 12 (by decide) (by decide) true false
 rw [show exO_n (mac_n [] b) (infoL keyS kid 2) ((48 + (32 - 1)) / 32) = exO_n (mac_n [] b) (infoL keyS kid 2) 2 from rfl, l, i1] at q2
 rw [show exO_n (mac_n [] b) (infoL saltS kid 2) ((12 + (32 - 1)) / 32) = exO_n (mac_n [] b) (infoL saltS kid 2) 1 from rfl, l, i2] at q3
 have l2 := exO_len_n (mac_n [] b) (infoL keyS kid 2) 2
 have l3 := exO_len_n (mac_n [] b) (infoL saltS kid 2) 1
 obtain ⟨X, hX⟩ : ∃ X, X = mac_n [] b := ⟨_, rfl⟩
 rw [← hX] at q q2 q3 l l2 l3 ⊢
 obtain ⟨I1, hI1⟩ : ∃ Y, Y = infoL keyS kid 2 := ⟨_, rfl⟩
 obtain ⟨I2, hI2⟩ : ∃ Y, Y = infoL saltS kid 2 := ⟨_, rfl⟩
 rw [← hI1] at p1 q2 l2 i1 ⊢
 rw [← hI2] at p2 q3 l3 i2 ⊢
 obtain ⟨Y, hY⟩ : ∃ Y, Y = exO_n X I1 2 := ⟨_, rfl⟩
 obtain ⟨W, hW⟩ : ∃ Y, Y = exO_n X I2 1 := ⟨_, rfl⟩
 rw [← hY] at q2 l2 ⊢
 rw [← hW] at q3 l3 ⊢
 have l4 : (W.take 12).length = 12 := by rw [List.length_take]; omega
 have ht : List.take (min 12 (12 - 0) * 1) (List.take (12 * 1) (List.drop 0 (W.map SV.u8))) = (W.take 12).map .u8 := by
  show List.take 12 (List.take 12 (W.map SV.u8)) = _
  rw [List.take_take, List.map_take]; rfl
 have hld : sload true 15 (sput [.u16 2, .u64 kid, .sl 6 0 48 1 true, .u8 0, .u8 0, .u8 0, .u8 0, .u8 0, .u8 0, .u8 0, .u8 0, .u8 0, .u8 0, .u8 0, .u8 0] 3 (.agg (List.take (min 12 (12 - 0) * 1) (List.take (12 * 1) (List.drop 0 (W.map SV.u8)))))) 0 = some (.agg (.u16 2 :: .u64 kid :: .sl 6 0 48 1 true :: (W.take 12).map .u8)) := by
  rw [ht, sput_salt l4]
  have hl2 : (SV.u16 2 :: .u64 kid :: .sl 6 0 48 1 true :: (W.take 12).map SV.u8).length = 15 := by simp [l4]; omega
  simp only [sload, if_true, List.drop_zero]
  rw [if_pos (by omega), List.take_of_length_le (by omega)]
 clear hX hI1 hI2 hY hW
 refine scall_of ttOk (by kernel_rfl : Try.prog.funcs[67]? = some Try.f67) rfl rfl rfl ?_
 try simp only [List.length_cons, List.length_nil, Nat.zero_add, Nat.reduceAdd]
 refine sw_ok ttOk mixed (by kernel_rfl) ?_
 conv => whnf
 repeat (fail)
 refine ok1_callF [0] [false, true] false (q) rfl rfl ⟨⟨rfl, by first | rfl | fail⟩, by (repeat' (first | exact trivial | refine And.intro ?_ ?_)) <;> first | exact ren_eq (by first | (simp; done) | fail) (by first | rfl | fail) | fail, by first | simp [plainHf, plainB], by first | rfl | fail, ?_⟩
 conv => whnf
 repeat (first | (refine brF rfl ?_; conv => whnf) | (refine Exists.intro _ (And.intro (sput_all rfl (by first | rfl | fail)) ?_); conv => whnf) | (refine Exists.intro _ (And.intro rfl ?_); conv => whnf) | (refine And.intro (by first | omega | (simp; done) | fail) ?_; conv => whnf) | (refine And.intro ⟨rfl, Nat.le_of_ble_eq_true rfl⟩ ?_; conv => whnf) | fail)
 refine ok1_callF [] [true] false (p1) rfl rfl ⟨⟨rfl, by first | rfl | fail⟩, trivial, by first | simp [plainHf, plainB], by first | rfl | fail, ?_⟩
 conv => whnf
 repeat (first | (refine Exists.intro _ (And.intro rfl ?_); conv => whnf) | fail)
 refine ok1_callF [2, 5] [false, false, true] false (q2) rfl rfl ⟨⟨rfl, by first | rfl | fail⟩, by (repeat' (first | exact trivial | refine And.intro ?_ ?_)) <;> first | exact ren_eq (by first | (simp; done) | fail) (by first | rfl | fail) | fail, by first | simp [plainHf, plainB], by first | rfl | fail, ?_⟩
 conv => whnf
 repeat (first | (refine Exists.intro _ (And.intro rfl ?_); conv => whnf) | (refine And.intro ⟨rfl, Nat.le_of_ble_eq_true rfl⟩ ?_; conv => whnf) | (refine And.intro (by kernel_rfl) ?_; conv => whnf) | fail)
 refine ok1_callF [] [true] false (p2) rfl rfl ⟨⟨rfl, by first | rfl | fail⟩, trivial, by first | simp [plainHf, plainB], by first | rfl | fail, ?_⟩
 conv => whnf
 repeat (fail)
 refine ok1_callF [2, 7] [false, false, true] false (q3) rfl rfl ⟨⟨rfl, by first | rfl | fail⟩, by (repeat' (first | exact trivial | refine And.intro ?_ ?_)) <;> first | exact ren_eq (by first | (simp; done) | fail) (by first | rfl | fail) | fail, by first | simp [plainHf, plainB], by first | rfl | fail, ?_⟩
 conv => whnf
 repeat (first | (refine Exists.intro _ (And.intro (sload_all rfl (by first | rfl | (simp [l2, l3, l4]; done) | fail)) ?_); conv => whnf) | (refine Exists.intro _ (And.intro (sput_all rfl (by first | rfl | (simp [l2, l3, l4]; done) | fail)) ?_); conv => whnf) | (refine Exists.intro _ (And.intro (hld) ?_); conv => whnf) | (refine Exists.intro _ (And.intro rfl ?_); conv => whnf) | (refine And.intro (by first | omega | (simp; omega) | fail) ?_; conv => whnf) | (refine And.intro ⟨Nat.le_of_ble_eq_true rfl, Nat.le_of_ble_eq_true rfl, Nat.le_of_ble_eq_true rfl, Nat.le_of_ble_eq_true rfl⟩ ?_; conv => whnf) | (refine And.intro (by kernel_rfl) ?_; conv => whnf) | (refine And.intro ⟨by first | exact Nat.le_of_ble_eq_true rfl | fail, by first | (simp [l2, l3, l4]; done) | fail, by first | exact Nat.le_of_ble_eq_true rfl | fail⟩ ?_; conv => whnf) | fail)
 refine ⟨[0, 6], ?_, rfl, rfl, ?_, rfl⟩
 ·
  (repeat' (first | (refine wk_tup ?_) | (refine wk_agg ?_) | (refine wk_cons ?_ ?_))) <;> first | rfl | exact ren_m8 (by first | rfl | fail) | fail
 ·
  (repeat' (first | exact trivial | refine And.intro ?_ ?_ | fail)) <;> first | rfl | exact ren_eq (by first | (simp; done) | fail) (by first | rfl | fail) | fail
theorem f67_2_x (b : List UInt8) (h0 : b.length = 0 ∨ 1024 < b.length) (f : Bool) (kid : UInt64) : SCall Try.prog 67 [.u16 2, .sl 0 0 b.length 1 f, .u64 kid] [some (.ro (b.map .u8))] (.tup [.agg (.u16 0 :: .u64 0 :: .slnil :: List.replicate 12 (.u8 0)), .i 2]) [some (.ro (b.map .u8))] := by
 have q := f115_2_x b h0 f
 refine scall_of ttOk (by kernel_rfl : Try.prog.funcs[67]? = some Try.f67) rfl rfl rfl ?_
 try simp only [List.length_cons, List.length_nil, Nat.zero_add, Nat.reduceAdd]
 refine sw_ok ttOk mixed (by kernel_rfl) ?_
 conv => whnf
 repeat (fail)
 refine ok1_callF [0] [false] false (q) rfl rfl ⟨⟨rfl, by first | rfl | fail⟩, by (repeat' (first | exact trivial | refine And.intro ?_ ?_)) <;> first | exact ren_eq (by first | (simp; done) | fail) (by first | rfl | fail) | fail, by first | rfl | fail, by first | rfl | fail, ?_⟩
 conv => whnf
 repeat (first | (refine brT rfl ?_; conv => whnf) | (refine Exists.intro _ (And.intro (sload_all rfl (by first | rfl | fail)) ?_); conv => whnf) | (refine Exists.intro _ (And.intro (sput_all rfl (by first | rfl | fail)) ?_); conv => whnf) | (refine Exists.intro _ (And.intro rfl ?_); conv => whnf) | (refine And.intro (by first | omega | (simp; done) | fail) ?_; conv => whnf) | fail)
 refine ⟨[0], ?_, rfl, rfl, ?_, rfl⟩
 ·
  (repeat' (first | (refine wk_tup ?_) | (refine wk_agg ?_) | (refine wk_cons ?_ ?_))) <;> first | rfl | fail
 ·
  (repeat' (first | exact trivial | refine And.intro ?_ ?_ | fail)) <;> first | exact ren_eq (by first | (simp; done) | fail) (by first | rfl | fail) | fail
theorem f67_3 (b : List UInt8) (h0 : 0 < b.length) (h1 : b.length ≤ 1024) (f : Bool) (kid : UInt64) : SCall Try.prog 67 [.u16 3, .sl 0 0 b.length 1 f, .u64 kid] [some (.ro (b.map .u8))] (.tup [.agg (.u16 3 :: .u64 kid :: .sl 1 0 48 1 true :: ((exO_n (mac_n [] b) (infoL saltS kid 3) 1).take 12).map .u8), .i 0]) [some (.ro (b.map .u8)), some (.row 5 ((exO_n (mac_n [] b) (infoL keyS kid 3) 2).map .u8))] := by
 have q := f115_3 b h0 h1 f
 have l := mac_len_n [] b
 have p1 := f116 keyS (by decide) kid 3
 have p2 := f116 saltS (by decide) kid 3
 have i1 := infoL_len keyS kid 3
 have i2 := infoL_len saltS kid 3
 have q2 := f51_n (mac_n [] b) (infoL keyS kid 3) (by omega) (by rw [i1]; decide) 48 (by decide) (by decide) true false
 have q3 := f51_n (mac_n [] b) (infoL saltS kid 3) (by omega) (by rw [i2]; decide) 12 (by decide) (by decide) true false
 rw [show exO_n (mac_n [] b) (infoL keyS kid 3) ((48 + (32 - 1)) / 32) = exO_n (mac_n [] b) (infoL keyS kid 3) 2 from rfl, l, i1] at q2
 rw [show exO_n (mac_n [] b) (infoL saltS kid 3) ((12 + (32 - 1)) / 32) = exO_n (mac_n [] b) (infoL saltS kid 3) 1 from rfl, l, i2] at q3
 have l2 := exO_len_n (mac_n [] b) (infoL keyS kid 3) 2
 have l3 := exO_len_n (mac_n [] b) (infoL saltS kid 3) 1
 obtain ⟨X, hX⟩ : ∃ X, X = mac_n [] b := ⟨_, rfl⟩
 rw [← hX] at q q2 q3 l l2 l3 ⊢
 obtain ⟨I1, hI1⟩ : ∃ Y, Y = infoL keyS kid 3 := ⟨_, rfl⟩
 obtain ⟨I2, hI2⟩ : ∃ Y, Y = infoL saltS kid 3 := ⟨_, rfl⟩
 rw [← hI1] at p1 q2 l2 i1 ⊢
 rw [← hI2] at p2 q3 l3 i2 ⊢
 obtain ⟨Y, hY⟩ : ∃ Y, Y = exO_n X I1 2 := ⟨_, rfl⟩
 obtain ⟨W, hW⟩ : ∃ Y, Y = exO_n X I2 1 := ⟨_, rfl⟩
 rw [← hY] at q2 l2 ⊢
 rw [← hW] at q3 l3 ⊢
 have l4 : (W.take 12).length = 12 := by rw [List.length_take]; omega
 have ht : List.take (min 12 (12 - 0) * 1) (List.take (12 * 1) (List.drop 0 (W.map SV.u8))) = (W.take 12).map .u8 := by
  show List.take 12 (List.take 12 (W.map SV.u8)) = _
  rw [List.take_take, List.map_take]; rfl
 have hld : sload true 15 (sput [.u16 3, .u64 kid, .sl 6 0 48 1 true, .u8 0, .u8 0, .u8 0, .u8 0, .u8 0, .u8 0, .u8 0, .u8 0, .u8 0, .u8 0, .u8 0, .u8 0] 3 (.agg (List.take (min 12 (12 - 0) * 1) (List.take (12 * 1) (List.drop 0 (W.map SV.u8)))))) 0 = some (.agg (.u16 3 :: .u64 kid :: .sl 6 0 48 1 true :: (W.take 12).map .u8)) := by
  rw [ht, sput_salt l4]
  have hl2 : (SV.u16 3 :: .u64 kid :: .sl 6 0 48 1 true :: (W.take 12).map SV.u8).length = 15 := by simp [l4]; omega
  simp only [sload, if_true, List.drop_zero]
  rw [if_pos (by omega), List.take_of_length_le (by omega)]
 clear hX hI1 hI2 hY hW
 refine scall_of ttOk (by kernel_rfl : Try.prog.funcs[67]? = some Try.f67) rfl rfl rfl ?_
 try simp only [List.length_cons, List.length_nil, Nat.zero_add, Nat.reduceAdd]
 refine sw_ok ttOk mixed (by kernel_rfl) ?_
 conv => whnf
 repeat (fail)
 refine ok1_callF [0] [false, true] false (q) rfl rfl ⟨⟨rfl, by first | rfl | fail⟩, by (repeat' (first | exact trivial | refine And.intro ?_ ?_)) <;> first | exact ren_eq (by first | (simp; done) | fail) (by first | rfl | fail) | fail, by first | simp [plainHf, plainB], by first | rfl | fail, ?_⟩
 conv => whnf
 repeat (first | (refine brF rfl ?_; conv => whnf) | (refine Exists.intro _ (And.intro (sput_all rfl (by first | rfl | fail)) ?_); conv => whnf) | (refine Exists.intro _ (And.intro rfl ?_); conv => whnf) | (refine And.intro (by first | omega | (simp; done) | fail) ?_; conv => whnf) | (refine And.intro ⟨rfl, Nat.le_of_ble_eq_true rfl⟩ ?_; conv => whnf) | fail)
 refine ok1_callF [] [true] false (p1) rfl rfl ⟨⟨rfl, by first | rfl | fail⟩, trivial, by first | simp [plainHf, plainB], by first | rfl | fail, ?_⟩
 conv => whnf
 repeat (first | (refine Exists.intro _ (And.intro rfl ?_); conv => whnf) | fail)
 refine ok1_callF [2, 5] [false, false, true] false (q2) rfl rfl ⟨⟨rfl, by first | rfl | fail⟩, by (repeat' (first | exact trivial | refine And.intro ?_ ?_)) <;> first | exact ren_eq (by first | (simp; done) | fail) (by first | rfl | fail) | fail, by first | simp [plainHf, plainB], by first | rfl | fail, ?_⟩
 conv => whnf
 repeat (first | (refine Exists.intro _ (And.intro rfl ?_); conv => whnf) | (refine And.intro ⟨rfl, Nat.le_of_ble_eq_true rfl⟩ ?_; conv => whnf) | (refine And.intro (by kernel_rfl) ?_; conv => whnf) | fail)
 refine ok1_callF [] [true] false (p2) rfl rfl ⟨⟨rfl, by first | rfl | fail⟩, trivial, by first | simp [plainHf, plainB], by first | rfl | fail, ?_⟩
 conv => whnf
 repeat (fail)
 refine ok1_callF [2, 7] [false, false, true] false (q3) rfl rfl ⟨⟨rfl, by first | rfl | fail⟩, by (repeat' (first | exact trivial | refine And.intro ?_ ?_)) <;> first | exact ren_eq (by first | (simp; done) | fail) (by first | rfl | fail) | fail, by first | simp [plainHf, plainB], by first | rfl | fail, ?_⟩
 conv => whnf
 repeat (first | (refine Exists.intro _ (And.intro (sload_all rfl (by first | rfl | (simp [l2, l3, l4]; done) | fail)) ?_); conv => whnf) | (refine Exists.intro _ (And.intro (sput_all rfl (by first | rfl | (simp [l2, l3, l4]; done) | fail)) ?_); conv => whnf) | (refine Exists.intro _ (And.intro (hld) ?_); conv => whnf) | (refine Exists.intro _ (And.intro rfl ?_); conv => whnf) | (refine And.intro (by first | omega | (simp; omega) | fail) ?_; conv => whnf) | (refine And.intro ⟨Nat.le_of_ble_eq_true rfl, Nat.le_of_ble_eq_true rfl, Nat.le_of_ble_eq_true rfl, Nat.le_of_ble_eq_true rfl⟩ ?_; conv => whnf) | (refine And.intro (by kernel_rfl) ?_; conv => whnf) | (refine And.intro ⟨by first | exact Nat.le_of_ble_eq_true rfl | fail, by first | (simp [l2, l3, l4]; done) | fail, by first | exact Nat.le_of_ble_eq_true rfl | fail⟩ ?_; conv => whnf) | fail)
 refine ⟨[0, 6], ?_, rfl, rfl, ?_, rfl⟩
 ·
  (repeat' (first | (refine wk_tup ?_) | (refine wk_agg ?_) | (refine wk_cons ?_ ?_))) <;> first | rfl | exact ren_m8 (by first | rfl | fail) | fail
 ·
  (repeat' (first | exact trivial | refine And.intro ?_ ?_ | fail)) <;> first | rfl | exact ren_eq (by first | (simp; done) | fail) (by first | rfl | fail) | fail
theorem f67_3_x (b : List UInt8) (h0 : b.length = 0 ∨ 1024 < b.length) (f : Bool) (kid : UInt64) : SCall Try.prog 67 [.u16 3, .sl 0 0 b.length 1 f, .u64 kid] [some (.ro (b.map .u8))] (.tup [.agg (.u16 0 :: .u64 0 :: .slnil :: List.replicate 12 (.u8 0)), .i 2]) [some (.ro (b.map .u8))] := by
 have q := f115_3_x b h0 f
 refine scall_of ttOk (by kernel_rfl : Try.prog.funcs[67]? = some Try.f67) rfl rfl rfl ?_
 try simp only [List.length_cons, List.length_nil, Nat.zero_add, Nat.reduceAdd]
 refine sw_ok ttOk mixed (by kernel_rfl) ?_
 conv => whnf
 repeat (fail)
 refine ok1_callF [0] [false] false (q) rfl rfl ⟨⟨rfl, by first | rfl | fail⟩, by (repeat' (first | exact trivial | refine And.intro ?_ ?_)) <;> first | exact ren_eq (by first | (simp; done) | fail) (by first | rfl | fail) | fail, by first | rfl | fail, by first | rfl | fail, ?_⟩
 conv => whnf
 repeat (first | (refine brT rfl ?_; conv => whnf) | (refine Exists.intro _ (And.intro (sload_all rfl (by first | rfl | fail)) ?_); conv => whnf) | (refine Exists.intro _ (And.intro (sput_all rfl (by first | rfl | fail)) ?_); conv => whnf) | (refine Exists.intro _ (And.intro rfl ?_); conv => whnf) | (refine And.intro (by first | omega | (simp; done) | fail) ?_; conv => whnf) | fail)
 refine ⟨[0], ?_, rfl, rfl, ?_, rfl⟩
 ·
  (repeat' (first | (refine wk_tup ?_) | (refine wk_agg ?_) | (refine wk_cons ?_ ?_))) <;> first | rfl | fail
 ·
  (repeat' (first | exact trivial | refine And.intro ?_ ?_ | fail)) <;> first | exact ren_eq (by first | (simp; done) | fail) (by first | rfl | fail) | fail
theorem f67_4 (b : List UInt8) (h0 : 0 < b.length) (h1 : b.length ≤ 1024) (f : Bool) (kid : UInt64) : SCall Try.prog 67 [.u16 4, .sl 0 0 b.length 1 f, .u64 kid] [some (.ro (b.map .u8))] (.tup [.agg (.u16 4 :: .u64 kid :: .sl 1 0 16 1 true :: ((exO_n (mac_n [] b) (infoL saltS kid 4) 1).take 12).map .u8), .i 0]) [some (.ro (b.map .u8)), some (.row 5 ((exO_n (mac_n [] b) (infoL keyS kid 4) 1).map .u8))] := by
 have q := f115_4 b h0 h1 f
 have l := mac_len_n [] b
 have p1 := f116 keyS (by decide) kid 4
 have p2 := f116 saltS (by decide) kid 4
 have i1 := infoL_len keyS kid 4
 have i2 := infoL_len saltS kid 4
 have q2 := f51_n (mac_n [] b) (infoL keyS kid 4) (by omega) (by rw [i1]; decide) 16 (by decide) (by decide) true false
 have q3 := f51_n (mac_n [] b) (infoL saltS kid 4) (by omega) (by rw [i2]; decide) 12 (by decide) (by decide) true false
 rw [show exO_n (mac_n [] b) (infoL keyS kid 4) ((16 + (32 - 1)) / 32) = exO_n (mac_n [] b) (infoL keyS kid 4) 1 from rfl, l, i1] at q2
 rw [show exO_n (mac_n [] b) (infoL saltS kid 4) ((12 + (32 - 1)) / 32) = exO_n (mac_n [] b) (infoL saltS kid 4) 1 from rfl, l, i2] at q3
 have l2 := exO_len_n (mac_n [] b) (infoL keyS kid 4) 1
 have l3 := exO_len_n (mac_n [] b) (infoL saltS kid 4) 1
 obtain ⟨X, hX⟩ : ∃ X, X = mac_n [] b := ⟨_, rfl⟩
 rw [← hX] at q q2 q3 l l2 l3 ⊢
 obtain ⟨I1, hI1⟩ : ∃ Y, Y = infoL keyS kid 4 := ⟨_, rfl⟩
 obtain ⟨I2, hI2⟩ : ∃ Y, Y = infoL saltS kid 4 := ⟨_, rfl⟩
 rw [← hI1] at p1 q2 l2 i1 ⊢
 rw [← hI2] at p2 q3 l3 i2 ⊢
 obtain ⟨Y, hY⟩ : ∃ Y, Y = exO_n X I1 1 := ⟨_, rfl⟩
 obtain ⟨W, hW⟩ : ∃ Y, Y = exO_n X I2 1 := ⟨_, rfl⟩
 rw [← hY] at q2 l2 ⊢
 rw [← hW] at q3 l3 ⊢
 have l4 : (W.take 12).length = 12 := by rw [List.length_take]; omega
 have ht : List.take (min 12 (12 - 0) * 1) (List.take (12 * 1) (List.drop 0 (W.map SV.u8))) = (W.take 12).map .u8 := by
  show List.take 12 (List.take 12 (W.map SV.u8)) = _
  rw [List.take_take, List.map_take]; rfl
 have hld : sload true 15 (sput [.u16 4, .u64 kid, .sl 6 0 16 1 true, .u8 0, .u8 0, .u8 0, .u8 0, .u8 0, .u8 0, .u8 0, .u8 0, .u8 0, .u8 0, .u8 0, .u8 0] 3 (.agg (List.take (min 12 (12 - 0) * 1) (List.take (12 * 1) (List.drop 0 (W.map SV.u8)))))) 0 = some (.agg (.u16 4 :: .u64 kid :: .sl 6 0 16 1 true :: (W.take 12).map .u8)) := by
  rw [ht, sput_salt l4]
  have hl2 : (SV.u16 4 :: .u64 kid :: .sl 6 0 16 1 true :: (W.take 12).map SV.u8).length = 15 := by simp [l4]; omega
  simp only [sload, if_true, List.drop_zero]
  rw [if_pos (by omega), List.take_of_length_le (by omega)]
 clear hX hI1 hI2 hY hW
 refine scall_of ttOk (by kernel_rfl : Try.prog.funcs[67]? = some Try.f67) rfl rfl rfl ?_
 try simp only [List.length_cons, List.length_nil, Nat.zero_add, Nat.reduceAdd]
 refine sw_ok ttOk mixed (by kernel_rfl) ?_
 conv => whnf
 repeat (fail)
 refine ok1_callF [0] [false, true] false (q) rfl rfl ⟨⟨rfl, by first | rfl | fail⟩, by (repeat' (first | exact trivial | refine And.intro ?_ ?_)) <;> first | exact ren_eq (by first | (simp; done) | fail) (by first | rfl | fail) | fail, by first | simp [plainHf, plainB], by first | rfl | fail, ?_⟩
 conv => whnf
 repeat (first | (refine brF rfl ?_; conv => whnf) | (refine Exists.intro _ (And.intro (sput_all rfl (by first | rfl | fail)) ?_); conv => whnf) | (refine Exists.intro _ (And.intro rfl ?_); conv => whnf) | (refine And.intro (by first | omega | (simp; done) | fail) ?_; conv => whnf) | (refine And.intro ⟨rfl, Nat.le_of_ble_eq_true rfl⟩ ?_; conv => whnf) | fail)
 refine ok1_callF [] [true] false (p1) rfl rfl ⟨⟨rfl, by first | rfl | fail⟩, trivial, by first | simp [plainHf, plainB], by first | rfl | fail, ?_⟩
 conv => whnf
 repeat (first | (refine Exists.intro _ (And.intro rfl ?_); conv => whnf) | fail)
 refine ok1_callF [2, 5] [false, false, true] false (q2) rfl rfl ⟨⟨rfl, by first | rfl | fail⟩, by (repeat' (first | exact trivial | refine And.intro ?_ ?_)) <;> first | exact ren_eq (by first | (simp; done) | fail) (by first | rfl | fail) | fail, by first | simp [plainHf, plainB], by first | rfl | fail, ?_⟩
 conv => whnf
 repeat (first | (refine Exists.intro _ (And.intro rfl ?_); conv => whnf) | (refine And.intro ⟨rfl, Nat.le_of_ble_eq_true rfl⟩ ?_; conv => whnf) | (refine And.intro (by kernel_rfl) ?_; conv => whnf) | fail)
 refine ok1_callF [] [true] false (p2) rfl rfl ⟨⟨rfl, by first | rfl | fail⟩, trivial, by first | simp [plainHf, plainB], by first | rfl | fail, ?_⟩
 conv => whnf
 repeat (fail)
 refine ok1_callF [2, 7] [false, false, true] false (q3) rfl rfl ⟨⟨rfl, by first | rfl | fail⟩, by (repeat' (first | exact trivial | refine And.intro ?_ ?_)) <;> first | exact ren_eq (by first | (simp; done) | fail) (by first | rfl | fail) | fail, by first | simp [plainHf, plainB], by first | rfl | fail, ?_⟩
 conv => whnf
 repeat (first | (refine Exists.intro _ (And.intro (sload_all rfl (by first | rfl | (simp [l2, l3, l4]; done) | fail)) ?_); conv => whnf) | (refine Exists.intro _ (And.intro (sput_all rfl (by first | rfl | (simp [l2, l3, l4]; done) | fail)) ?_); conv => whnf) | (refine Exists.intro _ (And.intro (hld) ?_); conv => whnf) | (refine Exists.intro _ (And.intro rfl ?_); conv => whnf) | (refine And.intro (by first | omega | (simp; omega) | fail) ?_; conv => whnf) | (refine And.intro ⟨Nat.le_of_ble_eq_true rfl, Nat.le_of_ble_eq_true rfl, Nat.le_of_ble_eq_true rfl, Nat.le_of_ble_eq_true rfl⟩ ?_; conv => whnf) | (refine And.intro (by kernel_rfl) ?_; conv => whnf) | (refine And.intro ⟨by first | exact Nat.le_of_ble_eq_true rfl | fail, by first | (simp [l2, l3, l4]; done) | fail, by first | exact Nat.le_of_ble_eq_true rfl | fail⟩ ?_; conv => whnf) | fail)
 refine ⟨[0, 6], ?_, rfl, rfl, ?_, rfl⟩
 ·
  (repeat' (first | (refine wk_tup ?_) | (refine wk_agg ?_) | (refine wk_cons ?_ ?_))) <;> first | rfl | exact ren_m8 (by first | rfl | fail) | fail
 ·
  (repeat' (first | exact trivial | refine And.intro ?_ ?_ | fail)) <;> first | rfl | exact ren_eq (by first | (simp; done) | fail) (by first | rfl | fail) | fail
theorem f67_4_x (b : List UInt8) (h0 : b.length = 0 ∨ 1024 < b.length) (f : Bool) (kid : UInt64) : SCall Try.prog 67 [.u16 4, .sl 0 0 b.length 1 f, .u64 kid] [some (.ro (b.map .u8))] (.tup [.agg (.u16 0 :: .u64 0 :: .slnil :: List.replicate 12 (.u8 0)), .i 2]) [some (.ro (b.map .u8))] := by
 have q := f115_4_x b h0 f
 refine scall_of ttOk (by kernel_rfl : Try.prog.funcs[67]? = some Try.f67) rfl rfl rfl ?_
 try simp only [List.length_cons, List.length_nil, Nat.zero_add, Nat.reduceAdd]
 refine sw_ok ttOk mixed (by kernel_rfl) ?_
 conv => whnf
 repeat (fail)
 refine ok1_callF [0] [false] false (q) rfl rfl ⟨⟨rfl, by first | rfl | fail⟩, by (repeat' (first | exact trivial | refine And.intro ?_ ?_)) <;> first | exact ren_eq (by first | (simp; done) | fail) (by first | rfl | fail) | fail, by first | rfl | fail, by first | rfl | fail, ?_⟩
 conv => whnf
 repeat (first | (refine brT rfl ?_; conv => whnf) | (refine Exists.intro _ (And.intro (sload_all rfl (by first | rfl | fail)) ?_); conv => whnf) | (refine Exists.intro _ (And.intro (sput_all rfl (by first | rfl | fail)) ?_); conv => whnf) | (refine Exists.intro _ (And.intro rfl ?_); conv => whnf) | (refine And.intro (by first | omega | (simp; done) | fail) ?_; conv => whnf) | fail)
 refine ⟨[0], ?_, rfl, rfl, ?_, rfl⟩
 ·
  (repeat' (first | (refine wk_tup ?_) | (refine wk_agg ?_) | (refine wk_cons ?_ ?_))) <;> first | rfl | fail
 ·
  (repeat' (first | exact trivial | refine And.intro ?_ ?_ | fail)) <;> first | exact ren_eq (by first | (simp; done) | fail) (by first | rfl | fail) | fail
theorem f67_5 (b : List UInt8) (h0 : 0 < b.length) (h1 : b.length ≤ 1024) (f : Bool) (kid : UInt64) : SCall Try.prog 67 [.u16 5, .sl 0 0 b.length 1 f, .u64 kid] [some (.ro (b.map .u8))] (.tup [.agg (.u16 5 :: .u64 kid :: .sl 1 0 32 1 true :: ((exO_w (mac_w [] b) (infoL saltS kid 5) 1).take 12).map .u8), .i 0]) [some (.ro (b.map .u8)), some (.row 5 ((exO_w (mac_w [] b) (infoL keyS kid 5) 1).map .u8))] := by
 have q := f115_5 b h0 h1 f
 have l := mac_len_w [] b
 have p1 := f116 keyS (by decide) kid 5
 have p2 := f116 saltS (by decide) kid 5
 have i1 := infoL_len keyS kid 5
 have i2 := infoL_len saltS kid 5
 have q2 := f51_w (mac_w [] b) (infoL keyS kid 5) (by omega) (by rw [i1]; decide) 32 (by decide) (by decide) true false
 have q3 := f51_w (mac_w [] b) (infoL saltS kid 5) (by omega) (by rw [i2]; decide) 12 (by decide) (by decide) true false
 rw [show exO_w (mac_w [] b) (infoL keyS kid 5) ((32 + (64 - 1)) / 64) = exO_w (mac_w [] b) (infoL keyS kid 5) 1 from rfl, l, i1] at q2
 rw [show exO_w (mac_w [] b) (infoL saltS kid 5) ((12 + (64 - 1)) / 64) = exO_w (mac_w [] b) (infoL saltS kid 5) 1 from rfl, l, i2] at q3
 have l2 := exO_len_w (mac_w [] b) (infoL keyS kid 5) 1
 have l3 := exO_len_w (mac_w [] b) (infoL saltS kid 5) 1
 obtain ⟨X, hX⟩ : ∃ X, X = mac_w [] b := ⟨_, rfl⟩
 rw [← hX] at q q2 q3 l l2 l3 ⊢
 obtain ⟨I1, hI1⟩ : ∃ Y, Y = infoL keyS kid 5 := ⟨_, rfl⟩
 obtain ⟨I2, hI2⟩ : ∃ Y, Y = infoL saltS kid 5 := ⟨_, rfl⟩
 rw [← hI1] at p1 q2 l2 i1 ⊢
 rw [← hI2] at p2 q3 l3 i2 ⊢
 obtain ⟨Y, hY⟩ : ∃ Y, Y = exO_w X I1 1 := ⟨_, rfl⟩
 obtain ⟨W, hW⟩ : ∃ Y, Y = exO_w X I2 1 := ⟨_, rfl⟩
 rw [← hY] at q2 l2 ⊢
 rw [← hW] at q3 l3 ⊢
 have l4 : (W.take 12).length = 12 := by rw [List.length_take]; omega
 have ht : List.take (min 12 (12 - 0) * 1) (List.take (12 * 1) (List.drop 0 (W.map SV.u8))) = (W.take 12).map .u8 := by
  show List.take 12 (List.take 12 (W.map SV.u8)) = _
  rw [List.take_take, List.map_take]; rfl
 have hld : sload true 15 (sput [.u16 5, .u64 kid, .sl 6 0 32 1 true, .u8 0, .u8 0, .u8 0, .u8 0, .u8 0, .u8 0, .u8 0, .u8 0, .u8 0, .u8 0, .u8 0, .u8 0] 3 (.agg (List.take (min 12 (12 - 0) * 1) (List.take (12 * 1) (List.drop 0 (W.map SV.u8)))))) 0 = some (.agg (.u16 5 :: .u64 kid :: .sl 6 0 32 1 true :: (W.take 12).map .u8)) := by
  rw [ht, sput_salt l4]
  have hl2 : (SV.u16 5 :: .u64 kid :: .sl 6 0 32 1 true :: (W.take 12).map SV.u8).length = 15 := by simp [l4]; omega
  simp only [sload, if_true, List.drop_zero]
  rw [if_pos (by omega), List.take_of_length_le (by omega)]
 clear hX hI1 hI2 hY hW
 refine scall_of ttOk (by kernel_rfl : Try.prog.funcs[67]? = some Try.f67) rfl rfl rfl ?_
 try simp only [List.length_cons, List.length_nil, Nat.zero_add, Nat.reduceAdd]
 refine sw_ok ttOk mixed (by kernel_rfl) ?_
 conv => whnf
 repeat (fail)
 refine ok1_callF [0] [false, true] false (q) rfl rfl ⟨⟨rfl, by first | rfl | fail⟩, by (repeat' (first | exact trivial | refine And.intro ?_ ?_)) <;> first | exact ren_eq (by first | (simp; done) | fail) (by first | rfl | fail) | fail, by first | simp [plainHf, plainB], by first | rfl | fail, ?_⟩
 conv => whnf
 repeat (first | (refine brF rfl ?_; conv => whnf) | (refine Exists.intro _ (And.intro (sput_all rfl (by first | rfl | fail)) ?_); conv => whnf) | (refine Exists.intro _ (And.intro rfl ?_); conv => whnf) | (refine And.intro (by first | omega | (simp; done) | fail) ?_; conv => whnf) | (refine And.intro ⟨rfl, Nat.le_of_ble_eq_true rfl⟩ ?_; conv => whnf) | fail)
 refine ok1_callF [] [true] false (p1) rfl rfl ⟨⟨rfl, by first | rfl | fail⟩, trivial, by first | simp [plainHf, plainB], by first | rfl | fail, ?_⟩
 conv => whnf
 repeat (first | (refine Exists.intro _ (And.intro rfl ?_); conv => whnf) | fail)
 refine ok1_callF [2, 5] [false, false, true] false (q2) rfl rfl ⟨⟨rfl, by first | rfl | fail⟩, by (repeat' (first | exact trivial | refine And.intro ?_ ?_)) <;> first | exact ren_eq (by first | (simp; done) | fail) (by first | rfl | fail) | fail, by first | simp [plainHf, plainB], by first | rfl | fail, ?_⟩
 conv => whnf
 repeat (first | (refine Exists.intro _ (And.intro rfl ?_); conv => whnf) | (refine And.intro ⟨rfl, Nat.le_of_ble_eq_true rfl⟩ ?_; conv => whnf) | (refine And.intro (by kernel_rfl) ?_; conv => whnf) | fail)
 refine ok1_callF [] [true] false (p2) rfl rfl ⟨⟨rfl, by first | rfl | fail⟩, trivial, by first | simp [plainHf, plainB], by first | rfl | fail, ?_⟩
 conv => whnf
 repeat (fail)
 refine ok1_callF [2, 7] [false, false, true] false (q3) rfl rfl ⟨⟨rfl, by first | rfl | fail⟩, by (repeat' (first | exact trivial | refine And.intro ?_ ?_)) <;> first | exact ren_eq (by first | (simp; done) | fail) (by first | rfl | fail) | fail, by first | simp [plainHf, plainB], by first | rfl | fail, ?_⟩
 conv => whnf
 repeat (first | (refine Exists.intro _ (And.intro (sload_all rfl (by first | rfl | (simp [l2, l3, l4]; done) | fail)) ?_); conv => whnf) | (refine Exists.intro _ (And.intro (sput_all rfl (by first | rfl | (simp [l2, l3, l4]; done) | fail)) ?_); conv => whnf) | (refine Exists.intro _ (And.intro (hld) ?_); conv => whnf) | (refine Exists.intro _ (And.intro rfl ?_); conv => whnf) | (refine And.intro (by first | omega | (simp; omega) | fail) ?_; conv => whnf) | (refine And.intro ⟨Nat.le_of_ble_eq_true rfl, Nat.le_of_ble_eq_true rfl, Nat.le_of_ble_eq_true rfl, Nat.le_of_ble_eq_true rfl⟩ ?_; conv => whnf) | (refine And.intro (by kernel_rfl) ?_; conv => whnf) | (refine And.intro ⟨by first | exact Nat.le_of_ble_eq_true rfl | fail, by first | (simp [l2, l3, l4]; done) | fail, by first | exact Nat.le_of_ble_eq_true rfl | fail⟩ ?_; conv => whnf) | fail)
 refine ⟨[0, 6], ?_, rfl, rfl, ?_, rfl⟩
 ·
  (repeat' (first | (refine wk_tup ?_) | (refine wk_agg ?_) | (refine wk_cons ?_ ?_))) <;> first | rfl | exact ren_m8 (by first | rfl | fail) | fail
 ·
  (repeat' (first | exact trivial | refine And.intro ?_ ?_ | fail)) <;> first | rfl | exact ren_eq (by first | (simp; done) | fail) (by first | rfl | fail) | fail
theorem f67_5_x (b : List UInt8) (h0 : b.length = 0 ∨ 1024 < b.length) (f : Bool) (kid : UInt64) : SCall Try.prog 67 [.u16 5, .sl 0 0 b.length 1 f, .u64 kid] [some (.ro (b.map .u8))] (.tup [.agg (.u16 0 :: .u64 0 :: .slnil :: List.replicate 12 (.u8 0)), .i 2]) [some (.ro (b.map .u8))] := by
 have q := f115_5_x b h0 f
 refine scall_of ttOk (by kernel_rfl : Try.prog.funcs[67]? = some Try.f67) rfl rfl rfl ?_
 try simp only [List.length_cons, List.length_nil, Nat.zero_add, Nat.reduceAdd]
 refine sw_ok ttOk mixed (by kernel_rfl) ?_
 conv => whnf
 repeat (fail)
 refine ok1_callF [0] [false] false (q) rfl rfl ⟨⟨rfl, by first | rfl | fail⟩, by (repeat' (first | exact trivial | refine And.intro ?_ ?_)) <;> first | exact ren_eq (by first | (simp; done) | fail) (by first | rfl | fail) | fail, by first | rfl | fail, by first | rfl | fail, ?_⟩
 conv => whnf
 repeat (first | (refine brT rfl ?_; conv => whnf) | (refine Exists.intro _ (And.intro (sload_all rfl (by first | rfl | fail)) ?_); conv => whnf) | (refine Exists.intro _ (And.intro (sput_all rfl (by first | rfl | fail)) ?_); conv => whnf) | (refine Exists.intro _ (And.intro rfl ?_); conv => whnf) | (refine And.intro (by first | omega | (simp; done) | fail) ?_; conv => whnf) | fail)
 refine ⟨[0], ?_, rfl, rfl, ?_, rfl⟩
 ·
  (repeat' (first | (refine wk_tup ?_) | (refine wk_agg ?_) | (refine wk_cons ?_ ?_))) <;> first | rfl | fail
 ·
  (repeat' (first | exact trivial | refine And.intro ?_ ?_ | fail)) <;> first | exact ren_eq (by first | (simp; done) | fail) (by first | rfl | fail) | fail
theorem f115_o (n : UInt16) (h : n = 0 ∨ 5 < n.toNat) (b : List UInt8) (f : Bool) : SCall Try.prog 115 [.u16 n, .sl 0 0 b.length 1 f] [some (.ro (b.map .u8))] (.tup [infoS 0 0 0 0 0, .slnil, .i 130]) [some (.ro (b.map .u8))] := by
 have q := f66_o n h
 refine scall_of ttOk (by kernel_rfl : Try.prog.funcs[115]? = some Try.f115) rfl rfl rfl ?_
 try simp only [List.length_cons, List.length_nil, Nat.zero_add, Nat.reduceAdd]
 refine sw_ok ttOk mixed (by kernel_rfl) ?_
 conv => whnf
 repeat (fail)
 refine ok1_callF [] [] true (q) rfl rfl ⟨⟨rfl, by first | rfl | fail⟩, trivial, by first | rfl | fail, by first | rfl | fail, ?_⟩
 conv => whnf
 repeat (first | (refine brT rfl ?_; conv => whnf) | (refine Exists.intro _ (And.intro (sload_all rfl (by first | rfl | fail)) ?_); conv => whnf) | (refine Exists.intro _ (And.intro (sput_all rfl (by first | rfl | fail)) ?_); conv => whnf) | (refine And.intro (by first | omega | (simp; done) | fail) ?_; conv => whnf) | (refine And.intro ⟨rfl, Nat.le_of_ble_eq_true rfl⟩ ?_; conv => whnf) | fail)
 refine ⟨[0], ?_, rfl, rfl, ?_, rfl⟩
 ·
  (repeat' (first | (refine wk_tup ?_) | (refine wk_agg ?_) | (refine wk_cons ?_ ?_))) <;> first | rfl | fail
 ·
  (repeat' (first | exact trivial | refine And.intro ?_ ?_ | fail)) <;> first | exact ren_eq (by first | (simp; done) | fail) (by first | rfl | fail) | fail
theorem f67_o (n : UInt16) (h : n = 0 ∨ 5 < n.toNat) (b : List UInt8) (f : Bool) (kid : UInt64) : SCall Try.prog 67 [.u16 n, .sl 0 0 b.length 1 f, .u64 kid] [some (.ro (b.map .u8))] (.tup [.agg (.u16 0 :: .u64 0 :: .slnil :: List.replicate 12 (.u8 0)), .i 130]) [some (.ro (b.map .u8))] := by
 have q := f115_o n h b f
 refine scall_of ttOk (by kernel_rfl : Try.prog.funcs[67]? = some Try.f67) rfl rfl rfl ?_
 try simp only [List.length_cons, List.length_nil, Nat.zero_add, Nat.reduceAdd]
 refine sw_ok ttOk mixed (by kernel_rfl) ?_
 conv => whnf
 repeat (fail)
 refine ok1_callF [0] [false] false (q) rfl rfl ⟨⟨rfl, by first | rfl | fail⟩, by (repeat' (first | exact trivial | refine And.intro ?_ ?_)) <;> first | exact ren_eq (by first | (simp; done) | fail) (by first | rfl | fail) | fail, by first | rfl | fail, by first | rfl | fail, ?_⟩
 conv => whnf
 repeat (first | (refine brT rfl ?_; conv => whnf) | (refine Exists.intro _ (And.intro (sload_all rfl (by first | rfl | fail)) ?_); conv => whnf) | (refine Exists.intro _ (And.intro (sput_all rfl (by first | rfl | fail)) ?_); conv => whnf) | (refine Exists.intro _ (And.intro rfl ?_); conv => whnf) | (refine And.intro (by first | omega | (simp; done) | fail) ?_; conv => whnf) | fail)
 refine ⟨[0], ?_, rfl, rfl, ?_, rfl⟩
 ·
  (repeat' (first | (refine wk_tup ?_) | (refine wk_agg ?_) | (refine wk_cons ?_ ?_))) <;> first | rfl | fail
 ·
  (repeat' (first | exact trivial | refine And.intro ?_ ?_ | fail)) <;> first | exact ren_eq (by first | (simp; done) | fail) (by first | rfl | fail) | fail
theorem f68_o (n : UInt16) (h : n = 0 ∨ 5 < n.toNat) (b : List UInt8) (f : Bool) : SCall Try.prog 68 [.u16 n, .sl 0 0 b.length 1 f] [some (.ro (b.map .u8))] (.tup [.slnil, .i 130]) [some (.ro (b.map .u8))] := by
 have q := f115_o n h b f
 refine scall_of ttOk (by kernel_rfl : Try.prog.funcs[68]? = some Try.f68) rfl rfl rfl ?_
 try simp only [List.length_cons, List.length_nil, Nat.zero_add, Nat.reduceAdd]
 refine sw_ok ttOk mixed (by kernel_rfl) ?_
 conv => whnf
 repeat (fail)
 refine ok1_callF [0] [false] false (q) rfl rfl ⟨⟨rfl, by first | rfl | fail⟩, by (repeat' (first | exact trivial | refine And.intro ?_ ?_)) <;> first | exact ren_eq (by first | (simp; done) | fail) (by first | rfl | fail) | fail, by first | rfl | fail, by first | rfl | fail, ?_⟩
 conv => whnf
 repeat (first | (refine brT rfl ?_; conv => whnf) | (refine Exists.intro _ (And.intro (sput_all rfl (by first | rfl | fail)) ?_); conv => whnf) | (refine And.intro (by first | omega | (simp; done) | fail) ?_; conv => whnf) | fail)
 refine ⟨[0], ?_, rfl, rfl, ?_, rfl⟩
 ·
  (repeat' (first | (refine wk_tup ?_) | (refine wk_cons ?_ ?_))) <;> first | rfl | fail
 ·
  (repeat' (first | exact trivial | refine And.intro ?_ ?_ | fail)) <;> first | exact ren_eq (by first | (simp; done) | fail) (by first | rfl | fail) | fail
end Go.Sh
namespace Go.Sh
open Go.Proofs
set_option maxHeartbeats 8000000
theorem eqcsU_u8 : ∀ (l m : List UInt8), eqcs (l.map SV.u8) (m.map SV.u8) = true → l.length = m.length → l = m
 | [], [], _, _ => rfl
 | [], _ :: _, _, h => by simp at h
 | _ :: _, [], _, h => by simp at h
 | a :: l, b :: m, h, hl => by
  simp only [List.map_cons, eqcs, eqc, Bool.and_eq_true, beq_iff_eq] at h
  rw [h.1, eqcsU_u8 l m h.2 (by simpa using hl)]
theorem eqcsU_rf : ∀ (l : List UInt8), eqcs (l.map SV.u8) (l.map SV.u8) = true
 | [] => rfl
 | a :: l => by simp only [List.map_cons, eqcs, eqc, beq_self_eq_true, Bool.true_and]; exact eqcsU_rf l
theorem kdU_u8n {n : Nat} (l : List UInt8) (h : l.length = n) : List.map kd (List.map SV.u8 l) = List.map some (List.replicate n 1) := by
 subst h
 induction l with
 | nil => rfl
 | cons a l ih => simp only [List.map_cons, List.length_cons, List.replicate_succ, ih]; rfl
theorem nonL_len (S : List UInt8) (c : UInt64) : (nonL S c).length = 12 := rfl
theorem nonL_z {S : List UInt8} (h : S.length = 12) : nonL S 0 = S := by
 obtain ⟨a0, a1, a2, a3, a4, a5, a6, a7, a8, a9, a10, a11, rfl⟩ := ex12 h
 have e : ∀ m, m < 8 → byS 0 m = 0 := by decide
 unfold nonL
 rw [e 0 (by decide), e 1 (by decide), e 2 (by decide), e 3 (by decide), e 4 (by decide), e 5 (by decide), e 6 (by decide), e 7 (by decide)]
 simp
theorem byS_n (c : UInt64) (m : Nat) (hm : m < 8) : (byS c m).toNat = c.toNat / 256 ^ m % 256 := by
 rw [← byS_d c m hm, UInt64.toNat_toUInt8, UInt64.toNat_mod, dvN_n]
 show c.toNat / 256 ^ m % 256 % 256 = _
 omega
theorem byS_inj {a c : UInt64} (h : ∀ m, m < 8 → byS a m = byS c m) : a = c := by
 apply UInt64.toNat.inj
 have ha := a.toNat_lt
 have hc := c.toNat_lt
 have g : ∀ m, m < 8 → a.toNat / 256 ^ m % 256 = c.toNat / 256 ^ m % 256 := fun m hm => by rw [← byS_n a m hm, ← byS_n c m hm, h m hm]
 have g0 := g 0 (by decide); have g1 := g 1 (by decide); have g2 := g 2 (by decide); have g3 := g 3 (by decide)
 have g4 := g 4 (by decide); have g5 := g 5 (by decide); have g6 := g 6 (by decide); have g7 := g 7 (by decide)
 simp only [Nat.reducePow, Nat.div_one] at g0 g1 g2 g3 g4 g5 g6 g7
 omega
theorem xor_inj8 {x y z : UInt8} (h : x ^^^ y = x ^^^ z) : y = z := by
 have : x ^^^ (x ^^^ y) = x ^^^ (x ^^^ z) := by rw [h]
 rwa [← UInt8.xor_assoc, ← UInt8.xor_assoc, UInt8.xor_self, UInt8.zero_xor, UInt8.zero_xor] at this
theorem nonL_inj {S : List UInt8} {a c : UInt64} (h : nonL S a = nonL S c) : a = c := by
 unfold nonL at h
 simp only [List.cons.injEq, true_and, and_true] at h
 obtain ⟨h7, h6, h5, h4, h3, h2, h1, h0⟩ := h
 refine byS_inj fun m hm => ?_
 match m, hm with
 | 0, _ => exact xor_inj8 h0
 | 1, _ => exact xor_inj8 h1
 | 2, _ => exact xor_inj8 h2
 | 3, _ => exact xor_inj8 h3
 | 4, _ => exact xor_inj8 h4
 | 5, _ => exact xor_inj8 h5
 | 6, _ => exact xor_inj8 h6
 | 7, _ => exact xor_inj8 h7
theorem nonL_eq (S : List UInt8) (a c : UInt64) : (eqcs ((nonL S a).map SV.u8) ((nonL S c).map SV.u8) == (a == c)) = true := by
 by_cases h : a = c
 ·
  subst h; rw [eqcsU_rf]; simp
 ·
  have h1 : eqcs ((nonL S a).map SV.u8) ((nonL S c).map SV.u8) = false := by
   cases hq : eqcs ((nonL S a).map SV.u8) ((nonL S c).map SV.u8) with
   | false => rfl
   | true => exact absurd (nonL_inj (eqcsU_u8 _ _ hq rfl)) h
  rw [h1, beq_eq_false_iff_ne.2 h]; rfl
theorem sload3 {a b c : SV} {S : List UInt8} (h : S.length = 12) : sload true 12 (a :: b :: c :: S.map .u8) 3 = some (.agg (S.map .u8)) := by
 have hl : (S.map SV.u8).length = 12 := by rw [List.length_map, h]
 simp only [sload, if_true, List.length_cons, hl]
 show some (SV.agg (List.take 12 (S.map SV.u8))) = _
 rw [List.take_of_length_le (by omega)]
theorem f18_o (n : UInt16) (h : n = 0 ∨ 5 < n.toNat) (b : List UInt8) (kid a c : UInt64) : SCall Try.prog 18 [.u16 n, .sl 0 0 b.length 1 false, .u64 kid, .u64 a, .u64 c] [some (.ro (b.map .u8))] (.b true) [some (.ro (b.map .u8))] := by
 have q := f66_o n h
 refine scall_of ttOk (by kernel_rfl : Try.prog.funcs[18]? = some Try.f18) rfl rfl rfl ?_
 try simp only [List.length_cons, List.length_nil, Nat.zero_add, Nat.reduceAdd]
 refine sw_ok ttOk mixed (by kernel_rfl) ?_
 conv => whnf
 repeat (fail)
 refine ok1_callF [] [] true (f65) rfl rfl ⟨⟨rfl, by first | rfl | fail⟩, trivial, by first | rfl | fail, by first | rfl | fail, ?_⟩
 conv => whnf
 repeat (first | (refine brF rfl ?_; conv => whnf) | fail)
 refine ok1_callF [] [] true (q) rfl rfl ⟨⟨rfl, by first | rfl | fail⟩, trivial, by first | rfl | fail, by first | rfl | fail, ?_⟩
 conv => whnf
 repeat (first | (refine brT rfl ?_; conv => whnf) | (refine gdF rfl ?_; conv => whnf) | (refine Exists.intro _ (And.intro (sput_all rfl (by first | rfl | fail)) ?_); conv => whnf) | (refine Exists.intro _ (And.intro rfl ?_); conv => whnf) | (refine And.intro ⟨rfl, Nat.le_of_ble_eq_true rfl⟩ ?_; conv => whnf) | fail)
 refine ⟨[0], ?_, rfl, rfl, ?_, rfl⟩
 ·
  (repeat' (fail)) <;> first | rfl | fail
 ·
  (repeat' (first | exact trivial | refine And.intro ?_ ?_ | fail)) <;> first | exact ren_eq (by first | (simp; done) | fail) (by first | rfl | fail) | fail
attribute [local irreducible] mac_n mac_w exO_n exO_w nonL
theorem f18_1_x (b : List UInt8) (hb : b.length = 0 ∨ 500 < b.length) (kid a c : UInt64) : SCall Try.prog 18 [.u16 1, .sl 0 0 b.length 1 false, .u64 kid, .u64 a, .u64 c] [some (.ro (b.map .u8))] (.b true) [some (.ro (b.map .u8))] := by
 refine scall_of ttOk (by kernel_rfl : Try.prog.funcs[18]? = some Try.f18) rfl rfl rfl ?_
 try simp only [List.length_cons, List.length_nil, Nat.zero_add, Nat.reduceAdd]
 refine sw_ok ttOk mixed (by kernel_rfl) ?_
 conv => whnf
 repeat (fail)
 refine ok1_callF [] [] true (f65) rfl rfl ⟨⟨rfl, by first | rfl | fail⟩, trivial, by first | rfl | fail, by first | rfl | fail, ?_⟩
 conv => whnf
 repeat (first | (refine brF rfl ?_; conv => whnf) | fail)
 refine ok1_callF [] [] true (f66_1) rfl rfl ⟨⟨rfl, by first | rfl | fail⟩, trivial, by first | rfl | fail, by first | rfl | fail, ?_⟩
 conv => whnf
 by_cases hz : b.length = 0
 ·
  have e1 : ((b.length : Int) == 0) = true := by rw [hz]; rfl
  repeat (first | (refine brT rfl ?_; conv => whnf) | (refine gdT rfl ?_; conv => whnf) | (refine Exists.intro _ (And.intro (sput_all rfl (by first | rfl | fail)) ?_); conv => whnf) | (refine gdF e1 ?_; conv => whnf) | (refine pkT e1 ?_; conv => whnf) | (refine Exists.intro _ (And.intro rfl ?_); conv => whnf) | (refine And.intro ⟨rfl, Nat.le_of_ble_eq_true rfl⟩ ?_; conv => whnf) | fail)
  refine ⟨[0], ?_, rfl, rfl, ?_, rfl⟩
  ·
   (repeat' (fail)) <;> first | rfl | fail
  ·
   (repeat' (first | exact trivial | refine And.intro ?_ ?_ | fail)) <;> first | exact ren_eq (by first | (simp; done) | fail) (by first | rfl | fail) | fail
 ·
  have e1 : ((b.length : Int) == 0) = false := by rw [beq_eq_false_iff_ne]; omega
  have e2 : decide ((b.length : Int) > 500) = true := by simp; omega
  repeat (first | (refine gdT rfl ?_; conv => whnf) | (refine Exists.intro _ (And.intro (sput_all rfl (by first | rfl | fail)) ?_); conv => whnf) | (refine gdT e1 ?_; conv => whnf) | (refine pkF e1 ?_; conv => whnf) | (refine gdT e2 ?_; conv => whnf) | (refine Exists.intro _ (And.intro rfl ?_); conv => whnf) | (refine And.intro ⟨rfl, Nat.le_of_ble_eq_true rfl⟩ ?_; conv => whnf) | fail)
  refine ⟨[0], ?_, rfl, rfl, ?_, rfl⟩
  ·
   (repeat' (fail)) <;> first | rfl | fail
  ·
   (repeat' (first | exact trivial | refine And.intro ?_ ?_ | fail)) <;> first | exact ren_eq (by first | (simp; done) | fail) (by first | rfl | fail) | fail
theorem f18_1 (b : List UInt8) (h0 : 0 < b.length) (h1 : b.length ≤ 500) (kid a c : UInt64) : SCall Try.prog 18 [.u16 1, .sl 0 0 b.length 1 false, .u64 kid, .u64 a, .u64 c] [some (.ro (b.map .u8))] (.b true) [some (.ro (b.map .u8))] := by
 have q67 := f67_1 b h0 (by omega) false kid
 have q68 := f68_1 b h0 (by omega) false
 have l1 := exO_len_n (mac_n [] b) (infoL keyS kid 1) 2
 have l2 := exO_len_n (mac_n [] b) (infoL saltS kid 1) 1
 have l3 := exO_len_n (mac_n [] b) ratS 1
 obtain ⟨Y, hY⟩ : ∃ Y, Y = exO_n (mac_n [] b) (infoL keyS kid 1) 2 := ⟨_, rfl⟩
 obtain ⟨V, hV⟩ : ∃ Y, Y = exO_n (mac_n [] b) ratS 1 := ⟨_, rfl⟩
 have lS : ((exO_n (mac_n [] b) (infoL saltS kid 1) 1).take 12).length = 12 := by rw [List.length_take]; omega
 obtain ⟨S, hS⟩ : ∃ Y, Y = (exO_n (mac_n [] b) (infoL saltS kid 1) 1).take 12 := ⟨_, rfl⟩
 rw [← hY] at q67 l1
 rw [← hV] at q68 l3
 rw [← hS] at q67 lS
 clear hY hV hS l2
 have r1 := f70 1 kid a 48 true Y S lS
 have r2 := f70 1 kid c 48 true Y S lS
 have r3 := f70 1 kid 0 48 true Y S lS
 have e1 : ((b.length : Int) == 0) = false := by rw [beq_eq_false_iff_ne]; omega
 have e2 : decide ((b.length : Int) > 500) = false := by simp; omega
 have e3 := nonL_eq S a c
 have n1 := nonL_len S a
 have n2 := nonL_len S c
 have n3 := nonL_len S 0
 have e4 : eqcs ((nonL S 0).map SV.u8) (S.map SV.u8) = true := by rw [nonL_z lS]; exact eqcsU_rf S
 have e5 : (!(b == b)) = false := by simp
 have e6 : (!((List.take 48 (List.drop 0 Y)) == (List.take 48 (List.drop 0 Y)))) = false := by simp
 have e7 : (!eqcs (S.map SV.u8) (S.map SV.u8)) = false := by rw [eqcsU_rf]; rfl
 obtain ⟨N1, hN1⟩ : ∃ N, N = nonL S a := ⟨_, rfl⟩
 obtain ⟨N2, hN2⟩ : ∃ N, N = nonL S c := ⟨_, rfl⟩
 obtain ⟨N3, hN3⟩ : ∃ N, N = nonL S 0 := ⟨_, rfl⟩
 rw [← hN1] at r1 e3 n1
 rw [← hN2] at r2 e3 n2
 rw [← hN3] at r3 e4 n3
 clear hN1 hN2 hN3
 refine scall_of ttOk (by kernel_rfl : Try.prog.funcs[18]? = some Try.f18) rfl rfl rfl ?_
 try simp only [List.length_cons, List.length_nil, Nat.zero_add, Nat.reduceAdd]
 refine sw_ok ttOk mixed (by kernel_rfl) ?_
 conv => whnf
 repeat (fail)
 refine ok1_callF [] [] true (f65) rfl rfl ⟨⟨rfl, by first | rfl | fail⟩, trivial, by first | rfl | fail, by first | rfl | fail, ?_⟩
 conv => whnf
 repeat (first | (refine brF rfl ?_; conv => whnf) | fail)
 refine ok1_callF [] [] true (f66_1) rfl rfl ⟨⟨rfl, by first | rfl | fail⟩, trivial, by first | rfl | fail, by first | rfl | fail, ?_⟩
 conv => whnf
 repeat (first | (refine Exists.intro _ (And.intro bytesOf_all ?_); conv => whnf) | (refine gdT rfl ?_; conv => whnf) | (refine Exists.intro _ (And.intro (sput_all rfl (by first | rfl | fail)) ?_); conv => whnf) | (refine gdT e1 ?_; conv => whnf) | (refine pkF e1 ?_; conv => whnf) | (refine gdF e2 ?_; conv => whnf) | (refine Exists.intro _ (And.intro rfl ?_); conv => whnf) | (refine And.intro (by first | omega | (simp; done) | fail) ?_; conv => whnf) | (refine And.intro ⟨rfl, Nat.le_of_ble_eq_true rfl⟩ ?_; conv => whnf) | fail)
 refine ok1_callE [0] [some (.ro (b.map .u8)), some (.row 5 (Y.map .u8))] (.tup [.agg (.u16 1 :: .u64 kid :: .sl 2 0 48 1 true :: S.map .u8), .i 0]) (q67) rfl rfl ⟨⟨rfl, by first | rfl | fail⟩, by (repeat' (first | exact trivial | refine And.intro ?_ ?_)) <;> first | exact ren_m8 rfl | fail, by (repeat' (first | exact trivial | refine And.intro ?_ ?_)) <;> first | exact renB_plain _ (by first | (simp; done) | fail) | rfl, by first | (simp [renV, renL, renL_plain]; rfl), ?_⟩
 conv => whnf
 repeat (first | (refine Exists.intro _ (And.intro (sput_all rfl (by first | rfl | (simp [lS]; done) | fail)) ?_); conv => whnf) | (refine And.intro (by first | omega | (simp; omega) | fail) ?_; conv => whnf) | fail)
 refine ok1_callE [0] [some (.ro (b.map .u8)), some (.row 5 (Y.map .u8))] (.tup [.agg (.u16 1 :: .u64 kid :: .sl 4 0 48 1 true :: S.map .u8), .i 0]) (q67) rfl rfl ⟨⟨rfl, by first | rfl | fail⟩, by (repeat' (first | exact trivial | refine And.intro ?_ ?_)) <;> first | exact ren_m8 rfl | fail, by (repeat' (first | exact trivial | refine And.intro ?_ ?_)) <;> first | exact renB_plain _ (by first | (simp; done) | fail) | rfl, by first | (simp [renV, renL, renL_plain]; rfl), ?_⟩
 conv => whnf
 repeat (first | (refine Exists.intro _ (And.intro (sput_all rfl (by first | rfl | (simp [lS]; done) | fail)) ?_); conv => whnf) | (refine And.intro (by first | omega | (simp; omega) | fail) ?_; conv => whnf) | fail)
 refine ok1_callF [0] [false, true] false (q68) rfl rfl ⟨⟨rfl, by first | rfl | fail⟩, by (repeat' (first | exact trivial | refine And.intro ?_ ?_)) <;> first | exact ren_eq (by first | (simp; done) | fail) (by first | rfl | fail) | fail, by first | simp [plainHf, plainB], by first | rfl | fail, ?_⟩
 conv => whnf
 repeat (first | (refine Exists.intro _ (And.intro bytesOf_all ?_); conv => whnf) | (refine Exists.intro _ (And.intro (bytesOf_cut rfl) ?_); conv => whnf) | (refine gdT rfl ?_; conv => whnf) | (refine Exists.intro _ (And.intro (sload3 lS) ?_); conv => whnf) | (refine gdT e5 ?_; conv => whnf) | (refine pkF e5 ?_; conv => whnf) | (refine gdT e6 ?_; conv => whnf) | (refine Exists.intro _ (And.intro rfl ?_); conv => whnf) | (refine And.intro (by first | (simp; done) | (simp; omega) | fail) ?_; conv => whnf) | fail)
 refine And.intro (by exact ⟨kdU_u8n _ lS, kdU_u8n _ lS⟩) ?_
 conv => whnf
 repeat (first | (refine Exists.intro _ (And.intro (sload_all rfl (by first | rfl | (simp [lS, l1]; done) | fail)) ?_); conv => whnf) | (refine pkF e6 ?_; conv => whnf) | (refine gdF e7 ?_; conv => whnf) | fail)
 refine ok1_callF [2] [true] true (r1) rfl rfl ⟨⟨rfl, by first | ((repeat' (first | exact ren_m8 rfl | exact rfl | (refine wk_agg ?_) | (refine wk_cons ?_ ?_))); done) | fail⟩, by (repeat' (first | exact trivial | refine And.intro ?_ ?_)) <;> first | exact ren_eq (by first | (simp; done) | fail) (by first | rfl | fail) | fail, by first | simp [plainHf, plainB], by first | simp [plainRf, plainR, plainT, plainW], ?_⟩
 conv => whnf
 repeat (first | (refine Exists.intro _ (And.intro (sload_all rfl (by first | rfl | (simp [lS]; done) | fail)) ?_); conv => whnf) | fail)
 refine ok1_callF [2] [true] true (r2) rfl rfl ⟨⟨rfl, by first | ((repeat' (first | exact ren_m8 rfl | exact rfl | (refine wk_agg ?_) | (refine wk_cons ?_ ?_))); done) | fail⟩, by (repeat' (first | exact trivial | refine And.intro ?_ ?_)) <;> first | exact ren_eq (by first | (simp; done) | fail) (by first | rfl | fail) | fail, by first | simp [plainHf, plainB], by first | simp [plainRf, plainR, plainT, plainW], ?_⟩
 conv => whnf
 repeat (fail)
 refine And.intro (by exact ⟨kdU_u8n _ n1, kdU_u8n _ n2⟩) ?_
 conv => whnf
 repeat (first | (refine Exists.intro _ (And.intro (sload_all rfl (by first | rfl | (simp [lS]; done) | fail)) ?_); conv => whnf) | (refine gdT e3 ?_; conv => whnf) | (refine And.intro (by kernel_rfl) ?_; conv => whnf) | fail)
 refine ok1_callF [2] [true] true (r3) rfl rfl ⟨⟨rfl, by first | ((repeat' (first | exact ren_m8 rfl | exact rfl | (refine wk_agg ?_) | (refine wk_cons ?_ ?_))); done) | fail⟩, by (repeat' (first | exact trivial | refine And.intro ?_ ?_)) <;> first | exact ren_eq (by first | (simp; done) | fail) (by first | rfl | fail) | fail, by first | simp [plainHf, plainB], by first | simp [plainRf, plainR, plainT, plainW], ?_⟩
 conv => whnf
 repeat (first | (refine Exists.intro _ (And.intro (sload3 lS) ?_); conv => whnf) | (refine gdT e3 ?_; conv => whnf) | fail)
 refine And.intro (by exact ⟨kdU_u8n _ n3, kdU_u8n _ lS⟩) ?_
 conv => whnf
 repeat (first | (refine brT rfl ?_; conv => whnf) | (refine pkT e3 ?_; conv => whnf) | (refine gdT e4 ?_; conv => whnf) | (refine pkT e4 ?_; conv => whnf) | (refine Exists.intro _ (And.intro rfl ?_); conv => whnf) | (refine And.intro (by kernel_rfl) ?_; conv => whnf) | fail)
 refine ⟨[0], ?_, rfl, rfl, ?_, rfl⟩
 ·
  (repeat' (fail)) <;> first | rfl | fail
 ·
  (repeat' (first | exact trivial | refine And.intro ?_ ?_ | fail)) <;> first | exact ren_eq (by first | (simp; done) | fail) (by first | rfl | fail) | fail
theorem f18_2_x (b : List UInt8) (hb : b.length = 0 ∨ 500 < b.length) (kid a c : UInt64) : SCall Try.prog 18 [.u16 2, .sl 0 0 b.length 1 false, .u64 kid, .u64 a, .u64 c] [some (.ro (b.map .u8))] (.b true) [some (.ro (b.map .u8))] := by
 refine scall_of ttOk (by kernel_rfl : Try.prog.funcs[18]? = some Try.f18) rfl rfl rfl ?_
 try simp only [List.length_cons, List.length_nil, Nat.zero_add, Nat.reduceAdd]
 refine sw_ok ttOk mixed (by kernel_rfl) ?_
 conv => whnf
 repeat (fail)
 refine ok1_callF [] [] true (f65) rfl rfl ⟨⟨rfl, by first | rfl | fail⟩, trivial, by first | rfl | fail, by first | rfl | fail, ?_⟩
 conv => whnf
 repeat (first | (refine brF rfl ?_; conv => whnf) | fail)
 refine ok1_callF [] [] true (f66_2) rfl rfl ⟨⟨rfl, by first | rfl | fail⟩, trivial, by first | rfl | fail, by first | rfl | fail, ?_⟩
 conv => whnf
 by_cases hz : b.length = 0
 ·
  have e1 : ((b.length : Int) == 0) = true := by rw [hz]; rfl
  repeat (first | (refine brT rfl ?_; conv => whnf) | (refine gdT rfl ?_; conv => whnf) | (refine Exists.intro _ (And.intro (sput_all rfl (by first | rfl | fail)) ?_); conv => whnf) | (refine gdF e1 ?_; conv => whnf) | (refine pkT e1 ?_; conv => whnf) | (refine Exists.intro _ (And.intro rfl ?_); conv => whnf) | (refine And.intro ⟨rfl, Nat.le_of_ble_eq_true rfl⟩ ?_; conv => whnf) | fail)
  refine ⟨[0], ?_, rfl, rfl, ?_, rfl⟩
  ·
   (repeat' (fail)) <;> first | rfl | fail
  ·
   (repeat' (first | exact trivial | refine And.intro ?_ ?_ | fail)) <;> first | exact ren_eq (by first | (simp; done) | fail) (by first | rfl | fail) | fail
 ·
  have e1 : ((b.length : Int) == 0) = false := by rw [beq_eq_false_iff_ne]; omega
  have e2 : decide ((b.length : Int) > 500) = true := by simp; omega
  repeat (first | (refine gdT rfl ?_; conv => whnf) | (refine Exists.intro _ (And.intro (sput_all rfl (by first | rfl | fail)) ?_); conv => whnf) | (refine gdT e1 ?_; conv => whnf) | (refine pkF e1 ?_; conv => whnf) | (refine gdT e2 ?_; conv => whnf) | (refine Exists.intro _ (And.intro rfl ?_); conv => whnf) | (refine And.intro ⟨rfl, Nat.le_of_ble_eq_true rfl⟩ ?_; conv => whnf) | fail)
  refine ⟨[0], ?_, rfl, rfl, ?_, rfl⟩
  ·
   (repeat' (fail)) <;> first | rfl | fail
  ·
   (repeat' (first | exact trivial | refine And.intro ?_ ?_ | fail)) <;> first | exact ren_eq (by first | (simp; done) | fail) (by first | rfl | fail) | fail
theorem f18_2 (b : List UInt8) (h0 : 0 < b.length) (h1 : b.length ≤ 500) (kid a c : UInt64) : SCall Try.prog 18 [.u16 2, .sl 0 0 b.length 1 false, .u64 kid, .u64 a, .u64 c] [some (.ro (b.map .u8))] (.b true) [some (.ro (b.map .u8))] := by
 have q67 := f67_2 b h0 (by omega) false kid
 have q68 := f68_2 b h0 (by omega) false
 have l1 := exO_len_n (mac_n [] b) (infoL keyS kid 2) 2
 have l2 := exO_len_n (mac_n [] b) (infoL saltS kid 2) 1
 have l3 := exO_len_n (mac_n [] b) ratS 1
 obtain ⟨Y, hY⟩ : ∃ Y, Y = exO_n (mac_n [] b) (infoL keyS kid 2) 2 := ⟨_, rfl⟩
 obtain ⟨V, hV⟩ : ∃ Y, Y = exO_n (mac_n [] b) ratS 1 := ⟨_, rfl⟩
 have lS : ((exO_n (mac_n [] b) (infoL saltS kid 2) 1).take 12).length = 12 := by rw [List.length_take]; omega
 obtain ⟨S, hS⟩ : ∃ Y, Y = (exO_n (mac_n [] b) (infoL saltS kid 2) 1).take 12 := ⟨_, rfl⟩
 rw [← hY] at q67 l1
 rw [← hV] at q68 l3
 rw [← hS] at q67 lS
 clear hY hV hS l2
 have r1 := f70 2 kid a 48 true Y S lS
 have r2 := f70 2 kid c 48 true Y S lS
 have r3 := f70 2 kid 0 48 true Y S lS
 have e1 : ((b.length : Int) == 0) = false := by rw [beq_eq_false_iff_ne]; omega
 have e2 : decide ((b.length : Int) > 500) = false := by simp; omega
 have e3 := nonL_eq S a c
 have n1 := nonL_len S a
 have n2 := nonL_len S c
 have n3 := nonL_len S 0
 have e4 : eqcs ((nonL S 0).map SV.u8) (S.map SV.u8) = true := by rw [nonL_z lS]; exact eqcsU_rf S
 have e5 : (!(b == b)) = false := by simp
 have e6 : (!((List.take 48 (List.drop 0 Y)) == (List.take 48 (List.drop 0 Y)))) = false := by simp
 have e7 : (!eqcs (S.map SV.u8) (S.map SV.u8)) = false := by rw [eqcsU_rf]; rfl
 obtain ⟨N1, hN1⟩ : ∃ N, N = nonL S a := ⟨_, rfl⟩
 obtain ⟨N2, hN2⟩ : ∃ N, N = nonL S c := ⟨_, rfl⟩
 obtain ⟨N3, hN3⟩ : ∃ N, N = nonL S 0 := ⟨_, rfl⟩
 rw [← hN1] at r1 e3 n1
 rw [← hN2] at r2 e3 n2
 rw [← hN3] at r3 e4 n3
 clear hN1 hN2 hN3
 refine scall_of ttOk (by kernel_rfl : Try.prog.funcs[18]? = some Try.f18) rfl rfl rfl ?_
 try simp only [List.length_cons, List.length_nil, Nat.zero_add, Nat.reduceAdd]
 refine sw_ok ttOk mixed (by kernel_rfl) ?_
 conv => whnf
 repeat (fail)
 refine ok1_callF [] [] true (f65) rfl rfl ⟨⟨rfl, by first | rfl | fail⟩, trivial, by first | rfl | fail, by first | rfl | fail, ?_⟩
 conv => whnf
 repeat (first | (refine brF rfl ?_; conv => whnf) | fail)
 refine ok1_callF [] [] true (f66_2) rfl rfl ⟨⟨rfl, by first | rfl | fail⟩, trivial, by first | rfl | fail, by first | rfl | fail, ?_⟩
 conv => whnf
 repeat (first | (refine Exists.intro _ (And.intro bytesOf_all ?_); conv => whnf) | (refine gdT rfl ?_; conv => whnf) | (refine Exists.intro _ (And.intro (sput_all rfl (by first | rfl | fail)) ?_); conv => whnf) | (refine gdT e1 ?_; conv => whnf) | (refine pkF e1 ?_; conv => whnf) | (refine gdF e2 ?_; conv => whnf) | (refine Exists.intro _ (And.intro rfl ?_); conv => whnf) | (refine And.intro (by first | omega | (simp; done) | fail) ?_; conv => whnf) | (refine And.intro ⟨rfl, Nat.le_of_ble_eq_true rfl⟩ ?_; conv => whnf) | fail)
 refine ok1_callE [0] [some (.ro (b.map .u8)), some (.row 5 (Y.map .u8))] (.tup [.agg (.u16 2 :: .u64 kid :: .sl 2 0 48 1 true :: S.map .u8), .i 0]) (q67) rfl rfl ⟨⟨rfl, by first | rfl | fail⟩, by (repeat' (first | exact trivial | refine And.intro ?_ ?_)) <;> first | exact ren_m8 rfl | fail, by (repeat' (first | exact trivial | refine And.intro ?_ ?_)) <;> first | exact renB_plain _ (by first | (simp; done) | fail) | rfl, by first | (simp [renV, renL, renL_plain]; rfl), ?_⟩
 conv => whnf
 repeat (first | (refine Exists.intro _ (And.intro (sput_all rfl (by first | rfl | (simp [lS]; done) | fail)) ?_); conv => whnf) | (refine And.intro (by first | omega | (simp; omega) | fail) ?_; conv => whnf) | fail)
 refine ok1_callE [0] [some (.ro (b.map .u8)), some (.row 5 (Y.map .u8))] (.tup [.agg (.u16 2 :: .u64 kid :: .sl 4 0 48 1 true :: S.map .u8), .i 0]) (q67) rfl rfl ⟨⟨rfl, by first | rfl | fail⟩, by (repeat' (first | exact trivial | refine And.intro ?_ ?_)) <;> first | exact ren_m8 rfl | fail, by (repeat' (first | exact trivial | refine And.intro ?_ ?_)) <;> first | exact renB_plain _ (by first | (simp; done) | fail) | rfl, by first | (simp [renV, renL, renL_plain]; rfl), ?_⟩
 conv => whnf
 repeat (first | (refine Exists.intro _ (And.intro (sput_all rfl (by first | rfl | (simp [lS]; done) | fail)) ?_); conv => whnf) | (refine And.intro (by first | omega | (simp; omega) | fail) ?_; conv => whnf) | fail)
 refine ok1_callF [0] [false, true] false (q68) rfl rfl ⟨⟨rfl, by first | rfl | fail⟩, by (repeat' (first | exact trivial | refine And.intro ?_ ?_)) <;> first | exact ren_eq (by first | (simp; done) | fail) (by first | rfl | fail) | fail, by first | simp [plainHf, plainB], by first | rfl | fail, ?_⟩
 conv => whnf
 repeat (first | (refine Exists.intro _ (And.intro bytesOf_all ?_); conv => whnf) | (refine Exists.intro _ (And.intro (bytesOf_cut rfl) ?_); conv => whnf) | (refine gdT rfl ?_; conv => whnf) | (refine Exists.intro _ (And.intro (sload3 lS) ?_); conv => whnf) | (refine gdT e5 ?_; conv => whnf) | (refine pkF e5 ?_; conv => whnf) | (refine gdT e6 ?_; conv => whnf) | (refine Exists.intro _ (And.intro rfl ?_); conv => whnf) | (refine And.intro (by first | (simp; done) | (simp; omega) | fail) ?_; conv => whnf) | fail)
 refine And.intro (by exact ⟨kdU_u8n _ lS, kdU_u8n _ lS⟩) ?_
 conv => whnf
 repeat (first | (refine Exists.intro _ (And.intro (sload_all rfl (by first | rfl | (simp [lS, l1]; done) | fail)) ?_); conv => whnf) | (refine pkF e6 ?_; conv => whnf) | (refine gdF e7 ?_; conv => whnf) | fail)
 refine ok1_callF [2] [true] true (r1) rfl rfl ⟨⟨rfl, by first | ((repeat' (first | exact ren_m8 rfl | exact rfl | (refine wk_agg ?_) | (refine wk_cons ?_ ?_))); done) | fail⟩, by (repeat' (first | exact trivial | refine And.intro ?_ ?_)) <;> first | exact ren_eq (by first | (simp; done) | fail) (by first | rfl | fail) | fail, by first | simp [plainHf, plainB], by first | simp [plainRf, plainR, plainT, plainW], ?_⟩
 conv => whnf
 repeat (first | (refine Exists.intro _ (And.intro (sload_all rfl (by first | rfl | (simp [lS]; done) | fail)) ?_); conv => whnf) | fail)
 refine ok1_callF [2] [true] true (r2) rfl rfl ⟨⟨rfl, by first | ((repeat' (first | exact ren_m8 rfl | exact rfl | (refine wk_agg ?_) | (refine wk_cons ?_ ?_))); done) | fail⟩, by (repeat' (first | exact trivial | refine And.intro ?_ ?_)) <;> first | exact ren_eq (by first | (simp; done) | fail) (by first | rfl | fail) | fail, by first | simp [plainHf, plainB], by first | simp [plainRf, plainR, plainT, plainW], ?_⟩
 conv => whnf
 repeat (fail)
 refine And.intro (by exact ⟨kdU_u8n _ n1, kdU_u8n _ n2⟩) ?_
 conv => whnf
 repeat (first | (refine Exists.intro _ (And.intro (sload_all rfl (by first | rfl | (simp [lS]; done) | fail)) ?_); conv => whnf) | (refine gdT e3 ?_; conv => whnf) | (refine And.intro (by kernel_rfl) ?_; conv => whnf) | fail)
 refine ok1_callF [2] [true] true (r3) rfl rfl ⟨⟨rfl, by first | ((repeat' (first | exact ren_m8 rfl | exact rfl | (refine wk_agg ?_) | (refine wk_cons ?_ ?_))); done) | fail⟩, by (repeat' (first | exact trivial | refine And.intro ?_ ?_)) <;> first | exact ren_eq (by first | (simp; done) | fail) (by first | rfl | fail) | fail, by first | simp [plainHf, plainB], by first | simp [plainRf, plainR, plainT, plainW], ?_⟩
 conv => whnf
 repeat (first | (refine Exists.intro _ (And.intro (sload3 lS) ?_); conv => whnf) | (refine gdT e3 ?_; conv => whnf) | fail)
 refine And.intro (by exact ⟨kdU_u8n _ n3, kdU_u8n _ lS⟩) ?_
 conv => whnf
 repeat (first | (refine brT rfl ?_; conv => whnf) | (refine pkT e3 ?_; conv => whnf) | (refine gdT e4 ?_; conv => whnf) | (refine pkT e4 ?_; conv => whnf) | (refine Exists.intro _ (And.intro rfl ?_); conv => whnf) | (refine And.intro (by kernel_rfl) ?_; conv => whnf) | fail)
 refine ⟨[0], ?_, rfl, rfl, ?_, rfl⟩
 ·
  (repeat' (fail)) <;> first | rfl | fail
 ·
  (repeat' (first | exact trivial | refine And.intro ?_ ?_ | fail)) <;> first | exact ren_eq (by first | (simp; done) | fail) (by first | rfl | fail) | fail
theorem f18_3_x (b : List UInt8) (hb : b.length = 0 ∨ 500 < b.length) (kid a c : UInt64) : SCall Try.prog 18 [.u16 3, .sl 0 0 b.length 1 false, .u64 kid, .u64 a, .u64 c] [some (.ro (b.map .u8))] (.b true) [some (.ro (b.map .u8))] := by
 refine scall_of ttOk (by kernel_rfl : Try.prog.funcs[18]? = some Try.f18) rfl rfl rfl ?_
 try simp only [List.length_cons, List.length_nil, Nat.zero_add, Nat.reduceAdd]
 refine sw_ok ttOk mixed (by kernel_rfl) ?_
 conv => whnf
 repeat (fail)
 refine ok1_callF [] [] true (f65) rfl rfl ⟨⟨rfl, by first | rfl | fail⟩, trivial, by first | rfl | fail, by first | rfl | fail, ?_⟩
 conv => whnf
 repeat (first | (refine brF rfl ?_; conv => whnf) | fail)
 refine ok1_callF [] [] true (f66_3) rfl rfl ⟨⟨rfl, by first | rfl | fail⟩, trivial, by first | rfl | fail, by first | rfl | fail, ?_⟩
 conv => whnf
 by_cases hz : b.length = 0
 ·
  have e1 : ((b.length : Int) == 0) = true := by rw [hz]; rfl
  repeat (first | (refine brT rfl ?_; conv => whnf) | (refine gdT rfl ?_; conv => whnf) | (refine Exists.intro _ (And.intro (sput_all rfl (by first | rfl | fail)) ?_); conv => whnf) | (refine gdF e1 ?_; conv => whnf) | (refine pkT e1 ?_; conv => whnf) | (refine Exists.intro _ (And.intro rfl ?_); conv => whnf) | (refine And.intro ⟨rfl, Nat.le_of_ble_eq_true rfl⟩ ?_; conv => whnf) | fail)
  refine ⟨[0], ?_, rfl, rfl, ?_, rfl⟩
  ·
   (repeat' (fail)) <;> first | rfl | fail
  ·
   (repeat' (first | exact trivial | refine And.intro ?_ ?_ | fail)) <;> first | exact ren_eq (by first | (simp; done) | fail) (by first | rfl | fail) | fail
 ·
  have e1 : ((b.length : Int) == 0) = false := by rw [beq_eq_false_iff_ne]; omega
  have e2 : decide ((b.length : Int) > 500) = true := by simp; omega
  repeat (first | (refine gdT rfl ?_; conv => whnf) | (refine Exists.intro _ (And.intro (sput_all rfl (by first | rfl | fail)) ?_); conv => whnf) | (refine gdT e1 ?_; conv => whnf) | (refine pkF e1 ?_; conv => whnf) | (refine gdT e2 ?_; conv => whnf) | (refine Exists.intro _ (And.intro rfl ?_); conv => whnf) | (refine And.intro ⟨rfl, Nat.le_of_ble_eq_true rfl⟩ ?_; conv => whnf) | fail)
  refine ⟨[0], ?_, rfl, rfl, ?_, rfl⟩
  ·
   (repeat' (fail)) <;> first | rfl | fail
  ·
   (repeat' (first | exact trivial | refine And.intro ?_ ?_ | fail)) <;> first | exact ren_eq (by first | (simp; done) | fail) (by first | rfl | fail) | fail
theorem f18_3 (b : List UInt8) (h0 : 0 < b.length) (h1 : b.length ≤ 500) (kid a c : UInt64) : SCall Try.prog 18 [.u16 3, .sl 0 0 b.length 1 false, .u64 kid, .u64 a, .u64 c] [some (.ro (b.map .u8))] (.b true) [some (.ro (b.map .u8))] := by
 have q67 := f67_3 b h0 (by omega) false kid
 have q68 := f68_3 b h0 (by omega) false
 have l1 := exO_len_n (mac_n [] b) (infoL keyS kid 3) 2
 have l2 := exO_len_n (mac_n [] b) (infoL saltS kid 3) 1
 have l3 := exO_len_n (mac_n [] b) ratS 1
 obtain ⟨Y, hY⟩ : ∃ Y, Y = exO_n (mac_n [] b) (infoL keyS kid 3) 2 := ⟨_, rfl⟩
 obtain ⟨V, hV⟩ : ∃ Y, Y = exO_n (mac_n [] b) ratS 1 := ⟨_, rfl⟩
 have lS : ((exO_n (mac_n [] b) (infoL saltS kid 3) 1).take 12).length = 12 := by rw [List.length_take]; omega
 obtain ⟨S, hS⟩ : ∃ Y, Y = (exO_n (mac_n [] b) (infoL saltS kid 3) 1).take 12 := ⟨_, rfl⟩
 rw [← hY] at q67 l1
 rw [← hV] at q68 l3
 rw [← hS] at q67 lS
 clear hY hV hS l2
 have r1 := f70 3 kid a 48 true Y S lS
 have r2 := f70 3 kid c 48 true Y S lS
 have r3 := f70 3 kid 0 48 true Y S lS
 have e1 : ((b.length : Int) == 0) = false := by rw [beq_eq_false_iff_ne]; omega
 have e2 : decide ((b.length : Int) > 500) = false := by simp; omega
 have e3 := nonL_eq S a c
 have n1 := nonL_len S a
 have n2 := nonL_len S c
 have n3 := nonL_len S 0
 have e4 : eqcs ((nonL S 0).map SV.u8) (S.map SV.u8) = true := by rw [nonL_z lS]; exact eqcsU_rf S
 have e5 : (!(b == b)) = false := by simp
 have e6 : (!((List.take 48 (List.drop 0 Y)) == (List.take 48 (List.drop 0 Y)))) = false := by simp
 have e7 : (!eqcs (S.map SV.u8) (S.map SV.u8)) = false := by rw [eqcsU_rf]; rfl
 obtain ⟨N1, hN1⟩ : ∃ N, N = nonL S a := ⟨_, rfl⟩
 obtain ⟨N2, hN2⟩ : ∃ N, N = nonL S c := ⟨_, rfl⟩
 obtain ⟨N3, hN3⟩ : ∃ N, N = nonL S 0 := ⟨_, rfl⟩
 rw [← hN1] at r1 e3 n1
 rw [← hN2] at r2 e3 n2
 rw [← hN3] at r3 e4 n3
 clear hN1 hN2 hN3
 refine scall_of ttOk (by kernel_rfl : Try.prog.funcs[18]? = some Try.f18) rfl rfl rfl ?_
 try simp only [List.length_cons, List.length_nil, Nat.zero_add, Nat.reduceAdd]
 refine sw_ok ttOk mixed (by kernel_rfl) ?_
 conv => whnf
 repeat (fail)
 refine ok1_callF [] [] true (f65) rfl rfl ⟨⟨rfl, by first | rfl | fail⟩, trivial, by first | rfl | fail, by first | rfl | fail, ?_⟩
 conv => whnf
 repeat (first | (refine brF rfl ?_; conv => whnf) | fail)
 refine ok1_callF [] [] true (f66_3) rfl rfl ⟨⟨rfl, by first | rfl | fail⟩, trivial, by first | rfl | fail, by first | rfl | fail, ?_⟩
 conv => whnf
 repeat (first | (refine Exists.intro _ (And.intro bytesOf_all ?_); conv => whnf) | (refine gdT rfl ?_; conv => whnf) | (refine Exists.intro _ (And.intro (sput_all rfl (by first | rfl | fail)) ?_); conv => whnf) | (refine gdT e1 ?_; conv => whnf) | (refine pkF e1 ?_; conv => whnf) | (refine gdF e2 ?_; conv => whnf) | (refine Exists.intro _ (And.intro rfl ?_); conv => whnf) | (refine And.intro (by first | omega | (simp; done) | fail) ?_; conv => whnf) | (refine And.intro ⟨rfl, Nat.le_of_ble_eq_true rfl⟩ ?_; conv => whnf) | fail)
 refine ok1_callE [0] [some (.ro (b.map .u8)), some (.row 5 (Y.map .u8))] (.tup [.agg (.u16 3 :: .u64 kid :: .sl 2 0 48 1 true :: S.map .u8), .i 0]) (q67) rfl rfl ⟨⟨rfl, by first | rfl | fail⟩, by (repeat' (first | exact trivial | refine And.intro ?_ ?_)) <;> first | exact ren_m8 rfl | fail, by (repeat' (first | exact trivial | refine And.intro ?_ ?_)) <;> first | exact renB_plain _ (by first | (simp; done) | fail) | rfl, by first | (simp [renV, renL, renL_plain]; rfl), ?_⟩
 conv => whnf
 repeat (first | (refine Exists.intro _ (And.intro (sput_all rfl (by first | rfl | (simp [lS]; done) | fail)) ?_); conv => whnf) | (refine And.intro (by first | omega | (simp; omega) | fail) ?_; conv => whnf) | fail)
 refine ok1_callE [0] [some (.ro (b.map .u8)), some (.row 5 (Y.map .u8))] (.tup [.agg (.u16 3 :: .u64 kid :: .sl 4 0 48 1 true :: S.map .u8), .i 0]) (q67) rfl rfl ⟨⟨rfl, by first | rfl | fail⟩, by (repeat' (first | exact trivial | refine And.intro ?_ ?_)) <;> first | exact ren_m8 rfl | fail, by (repeat' (first | exact trivial | refine And.intro ?_ ?_)) <;> first | exact renB_plain _ (by first | (simp; done) | fail) | rfl, by first | (simp [renV, renL, renL_plain]; rfl), ?_⟩
 conv => whnf
 repeat (first | (refine Exists.intro _ (And.intro (sput_all rfl (by first | rfl | (simp [lS]; done) | fail)) ?_); conv => whnf) | (refine And.intro (by first | omega | (simp; omega) | fail) ?_; conv => whnf) | fail)
 refine ok1_callF [0] [false, true] false (q68) rfl rfl ⟨⟨rfl, by first | rfl | fail⟩, by (repeat' (first | exact trivial | refine And.intro ?_ ?_)) <;> first | exact ren_eq (by first | (simp; done) | fail) (by first | rfl | fail) | fail, by first | simp [plainHf, plainB], by first | rfl | fail, ?_⟩
 conv => whnf
 repeat (first | (refine Exists.intro _ (And.intro bytesOf_all ?_); conv => whnf) | (refine Exists.intro _ (And.intro (bytesOf_cut rfl) ?_); conv => whnf) | (refine gdT rfl ?_; conv => whnf) | (refine Exists.intro _ (And.intro (sload3 lS) ?_); conv => whnf) | (refine gdT e5 ?_; conv => whnf) | (refine pkF e5 ?_; conv => whnf) | (refine gdT e6 ?_; conv => whnf) | (refine Exists.intro _ (And.intro rfl ?_); conv => whnf) | (refine And.intro (by first | (simp; done) | (simp; omega) | fail) ?_; conv => whnf) | fail)
 refine And.intro (by exact ⟨kdU_u8n _ lS, kdU_u8n _ lS⟩) ?_
 conv => whnf
 repeat (first | (refine Exists.intro _ (And.intro (sload_all rfl (by first | rfl | (simp [lS, l1]; done) | fail)) ?_); conv => whnf) | (refine pkF e6 ?_; conv => whnf) | (refine gdF e7 ?_; conv => whnf) | fail)
 refine ok1_callF [2] [true] true (r1) rfl rfl ⟨⟨rfl, by first | ((repeat' (first | exact ren_m8 rfl | exact rfl | (refine wk_agg ?_) | (refine wk_cons ?_ ?_))); done) | fail⟩, by (repeat' (first | exact trivial | refine And.intro ?_ ?_)) <;> first | exact ren_eq (by first | (simp; done) | fail) (by first | rfl | fail) | fail, by first | simp [plainHf, plainB], by first | simp [plainRf, plainR, plainT, plainW], ?_⟩
 conv => whnf
 repeat (first | (refine Exists.intro _ (And.intro (sload_all rfl (by first | rfl | (simp [lS]; done) | fail)) ?_); conv => whnf) | fail)
 refine ok1_callF [2] [true] true (r2) rfl rfl ⟨⟨rfl, by first | ((repeat' (first | exact ren_m8 rfl | exact rfl | (refine wk_agg ?_) | (refine wk_cons ?_ ?_))); done) | fail⟩, by (repeat' (first | exact trivial | refine And.intro ?_ ?_)) <;> first | exact ren_eq (by first | (simp; done) | fail) (by first | rfl | fail) | fail, by first | simp [plainHf, plainB], by first | simp [plainRf, plainR, plainT, plainW], ?_⟩
 conv => whnf
 repeat (fail)
 refine And.intro (by exact ⟨kdU_u8n _ n1, kdU_u8n _ n2⟩) ?_
 conv => whnf
 repeat (first | (refine Exists.intro _ (And.intro (sload_all rfl (by first | rfl | (simp [lS]; done) | fail)) ?_); conv => whnf) | (refine gdT e3 ?_; conv => whnf) | (refine And.intro (by kernel_rfl) ?_; conv => whnf) | fail)
 refine ok1_callF [2] [true] true (r3) rfl rfl ⟨⟨rfl, by first | ((repeat' (first | exact ren_m8 rfl | exact rfl | (refine wk_agg ?_) | (refine wk_cons ?_ ?_))); done) | fail⟩, by (repeat' (first | exact trivial | refine And.intro ?_ ?_)) <;> first | exact ren_eq (by first | (simp; done) | fail) (by first | rfl | fail) | fail, by first | simp [plainHf, plainB], by first | simp [plainRf, plainR, plainT, plainW], ?_⟩
 conv => whnf
 repeat (first | (refine Exists.intro _ (And.intro (sload3 lS) ?_); conv => whnf) | (refine gdT e3 ?_; conv => whnf) | fail)
 refine And.intro (by exact ⟨kdU_u8n _ n3, kdU_u8n _ lS⟩) ?_
 conv => whnf
 repeat (first | (refine brT rfl ?_; conv => whnf) | (refine pkT e3 ?_; conv => whnf) | (refine gdT e4 ?_; conv => whnf) | (refine pkT e4 ?_; conv => whnf) | (refine Exists.intro _ (And.intro rfl ?_); conv => whnf) | (refine And.intro (by kernel_rfl) ?_; conv => whnf) | fail)
 refine ⟨[0], ?_, rfl, rfl, ?_, rfl⟩
 ·
  (repeat' (fail)) <;> first | rfl | fail
 ·
  (repeat' (first | exact trivial | refine And.intro ?_ ?_ | fail)) <;> first | exact ren_eq (by first | (simp; done) | fail) (by first | rfl | fail) | fail
theorem f18_4_x (b : List UInt8) (hb : b.length = 0 ∨ 500 < b.length) (kid a c : UInt64) : SCall Try.prog 18 [.u16 4, .sl 0 0 b.length 1 false, .u64 kid, .u64 a, .u64 c] [some (.ro (b.map .u8))] (.b true) [some (.ro (b.map .u8))] := by
 refine scall_of ttOk (by kernel_rfl : Try.prog.funcs[18]? = some Try.f18) rfl rfl rfl ?_
 try simp only [List.length_cons, List.length_nil, Nat.zero_add, Nat.reduceAdd]
 refine sw_ok ttOk mixed (by kernel_rfl) ?_
 conv => whnf
 repeat (fail)
 refine ok1_callF [] [] true (f65) rfl rfl ⟨⟨rfl, by first | rfl | fail⟩, trivial, by first | rfl | fail, by first | rfl | fail, ?_⟩
 conv => whnf
 repeat (first | (refine brF rfl ?_; conv => whnf) | fail)
 refine ok1_callF [] [] true (f66_4) rfl rfl ⟨⟨rfl, by first | rfl | fail⟩, trivial, by first | rfl | fail, by first | rfl | fail, ?_⟩
 conv => whnf
 by_cases hz : b.length = 0
 ·
  have e1 : ((b.length : Int) == 0) = true := by rw [hz]; rfl
  repeat (first | (refine brT rfl ?_; conv => whnf) | (refine gdT rfl ?_; conv => whnf) | (refine Exists.intro _ (And.intro (sput_all rfl (by first | rfl | fail)) ?_); conv => whnf) | (refine gdF e1 ?_; conv => whnf) | (refine pkT e1 ?_; conv => whnf) | (refine Exists.intro _ (And.intro rfl ?_); conv => whnf) | (refine And.intro ⟨rfl, Nat.le_of_ble_eq_true rfl⟩ ?_; conv => whnf) | fail)
  refine ⟨[0], ?_, rfl, rfl, ?_, rfl⟩
  ·
   (repeat' (fail)) <;> first | rfl | fail
  ·
   (repeat' (first | exact trivial | refine And.intro ?_ ?_ | fail)) <;> first | exact ren_eq (by first | (simp; done) | fail) (by first | rfl | fail) | fail
 ·
  have e1 : ((b.length : Int) == 0) = false := by rw [beq_eq_false_iff_ne]; omega
  have e2 : decide ((b.length : Int) > 500) = true := by simp; omega
  repeat (first | (refine gdT rfl ?_; conv => whnf) | (refine Exists.intro _ (And.intro (sput_all rfl (by first | rfl | fail)) ?_); conv => whnf) | (refine gdT e1 ?_; conv => whnf) | (refine pkF e1 ?_; conv => whnf) | (refine gdT e2 ?_; conv => whnf) | (refine Exists.intro _ (And.intro rfl ?_); conv => whnf) | (refine And.intro ⟨rfl, Nat.le_of_ble_eq_true rfl⟩ ?_; conv => whnf) | fail)
  refine ⟨[0], ?_, rfl, rfl, ?_, rfl⟩
  ·
   (repeat' (fail)) <;> first | rfl | fail
  ·
   (repeat' (first | exact trivial | refine And.intro ?_ ?_ | fail)) <;> first | exact ren_eq (by first | (simp; done) | fail) (by first | rfl | fail) | fail
theorem f18_4 (b : List UInt8) (h0 : 0 < b.length) (h1 : b.length ≤ 500) (kid a c : UInt64) : SCall Try.prog 18 [.u16 4, .sl 0 0 b.length 1 false, .u64 kid, .u64 a, .u64 c] [some (.ro (b.map .u8))] (.b true) [some (.ro (b.map .u8))] := by
 have q67 := f67_4 b h0 (by omega) false kid
 have q68 := f68_4 b h0 (by omega) false
 have l1 := exO_len_n (mac_n [] b) (infoL keyS kid 4) 1
 have l2 := exO_len_n (mac_n [] b) (infoL saltS kid 4) 1
 have l3 := exO_len_n (mac_n [] b) ratS 1
 obtain ⟨Y, hY⟩ : ∃ Y, Y = exO_n (mac_n [] b) (infoL keyS kid 4) 1 := ⟨_, rfl⟩
 obtain ⟨V, hV⟩ : ∃ Y, Y = exO_n (mac_n [] b) ratS 1 := ⟨_, rfl⟩
 have lS : ((exO_n (mac_n [] b) (infoL saltS kid 4) 1).take 12).length = 12 := by rw [List.length_take]; omega
 obtain ⟨S, hS⟩ : ∃ Y, Y = (exO_n (mac_n [] b) (infoL saltS kid 4) 1).take 12 := ⟨_, rfl⟩
 rw [← hY] at q67 l1
 rw [← hV] at q68 l3
 rw [← hS] at q67 lS
 clear hY hV hS l2
 have r1 := f70 4 kid a 16 true Y S lS
 have r2 := f70 4 kid c 16 true Y S lS
 have r3 := f70 4 kid 0 16 true Y S lS
 have e1 : ((b.length : Int) == 0) = false := by rw [beq_eq_false_iff_ne]; omega
 have e2 : decide ((b.length : Int) > 500) = false := by simp; omega
 have e3 := nonL_eq S a c
 have n1 := nonL_len S a
 have n2 := nonL_len S c
 have n3 := nonL_len S 0
 have e4 : eqcs ((nonL S 0).map SV.u8) (S.map SV.u8) = true := by rw [nonL_z lS]; exact eqcsU_rf S
 have e5 : (!(b == b)) = false := by simp
 have e6 : (!((List.take 16 (List.drop 0 Y)) == (List.take 16 (List.drop 0 Y)))) = false := by simp
 have e7 : (!eqcs (S.map SV.u8) (S.map SV.u8)) = false := by rw [eqcsU_rf]; rfl
 obtain ⟨N1, hN1⟩ : ∃ N, N = nonL S a := ⟨_, rfl⟩
 obtain ⟨N2, hN2⟩ : ∃ N, N = nonL S c := ⟨_, rfl⟩
 obtain ⟨N3, hN3⟩ : ∃ N, N = nonL S 0 := ⟨_, rfl⟩
 rw [← hN1] at r1 e3 n1
 rw [← hN2] at r2 e3 n2
 rw [← hN3] at r3 e4 n3
 clear hN1 hN2 hN3
 refine scall_of ttOk (by kernel_rfl : Try.prog.funcs[18]? = some Try.f18) rfl rfl rfl ?_
 try simp only [List.length_cons, List.length_nil, Nat.zero_add, Nat.reduceAdd]
 refine sw_ok ttOk mixed (by kernel_rfl) ?_
 conv => whnf
 repeat (fail)
 refine ok1_callF [] [] true (f65) rfl rfl ⟨⟨rfl, by first | rfl | fail⟩, trivial, by first | rfl | fail, by first | rfl | fail, ?_⟩
 conv => whnf
 repeat (first | (refine brF rfl ?_; conv => whnf) | fail)
 refine ok1_callF [] [] true (f66_4) rfl rfl ⟨⟨rfl, by first | rfl | fail⟩, trivial, by first | rfl | fail, by first | rfl | fail, ?_⟩
 conv => whnf
 repeat (first | (refine Exists.intro _ (And.intro bytesOf_all ?_); conv => whnf) | (refine gdT rfl ?_; conv => whnf) | (refine Exists.intro _ (And.intro (sput_all rfl (by first | rfl | fail)) ?_); conv => whnf) | (refine gdT e1 ?_; conv => whnf) | (refine pkF e1 ?_; conv => whnf) | (refine gdF e2 ?_; conv => whnf) | (refine Exists.intro _ (And.intro rfl ?_); conv => whnf) | (refine And.intro (by first | omega | (simp; done) | fail) ?_; conv => whnf) | (refine And.intro ⟨rfl, Nat.le_of_ble_eq_true rfl⟩ ?_; conv => whnf) | fail)
 refine ok1_callE [0] [some (.ro (b.map .u8)), some (.row 5 (Y.map .u8))] (.tup [.agg (.u16 4 :: .u64 kid :: .sl 2 0 16 1 true :: S.map .u8), .i 0]) (q67) rfl rfl ⟨⟨rfl, by first | rfl | fail⟩, by (repeat' (first | exact trivial | refine And.intro ?_ ?_)) <;> first | exact ren_m8 rfl | fail, by (repeat' (first | exact trivial | refine And.intro ?_ ?_)) <;> first | exact renB_plain _ (by first | (simp; done) | fail) | rfl, by first | (simp [renV, renL, renL_plain]; rfl), ?_⟩
 conv => whnf
 repeat (first | (refine Exists.intro _ (And.intro (sput_all rfl (by first | rfl | (simp [lS]; done) | fail)) ?_); conv => whnf) | (refine And.intro (by first | omega | (simp; omega) | fail) ?_; conv => whnf) | fail)
 refine ok1_callE [0] [some (.ro (b.map .u8)), some (.row 5 (Y.map .u8))] (.tup [.agg (.u16 4 :: .u64 kid :: .sl 4 0 16 1 true :: S.map .u8), .i 0]) (q67) rfl rfl ⟨⟨rfl, by first | rfl | fail⟩, by (repeat' (first | exact trivial | refine And.intro ?_ ?_)) <;> first | exact ren_m8 rfl | fail, by (repeat' (first | exact trivial | refine And.intro ?_ ?_)) <;> first | exact renB_plain _ (by first | (simp; done) | fail) | rfl, by first | (simp [renV, renL, renL_plain]; rfl), ?_⟩
 conv => whnf
 repeat (first | (refine Exists.intro _ (And.intro (sput_all rfl (by first | rfl | (simp [lS]; done) | fail)) ?_); conv => whnf) | (refine And.intro (by first | omega | (simp; omega) | fail) ?_; conv => whnf) | fail)
 refine ok1_callF [0] [false, true] false (q68) rfl rfl ⟨⟨rfl, by first | rfl | fail⟩, by (repeat' (first | exact trivial | refine And.intro ?_ ?_)) <;> first | exact ren_eq (by first | (simp; done) | fail) (by first | rfl | fail) | fail, by first | simp [plainHf, plainB], by first | rfl | fail, ?_⟩
 conv => whnf
 repeat (first | (refine Exists.intro _ (And.intro bytesOf_all ?_); conv => whnf) | (refine Exists.intro _ (And.intro (bytesOf_cut rfl) ?_); conv => whnf) | (refine gdT rfl ?_; conv => whnf) | (refine Exists.intro _ (And.intro (sload3 lS) ?_); conv => whnf) | (refine gdT e5 ?_; conv => whnf) | (refine pkF e5 ?_; conv => whnf) | (refine gdT e6 ?_; conv => whnf) | (refine Exists.intro _ (And.intro rfl ?_); conv => whnf) | (refine And.intro (by first | (simp; done) | (simp; omega) | fail) ?_; conv => whnf) | fail)
 refine And.intro (by exact ⟨kdU_u8n _ lS, kdU_u8n _ lS⟩) ?_
 conv => whnf
 repeat (first | (refine Exists.intro _ (And.intro (sload_all rfl (by first | rfl | (simp [lS, l1]; done) | fail)) ?_); conv => whnf) | (refine pkF e6 ?_; conv => whnf) | (refine gdF e7 ?_; conv => whnf) | fail)
 refine ok1_callF [2] [true] true (r1) rfl rfl ⟨⟨rfl, by first | ((repeat' (first | exact ren_m8 rfl | exact rfl | (refine wk_agg ?_) | (refine wk_cons ?_ ?_))); done) | fail⟩, by (repeat' (first | exact trivial | refine And.intro ?_ ?_)) <;> first | exact ren_eq (by first | (simp; done) | fail) (by first | rfl | fail) | fail, by first | simp [plainHf, plainB], by first | simp [plainRf, plainR, plainT, plainW], ?_⟩
 conv => whnf
 repeat (first | (refine Exists.intro _ (And.intro (sload_all rfl (by first | rfl | (simp [lS]; done) | fail)) ?_); conv => whnf) | fail)
 refine ok1_callF [2] [true] true (r2) rfl rfl ⟨⟨rfl, by first | ((repeat' (first | exact ren_m8 rfl | exact rfl | (refine wk_agg ?_) | (refine wk_cons ?_ ?_))); done) | fail⟩, by (repeat' (first | exact trivial | refine And.intro ?_ ?_)) <;> first | exact ren_eq (by first | (simp; done) | fail) (by first | rfl | fail) | fail, by first | simp [plainHf, plainB], by first | simp [plainRf, plainR, plainT, plainW], ?_⟩
 conv => whnf
 repeat (fail)
 refine And.intro (by exact ⟨kdU_u8n _ n1, kdU_u8n _ n2⟩) ?_
 conv => whnf
 repeat (first | (refine Exists.intro _ (And.intro (sload_all rfl (by first | rfl | (simp [lS]; done) | fail)) ?_); conv => whnf) | (refine gdT e3 ?_; conv => whnf) | (refine And.intro (by kernel_rfl) ?_; conv => whnf) | fail)
 refine ok1_callF [2] [true] true (r3) rfl rfl ⟨⟨rfl, by first | ((repeat' (first | exact ren_m8 rfl | exact rfl | (refine wk_agg ?_) | (refine wk_cons ?_ ?_))); done) | fail⟩, by (repeat' (first | exact trivial | refine And.intro ?_ ?_)) <;> first | exact ren_eq (by first | (simp; done) | fail) (by first | rfl | fail) | fail, by first | simp [plainHf, plainB], by first | simp [plainRf, plainR, plainT, plainW], ?_⟩
 conv => whnf
 repeat (first | (refine Exists.intro _ (And.intro (sload3 lS) ?_); conv => whnf) | (refine gdT e3 ?_; conv => whnf) | fail)
 refine And.intro (by exact ⟨kdU_u8n _ n3, kdU_u8n _ lS⟩) ?_
 conv => whnf
 repeat (first | (refine brT rfl ?_; conv => whnf) | (refine pkT e3 ?_; conv => whnf) | (refine gdT e4 ?_; conv => whnf) | (refine pkT e4 ?_; conv => whnf) | (refine Exists.intro _ (And.intro rfl ?_); conv => whnf) | (refine And.intro (by kernel_rfl) ?_; conv => whnf) | fail)
 refine ⟨[0], ?_, rfl, rfl, ?_, rfl⟩
 ·
  (repeat' (fail)) <;> first | rfl | fail
 ·
  (repeat' (first | exact trivial | refine And.intro ?_ ?_ | fail)) <;> first | exact ren_eq (by first | (simp; done) | fail) (by first | rfl | fail) | fail
theorem f18_5_x (b : List UInt8) (hb : b.length = 0 ∨ 500 < b.length) (kid a c : UInt64) : SCall Try.prog 18 [.u16 5, .sl 0 0 b.length 1 false, .u64 kid, .u64 a, .u64 c] [some (.ro (b.map .u8))] (.b true) [some (.ro (b.map .u8))] := by
 refine scall_of ttOk (by kernel_rfl : Try.prog.funcs[18]? = some Try.f18) rfl rfl rfl ?_
 try simp only [List.length_cons, List.length_nil, Nat.zero_add, Nat.reduceAdd]
 refine sw_ok ttOk mixed (by kernel_rfl) ?_
 conv => whnf
 repeat (fail)
 refine ok1_callF [] [] true (f65) rfl rfl ⟨⟨rfl, by first | rfl | fail⟩, trivial, by first | rfl | fail, by first | rfl | fail, ?_⟩
 conv => whnf
 repeat (first | (refine brF rfl ?_; conv => whnf) | fail)
 refine ok1_callF [] [] true (f66_5) rfl rfl ⟨⟨rfl, by first | rfl | fail⟩, trivial, by first | rfl | fail, by first | rfl | fail, ?_⟩
 conv => whnf
 by_cases hz : b.length = 0
 ·
  have e1 : ((b.length : Int) == 0) = true := by rw [hz]; rfl
  repeat (first | (refine brT rfl ?_; conv => whnf) | (refine gdT rfl ?_; conv => whnf) | (refine Exists.intro _ (And.intro (sput_all rfl (by first | rfl | fail)) ?_); conv => whnf) | (refine gdF e1 ?_; conv => whnf) | (refine pkT e1 ?_; conv => whnf) | (refine Exists.intro _ (And.intro rfl ?_); conv => whnf) | (refine And.intro ⟨rfl, Nat.le_of_ble_eq_true rfl⟩ ?_; conv => whnf) | fail)
  refine ⟨[0], ?_, rfl, rfl, ?_, rfl⟩
  ·
   (repeat' (fail)) <;> first | rfl | fail
  ·
   (repeat' (first | exact trivial | refine And.intro ?_ ?_ | fail)) <;> first | exact ren_eq (by first | (simp; done) | fail) (by first | rfl | fail) | fail
 ·
  have e1 : ((b.length : Int) == 0) = false := by rw [beq_eq_false_iff_ne]; omega
  have e2 : decide ((b.length : Int) > 500) = true := by simp; omega
  repeat (first | (refine gdT rfl ?_; conv => whnf) | (refine Exists.intro _ (And.intro (sput_all rfl (by first | rfl | fail)) ?_); conv => whnf) | (refine gdT e1 ?_; conv => whnf) | (refine pkF e1 ?_; conv => whnf) | (refine gdT e2 ?_; conv => whnf) | (refine Exists.intro _ (And.intro rfl ?_); conv => whnf) | (refine And.intro ⟨rfl, Nat.le_of_ble_eq_true rfl⟩ ?_; conv => whnf) | fail)
  refine ⟨[0], ?_, rfl, rfl, ?_, rfl⟩
  ·
   (repeat' (fail)) <;> first | rfl | fail
  ·
   (repeat' (first | exact trivial | refine And.intro ?_ ?_ | fail)) <;> first | exact ren_eq (by first | (simp; done) | fail) (by first | rfl | fail) | fail
theorem f18_5 (b : List UInt8) (h0 : 0 < b.length) (h1 : b.length ≤ 500) (kid a c : UInt64) : SCall Try.prog 18 [.u16 5, .sl 0 0 b.length 1 false, .u64 kid, .u64 a, .u64 c] [some (.ro (b.map .u8))] (.b true) [some (.ro (b.map .u8))] := by
 have q67 := f67_5 b h0 (by omega) false kid
 have q68 := f68_5 b h0 (by omega) false
 have l1 := exO_len_w (mac_w [] b) (infoL keyS kid 5) 1
 have l2 := exO_len_w (mac_w [] b) (infoL saltS kid 5) 1
 have l3 := exO_len_w (mac_w [] b) ratS 1
 obtain ⟨Y, hY⟩ : ∃ Y, Y = exO_w (mac_w [] b) (infoL keyS kid 5) 1 := ⟨_, rfl⟩
 obtain ⟨V, hV⟩ : ∃ Y, Y = exO_w (mac_w [] b) ratS 1 := ⟨_, rfl⟩
 have lS : ((exO_w (mac_w [] b) (infoL saltS kid 5) 1).take 12).length = 12 := by rw [List.length_take]; omega
 obtain ⟨S, hS⟩ : ∃ Y, Y = (exO_w (mac_w [] b) (infoL saltS kid 5) 1).take 12 := ⟨_, rfl⟩
 rw [← hY] at q67 l1
 rw [← hV] at q68 l3
 rw [← hS] at q67 lS
 clear hY hV hS l2
 have r1 := f70 5 kid a 32 true Y S lS
 have r2 := f70 5 kid c 32 true Y S lS
 have r3 := f70 5 kid 0 32 true Y S lS
 have e1 : ((b.length : Int) == 0) = false := by rw [beq_eq_false_iff_ne]; omega
 have e2 : decide ((b.length : Int) > 500) = false := by simp; omega
 have e3 := nonL_eq S a c
 have n1 := nonL_len S a
 have n2 := nonL_len S c
 have n3 := nonL_len S 0
 have e4 : eqcs ((nonL S 0).map SV.u8) (S.map SV.u8) = true := by rw [nonL_z lS]; exact eqcsU_rf S
 have e5 : (!(b == b)) = false := by simp
 have e6 : (!((List.take 32 (List.drop 0 Y)) == (List.take 32 (List.drop 0 Y)))) = false := by simp
 have e7 : (!eqcs (S.map SV.u8) (S.map SV.u8)) = false := by rw [eqcsU_rf]; rfl
 obtain ⟨N1, hN1⟩ : ∃ N, N = nonL S a := ⟨_, rfl⟩
 obtain ⟨N2, hN2⟩ : ∃ N, N = nonL S c := ⟨_, rfl⟩
 obtain ⟨N3, hN3⟩ : ∃ N, N = nonL S 0 := ⟨_, rfl⟩
 rw [← hN1] at r1 e3 n1
 rw [← hN2] at r2 e3 n2
 rw [← hN3] at r3 e4 n3
 clear hN1 hN2 hN3
 refine scall_of ttOk (by kernel_rfl : Try.prog.funcs[18]? = some Try.f18) rfl rfl rfl ?_
 try simp only [List.length_cons, List.length_nil, Nat.zero_add, Nat.reduceAdd]
 refine sw_ok ttOk mixed (by kernel_rfl) ?_
 conv => whnf
 repeat (fail)
 refine ok1_callF [] [] true (f65) rfl rfl ⟨⟨rfl, by first | rfl | fail⟩, trivial, by first | rfl | fail, by first | rfl | fail, ?_⟩
 conv => whnf
 repeat (first | (refine brF rfl ?_; conv => whnf) | fail)
 refine ok1_callF [] [] true (f66_5) rfl rfl ⟨⟨rfl, by first | rfl | fail⟩, trivial, by first | rfl | fail, by first | rfl | fail, ?_⟩
 conv => whnf
 repeat (first | (refine Exists.intro _ (And.intro bytesOf_all ?_); conv => whnf) | (refine gdT rfl ?_; conv => whnf) | (refine Exists.intro _ (And.intro (sput_all rfl (by first | rfl | fail)) ?_); conv => whnf) | (refine gdT e1 ?_; conv => whnf) | (refine pkF e1 ?_; conv => whnf) | (refine gdF e2 ?_; conv => whnf) | (refine Exists.intro _ (And.intro rfl ?_); conv => whnf) | (refine And.intro (by first | omega | (simp; done) | fail) ?_; conv => whnf) | (refine And.intro ⟨rfl, Nat.le_of_ble_eq_true rfl⟩ ?_; conv => whnf) | fail)
 refine ok1_callE [0] [some (.ro (b.map .u8)), some (.row 5 (Y.map .u8))] (.tup [.agg (.u16 5 :: .u64 kid :: .sl 2 0 32 1 true :: S.map .u8), .i 0]) (q67) rfl rfl ⟨⟨rfl, by first | rfl | fail⟩, by (repeat' (first | exact trivial | refine And.intro ?_ ?_)) <;> first | exact ren_m8 rfl | fail, by (repeat' (first | exact trivial | refine And.intro ?_ ?_)) <;> first | exact renB_plain _ (by first | (simp; done) | fail) | rfl, by first | (simp [renV, renL, renL_plain]; rfl), ?_⟩
 conv => whnf
 repeat (first | (refine Exists.intro _ (And.intro (sput_all rfl (by first | rfl | (simp [lS]; done) | fail)) ?_); conv => whnf) | (refine And.intro (by first | omega | (simp; omega) | fail) ?_; conv => whnf) | fail)
 refine ok1_callE [0] [some (.ro (b.map .u8)), some (.row 5 (Y.map .u8))] (.tup [.agg (.u16 5 :: .u64 kid :: .sl 4 0 32 1 true :: S.map .u8), .i 0]) (q67) rfl rfl ⟨⟨rfl, by first | rfl | fail⟩, by (repeat' (first | exact trivial | refine And.intro ?_ ?_)) <;> first | exact ren_m8 rfl | fail, by (repeat' (first | exact trivial | refine And.intro ?_ ?_)) <;> first | exact renB_plain _ (by first | (simp; done) | fail) | rfl, by first | (simp [renV, renL, renL_plain]; rfl), ?_⟩
 conv => whnf
 repeat (first | (refine Exists.intro _ (And.intro (sput_all rfl (by first | rfl | (simp [lS]; done) | fail)) ?_); conv => whnf) | (refine And.intro (by first | omega | (simp; omega) | fail) ?_; conv => whnf) | fail)
 refine ok1_callF [0] [false, true] false (q68) rfl rfl ⟨⟨rfl, by first | rfl | fail⟩, by (repeat' (first | exact trivial | refine And.intro ?_ ?_)) <;> first | exact ren_eq (by first | (simp; done) | fail) (by first | rfl | fail) | fail, by first | simp [plainHf, plainB], by first | rfl | fail, ?_⟩
 conv => whnf
 repeat (first | (refine Exists.intro _ (And.intro bytesOf_all ?_); conv => whnf) | (refine Exists.intro _ (And.intro (bytesOf_cut rfl) ?_); conv => whnf) | (refine gdT rfl ?_; conv => whnf) | (refine Exists.intro _ (And.intro (sload3 lS) ?_); conv => whnf) | (refine gdT e5 ?_; conv => whnf) | (refine pkF e5 ?_; conv => whnf) | (refine gdT e6 ?_; conv => whnf) | (refine Exists.intro _ (And.intro rfl ?_); conv => whnf) | (refine And.intro (by first | (simp; done) | (simp; omega) | fail) ?_; conv => whnf) | fail)
 refine And.intro (by exact ⟨kdU_u8n _ lS, kdU_u8n _ lS⟩) ?_
 conv => whnf
 repeat (first | (refine Exists.intro _ (And.intro (sload_all rfl (by first | rfl | (simp [lS, l1]; done) | fail)) ?_); conv => whnf) | (refine pkF e6 ?_; conv => whnf) | (refine gdF e7 ?_; conv => whnf) | fail)
 refine ok1_callF [2] [true] true (r1) rfl rfl ⟨⟨rfl, by first | ((repeat' (first | exact ren_m8 rfl | exact rfl | (refine wk_agg ?_) | (refine wk_cons ?_ ?_))); done) | fail⟩, by (repeat' (first | exact trivial | refine And.intro ?_ ?_)) <;> first | exact ren_eq (by first | (simp; done) | fail) (by first | rfl | fail) | fail, by first | simp [plainHf, plainB], by first | simp [plainRf, plainR, plainT, plainW], ?_⟩
 conv => whnf
 repeat (first | (refine Exists.intro _ (And.intro (sload_all rfl (by first | rfl | (simp [lS]; done) | fail)) ?_); conv => whnf) | fail)
 refine ok1_callF [2] [true] true (r2) rfl rfl ⟨⟨rfl, by first | ((repeat' (first | exact ren_m8 rfl | exact rfl | (refine wk_agg ?_) | (refine wk_cons ?_ ?_))); done) | fail⟩, by (repeat' (first | exact trivial | refine And.intro ?_ ?_)) <;> first | exact ren_eq (by first | (simp; done) | fail) (by first | rfl | fail) | fail, by first | simp [plainHf, plainB], by first | simp [plainRf, plainR, plainT, plainW], ?_⟩
 conv => whnf
 repeat (fail)
 refine And.intro (by exact ⟨kdU_u8n _ n1, kdU_u8n _ n2⟩) ?_
 conv => whnf
 repeat (first | (refine Exists.intro _ (And.intro (sload_all rfl (by first | rfl | (simp [lS]; done) | fail)) ?_); conv => whnf) | (refine gdT e3 ?_; conv => whnf) | (refine And.intro (by kernel_rfl) ?_; conv => whnf) | fail)
 refine ok1_callF [2] [true] true (r3) rfl rfl ⟨⟨rfl, by first | ((repeat' (first | exact ren_m8 rfl | exact rfl | (refine wk_agg ?_) | (refine wk_cons ?_ ?_))); done) | fail⟩, by (repeat' (first | exact trivial | refine And.intro ?_ ?_)) <;> first | exact ren_eq (by first | (simp; done) | fail) (by first | rfl | fail) | fail, by first | simp [plainHf, plainB], by first | simp [plainRf, plainR, plainT, plainW], ?_⟩
 conv => whnf
 repeat (first | (refine Exists.intro _ (And.intro (sload3 lS) ?_); conv => whnf) | (refine gdT e3 ?_; conv => whnf) | fail)
 refine And.intro (by exact ⟨kdU_u8n _ n3, kdU_u8n _ lS⟩) ?_
 conv => whnf
 repeat (first | (refine brT rfl ?_; conv => whnf) | (refine pkT e3 ?_; conv => whnf) | (refine gdT e4 ?_; conv => whnf) | (refine pkT e4 ?_; conv => whnf) | (refine Exists.intro _ (And.intro rfl ?_); conv => whnf) | (refine And.intro (by kernel_rfl) ?_; conv => whnf) | fail)
 refine ⟨[0], ?_, rfl, rfl, ?_, rfl⟩
 ·
  (repeat' (fail)) <;> first | rfl | fail
 ·
  (repeat' (first | exact trivial | refine And.intro ?_ ?_ | fail)) <;> first | exact ren_eq (by first | (simp; done) | fail) (by first | rfl | fail) | fail
theorem u16_cases (n : UInt16) : n = 1 ∨ n = 2 ∨ n = 3 ∨ n = 4 ∨ n = 5 ∨ n = 0 ∨ 5 < n.toNat := by
 have e : ∀ k : UInt16, n.toNat = k.toNat → n = k := fun k h => UInt16.toNat.inj h
 by_cases h : 5 < n.toNat
 ·
  simp [h]
 ·
  have h2 : n.toNat = 0 ∨ n.toNat = 1 ∨ n.toNat = 2 ∨ n.toNat = 3 ∨ n.toNat = 4 ∨ n.toNat = 5 := by omega
  rcases h2 with h | h | h | h | h | h
  ·
   have := e 0 h; simp [this]
  ·
   have := e 1 h; simp [this]
  ·
   have := e 2 h; simp [this]
  ·
   have := e 3 h; simp [this]
  ·
   have := e 4 h; simp [this]
  ·
   have := e 5 h; simp [this]
theorem f18 (n : UInt16) (b : List UInt8) (kid a c : UInt64) : SCall Try.prog 18 [.u16 n, .sl 0 0 b.length 1 false, .u64 kid, .u64 a, .u64 c] [some (.ro (b.map .u8))] (.b true) [some (.ro (b.map .u8))] := by
 by_cases hb : b.length = 0 ∨ 500 < b.length
 ·
  rcases u16_cases n with rfl | rfl | rfl | rfl | rfl | h
  ·
   exact f18_1_x b hb kid a c
  ·
   exact f18_2_x b hb kid a c
  ·
   exact f18_3_x b hb kid a c
  ·
   exact f18_4_x b hb kid a c
  ·
   exact f18_5_x b hb kid a c
  ·
   exact f18_o n h b kid a c
 ·
  rcases u16_cases n with rfl | rfl | rfl | rfl | rfl | h
  ·
   exact f18_1 b (by omega) (by omega) kid a c
  ·
   exact f18_2 b (by omega) (by omega) kid a c
  ·
   exact f18_3 b (by omega) (by omega) kid a c
  ·
   exact f18_4 b (by omega) (by omega) kid a c
  ·
   exact f18_5 b (by omega) (by omega) kid a c
  ·
   exact f18_o n h b kid a c
end Go.Sh
namespace Go.Sh
open Go.ChangeShapes Go.WideShapes Go.ChangeAt Go.RowKit
theorem Rels.of_get {ρ : Ren} : ∀ {xs : List SV} {vs : List Value}, xs.length = vs.length → (∀ (i : Nat) x, xs[i]? = some x → ∃ v, vs[i]? = some v ∧ Rel ρ x v) → Rels ρ xs vs
 | [], vs, hl, _ => by
  have : vs = [] := List.eq_nil_of_length_eq_zero (by simpa using hl.symm)
  subst this; exact Rels.nil_iff.2 rfl
 | x :: xs, [], hl, _ => by simp at hl
 | x :: xs, v :: vs, hl, h => by
  obtain ⟨u, hu, hr⟩ := h 0 x rfl
  simp at hu; subst hu
  exact Rels.cons hr (Rels.of_get (by simpa using hl) (fun i y hy => by simpa using h (i + 1) y (by simpa using hy)))
theorem calls_of_scall {P : Program} {f : Nat} {args : List SV} {H0 H1 : HL} (hc : SCall P f args H0 (.b true) H1) (hro : ∀ (id : Nat) b, hg H0 id = some b → b.own = false) {vs : List Value} {W : World} {ρ : Ren}
  (hvs : Rels ρ args vs) (hh : HRel ρ (hg H0) W) (hfr : ∀ id, H0.length ≤ id → ρ id = none) : Calls P f ⟨vs⟩ W fun e w' => e = .returned (.bool true) ∧ RowKit.Below W.heap.size W w' := by
 have h := hc.call 0 ρ W vs hvs hh (fun i j bi bj ri rj _ hi _ _ _ hown => by rw [hro i bi hi] at hown; cases hown) hfr
 refine (callsIn_wide.1 h).mono ?_
 intro e w' hr
 cases e with
 | returned v =>
  obtain ⟨ρ', h1, _, _, _, h5⟩ := hr
  simp only [Rel] at h1
  refine ⟨by rw [h1], h5.fr.below (fun x o _ hown => ?_)⟩
  obtain ⟨id, b, rb, g1, _, g3, _⟩ := hown
  rw [hro id b g1] at g3; cases g3
 | _ => exact hr.elim
theorem trodAll_stays {H : Type} {enc : TypeId × Value → H} {P : Program} (hl : laidOutB P = true) {W W' : World} (hb : RowKit.Below W.heap.size W W') : ∀ {ts : List TypeId} {vs : List Value} {ds : List (DataW H)} {ps : List MemPlace},
  (∀ t ∈ ts, P.readableRec t = true ∧ t < P.types.size) → DataW.TrodAll enc P W 0 (fun _ => true) true ts vs ds ps → (∀ x ∈ ps, x.block < W.heap.size) → ∀ sp : Nat → Bool, (∀ x ∈ ps, sp x.block = true) →
  DataW.TrodAll enc P W' 0 sp true ts vs ds ps
 | [], vs, ds, ps, _, h, _, sp, _ => by
  obtain ⟨rfl, rfl, rfl⟩ := trodAll_nil h
  exact trodAll_mk0
 | t :: ts, vs, ds, ps, ht, h, hlt, sp, hsp => by
  obtain ⟨v, vs', d, ds', p, q, rfl, rfl, rfl, h1, h2⟩ := trodAll_cons h
  obtain ⟨r1, r2⟩ := ht t (List.mem_cons_self ..)
  exact trodAll_cons_mk (WideElems.Trod_stays hl r1 r2 h1 (fun x hx => hb.same (hlt x (List.mem_append_left _ hx))) (fun x hx => hsp x (List.mem_append_left _ hx)))
   (trodAll_stays hl hb (fun u hu => ht u (List.mem_cons_of_mem _ hu)) h2 (fun x hx => hlt x (List.mem_append_right _ hx)) sp (fun x hx => hsp x (List.mem_append_right _ hx)))
theorem same_post {H : Type} {enc : TypeId × Value → H} {P : Program} {fn : Func} {s : ChangeSpec} {W W' : World} {args : Array Value} {ds gs : List (DataW H)} {before : List MemPlace} {bt : TypeId} {apart fresh handsOn again : Bool}
  (hl : laidOutB P = true) (hparams : ∀ t ∈ fn.params.toList, P.readableRec t = true ∧ t < P.types.size) (hbt : P.underlying bt = some .bool) (hrt : fn.resultTypes = #[bt]) (hvars : s.vars = [])
  (hW : DataW.Whole enc P fn.params.toList s.vars apart W args.toList ds gs before) (hspec : s.fn H ds = { results := [.lit (.bool true)], args := ds }) (hb : RowKit.Below W.heap.size W W') :
  s.post enc P fn apart fresh handsOn again W args (.bool true) W' := by
 have hlt := hW.lt
 have hW' := hW
 obtain ⟨p, q, hA, hV, rfl, hfz, hnd⟩ := hW
 rw [hvars] at hV
 obtain ⟨rfl, rfl⟩ := trodVars_none hV
 have hargs : ∀ sp : Nat → Bool, (∀ x ∈ p, sp x.block = true) → DataW.TrodAll enc P W' 0 sp true fn.params.toList args.toList ds p := fun sp hsp =>
  trodAll_stays hl hb hparams hA (fun x hx => hlt x (by simpa using hx)) sp hsp
 have hres : ∀ (b : Nat) (sp : Nat → Bool) (hd : Bool), DataW.TrodAll enc P W' b sp hd fn.resultTypes.toList ((Value.bool true).resultList fn.resultTypes.size) [.lit (.bool true)] [] := fun b sp hd => by
  rw [hrt]
  exact trodAll_cons_mk (shut_bool hbt _) trodAll_mk0
 refine ⟨ds, [], p ++ [], [], p, [], hW', ?_, ?_, ?_, World.keptBut_mono (fun x hx => ⟨hx, ?_⟩) (hb.frame (fun x => x ∈ p ++ [])), fun _ => ?_⟩
 ·
  rw [List.append_nil, hspec]; exact hres _ _ _
 ·
  rw [List.append_nil, hspec]
  exact hargs _ (fun x hx => by simpa using hlt x (by simpa using hx))
 ·
  rw [List.append_nil, hspec, hvars]
  rfl
 ·
  exact .inr (.inl (by simpa using hx))
 ·
  refine ⟨ok_one hrt rfl (okWide_bool_mk hbt _), _, [], ([] ++ p) ++ [], ⟨[] ++ p, [], trodAll_append (hargs _ (fun _ _ => rfl)) (hres _ _ _), by rw [hvars]; rfl, rfl, ?_, ?_⟩, ?_⟩
  ·
   intro b off hp
   have hpl := hlt (.cell b off) (by simpa using hp)
   rw [hb.frozen (p := ⟨b, off, none⟩) hpl]
   exact hfz b off (by simpa using hp)
  ·
   intro ha
   simpa using hnd ha
  ·
   intro x hx _
   simpa using hx
/-! ### What comes in, opened -/
theorem open_u64 {H : Type} {enc : TypeId × Value → H} {P : Program} {w : World} {base : Nat} {spare : Nat → Bool} {held : Bool} {r : Reach} {b0 : Nat} {t : TypeId} {v : Value} {d : DataW H} {ps : List MemPlace}
  (ht : P.underlying t = some (.int .u64)) (hval : Value.okWide P w r b0 t v) (hd : DataW.Trod enc P w base spare held t v d ps) : ∃ x : UInt64, ∀ ρ, Rel ρ (.u64 x) v := by
 obtain ⟨n, rfl, _, _, hw⟩ := open_int ht hval hd
 have hx : 0 ≤ n ∧ n < 18446744073709551616 := by
  simp only [Lit.wf, Bool.and_eq_true, decide_eq_true_eq, IntKind.min, IntKind.max, IntKind.signed, IntKind.bits] at hw
  have h2 := hw.2
  simp at h2 hw
  omega
 refine ⟨UInt64.ofNat n.toNat, fun ρ => ?_⟩
 simp only [Rel]
 congr 1
 simp only [UInt64.toNat_ofNat']
 omega
theorem atoms_u8 (l : List UInt8) : atoms (l.map .u8) = true := by induction l <;> simp_all [atoms, SV.atom]
theorem lits_length {H : Type} (k : IntKind) (zs : List Int) : (lits (H := H) k zs).length = zs.length := by simp [lits]
theorem open_bytes {H : Type} {enc : TypeId × Value → H} {P : Program} {w : World} {base : Nat} {r : Reach} {b0 : Nat} {t e : TypeId} {v : Value} {d : DataW H} {ps : List MemPlace}
  (ht : P.underlying t = some (.slice e)) (he : P.underlying e = some (.int .u8)) (hc : P.cellsOf e = 1) (hval : Value.okWide P w r b0 t v) (hd : DataW.Trod enc P w base (fun _ => true) true t v d ps) :
  ∃ (bs : List UInt8) (rb : RB), (∀ ρ id, ρ id = some rb → Rel ρ (.sl id 0 bs.length 1 false) v) ∧ (∀ ρ, BRel ρ w rb (.ro (bs.map .u8))) ∧
   (bs = [] ∨ ∃ zs rest : List Int, d = .slice (lits .u8 zs) (lits .u8 rest) ∧ zs.length = bs.length) := by
 obtain ⟨a, len, cap, rfl⟩ := okWide_slice ht hval
 obtain ⟨fuel, hf⟩ := hd
 have hcs : (Value.slice a len cap).cells.toList = [.slice a len cap] := rfl
 rw [hcs] at hf
 rcases open_ints ht he hc hf with ⟨h1, h2⟩ | ⟨a', len', cap', zs, h1, _, hlc, _, hzl, h2, hcell, hwf⟩
 ·
  cases h1
  refine ⟨[], ⟨0, 0, 0, true⟩, fun ρ id hr => ?_, fun ρ => .inl rfl, .inl rfl⟩
  simp only [Rel]
  exact ⟨_, none, 0, hr, rfl, Nat.le_refl _, fun h => (by cases h), .inl rfl⟩
 ·
  cases h1
  simp only [if_true] at hzl
  have hb : ∀ z ∈ zs, 0 ≤ z ∧ z < 256 := by
   intro z hz
   have hw := hwf z hz
   simp only [Lit.wf, Bool.and_eq_true, decide_eq_true_eq, IntKind.min, IntKind.max, IntKind.signed, IntKind.bits] at hw
   have h2 := hw.2
   simp at h2 hw
   omega
  have hbl : ((zs.take len).map fun z => UInt8.ofNat z.toNat).length = len := by simp; omega
  refine ⟨(zs.take len).map fun z => UInt8.ofNat z.toNat, ⟨a'.block, a'.off, cap, false⟩, fun ρ id hr => ?_, fun ρ => ?_, .inr ⟨zs.take len, zs.drop len, ?_, by simp⟩⟩
  ·
   rw [hbl]
   simp only [Rel]
   refine ⟨_, some a', cap, hr, rfl, hlc, fun h => (by cases h), ?_⟩
   by_cases h0 : cap = 0
   ·
    exact .inl h0
   ·
    right
    have := hcell 0 (by omega)
    have hsp : a'.spot = none := by
     unfold World.cell? at this
     split at this
     ·
      split at this
      ·
       cases this
      ·
       rename_i hs
       have : (a'.add 0).spot = a'.spot := by unfold Addr.add; split <;> simp_all
       rw [this] at hs
       simpa using hs
     ·
      cases this
    refine ⟨rfl, ?_, by simp⟩
    cases a'; simp at hsp; simp [hsp]
  ·
   by_cases h0 : len = 0
   ·
    left
    subst h0
    simp
   ·
    right
    have key : ∀ i, i < zs.length → ∃ c t fz, w.heap[a'.block]? = some (.cells c t fz) ∧ c[a'.off + i]? = some (.int .u8 (zs.getD i 0)) := by
     intro i hi
     have h := hcell i hi
     unfold World.cell? at h
     have e1 : (a'.add i).block = a'.block := by unfold Addr.add; split <;> rfl
     rw [e1] at h
     split at h
     ·
      rename_i c t fz hh
      split at h
      ·
       cases h
      ·
       rename_i hs
       have e2 : (a'.add i).off = a'.off + i := by
        unfold Addr.add at hs ⊢
        split
        ·
         simp_all
        ·
         rfl
       rw [e2] at h
       exact ⟨c, t, fz, hh, h⟩
     ·
      cases h
    obtain ⟨c, t2, fz, hh, _⟩ := key 0 (by omega)
    have key2 : ∀ i, i < zs.length → c[a'.off + i]? = some (.int .u8 (zs.getD i 0)) := by
     intro i hi
     obtain ⟨c', t', fz', hh', hv⟩ := key i hi
     rw [hh] at hh'; cases hh'
     exact hv
    have hsz : a'.off + len ≤ c.size := by
     have := key2 (len - 1) (by omega)
     have := (Array.getElem?_eq_some_iff.1 this).1
     omega
    refine ⟨⟨c, t2, fz, hh, atoms_u8 _, ?_, fun h => (by cases h), by simp; omega⟩, by simp; omega, rfl⟩
    apply Rels.of_get
    ·
     simp; omega
    ·
     intro i x hx
     have hi : i < len := by have := (List.getElem?_eq_some_iff.1 hx).1; simp at this; omega
     have hzi : i < zs.length := by omega
     have hg : zs.getD i 0 = zs[i] := by simp [hzi]
     simp only [List.map_map, List.getElem?_map, List.getElem?_take_of_lt hi, List.getElem?_eq_getElem hzi, Option.map_some, Option.some.injEq, Function.comp] at hx
     subst hx
     refine ⟨.int .u8 (zs.getD i 0), ?_, ?_⟩
     ·
      rw [List.length_map, hbl, List.getElem?_take_of_lt hi, List.getElem?_drop, Array.getElem?_toList]
      exact key2 i hzi
     ·
      rw [hg]
      simp only [Rel]
      have := hb zs[i] (List.getElem_mem hzi)
      congr 1
      simp only [UInt8.toNat_ofNat']
      omega
  ·
   have := congrArg Prod.fst h2
   exact this
end Go.Sh
namespace Go.Sh
open Go.ChangeShapes Go.WideShapes Go.ChangeAt Go.RowKit
section
variable {H : Type} {enc : TypeId × Value → H} {P : Program} {w : World} {base : Nat} {spare : Nat → Bool} {held : Bool}
def Rd (enc : TypeId × Value → H) (P : Program) (w : World) (base : Nat) (spare : Nat → Bool) (held : Bool) (t : TypeId) (cs : List Value) : Prop := ∃ fuel x, DataW.trod enc P w base spare held fuel t cs = some x
theorem psz_cells {t : TypeId} {n : Nat} (h : psz P t = some n) : P.cellsOf t = n := by
 unfold psz at h; unfold Program.cellsOf; rw [h]; rfl
theorem chunks {ks : List Nat} {R : List Value → Prop} (hR : ∀ c, R c → ∃ xs : List SV, xs.map kd = ks.map some ∧ ∀ ρ, Rels ρ xs c) (cs : List Value) : ∀ n : Nat, n * ks.length ≤ cs.length →
  (∀ i, i < n → R ((cs.drop (i * ks.length)).take ks.length)) → ∃ xs : List SV, xs.map kd = (List.replicate n ks).flatten.map some ∧ ∀ ρ, Rels ρ xs (cs.take (n * ks.length))
 | 0, _, _ => ⟨[], by simp, fun ρ => by simp [Rels]⟩
 | n + 1, hl, h => by
  have hn : (n + 1) * ks.length = n * ks.length + ks.length := by rw [Nat.add_mul]; omega
  obtain ⟨xs, hx, hxr⟩ := chunks hR cs n (by omega) (fun i hi => h i (by omega))
  obtain ⟨ys, hy, hyr⟩ := hR _ (h n (by omega))
  refine ⟨xs ++ ys, ?_, fun ρ => ?_⟩
  ·
   rw [List.map_append, hx, hy, List.replicate_succ', List.flatten_concat, List.map_append]
  ·
   rw [hn, List.take_add]
   exact Rels.append (hxr ρ) (hyr ρ)
theorem int_kd {k : IntKind} {q : Nat} {n : Int} (hk : kdT (.int k) = some q) (hw : (Lit.int k n).wf = true) : ∃ x : SV, kd x = some q ∧ ∀ ρ, Rel ρ x (.int k n) := by
 cases k <;> simp only [kdT] at hk <;> (try (cases hk; done)) <;> simp only [Option.some.injEq] at hk <;> subst hk
 ·
  exact ⟨.i n, rfl, fun ρ => by simp only [Rel]⟩
 all_goals
  simp only [Lit.wf, Bool.and_eq_true, decide_eq_true_eq, IntKind.min, IntKind.max, IntKind.signed, IntKind.bits] at hw
  have h2 := hw.2
  simp at h2 hw
 ·
  exact ⟨.u8 (UInt8.ofNat n.toNat), rfl, fun ρ => by simp only [Rel, UInt8.toNat_ofNat']; congr 1; omega⟩
 ·
  exact ⟨.u16 (UInt16.ofNat n.toNat), rfl, fun ρ => by simp only [Rel, UInt16.toNat_ofNat']; congr 1; omega⟩
 ·
  exact ⟨.u32 (UInt32.ofNat n.toNat), rfl, fun ρ => by simp only [Rel, UInt32.toNat_ofNat']; congr 1; omega⟩
 ·
  exact ⟨.u64 (UInt64.ofNat n.toNat), rfl, fun ρ => by simp only [Rel, UInt64.toNat_ofNat']; congr 1; omega⟩
theorem open_kinds_both : ∀ d : Nat,
  (∀ {t : TypeId} {ks : List Nat}, kinds P d t = some ks → ∀ {cs : List Value}, Rd enc P w base spare held t cs → ∃ xs : List SV, xs.map kd = ks.map some ∧ ∀ ρ, Rels ρ xs cs) ∧
  (∀ {off : Nat} {fs : List Field} {ks : List Nat}, kindsF P d off fs = some ks → ∀ {cs : List Value}, (∀ f ∈ fs, Rd enc P w base spare held f.type ((cs.drop f.offset).take (P.cellsOf f.type))) → off + ks.length ≤ cs.length →
   ∃ xs : List SV, xs.map kd = ks.map some ∧ ∀ ρ, Rels ρ xs ((cs.drop off).take ks.length))
 | 0 => by
  refine ⟨fun h => by simp [kinds] at h, fun {off fs ks} h => ?_⟩
  cases fs with
  | nil => simp [kindsF] at h; subst h; intro cs _ _; exact ⟨[], rfl, fun ρ => by simp [Rels]⟩
  | cons f fs => simp [kindsF] at h
 | d + 1 => by
  obtain ⟨ihA, ihB⟩ := open_kinds_both d
  refine ⟨fun {t ks} h {cs} hr => ?_, fun {off fs ks} h {cs} hr hl => ?_⟩
  ·
   obtain ⟨fuel, x, hx⟩ := hr
   have hsz := kinds_size h
   simp only [kinds] at h
   split at h
   ·
    rename_i fs hu
    split at h
    ·
     cases h
    ·
     obtain ⟨ks', h1, h2⟩ := Option.bind_eq_some_iff.1 h
     split at h2
     ·
      cases h2
      obtain ⟨xs, n, rfl, rfl, hcl, hxl, hf⟩ := DataW.trod_struct hu hx
      have hcs : cs.length = ks.length := by rw [hcl, psz_cells hsz]
      obtain ⟨ys, hy, hyr⟩ := ihB h1 (cs := cs) (fun f hfm => by
       obtain ⟨i, hi, hfi⟩ := List.getElem_of_mem hfm
       have hi' : i < fs.size := by simpa using hi
       have hget : fs[i]? = some f := by rw [Array.getElem?_eq_getElem hi']; simpa using hfi
       have := hf i f hget
       rw [List.getElem?_eq_getElem (by omega : i < xs.length)] at this
       exact ⟨n, _, this⟩) (by omega)
      refine ⟨ys, hy, fun ρ => ?_⟩
      have := hyr ρ
      rwa [List.drop_zero, List.take_of_length_le (by omega)] at this
     ·
      cases h2
   ·
    rename_i n e hu
    obtain ⟨ks', h1, h2⟩ := Option.bind_eq_some_iff.1 h
    split at h2
    ·
     rename_i hps
     cases h2
     obtain ⟨xs, m, rfl, rfl, hcl, hxl, hf⟩ := DataW.trod_array hu hx
     have hcs : cs.length = n * ks'.length := by rw [hcl, psz_cells hps]
     have he : P.cellsOf e = ks'.length := psz_cells (kinds_size h1)
     obtain ⟨ys, hy, hyr⟩ := chunks (R := fun c => Rd enc P w base spare held e c) (fun c hc => ihA h1 hc) cs n (by omega) (fun i hi => by
      have := hf i hi
      rw [he, List.getElem?_eq_getElem (by omega : i < xs.length)] at this
      exact ⟨m, _, this⟩)
     refine ⟨ys, hy, fun ρ => ?_⟩
     have := hyr ρ
     rwa [List.take_of_length_le (by omega)] at this
    ·
     cases h2
   ·
    rename_i ds hns hna hu
    obtain ⟨k, h1, h2⟩ := Option.bind_eq_some_iff.1 h
    split at h2
    ·
     cases h2
     cases ds with
     | int kk =>
      obtain ⟨n, rfl, _, hw⟩ := DataW.trod_int hu hx
      obtain ⟨y, hy, hyr⟩ := int_kd h1 hw
      exact ⟨[y], by simp [hy], fun ρ => Rels.cons (hyr ρ) (Rels.nil_iff.2 rfl)⟩
     | bool =>
      obtain ⟨b, rfl, _⟩ := DataW.trod_bool hu hx
      simp only [kdT, Option.some.injEq] at h1; subst h1
      exact ⟨[.b b], rfl, fun ρ => Rels.cons (by simp only [Rel]) (Rels.nil_iff.2 rfl)⟩
     | string =>
      obtain ⟨s, rfl, _, _⟩ := DataW.trod_string hu hx
      simp only [kdT, Option.some.injEq] at h1; subst h1
      exact ⟨[.s s.data.toList], rfl, fun ρ => Rels.cons (by simp only [Rel]) (Rels.nil_iff.2 rfl)⟩
     | _ => simp [kdT] at h1
    ·
     cases h2
   ·
    cases h
  ·
   cases fs with
   | nil => simp [kindsF] at h; subst h; exact ⟨[], rfl, fun ρ => by simp [Rels]⟩
   | cons f fs =>
    simp only [kindsF] at h
    split at h
    ·
     rename_i hf
     obtain ⟨k1, h1, h2⟩ := Option.bind_eq_some_iff.1 h
     obtain ⟨k2, h3, h4⟩ := Option.map_eq_some_iff.1 h2
     subst h4
     have he : P.cellsOf f.type = k1.length := psz_cells (kinds_size h1)
     have hr1 := hr f (List.mem_cons_self ..)
     rw [hf.2, he] at hr1
     simp only [List.length_append] at hl
     obtain ⟨xs, hx, hxr⟩ := ihA h1 hr1
     obtain ⟨ys, hy, hyr⟩ := ihB h3 (cs := cs) (fun g hg => hr g (List.mem_cons_of_mem _ hg)) (by omega)
     refine ⟨xs ++ ys, by simp [hx, hy], fun ρ => ?_⟩
     rw [List.length_append, List.take_add, List.drop_drop]
     exact Rels.append (hxr ρ) (hyr ρ)
    ·
     cases h
theorem open_kinds {d : Nat} {t : TypeId} {ks : List Nat} (h : kinds P d t = some ks) {cs : List Value} (hr : Rd enc P w base spare held t cs) : ∃ xs : List SV, xs.map kd = ks.map some ∧ ∀ ρ, Rels ρ xs cs :=
 (open_kinds_both d).1 h hr
/-! ### Kinds, told -/
theorem kd_0 {x : SV} (h : kd x = some 0) : ∃ n, x = .i n := by cases x <;> simp [kd] at h; exact ⟨_, rfl⟩
theorem kd_1 {x : SV} (h : kd x = some 1) : ∃ n, x = .u8 n := by cases x <;> simp [kd] at h; exact ⟨_, rfl⟩
theorem kd_2 {x : SV} (h : kd x = some 2) : ∃ n, x = .u16 n := by cases x <;> simp [kd] at h; exact ⟨_, rfl⟩
theorem kd_3 {x : SV} (h : kd x = some 3) : ∃ n, x = .u32 n := by cases x <;> simp [kd] at h; exact ⟨_, rfl⟩
theorem kd_4 {x : SV} (h : kd x = some 4) : ∃ n, x = .u64 n := by cases x <;> simp [kd] at h; exact ⟨_, rfl⟩
theorem kd_5 {x : SV} (h : kd x = some 5) : ∃ n, x = .b n := by cases x <;> simp [kd] at h; exact ⟨_, rfl⟩
theorem kd_nil {xs : List SV} (h : xs.map kd = ([] : List Nat).map some) : xs = [] := by simpa using h
theorem kd_cons {xs : List SV} {k : Nat} {ks : List Nat} (h : xs.map kd = (k :: ks).map some) : ∃ x ys, xs = x :: ys ∧ kd x = some k ∧ ys.map kd = ks.map some := by
 cases xs with
 | nil => simp at h
 | cons x ys => simp at h; exact ⟨x, ys, rfl, h.1, h.2⟩
theorem kd_append {xs : List SV} {k1 k2 : List Nat} (h : xs.map kd = (k1 ++ k2).map some) : ∃ ys zs, xs = ys ++ zs ∧ ys.map kd = k1.map some ∧ zs.map kd = k2.map some := by
 refine ⟨xs.take k1.length, xs.drop k1.length, (List.take_append_drop ..).symm, ?_, ?_⟩
 ·
  rw [List.map_take, h, List.map_append, List.take_left' (by simp)]
 ·
  rw [List.map_drop, h, List.map_append, List.drop_left' (by simp)]
theorem kd_rep {α : Type} {f : α → SV} {k : Nat} (hf : ∀ x, kd x = some k → ∃ a, x = f a) : ∀ {n : Nat} {xs : List SV}, xs.map kd = (List.replicate n k).map some → ∃ l : List α, xs = l.map f ∧ l.length = n
 | 0, xs, h => by
  have : xs = [] := kd_nil h
  subst this; exact ⟨[], rfl, rfl⟩
 | n + 1, xs, h => by
  rw [List.replicate_succ] at h
  obtain ⟨x, ys, rfl, hx, hy⟩ := kd_cons h
  obtain ⟨a, rfl⟩ := hf x hx
  obtain ⟨l, rfl, hl⟩ := kd_rep hf hy
  exact ⟨a :: l, rfl, by simp [hl]⟩
theorem kd_atoms : ∀ {xs : List SV} {ks : List Nat}, xs.map kd = ks.map some → atoms xs = true
 | [], _, _ => rfl
 | x :: xs, [], h => by simp at h
 | x :: xs, k :: ks, h => by
  simp only [List.map_cons, List.cons.injEq] at h
  simp only [atoms, List.all_cons, kd_atom h.1, Bool.true_and]
  exact kd_atoms h.2
theorem open_agg_k {r : Reach} {b0 d : Nat} {t : TypeId} {ks : List Nat} {v : Value} {y : DataW H} {ps : List MemPlace} (hk : kinds P d t = some ks) (ha : isRow P t = true) (hval : Value.okWide P w r b0 t v) (hd : DataW.Trod enc P w base spare held t v y ps) :
  ∃ xs : List SV, xs.map kd = ks.map some ∧ ∀ ρ, Rel ρ (.agg xs) v := by
 have : ∃ cs, v = .agg cs := by
  unfold Value.okWide at hval
  unfold isRow at ha
  cases hu : P.underlying t with
  | none => rw [hu] at ha; cases ha
  | some ds =>
   rw [hu] at ha hval
   cases ds <;> first | (simp at ha; done) | (obtain ⟨cs, h, _⟩ := hval; exact ⟨cs, h⟩)
 obtain ⟨cs, rfl⟩ := this
 obtain ⟨fuel, hf⟩ := hd
 obtain ⟨xs, hx, hxr⟩ := open_kinds hk (cs := cs.toList) ⟨fuel, _, hf⟩
 refine ⟨xs, hx, fun ρ => ?_⟩
 simp only [Rel]
 exact ⟨cs.toList, rfl, kd_atoms hx, hxr ρ⟩
theorem open_one_k {r : Reach} {b0 k : Nat} {t : TypeId} {ds : TypeDesc} {v : Value} {y : DataW H} {ps : List MemPlace} (hu : P.underlying t = some ds) (hk : kdT ds = some k) (hk6 : k ≠ 6) (hval : Value.okWide P w r b0 t v) (hd : DataW.Trod enc P w base spare held t v y ps) :
  ∃ x : SV, kd x = some k ∧ ∀ ρ, Rel ρ x v := by
 cases ds with
 | int kk =>
  obtain ⟨n, rfl, _, _, hw⟩ := open_int hu hval hd
  exact int_kd hk hw
 | bool =>
  obtain ⟨b, rfl, _⟩ := open_bool hu hval hd
  simp only [kdT, Option.some.injEq] at hk; subst hk
  exact ⟨.b b, rfl, fun ρ => by simp only [Rel]⟩
 | string => simp only [kdT, Option.some.injEq] at hk; exact absurd hk.symm hk6
 | _ => simp [kdT] at hk
/-! ### Rows -/
theorem cells_get {a : Addr} {n : Nat} {l : List Value} (h : w.cells? base a n = some l) : l.length = n ∧ ∀ i, i < n → w.cell? (a.add i) = l[i]? := by
 unfold World.cells? at h
 split at h
 ·
  refine ⟨by simpa using mapM_some_length h, fun i hi => ?_⟩
  simpa using mapM_some_get h i i (by simp [hi])
 ·
  cases h
theorem addr_add (a : Addr) (i : Nat) (h : a.spot = none) : a.add i = ⟨a.block, a.off + i, none⟩ := by
 cases a; simp only at h; subst h
 unfold Addr.add
 split
 ·
  rename_i h0; subst h0; rfl
 ·
  rfl
theorem addr_block (a : Addr) (i : Nat) : (a.add i).block = a.block := by unfold Addr.add; split <;> rfl
theorem addr_zero (a : Addr) : a.add 0 = a := by simp [Addr.add]
structure Row (enc : TypeId × Value → H) (P : Program) (w : World) (base : Nat) (spare : Nat → Bool) (held : Bool) (e : TypeId) (sz : Nat) (a : Addr) (len cap : Nat) (vs : List Value) : Prop where
 le : len ≤ cap
 most : cap ≤ maxLen
 spot : 0 < cap → a.spot = none
 len : vs.length = cap * sz
 cell : ∀ i, i < cap * sz → w.cell? ⟨a.block, a.off + i, none⟩ = vs[i]?
 read : ∀ i, i < cap → Rd enc P w base spare held e ((vs.drop (i * sz)).take sz)
theorem rows_of {α : Type} (f : Nat → Option (List α)) (sz : Nat) : ∀ n, (∀ i, i < n → ∃ l, f i = some l ∧ l.length = sz) → ∃ vs : List α, vs.length = n * sz ∧ ∀ i, i < n → f i = some ((vs.drop (i * sz)).take sz)
 | 0, _ => ⟨[], by simp, fun i hi => by omega⟩
 | n + 1, h => by
  obtain ⟨vs, h1, h2⟩ := rows_of f sz n (fun i hi => h i (by omega))
  obtain ⟨l, hl, hls⟩ := h n (by omega)
  refine ⟨vs ++ l, by simp [h1, hls, Nat.add_mul], fun i hi => ?_⟩
  by_cases hin : i < n
  ·
   rw [h2 i hin]
   have hle : i * sz + sz ≤ vs.length := by
    rw [h1]; calc i * sz + sz = (i + 1) * sz := by rw [Nat.add_mul]; omega
     _ ≤ n * sz := Nat.mul_le_mul_right _ hin
   rw [List.drop_append_of_le_length (by omega), List.take_append_of_le_length (by simp; omega)]
  ·
   have : i = n := by omega
   subst this
   rw [hl, ← h1, List.drop_left, List.take_of_length_le (by omega)]
theorem open_row {e t : TypeId} {sz : Nat} {cs : List Value} (ht : P.underlying t = some (.slice e)) (hs : psz P e = some sz) (h0 : 0 < sz) (hsp : spare = fun _ => true) (hr : Rd enc P w base spare held t cs) :
  cs = [.slice none 0 0] ∨ ∃ a len cap vs, cs = [.slice (some a) len cap] ∧ Row enc P w base spare held e sz a len cap vs := by
 obtain ⟨fuel, x, hx⟩ := hr
 have he := psz_cells hs
 rcases DataW.trod_slice ht hx with ⟨h, _⟩ | ⟨a, len, cap, elems, rest, n, rfl, rfl, _, hb, hlc, hm, hel, h1, h2, _⟩
 ·
  exact .inl h
 ·
  right
  rw [he] at h1 h2
  obtain ⟨hrl, h2⟩ := h2 (by rw [hsp])
  have all : ∀ i, i < cap → ∃ l, w.cells? base (a.add (i * sz)) sz = some l ∧ Rd enc P w base spare held e l := by
   intro i hi
   by_cases hil : i < len
   ·
    have := h1 i hil
    rw [List.getElem?_eq_getElem (by omega : i < elems.length)] at this
    obtain ⟨l, hl, hr⟩ := Option.bind_eq_some_iff.1 this
    exact ⟨l, hl, n, _, hr⟩
   ·
    have := h2 (i - len) (by omega)
    rw [List.getElem?_eq_getElem (by omega : i - len < rest.length), show len + (i - len) = i from by omega] at this
    obtain ⟨l, hl, hr⟩ := Option.bind_eq_some_iff.1 this
    exact ⟨l, hl, n, _, hr⟩
  obtain ⟨vs, hvl, hv⟩ := rows_of (fun i => w.cells? base (a.add (i * sz)) sz) sz cap (fun i hi => by
   obtain ⟨l, hl, _⟩ := all i hi
   exact ⟨l, hl, (cells_get hl).1⟩)
  have hspot : 0 < cap → a.spot = none := by
   intro hc
   obtain ⟨l, hl, _⟩ := all 0 hc
   obtain ⟨g1, g2⟩ := cells_get hl
   have := g2 0 h0
   rw [List.getElem?_eq_getElem (by omega)] at this
   unfold World.cell? at this
   split at this
   ·
    split at this
    ·
     cases this
    ·
     rename_i hs2
     have h3 : ((a.add (0 * sz)).add 0).spot = none := by simpa using hs2
     rwa [Nat.zero_mul, addr_zero, addr_zero] at h3
   ·
    cases this
  refine ⟨a, len, cap, vs, rfl, hlc, hm, hspot, hvl, fun i hi => ?_, fun i hi => ?_⟩
  ·
   have hc : 0 < cap := by
    rcases Nat.eq_zero_or_pos cap with h | h
    ·
     subst h; omega
    ·
     exact h
   have hi2 : i / sz < cap := by rw [Nat.div_lt_iff_lt_mul h0]; exact hi
   have hl := hv (i / sz) hi2
   obtain ⟨g1, g2⟩ := cells_get hl
   have hmod : i % sz < sz := Nat.mod_lt _ h0
   have := g2 (i % sz) hmod
   rw [addr_add a _ (hspot hc), addr_add _ _ rfl] at this
   have hdm : i / sz * sz + i % sz = i := by rw [Nat.mul_comm]; exact Nat.div_add_mod i sz
   rw [List.getElem?_take_of_lt hmod, List.getElem?_drop, hdm] at this
   simp only [Nat.add_assoc, hdm] at this
   exact this
  ·
   obtain ⟨l, hl, hr⟩ := all i hi
   have := hv i hi
   rw [hl] at this
   rw [← Option.some.inj this]; exact hr
theorem Row.block {e : TypeId} {sz : Nat} {a : Addr} {len cap : Nat} {vs : List Value} (h : Row enc P w base spare held e sz a len cap vs) {ρ : Ren} {ys : List SV} (hr : Rels ρ ys (vs.take (len * sz))) (ha : atoms ys = true) :
  (∀ id, ρ id = some ⟨a.block, a.off, cap * sz, false⟩ → Rel ρ (.sl id 0 len sz false) (.slice (some a) len cap)) ∧ BRel ρ w ⟨a.block, a.off, cap * sz, false⟩ (.ro ys) := by
 have hyl : ys.length = len * sz := by
  have := hr.length
  rw [List.length_take, h.len] at this
  have hle : len * sz ≤ cap * sz := Nat.mul_le_mul_right _ h.le
  omega
 refine ⟨fun id hid => ?_, ?_⟩
 ·
  simp only [Rel]
  refine ⟨_, some a, cap, hid, rfl, h.le, fun h => (by cases h), ?_⟩
  by_cases h0 : cap = 0
  ·
   exact .inl h0
  ·
   right
   refine ⟨rfl, ?_, by simp⟩
   have := h.spot (by omega)
   cases a; simp only at this; subst this; simp
 ·
  by_cases h0 : len * sz = 0
  ·
   left; exact List.eq_nil_of_length_eq_zero (by omega)
  ·
   right
   have hle : len * sz ≤ cap * sz := Nat.mul_le_mul_right _ h.le
   have key : ∀ i, i < cap * sz → ∃ c t fz, w.heap[a.block]? = some (.cells c t fz) ∧ c[a.off + i]? = vs[i]? := by
    intro i hi
    have hc := h.cell i hi
    rw [List.getElem?_eq_getElem (by rw [h.len]; exact hi)] at hc
    unfold World.cell? at hc
    split at hc
    ·
     rename_i c t fz hh
     simp only at hc
     exact ⟨c, t, fz, hh, by rw [List.getElem?_eq_getElem (by rw [h.len]; exact hi)]; simpa using hc⟩
    ·
     cases hc
   obtain ⟨c, t2, fz, hh, _⟩ := key 0 (by omega)
   have key2 : ∀ i, i < cap * sz → c[a.off + i]? = vs[i]? := by
    intro i hi
    obtain ⟨c', t', fz', hh', hv⟩ := key i hi
    rw [hh] at hh'; cases hh'; exact hv
   have hsz : a.off + len * sz ≤ c.size := by
    have := key2 (len * sz - 1) (by omega)
    rw [List.getElem?_eq_getElem (by rw [h.len]; omega)] at this
    have := (Array.getElem?_eq_some_iff.1 this).1
    omega
   refine ⟨⟨c, t2, fz, hh, ha, ?_, fun h => (by cases h), by rw [hyl]; exact hsz⟩, by rw [hyl]; exact hle, rfl⟩
   have e1 : (c.toList.drop a.off).take ys.length = vs.take (len * sz) := by
    apply List.ext_getElem?
    intro i
    rw [hyl]
    by_cases hi : i < len * sz
    ·
     rw [List.getElem?_take_of_lt hi, List.getElem?_take_of_lt hi, List.getElem?_drop, Array.getElem?_toList]
     exact key2 i (by omega)
    ·
     rw [List.getElem?_take_eq_none (by omega), List.getElem?_take_eq_none (by omega)]
   rw [e1]; exact hr
theorem open_row_k {r : Reach} {b0 d : Nat} {e t : TypeId} {ks : List Nat} {v : Value} {y : DataW H} {ps : List MemPlace} (ht : P.underlying t = some (.slice e)) (hk : kinds P d e = some ks) (h0 : 0 < ks.length) (hval : Value.okWide P w r b0 t v)
  (hd : DataW.Trod enc P w base (fun _ => true) held t v y ps) : ∃ (n : Nat) (ys : List SV) (rb : RB), n ≤ maxLen ∧ ys.map kd = (List.replicate n ks).flatten.map some ∧ (∀ ρ id, ρ id = some rb → Rel ρ (.sl id 0 n ks.length false) v) ∧ ∀ ρ, BRel ρ w rb (.ro ys) := by
 obtain ⟨a, len, cap, rfl⟩ := okWide_slice ht hval
 obtain ⟨fuel, hf⟩ := hd
 have hcs : (Value.slice a len cap).cells.toList = [.slice a len cap] := rfl
 rw [hcs] at hf
 rcases open_row ht (kinds_size hk) h0 rfl ⟨fuel, _, hf⟩ with h | ⟨a', len', cap', vs, h, hrow⟩
 ·
  cases h
  refine ⟨0, [], ⟨0, 0, 0, true⟩, Nat.zero_le _, rfl, fun ρ id hr => ?_, fun ρ => .inl rfl⟩
  simp only [Rel]
  exact ⟨_, none, 0, hr, rfl, Nat.le_refl _, fun h => (by cases h), .inl rfl⟩
 ·
  cases h
  have hle : len * ks.length ≤ cap * ks.length := Nat.mul_le_mul_right _ hrow.le
  obtain ⟨ys, hy, hyr⟩ := chunks (R := fun c => Rd enc P w base (fun _ => true) held e c) (fun c hc => open_kinds hk hc) vs len (by rw [hrow.len]; exact hle) (fun i hi => hrow.read i (Nat.lt_of_lt_of_le hi hrow.le))
  exact ⟨len, ys, _, Nat.le_trans hrow.le hrow.most, hy, fun ρ id hid => (hrow.block (hyr ρ) (kd_atoms hy)).1 id hid, fun ρ => (hrow.block (hyr ρ) (kd_atoms hy)).2⟩
theorem flat_rep1 (n k : Nat) : (List.replicate n [k]).flatten = List.replicate n k := by
 induction n with
 | zero => rfl
 | succ n ih => rw [List.replicate_succ, List.flatten_cons, ih]; rfl
theorem open_row1 {α : Type} {f : α → SV} {r : Reach} {b0 d k : Nat} {e t : TypeId} {v : Value} {y : DataW H} {ps : List MemPlace} (ht : P.underlying t = some (.slice e)) (hk : kinds P d e = some [k]) (hf : ∀ x, kd x = some k → ∃ a, x = f a) (hval : Value.okWide P w r b0 t v)
  (hd : DataW.Trod enc P w base (fun _ => true) held t v y ps) : ∃ (l : List α) (rb : RB), l.length ≤ maxLen ∧ (∀ ρ id, ρ id = some rb → Rel ρ (.sl id 0 l.length 1 false) v) ∧ ∀ ρ, BRel ρ w rb (.ro (l.map f)) := by
 obtain ⟨n, ys, rb, hm, hy, h1, h2⟩ := open_row_k ht hk (by simp) hval hd
 rw [flat_rep1] at hy
 obtain ⟨l, rfl, rfl⟩ := kd_rep hf hy
 exact ⟨l, rb, hm, h1, h2⟩
end
end Go.Sh
