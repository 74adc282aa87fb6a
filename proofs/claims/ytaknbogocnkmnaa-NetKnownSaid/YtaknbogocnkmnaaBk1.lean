/- Merged for a claim: B6. -/
import Derived.Test.YtaknbogocnkmnaaBt4
set_option linter.unusedSimpArgs false
set_option linter.unusedVariables false
namespace Go.Sh
open Go.Proofs
set_option maxHeartbeats 4000000
theorem f38_z (x : List Int) (n : Nat) (hn : n = x.length) (f : Bool) : SCall Try.prog 38 [.pnil, .sl 0 0 n 1 f] [some (.ro (x.map .i))] (.i 0) [some (.ro (x.map .i))] := by
 refine scall_of ttOk (by kernel_rfl : Try.prog.funcs[38]? = some Try.f38) rfl rfl rfl ?_
 try simp only [List.length_cons, List.length_nil, Nat.zero_add, Nat.reduceAdd]
 refine sw_ok ttOk mixed (by kernel_rfl) ?_
 conv => whnf
 repeat (first | (refine brT rfl ?_; conv => whnf) | (refine And.intro (by kernel_rfl) ?_; conv => whnf) | fail)
 refine ⟨[0], ?_, rfl, rfl, ?_, rfl⟩
 ·
  (repeat' (fail)) <;> first | rfl | fail
 ·
  (repeat' (first | exact trivial | refine And.intro ?_ ?_ | fail)) <;> first | exact ren_eq (by first | (simp; done) | fail) (by first | rfl | fail) | fail
theorem f39_z : SCall Try.prog 39 [.pnil] [] (.i 0) [] := by
 refine scall_of ttOk (by kernel_rfl : Try.prog.funcs[39]? = some Try.f39) rfl rfl rfl ?_
 try simp only [List.length_cons, List.length_nil, Nat.zero_add, Nat.reduceAdd]
 refine sw_ok ttOk mixed (by kernel_rfl) ?_
 conv => whnf
 repeat (first | (refine brT rfl ?_; conv => whnf) | (refine And.intro (by kernel_rfl) ?_; conv => whnf) | fail)
 refine ⟨[], ?_, rfl, rfl, ?_, rfl⟩
 ·
  (repeat' (fail)) <;> first | rfl | fail
 ·
  (repeat' (first | exact trivial | fail)) <;> fail
theorem f41_z (k : Int) : SCall Try.prog 41 [.pnil, .i k, .fnil] [] (.i 1) [] := by
 refine scall_of ttOk (by kernel_rfl : Try.prog.funcs[41]? = some Try.f41) rfl rfl rfl ?_
 try simp only [List.length_cons, List.length_nil, Nat.zero_add, Nat.reduceAdd]
 refine sw_ok ttOk mixed (by kernel_rfl) ?_
 conv => whnf
 repeat (fail)
 refine ok1_callF [] [] true ((f75_z k)) rfl rfl ⟨⟨rfl, by first | rfl | fail⟩, trivial, by first | rfl | fail, by first | rfl | fail, ?_⟩
 conv => whnf
 repeat (first | (refine brT rfl ?_; conv => whnf) | fail)
 refine ⟨[], ?_, rfl, rfl, ?_, rfl⟩
 ·
  (repeat' (fail)) <;> first | rfl | fail
 ·
  (repeat' (first | exact trivial | fail)) <;> fail
theorem f41_n (l : List Int) (n most : Nat) (k : Int) (hn : n = l.length) (hk : k < 0 ∨ (n : Int) ≤ k) (f : Bool) : SCall Try.prog 41 [.p 0 0, .i k, .fnil] [some (.ro [.sl 1 0 n 1 f, .i (most : Int)]), some (.ro (l.map SV.i))] (.i 4) [some (.ro [.sl 1 0 n 1 f, .i (most : Int)]), some (.ro (l.map SV.i))] := by
 have q := f75_n l n most k hn hk f
 refine scall_of ttOk (by kernel_rfl : Try.prog.funcs[41]? = some Try.f41) rfl rfl rfl ?_
 try simp only [List.length_cons, List.length_nil, Nat.zero_add, Nat.reduceAdd]
 refine sw_ok ttOk mixed (by kernel_rfl) ?_
 conv => whnf
 repeat (fail)
 refine ok1_callF [0, 1] [false, true] true (q) rfl rfl ⟨⟨rfl, by first | rfl | fail⟩, by (repeat' (first | exact trivial | refine And.intro ?_ ?_)) <;> first | rfl | exact ren_eq (by first | (simp; done) | fail) (by first | rfl | fail) | fail, by first | simp [plainHf, plainB], by first | rfl | fail, ?_⟩
 conv => whnf
 repeat (first | (refine brT rfl ?_; conv => whnf) | fail)
 refine ⟨[0, 1], ?_, rfl, rfl, ?_, rfl⟩
 ·
  (repeat' (fail)) <;> first | rfl | fail
 ·
  (repeat' (first | exact trivial | refine And.intro ?_ ?_ | (refine wk_cons ?_ ?_))) <;> first | rfl | exact ren_eq (by first | (simp; done) | fail) (by first | rfl | fail) | fail
theorem f41_f (l : List Int) (n most k : Nat) (hn : n = l.length) (hk : k < n) (f : Bool) : SCall Try.prog 41 [.p 0 0, .i (k : Int), .fnil] [some (.ro [.sl 1 0 n 1 f, .i (most : Int)]), some (.ro (l.map SV.i))] (.i 1) [some (.ro [.sl 1 0 n 1 f, .i (most : Int)]), some (.ro (l.map SV.i))] := by
 have q := f75_y l n most k hn hk f
 refine scall_of ttOk (by kernel_rfl : Try.prog.funcs[41]? = some Try.f41) rfl rfl rfl ?_
 try simp only [List.length_cons, List.length_nil, Nat.zero_add, Nat.reduceAdd]
 refine sw_ok ttOk mixed (by kernel_rfl) ?_
 conv => whnf
 repeat (fail)
 refine ok1_callF [0, 1] [false, true] true (q) rfl rfl ⟨⟨rfl, by first | rfl | fail⟩, by (repeat' (first | exact trivial | refine And.intro ?_ ?_)) <;> first | rfl | exact ren_eq (by first | (simp; done) | fail) (by first | rfl | fail) | fail, by first | simp [plainHf, plainB], by first | rfl | fail, ?_⟩
 conv => whnf
 repeat (first | (refine brT rfl ?_; conv => whnf) | (refine brF rfl ?_; conv => whnf) | (refine And.intro (by kernel_rfl) ?_; conv => whnf) | fail)
 refine ⟨[0, 1], ?_, rfl, rfl, ?_, rfl⟩
 ·
  (repeat' (fail)) <;> first | rfl | fail
 ·
  (repeat' (first | exact trivial | refine And.intro ?_ ?_ | (refine wk_cons ?_ ?_))) <;> first | rfl | exact ren_eq (by first | (simp; done) | fail) (by first | rfl | fail) | fail
theorem f37_z : SCall Try.prog 37 [.pnil] [] (.fn 78 [.p 0 0]) [some (.box [.pnil])] := by
 refine scall_of ttOk (by kernel_rfl : Try.prog.funcs[37]? = some Try.f37) rfl rfl rfl ?_
 try simp only [List.length_cons, List.length_nil, Nat.zero_add, Nat.reduceAdd]
 refine sw_ok ttOk mixed (by kernel_rfl) ?_
 conv => whnf
 repeat (fail)
 refine ⟨[0], ?_, rfl, rfl, ?_, rfl⟩
 ·
  (repeat' (fail)) <;> first | rfl | fail
 ·
  (repeat' (first | exact trivial | refine And.intro ?_ ?_ | (refine wk_cons ?_ ?_))) <;> first | rfl | fail
theorem f8 : SCall Try.prog 8 [] [] (.b true) [] := by
 have qn := f35 2
 rw [show (if (0 : Int) > 2 then (0 : Int) else 2) = ((2 : Nat) : Int) from by decide] at qn
 have q1 := f36_n [] 0 2 2 rfl (.inr (by decide)) false
 have q2 := f22_nil 0 0 3
 have q3 := f22_y 0 0 [0] 1 (by decide) (by decide) rfl 9 true
 rw [show turnB [0] 9 = [2] from by decide] at q3
 have q4 := f36_z 0
 have q5 := f38 [] [5] 0 1 2 1 rfl rfl (by decide) (by decide) (by decide) (by decide) false true
 have q6 := f38_z [1] 1 rfl true
 have q7 := f40_z 0
 have q8 := f41_z 0
 have q9 := f41_f [5] 1 2 0 rfl (by decide) false
 have q10 := f41_n [5] 1 2 1 rfl (.inr (by decide)) false
 refine scall_of ttOk (by kernel_rfl : Try.prog.funcs[8]? = some Try.f8) rfl rfl rfl ?_
 try simp only [List.length_cons, List.length_nil, Nat.zero_add, Nat.reduceAdd]
 refine swxs_ok (J := [4]) ttOk mixed (by kernel_rfl) ?_
 conv => whnf
 repeat (fail)
 refine ok1_callF [] [] true (f21) rfl rfl ⟨⟨rfl, by first | rfl | fail⟩, trivial, by first | rfl | fail, by first | rfl | fail, ?_⟩
 conv => whnf
 repeat (first | (refine brF rfl ?_; conv => whnf) | fail)
 refine ok1_callF [] [false] false (qn) rfl rfl ⟨⟨rfl, by first | rfl | fail⟩, trivial, by first | rfl | fail, by first | rfl | fail, ?_⟩
 conv => whnf
 repeat (fail)
 refine SWp.weak (Weak.virtB 1 0 3 1 rfl rfl rfl rfl rfl) ?_
 refine sw_ok ttOk mixed (by kernel_rfl) ?_
 conv => whnf
 repeat (fail)
 refine ok1_callF [1, 2] [false, true] true (q1) rfl rfl ⟨⟨rfl, by first | rfl | fail⟩, by (repeat' (first | exact trivial | refine And.intro ?_ ?_)) <;> first | rfl | fail, by first | rfl | fail, by first | rfl | fail, ?_⟩
 conv => whnf
 repeat (first | (refine Exists.intro _ (And.intro rfl ?_); conv => whnf) | fail)
 refine ok1_callF [] [] true (q2) rfl rfl ⟨⟨rfl, by first | rfl | fail⟩, trivial, by first | rfl | fail, by first | rfl | fail, ?_⟩
 conv => whnf
 repeat (first | (refine Exists.intro _ (And.intro (sput_all rfl (by first | rfl | fail)) ?_); conv => whnf) | (refine Exists.intro _ (And.intro rfl ?_); conv => whnf) | (refine And.intro (by first | omega | (simp; done) | fail) ?_; conv => whnf) | fail)
 refine ok1_callF [4] [true, true] false (q3) rfl rfl ⟨⟨rfl, by first | rfl | fail⟩, by (repeat' (first | exact trivial | refine And.intro ?_ ?_)) <;> first | rfl | fail, by first | rfl | fail, by first | rfl | fail, ?_⟩
 conv => whnf
 repeat (first | (refine Exists.intro _ (And.intro (sput_all rfl (by first | rfl | fail)) ?_); conv => whnf) | (refine And.intro (by first | omega | (simp; done) | fail) ?_; conv => whnf) | fail)
 refine ok1_callF [] [false] false (f37_z) rfl rfl ⟨⟨rfl, by first | rfl | fail⟩, trivial, by first | rfl | fail, by first | rfl | fail, ?_⟩
 conv => whnf
 repeat (fail)
 refine SWp.weak (R0 := [(0, .p 0 0), (1, .p 1 0), (3, .i 4), (5, .b false), (6, .p 4 0), (7, .b true), (8, .pnil), (31, .fn 78 [.p 5 0])]) (H0 := [some (.box [.b false]), some (.box [.sl 2 0 0 1 false, .i ((2 : Nat) : Int)]), some (.row 3 []), some (.row 5 [.u8 2]), some (.box [.u8 0, .u8 0, .sl 3 0 1 1 false]), some (.box [.pnil])]) (L0 := 6) ?_ ?_
 ·
  refine Weak.sel [0, 1, 2, 5, 6, 7] rfl rfl ?_ ?_ rfl rfl
  ·
   (repeat' (first | exact trivial | refine And.intro ?_ ?_ | fail)) <;> first | rfl | fail
  ·
   (repeat' (first | exact trivial | refine And.intro ?_ ?_ | (refine wk_cons ?_ ?_))) <;> first | rfl | fail
 refine range_named rfl rfl rfl (by kernel_rfl : Try.prog.funcs[78]? = some Try.f78) rfl rfl rfl rfl ?_
 intro asq bdq hasq hbdq
 refine sw_ok ttOk mixed (by kernel_rfl) ?_
 conv => whnf
 repeat (first | (refine brT rfl ?_; conv => whnf) | (refine Exists.intro _ (And.intro rfl ?_); conv => whnf) | (refine And.intro (by kernel_rfl) ?_; conv => whnf) | fail)
 refine ok1_callF [] [] true (q4) rfl rfl ⟨⟨rfl, by first | rfl | fail⟩, trivial, by first | rfl | fail, by first | rfl | fail, ?_⟩
 conv => whnf
 repeat (first | (refine Exists.intro _ (And.intro rfl ?_); conv => whnf) | fail)
 refine ok1_callF [1, 2, 7] [false, true, true, true] true (q5) rfl rfl ⟨⟨rfl, by first | rfl | fail⟩, by (repeat' (first | exact trivial | refine And.intro ?_ ?_)) <;> first | rfl | fail, by first | rfl | fail, by first | rfl | fail, ?_⟩
 conv => whnf
 repeat (first | (refine brT rfl ?_; conv => whnf) | (refine Exists.intro _ (And.intro rfl ?_); conv => whnf) | (refine And.intro (by first | omega | fail) ?_; conv => whnf) | fail)
 refine ok1_callF [9] [true] true (q6) rfl rfl ⟨⟨rfl, by first | rfl | fail⟩, by (repeat' (first | exact trivial | refine And.intro ?_ ?_)) <;> first | rfl | fail, by first | rfl | fail, by first | rfl | fail, ?_⟩
 conv => whnf
 repeat (first | (refine brT rfl ?_; conv => whnf) | (refine Exists.intro _ (And.intro rfl ?_); conv => whnf) | fail)
 refine ok1_callF [] [] true (f39_z) rfl rfl ⟨⟨rfl, by first | rfl | fail⟩, trivial, by first | rfl | fail, by first | rfl | fail, ?_⟩
 conv => whnf
 repeat (first | (refine brT rfl ?_; conv => whnf) | (refine Exists.intro _ (And.intro rfl ?_); conv => whnf) | fail)
 refine ok1_callF [] [] true (q7) rfl rfl ⟨⟨rfl, by first | rfl | fail⟩, trivial, by first | rfl | fail, by first | rfl | fail, ?_⟩
 conv => whnf
 repeat (first | (refine brT rfl ?_; conv => whnf) | (refine Exists.intro _ (And.intro rfl ?_); conv => whnf) | fail)
 refine ok1_callF [] [] true (q8) rfl rfl ⟨⟨rfl, by first | rfl | fail⟩, trivial, by first | rfl | fail, by first | rfl | fail, ?_⟩
 conv => whnf
 repeat (first | (refine brT rfl ?_; conv => whnf) | (refine Exists.intro _ (And.intro rfl ?_); conv => whnf) | fail)
 refine ok1_callF [1, 8] [false, true] true (q9) rfl rfl ⟨⟨rfl, by first | rfl | fail⟩, by (repeat' (first | exact trivial | refine And.intro ?_ ?_)) <;> first | rfl | fail, by first | rfl | fail, by first | rfl | fail, ?_⟩
 conv => whnf
 repeat (first | (refine brT rfl ?_; conv => whnf) | (refine Exists.intro _ (And.intro rfl ?_); conv => whnf) | fail)
 refine ok1_callF [1, 8] [false, true] true (q10) rfl rfl ⟨⟨rfl, by first | rfl | fail⟩, by (repeat' (first | exact trivial | refine And.intro ?_ ?_)) <;> first | rfl | fail, by first | rfl | fail, by first | rfl | fail, ?_⟩
 conv => whnf
 repeat (first | (refine brT rfl ?_; conv => whnf) | (refine Exists.intro _ (And.intro rfl ?_); conv => whnf) | (refine And.intro ⟨rfl, Nat.le_of_ble_eq_true rfl⟩ ?_; conv => whnf) | fail)
 refine ⟨[], ?_, rfl, rfl, ?_, rfl⟩
 ·
  (repeat' (fail)) <;> first | rfl | fail
 ·
  (repeat' (first | exact trivial | fail)) <;> fail
end Go.Sh
