/- Merged for a claim: M10, M12, R8, R9, R10, R11, R12, C1, C2, C3, C10, C11, Sh18, Sh20. -/
import Derived.Test.YtannakicfkjhbaaRows
import Derived.ProofKit
import Derived.OpenShut
import Derived.JoinedCond
import Derived.Carry
import Derived.Test.YtannakicfkjhbaaNa5
set_option linter.unusedSimpArgs false
set_option linter.unusedVariables false
/- mac: Mac (f49), of texts in parts; Extract (f50), walked. -/
namespace Go.Sh
open Go.Proofs
set_option maxHeartbeats 4000000

def mac_n (K T : List UInt8) : List UInt8 := sum_n (padL 64 (key_n K) 92 ++ sum_n (padL 64 (key_n K) 54 ++ T))
def mac_w (K T : List UInt8) : List UInt8 := sum_w (padL 128 (key_w K) 92 ++ sum_w (padL 128 (key_w K) 54 ++ T))
theorem mac_len_n (K T : List UInt8) : (mac_n K T).length = 32 := sum_len_n _
theorem mac_len_w (K T : List UInt8) : (mac_w K T).length = 64 := sum_len_w _
attribute [local irreducible] sum_n sum_w padL key_n key_w

theorem f49_n_b (K : List UInt8) (hK : K.length < 100000000000000) (b0 : List UInt8) (hb0 : b0.length < 100000000000000) (fk f0 fl : Bool) : SCall Try.prog 49 [.u8 1, .sl 0 0 K.length 1 fk, .sl 1 0 1 1 fl] [some (.ro (K.map .u8)), some (.ro [.sl 2 0 b0.length 1 f0]), some (.ro (b0.map .u8))] (.sl 3 0 32 1 true) [some (.ro (K.map .u8)), some (.ro [.sl 2 0 b0.length 1 f0]), some (.ro (b0.map .u8)), some (.box ((mac_n K (b0)).map .u8))] := by
 have q1 := f100_n K hK 54 fk
 have q2 := f100_n K hK 92 fk
 have l1 := padL_len 64 (key_n K) 54
 have l2 := padL_len 64 (key_n K) 92
 obtain ⟨P1, hP1⟩ : ∃ P, P = padL 64 (key_n K) 54 := ⟨_, rfl⟩
 obtain ⟨P2, hP2⟩ : ∃ P, P = padL 64 (key_n K) 92 := ⟨_, rfl⟩
 rw [← hP1] at q1 l1
 rw [← hP2] at q2 l2
 have q3 := f99_n_bb P1 b0 (by omega) hb0 true f0 false
 have e3 : sum_n (P1 ++ b0) = sum_n (P1 ++ (b0)) := by simp only [List.append_assoc]
 have l3 := sum_len_n (P1 ++ (b0))
 rw [e3, l1] at q3
 have hm : mac_n K (b0) = sum_n (P2 ++ sum_n (P1 ++ (b0))) := by unfold mac_n; rw [hP1, hP2]
 rw [hm]
 obtain ⟨I, hI⟩ : ∃ I, I = sum_n (P1 ++ (b0)) := ⟨_, rfl⟩
 rw [← hI] at q3 l3 ⊢
 have q4 := f99_n_bb P2 I (by omega) (by omega) true true true
 rw [l2, l3] at q4
 have l4 := sum_len_n (P2 ++ I)
 obtain ⟨W, hW⟩ : ∃ W, W = sum_n (P2 ++ I) := ⟨_, rfl⟩
 rw [← hW] at q4 l4 ⊢
 clear hP1 hP2 hI hW hm e3
 refine scall_of ttOk (by kernel_rfl : Try.prog.funcs[49]? = some Try.f49) rfl rfl rfl ?_
 try simp only [List.length_cons, List.length_nil, Nat.zero_add, Nat.reduceAdd]
 refine sw_ok ttOk mixed (by kernel_rfl) ?_
 conv => whnf
 repeat (fail)
 refine ok1_callF [] [] true (f98_n) rfl rfl ⟨⟨rfl, by first | rfl | fail⟩, trivial, by first | rfl | fail, by first | rfl | fail, ?_⟩
 conv => whnf
 repeat (first | (refine brF rfl ?_; conv => whnf) | fail)
 refine ok1_callF [0] [false, true] false (q1) rfl rfl ⟨⟨rfl, by first | rfl | fail⟩, by (repeat' (first | exact trivial | refine And.intro ?_ ?_)) <;> first | exact ren_eq (by first | (simp; done) | fail) (by first | rfl | fail) | fail, by first | simp [plainHf, plainB], by first | rfl | fail, ?_⟩
 conv => whnf
 repeat (first | (refine Exists.intro _ (And.intro rfl ?_); conv => whnf) | (refine And.intro ⟨Nat.le_of_ble_eq_true rfl, Nat.le_of_ble_eq_true rfl, Nat.le_of_ble_eq_true rfl, Nat.le_of_ble_eq_true rfl⟩ ?_; conv => whnf) | fail)
 refine ok1_callF [5, 3, 2] [false, false, false, true] false (q3) rfl rfl ⟨⟨rfl, by first | rfl | fail⟩, by (repeat' (first | exact trivial | refine And.intro ?_ ?_)) <;> first | rfl | exact ren_eq (by first | (simp; done) | fail) (by first | rfl | fail) | fail, by first | simp [plainHf, plainB], by first | rfl | fail, ?_⟩
 conv => whnf
 repeat (fail)
 refine ok1_callF [0] [false, true] false (q2) rfl rfl ⟨⟨rfl, by first | rfl | fail⟩, by (repeat' (first | exact trivial | refine And.intro ?_ ?_)) <;> first | exact ren_eq (by first | (simp; done) | fail) (by first | rfl | fail) | fail, by first | simp [plainHf, plainB], by first | rfl | fail, ?_⟩
 conv => whnf
 repeat (first | (refine Exists.intro _ (And.intro rfl ?_); conv => whnf) | fail)
 refine ok1_callF [8, 7, 6] [false, false, false, true] false (q4) rfl rfl ⟨⟨rfl, by first | rfl | fail⟩, by (repeat' (first | exact trivial | refine And.intro ?_ ?_)) <;> first | rfl | exact ren_eq (by first | (simp; done) | fail) (by first | rfl | fail) | fail, by first | simp [plainHf, plainB], by first | rfl | fail, ?_⟩
 conv => whnf
 repeat (fail)
 refine ⟨[0, 1, 2, 9], ?_, rfl, rfl, ?_, rfl⟩
 ·
  (repeat' (fail)) <;> first | rfl | fail
 ·
  (repeat' (first | exact trivial | refine And.intro ?_ ?_ | (refine wk_cons ?_ ?_))) <;> first | rfl | exact ren_eq (by first | (simp; done) | fail) (by first | rfl | fail) | fail
theorem f49_n_bb (K : List UInt8) (hK : K.length < 100000000000000) (b0 b1 : List UInt8) (hb0 : b0.length < 100000000000000) (hb1 : b1.length < 100000000000000) (fk f0 f1 fl : Bool) : SCall Try.prog 49 [.u8 1, .sl 0 0 K.length 1 fk, .sl 1 0 2 1 fl] [some (.ro (K.map .u8)), some (.ro [.sl 2 0 b0.length 1 f0, .sl 3 0 b1.length 1 f1]), some (.ro (b0.map .u8)), some (.ro (b1.map .u8))] (.sl 4 0 32 1 true) [some (.ro (K.map .u8)), some (.ro [.sl 2 0 b0.length 1 f0, .sl 3 0 b1.length 1 f1]), some (.ro (b0.map .u8)), some (.ro (b1.map .u8)), some (.box ((mac_n K (b0 ++ b1)).map .u8))] := by
 have q1 := f100_n K hK 54 fk
 have q2 := f100_n K hK 92 fk
 have l1 := padL_len 64 (key_n K) 54
 have l2 := padL_len 64 (key_n K) 92
 obtain ⟨P1, hP1⟩ : ∃ P, P = padL 64 (key_n K) 54 := ⟨_, rfl⟩
 obtain ⟨P2, hP2⟩ : ∃ P, P = padL 64 (key_n K) 92 := ⟨_, rfl⟩
 rw [← hP1] at q1 l1
 rw [← hP2] at q2 l2
 have q3 := f99_n_bbb P1 b0 b1 (by omega) hb0 hb1 true f0 f1 false
 have e3 : sum_n (P1 ++ b0 ++ b1) = sum_n (P1 ++ (b0 ++ b1)) := by simp only [List.append_assoc]
 have l3 := sum_len_n (P1 ++ (b0 ++ b1))
 rw [e3, l1] at q3
 have hm : mac_n K (b0 ++ b1) = sum_n (P2 ++ sum_n (P1 ++ (b0 ++ b1))) := by unfold mac_n; rw [hP1, hP2]
 rw [hm]
 obtain ⟨I, hI⟩ : ∃ I, I = sum_n (P1 ++ (b0 ++ b1)) := ⟨_, rfl⟩
 rw [← hI] at q3 l3 ⊢
 have q4 := f99_n_bb P2 I (by omega) (by omega) true true true
 rw [l2, l3] at q4
 have l4 := sum_len_n (P2 ++ I)
 obtain ⟨W, hW⟩ : ∃ W, W = sum_n (P2 ++ I) := ⟨_, rfl⟩
 rw [← hW] at q4 l4 ⊢
 clear hP1 hP2 hI hW hm e3
 refine scall_of ttOk (by kernel_rfl : Try.prog.funcs[49]? = some Try.f49) rfl rfl rfl ?_
 try simp only [List.length_cons, List.length_nil, Nat.zero_add, Nat.reduceAdd]
 refine sw_ok ttOk mixed (by kernel_rfl) ?_
 conv => whnf
 repeat (fail)
 refine ok1_callF [] [] true (f98_n) rfl rfl ⟨⟨rfl, by first | rfl | fail⟩, trivial, by first | rfl | fail, by first | rfl | fail, ?_⟩
 conv => whnf
 repeat (first | (refine brF rfl ?_; conv => whnf) | fail)
 refine ok1_callF [0] [false, true] false (q1) rfl rfl ⟨⟨rfl, by first | rfl | fail⟩, by (repeat' (first | exact trivial | refine And.intro ?_ ?_)) <;> first | exact ren_eq (by first | (simp; done) | fail) (by first | rfl | fail) | fail, by first | simp [plainHf, plainB], by first | rfl | fail, ?_⟩
 conv => whnf
 repeat (first | (refine Exists.intro _ (And.intro rfl ?_); conv => whnf) | (refine And.intro ⟨Nat.le_of_ble_eq_true rfl, Nat.le_of_ble_eq_true rfl, Nat.le_of_ble_eq_true rfl, Nat.le_of_ble_eq_true rfl⟩ ?_; conv => whnf) | fail)
 refine ok1_callF [6, 4, 2, 3] [false, false, false, false, true] false (q3) rfl rfl ⟨⟨rfl, by first | rfl | fail⟩, by (repeat' (first | exact trivial | refine And.intro ?_ ?_)) <;> first | rfl | exact ren_eq (by first | (simp; done) | fail) (by first | rfl | fail) | fail, by first | simp [plainHf, plainB], by first | rfl | fail, ?_⟩
 conv => whnf
 repeat (fail)
 refine ok1_callF [0] [false, true] false (q2) rfl rfl ⟨⟨rfl, by first | rfl | fail⟩, by (repeat' (first | exact trivial | refine And.intro ?_ ?_)) <;> first | exact ren_eq (by first | (simp; done) | fail) (by first | rfl | fail) | fail, by first | simp [plainHf, plainB], by first | rfl | fail, ?_⟩
 conv => whnf
 repeat (first | (refine Exists.intro _ (And.intro rfl ?_); conv => whnf) | fail)
 refine ok1_callF [9, 8, 7] [false, false, false, true] false (q4) rfl rfl ⟨⟨rfl, by first | rfl | fail⟩, by (repeat' (first | exact trivial | refine And.intro ?_ ?_)) <;> first | rfl | exact ren_eq (by first | (simp; done) | fail) (by first | rfl | fail) | fail, by first | simp [plainHf, plainB], by first | rfl | fail, ?_⟩
 conv => whnf
 repeat (fail)
 refine ⟨[0, 1, 2, 3, 10], ?_, rfl, rfl, ?_, rfl⟩
 ·
  (repeat' (fail)) <;> first | rfl | fail
 ·
  (repeat' (first | exact trivial | refine And.intro ?_ ?_ | (refine wk_cons ?_ ?_))) <;> first | rfl | exact ren_eq (by first | (simp; done) | fail) (by first | rfl | fail) | fail
theorem f49_n_obb (K : List UInt8) (hK : K.length < 100000000000000) (b1 b2 : List UInt8) (hb1 : b1.length < 100000000000000) (hb2 : b2.length < 100000000000000) (fk f1 f2 fl : Bool) : SCall Try.prog 49 [.u8 1, .sl 0 0 K.length 1 fk, .sl 1 0 3 1 fl] [some (.ro (K.map .u8)), some (.ro [.slnil, .sl 2 0 b1.length 1 f1, .sl 3 0 b2.length 1 f2]), some (.ro (b1.map .u8)), some (.ro (b2.map .u8))] (.sl 4 0 32 1 true) [some (.ro (K.map .u8)), some (.ro [.slnil, .sl 2 0 b1.length 1 f1, .sl 3 0 b2.length 1 f2]), some (.ro (b1.map .u8)), some (.ro (b2.map .u8)), some (.box ((mac_n K (b1 ++ b2)).map .u8))] := by
 have q1 := f100_n K hK 54 fk
 have q2 := f100_n K hK 92 fk
 have l1 := padL_len 64 (key_n K) 54
 have l2 := padL_len 64 (key_n K) 92
 obtain ⟨P1, hP1⟩ : ∃ P, P = padL 64 (key_n K) 54 := ⟨_, rfl⟩
 obtain ⟨P2, hP2⟩ : ∃ P, P = padL 64 (key_n K) 92 := ⟨_, rfl⟩
 rw [← hP1] at q1 l1
 rw [← hP2] at q2 l2
 have q3 := f99_n_bobb P1 b1 b2 (by omega) hb1 hb2 true f1 f2 false
 have e3 : sum_n (P1 ++ b1 ++ b2) = sum_n (P1 ++ (b1 ++ b2)) := by simp only [List.append_assoc]
 have l3 := sum_len_n (P1 ++ (b1 ++ b2))
 rw [e3, l1] at q3
 have hm : mac_n K (b1 ++ b2) = sum_n (P2 ++ sum_n (P1 ++ (b1 ++ b2))) := by unfold mac_n; rw [hP1, hP2]
 rw [hm]
 obtain ⟨I, hI⟩ : ∃ I, I = sum_n (P1 ++ (b1 ++ b2)) := ⟨_, rfl⟩
 rw [← hI] at q3 l3 ⊢
 have q4 := f99_n_bb P2 I (by omega) (by omega) true true true
 rw [l2, l3] at q4
 have l4 := sum_len_n (P2 ++ I)
 obtain ⟨W, hW⟩ : ∃ W, W = sum_n (P2 ++ I) := ⟨_, rfl⟩
 rw [← hW] at q4 l4 ⊢
 clear hP1 hP2 hI hW hm e3
 refine scall_of ttOk (by kernel_rfl : Try.prog.funcs[49]? = some Try.f49) rfl rfl rfl ?_
 try simp only [List.length_cons, List.length_nil, Nat.zero_add, Nat.reduceAdd]
 refine sw_ok ttOk mixed (by kernel_rfl) ?_
 conv => whnf
 repeat (fail)
 refine ok1_callF [] [] true (f98_n) rfl rfl ⟨⟨rfl, by first | rfl | fail⟩, trivial, by first | rfl | fail, by first | rfl | fail, ?_⟩
 conv => whnf
 repeat (first | (refine brF rfl ?_; conv => whnf) | fail)
 refine ok1_callF [0] [false, true] false (q1) rfl rfl ⟨⟨rfl, by first | rfl | fail⟩, by (repeat' (first | exact trivial | refine And.intro ?_ ?_)) <;> first | exact ren_eq (by first | (simp; done) | fail) (by first | rfl | fail) | fail, by first | simp [plainHf, plainB], by first | rfl | fail, ?_⟩
 conv => whnf
 repeat (first | (refine Exists.intro _ (And.intro rfl ?_); conv => whnf) | (refine And.intro ⟨Nat.le_of_ble_eq_true rfl, Nat.le_of_ble_eq_true rfl, Nat.le_of_ble_eq_true rfl, Nat.le_of_ble_eq_true rfl⟩ ?_; conv => whnf) | fail)
 refine ok1_callF [6, 4, 2, 3] [false, false, false, false, true] false (q3) rfl rfl ⟨⟨rfl, by first | rfl | fail⟩, by (repeat' (first | exact trivial | refine And.intro ?_ ?_)) <;> first | rfl | exact ren_eq (by first | (simp; done) | fail) (by first | rfl | fail) | fail, by first | simp [plainHf, plainB], by first | rfl | fail, ?_⟩
 conv => whnf
 repeat (fail)
 refine ok1_callF [0] [false, true] false (q2) rfl rfl ⟨⟨rfl, by first | rfl | fail⟩, by (repeat' (first | exact trivial | refine And.intro ?_ ?_)) <;> first | exact ren_eq (by first | (simp; done) | fail) (by first | rfl | fail) | fail, by first | simp [plainHf, plainB], by first | rfl | fail, ?_⟩
 conv => whnf
 repeat (first | (refine Exists.intro _ (And.intro rfl ?_); conv => whnf) | fail)
 refine ok1_callF [9, 8, 7] [false, false, false, true] false (q4) rfl rfl ⟨⟨rfl, by first | rfl | fail⟩, by (repeat' (first | exact trivial | refine And.intro ?_ ?_)) <;> first | rfl | exact ren_eq (by first | (simp; done) | fail) (by first | rfl | fail) | fail, by first | simp [plainHf, plainB], by first | rfl | fail, ?_⟩
 conv => whnf
 repeat (fail)
 refine ⟨[0, 1, 2, 3, 10], ?_, rfl, rfl, ?_, rfl⟩
 ·
  (repeat' (fail)) <;> first | rfl | fail
 ·
  (repeat' (first | exact trivial | refine And.intro ?_ ?_ | (refine wk_cons ?_ ?_))) <;> first | rfl | exact ren_eq (by first | (simp; done) | fail) (by first | rfl | fail) | fail
theorem f49_n_bbb (K : List UInt8) (hK : K.length < 100000000000000) (b0 b1 b2 : List UInt8) (hb0 : b0.length < 100000000000000) (hb1 : b1.length < 100000000000000) (hb2 : b2.length < 100000000000000) (fk f0 f1 f2 fl : Bool) : SCall Try.prog 49 [.u8 1, .sl 0 0 K.length 1 fk, .sl 1 0 3 1 fl] [some (.ro (K.map .u8)), some (.ro [.sl 2 0 b0.length 1 f0, .sl 3 0 b1.length 1 f1, .sl 4 0 b2.length 1 f2]), some (.ro (b0.map .u8)), some (.ro (b1.map .u8)), some (.ro (b2.map .u8))] (.sl 5 0 32 1 true) [some (.ro (K.map .u8)), some (.ro [.sl 2 0 b0.length 1 f0, .sl 3 0 b1.length 1 f1, .sl 4 0 b2.length 1 f2]), some (.ro (b0.map .u8)), some (.ro (b1.map .u8)), some (.ro (b2.map .u8)), some (.box ((mac_n K (b0 ++ b1 ++ b2)).map .u8))] := by
 have q1 := f100_n K hK 54 fk
 have q2 := f100_n K hK 92 fk
 have l1 := padL_len 64 (key_n K) 54
 have l2 := padL_len 64 (key_n K) 92
 obtain ⟨P1, hP1⟩ : ∃ P, P = padL 64 (key_n K) 54 := ⟨_, rfl⟩
 obtain ⟨P2, hP2⟩ : ∃ P, P = padL 64 (key_n K) 92 := ⟨_, rfl⟩
 rw [← hP1] at q1 l1
 rw [← hP2] at q2 l2
 have q3 := f99_n_bbbb P1 b0 b1 b2 (by omega) hb0 hb1 hb2 true f0 f1 f2 false
 have e3 : sum_n (P1 ++ b0 ++ b1 ++ b2) = sum_n (P1 ++ (b0 ++ b1 ++ b2)) := by simp only [List.append_assoc]
 have l3 := sum_len_n (P1 ++ (b0 ++ b1 ++ b2))
 rw [e3, l1] at q3
 have hm : mac_n K (b0 ++ b1 ++ b2) = sum_n (P2 ++ sum_n (P1 ++ (b0 ++ b1 ++ b2))) := by unfold mac_n; rw [hP1, hP2]
 rw [hm]
 obtain ⟨I, hI⟩ : ∃ I, I = sum_n (P1 ++ (b0 ++ b1 ++ b2)) := ⟨_, rfl⟩
 rw [← hI] at q3 l3 ⊢
 have q4 := f99_n_bb P2 I (by omega) (by omega) true true true
 rw [l2, l3] at q4
 have l4 := sum_len_n (P2 ++ I)
 obtain ⟨W, hW⟩ : ∃ W, W = sum_n (P2 ++ I) := ⟨_, rfl⟩
 rw [← hW] at q4 l4 ⊢
 clear hP1 hP2 hI hW hm e3
 refine scall_of ttOk (by kernel_rfl : Try.prog.funcs[49]? = some Try.f49) rfl rfl rfl ?_
 try simp only [List.length_cons, List.length_nil, Nat.zero_add, Nat.reduceAdd]
 refine sw_ok ttOk mixed (by kernel_rfl) ?_
 conv => whnf
 repeat (fail)
 refine ok1_callF [] [] true (f98_n) rfl rfl ⟨⟨rfl, by first | rfl | fail⟩, trivial, by first | rfl | fail, by first | rfl | fail, ?_⟩
 conv => whnf
 repeat (first | (refine brF rfl ?_; conv => whnf) | fail)
 refine ok1_callF [0] [false, true] false (q1) rfl rfl ⟨⟨rfl, by first | rfl | fail⟩, by (repeat' (first | exact trivial | refine And.intro ?_ ?_)) <;> first | exact ren_eq (by first | (simp; done) | fail) (by first | rfl | fail) | fail, by first | simp [plainHf, plainB], by first | rfl | fail, ?_⟩
 conv => whnf
 repeat (first | (refine Exists.intro _ (And.intro rfl ?_); conv => whnf) | (refine And.intro ⟨Nat.le_of_ble_eq_true rfl, Nat.le_of_ble_eq_true rfl, Nat.le_of_ble_eq_true rfl, Nat.le_of_ble_eq_true rfl⟩ ?_; conv => whnf) | fail)
 refine ok1_callF [7, 5, 2, 3, 4] [false, false, false, false, false, true] false (q3) rfl rfl ⟨⟨rfl, by first | rfl | fail⟩, by (repeat' (first | exact trivial | refine And.intro ?_ ?_)) <;> first | rfl | exact ren_eq (by first | (simp; done) | fail) (by first | rfl | fail) | fail, by first | simp [plainHf, plainB], by first | rfl | fail, ?_⟩
 conv => whnf
 repeat (fail)
 refine ok1_callF [0] [false, true] false (q2) rfl rfl ⟨⟨rfl, by first | rfl | fail⟩, by (repeat' (first | exact trivial | refine And.intro ?_ ?_)) <;> first | exact ren_eq (by first | (simp; done) | fail) (by first | rfl | fail) | fail, by first | simp [plainHf, plainB], by first | rfl | fail, ?_⟩
 conv => whnf
 repeat (first | (refine Exists.intro _ (And.intro rfl ?_); conv => whnf) | fail)
 refine ok1_callF [10, 9, 8] [false, false, false, true] false (q4) rfl rfl ⟨⟨rfl, by first | rfl | fail⟩, by (repeat' (first | exact trivial | refine And.intro ?_ ?_)) <;> first | rfl | exact ren_eq (by first | (simp; done) | fail) (by first | rfl | fail) | fail, by first | simp [plainHf, plainB], by first | rfl | fail, ?_⟩
 conv => whnf
 repeat (fail)
 refine ⟨[0, 1, 2, 3, 4, 11], ?_, rfl, rfl, ?_, rfl⟩
 ·
  (repeat' (fail)) <;> first | rfl | fail
 ·
  (repeat' (first | exact trivial | refine And.intro ?_ ?_ | (refine wk_cons ?_ ?_))) <;> first | rfl | exact ren_eq (by first | (simp; done) | fail) (by first | rfl | fail) | fail
theorem f49_w_b (K : List UInt8) (hK : K.length < 100000000000000) (b0 : List UInt8) (hb0 : b0.length < 100000000000000) (fk f0 fl : Bool) : SCall Try.prog 49 [.u8 2, .sl 0 0 K.length 1 fk, .sl 1 0 1 1 fl] [some (.ro (K.map .u8)), some (.ro [.sl 2 0 b0.length 1 f0]), some (.ro (b0.map .u8))] (.sl 3 0 64 1 true) [some (.ro (K.map .u8)), some (.ro [.sl 2 0 b0.length 1 f0]), some (.ro (b0.map .u8)), some (.box ((mac_w K (b0)).map .u8))] := by
 have q1 := f100_w K hK 54 fk
 have q2 := f100_w K hK 92 fk
 have l1 := padL_len 128 (key_w K) 54
 have l2 := padL_len 128 (key_w K) 92
 obtain ⟨P1, hP1⟩ : ∃ P, P = padL 128 (key_w K) 54 := ⟨_, rfl⟩
 obtain ⟨P2, hP2⟩ : ∃ P, P = padL 128 (key_w K) 92 := ⟨_, rfl⟩
 rw [← hP1] at q1 l1
 rw [← hP2] at q2 l2
 have q3 := f99_w_bb P1 b0 (by omega) hb0 true f0 false
 have e3 : sum_w (P1 ++ b0) = sum_w (P1 ++ (b0)) := by simp only [List.append_assoc]
 have l3 := sum_len_w (P1 ++ (b0))
 rw [e3, l1] at q3
 have hm : mac_w K (b0) = sum_w (P2 ++ sum_w (P1 ++ (b0))) := by unfold mac_w; rw [hP1, hP2]
 rw [hm]
 obtain ⟨I, hI⟩ : ∃ I, I = sum_w (P1 ++ (b0)) := ⟨_, rfl⟩
 rw [← hI] at q3 l3 ⊢
 have q4 := f99_w_bb P2 I (by omega) (by omega) true true true
 rw [l2, l3] at q4
 have l4 := sum_len_w (P2 ++ I)
 obtain ⟨W, hW⟩ : ∃ W, W = sum_w (P2 ++ I) := ⟨_, rfl⟩
 rw [← hW] at q4 l4 ⊢
 clear hP1 hP2 hI hW hm e3
 refine scall_of ttOk (by kernel_rfl : Try.prog.funcs[49]? = some Try.f49) rfl rfl rfl ?_
 try simp only [List.length_cons, List.length_nil, Nat.zero_add, Nat.reduceAdd]
 refine sw_ok ttOk mixed (by kernel_rfl) ?_
 conv => whnf
 repeat (fail)
 refine ok1_callF [] [] true (f98_w) rfl rfl ⟨⟨rfl, by first | rfl | fail⟩, trivial, by first | rfl | fail, by first | rfl | fail, ?_⟩
 conv => whnf
 repeat (first | (refine brF rfl ?_; conv => whnf) | fail)
 refine ok1_callF [0] [false, true] false (q1) rfl rfl ⟨⟨rfl, by first | rfl | fail⟩, by (repeat' (first | exact trivial | refine And.intro ?_ ?_)) <;> first | exact ren_eq (by first | (simp; done) | fail) (by first | rfl | fail) | fail, by first | simp [plainHf, plainB], by first | rfl | fail, ?_⟩
 conv => whnf
 repeat (first | (refine Exists.intro _ (And.intro rfl ?_); conv => whnf) | (refine And.intro ⟨Nat.le_of_ble_eq_true rfl, Nat.le_of_ble_eq_true rfl, Nat.le_of_ble_eq_true rfl, Nat.le_of_ble_eq_true rfl⟩ ?_; conv => whnf) | fail)
 refine ok1_callF [5, 3, 2] [false, false, false, true] false (q3) rfl rfl ⟨⟨rfl, by first | rfl | fail⟩, by (repeat' (first | exact trivial | refine And.intro ?_ ?_)) <;> first | rfl | exact ren_eq (by first | (simp; done) | fail) (by first | rfl | fail) | fail, by first | simp [plainHf, plainB], by first | rfl | fail, ?_⟩
 conv => whnf
 repeat (fail)
 refine ok1_callF [0] [false, true] false (q2) rfl rfl ⟨⟨rfl, by first | rfl | fail⟩, by (repeat' (first | exact trivial | refine And.intro ?_ ?_)) <;> first | exact ren_eq (by first | (simp; done) | fail) (by first | rfl | fail) | fail, by first | simp [plainHf, plainB], by first | rfl | fail, ?_⟩
 conv => whnf
 repeat (first | (refine Exists.intro _ (And.intro rfl ?_); conv => whnf) | fail)
 refine ok1_callF [8, 7, 6] [false, false, false, true] false (q4) rfl rfl ⟨⟨rfl, by first | rfl | fail⟩, by (repeat' (first | exact trivial | refine And.intro ?_ ?_)) <;> first | rfl | exact ren_eq (by first | (simp; done) | fail) (by first | rfl | fail) | fail, by first | simp [plainHf, plainB], by first | rfl | fail, ?_⟩
 conv => whnf
 repeat (fail)
 refine ⟨[0, 1, 2, 9], ?_, rfl, rfl, ?_, rfl⟩
 ·
  (repeat' (fail)) <;> first | rfl | fail
 ·
  (repeat' (first | exact trivial | refine And.intro ?_ ?_ | (refine wk_cons ?_ ?_))) <;> first | rfl | exact ren_eq (by first | (simp; done) | fail) (by first | rfl | fail) | fail
theorem f49_w_obb (K : List UInt8) (hK : K.length < 100000000000000) (b1 b2 : List UInt8) (hb1 : b1.length < 100000000000000) (hb2 : b2.length < 100000000000000) (fk f1 f2 fl : Bool) : SCall Try.prog 49 [.u8 2, .sl 0 0 K.length 1 fk, .sl 1 0 3 1 fl] [some (.ro (K.map .u8)), some (.ro [.slnil, .sl 2 0 b1.length 1 f1, .sl 3 0 b2.length 1 f2]), some (.ro (b1.map .u8)), some (.ro (b2.map .u8))] (.sl 4 0 64 1 true) [some (.ro (K.map .u8)), some (.ro [.slnil, .sl 2 0 b1.length 1 f1, .sl 3 0 b2.length 1 f2]), some (.ro (b1.map .u8)), some (.ro (b2.map .u8)), some (.box ((mac_w K (b1 ++ b2)).map .u8))] := by
 have q1 := f100_w K hK 54 fk
 have q2 := f100_w K hK 92 fk
 have l1 := padL_len 128 (key_w K) 54
 have l2 := padL_len 128 (key_w K) 92
 obtain ⟨P1, hP1⟩ : ∃ P, P = padL 128 (key_w K) 54 := ⟨_, rfl⟩
 obtain ⟨P2, hP2⟩ : ∃ P, P = padL 128 (key_w K) 92 := ⟨_, rfl⟩
 rw [← hP1] at q1 l1
 rw [← hP2] at q2 l2
 have q3 := f99_w_bobb P1 b1 b2 (by omega) hb1 hb2 true f1 f2 false
 have e3 : sum_w (P1 ++ b1 ++ b2) = sum_w (P1 ++ (b1 ++ b2)) := by simp only [List.append_assoc]
 have l3 := sum_len_w (P1 ++ (b1 ++ b2))
 rw [e3, l1] at q3
 have hm : mac_w K (b1 ++ b2) = sum_w (P2 ++ sum_w (P1 ++ (b1 ++ b2))) := by unfold mac_w; rw [hP1, hP2]
 rw [hm]
 obtain ⟨I, hI⟩ : ∃ I, I = sum_w (P1 ++ (b1 ++ b2)) := ⟨_, rfl⟩
 rw [← hI] at q3 l3 ⊢
 have q4 := f99_w_bb P2 I (by omega) (by omega) true true true
 rw [l2, l3] at q4
 have l4 := sum_len_w (P2 ++ I)
 obtain ⟨W, hW⟩ : ∃ W, W = sum_w (P2 ++ I) := ⟨_, rfl⟩
 rw [← hW] at q4 l4 ⊢
 clear hP1 hP2 hI hW hm e3
 refine scall_of ttOk (by kernel_rfl : Try.prog.funcs[49]? = some Try.f49) rfl rfl rfl ?_
 try simp only [List.length_cons, List.length_nil, Nat.zero_add, Nat.reduceAdd]
 refine sw_ok ttOk mixed (by kernel_rfl) ?_
 conv => whnf
 repeat (fail)
 refine ok1_callF [] [] true (f98_w) rfl rfl ⟨⟨rfl, by first | rfl | fail⟩, trivial, by first | rfl | fail, by first | rfl | fail, ?_⟩
 conv => whnf
 repeat (first | (refine brF rfl ?_; conv => whnf) | fail)
 refine ok1_callF [0] [false, true] false (q1) rfl rfl ⟨⟨rfl, by first | rfl | fail⟩, by (repeat' (first | exact trivial | refine And.intro ?_ ?_)) <;> first | exact ren_eq (by first | (simp; done) | fail) (by first | rfl | fail) | fail, by first | simp [plainHf, plainB], by first | rfl | fail, ?_⟩
 conv => whnf
 repeat (first | (refine Exists.intro _ (And.intro rfl ?_); conv => whnf) | (refine And.intro ⟨Nat.le_of_ble_eq_true rfl, Nat.le_of_ble_eq_true rfl, Nat.le_of_ble_eq_true rfl, Nat.le_of_ble_eq_true rfl⟩ ?_; conv => whnf) | fail)
 refine ok1_callF [6, 4, 2, 3] [false, false, false, false, true] false (q3) rfl rfl ⟨⟨rfl, by first | rfl | fail⟩, by (repeat' (first | exact trivial | refine And.intro ?_ ?_)) <;> first | rfl | exact ren_eq (by first | (simp; done) | fail) (by first | rfl | fail) | fail, by first | simp [plainHf, plainB], by first | rfl | fail, ?_⟩
 conv => whnf
 repeat (fail)
 refine ok1_callF [0] [false, true] false (q2) rfl rfl ⟨⟨rfl, by first | rfl | fail⟩, by (repeat' (first | exact trivial | refine And.intro ?_ ?_)) <;> first | exact ren_eq (by first | (simp; done) | fail) (by first | rfl | fail) | fail, by first | simp [plainHf, plainB], by first | rfl | fail, ?_⟩
 conv => whnf
 repeat (first | (refine Exists.intro _ (And.intro rfl ?_); conv => whnf) | fail)
 refine ok1_callF [9, 8, 7] [false, false, false, true] false (q4) rfl rfl ⟨⟨rfl, by first | rfl | fail⟩, by (repeat' (first | exact trivial | refine And.intro ?_ ?_)) <;> first | rfl | exact ren_eq (by first | (simp; done) | fail) (by first | rfl | fail) | fail, by first | simp [plainHf, plainB], by first | rfl | fail, ?_⟩
 conv => whnf
 repeat (fail)
 refine ⟨[0, 1, 2, 3, 10], ?_, rfl, rfl, ?_, rfl⟩
 ·
  (repeat' (fail)) <;> first | rfl | fail
 ·
  (repeat' (first | exact trivial | refine And.intro ?_ ?_ | (refine wk_cons ?_ ?_))) <;> first | rfl | exact ren_eq (by first | (simp; done) | fail) (by first | rfl | fail) | fail
theorem f49_w_bbb (K : List UInt8) (hK : K.length < 100000000000000) (b0 b1 b2 : List UInt8) (hb0 : b0.length < 100000000000000) (hb1 : b1.length < 100000000000000) (hb2 : b2.length < 100000000000000) (fk f0 f1 f2 fl : Bool) : SCall Try.prog 49 [.u8 2, .sl 0 0 K.length 1 fk, .sl 1 0 3 1 fl] [some (.ro (K.map .u8)), some (.ro [.sl 2 0 b0.length 1 f0, .sl 3 0 b1.length 1 f1, .sl 4 0 b2.length 1 f2]), some (.ro (b0.map .u8)), some (.ro (b1.map .u8)), some (.ro (b2.map .u8))] (.sl 5 0 64 1 true) [some (.ro (K.map .u8)), some (.ro [.sl 2 0 b0.length 1 f0, .sl 3 0 b1.length 1 f1, .sl 4 0 b2.length 1 f2]), some (.ro (b0.map .u8)), some (.ro (b1.map .u8)), some (.ro (b2.map .u8)), some (.box ((mac_w K (b0 ++ b1 ++ b2)).map .u8))] := by
 have q1 := f100_w K hK 54 fk
 have q2 := f100_w K hK 92 fk
 have l1 := padL_len 128 (key_w K) 54
 have l2 := padL_len 128 (key_w K) 92
 obtain ⟨P1, hP1⟩ : ∃ P, P = padL 128 (key_w K) 54 := ⟨_, rfl⟩
 obtain ⟨P2, hP2⟩ : ∃ P, P = padL 128 (key_w K) 92 := ⟨_, rfl⟩
 rw [← hP1] at q1 l1
 rw [← hP2] at q2 l2
 have q3 := f99_w_bbbb P1 b0 b1 b2 (by omega) hb0 hb1 hb2 true f0 f1 f2 false
 have e3 : sum_w (P1 ++ b0 ++ b1 ++ b2) = sum_w (P1 ++ (b0 ++ b1 ++ b2)) := by simp only [List.append_assoc]
 have l3 := sum_len_w (P1 ++ (b0 ++ b1 ++ b2))
 rw [e3, l1] at q3
 have hm : mac_w K (b0 ++ b1 ++ b2) = sum_w (P2 ++ sum_w (P1 ++ (b0 ++ b1 ++ b2))) := by unfold mac_w; rw [hP1, hP2]
 rw [hm]
 obtain ⟨I, hI⟩ : ∃ I, I = sum_w (P1 ++ (b0 ++ b1 ++ b2)) := ⟨_, rfl⟩
 rw [← hI] at q3 l3 ⊢
 have q4 := f99_w_bb P2 I (by omega) (by omega) true true true
 rw [l2, l3] at q4
 have l4 := sum_len_w (P2 ++ I)
 obtain ⟨W, hW⟩ : ∃ W, W = sum_w (P2 ++ I) := ⟨_, rfl⟩
 rw [← hW] at q4 l4 ⊢
 clear hP1 hP2 hI hW hm e3
 refine scall_of ttOk (by kernel_rfl : Try.prog.funcs[49]? = some Try.f49) rfl rfl rfl ?_
 try simp only [List.length_cons, List.length_nil, Nat.zero_add, Nat.reduceAdd]
 refine sw_ok ttOk mixed (by kernel_rfl) ?_
 conv => whnf
 repeat (fail)
 refine ok1_callF [] [] true (f98_w) rfl rfl ⟨⟨rfl, by first | rfl | fail⟩, trivial, by first | rfl | fail, by first | rfl | fail, ?_⟩
 conv => whnf
 repeat (first | (refine brF rfl ?_; conv => whnf) | fail)
 refine ok1_callF [0] [false, true] false (q1) rfl rfl ⟨⟨rfl, by first | rfl | fail⟩, by (repeat' (first | exact trivial | refine And.intro ?_ ?_)) <;> first | exact ren_eq (by first | (simp; done) | fail) (by first | rfl | fail) | fail, by first | simp [plainHf, plainB], by first | rfl | fail, ?_⟩
 conv => whnf
 repeat (first | (refine Exists.intro _ (And.intro rfl ?_); conv => whnf) | (refine And.intro ⟨Nat.le_of_ble_eq_true rfl, Nat.le_of_ble_eq_true rfl, Nat.le_of_ble_eq_true rfl, Nat.le_of_ble_eq_true rfl⟩ ?_; conv => whnf) | fail)
 refine ok1_callF [7, 5, 2, 3, 4] [false, false, false, false, false, true] false (q3) rfl rfl ⟨⟨rfl, by first | rfl | fail⟩, by (repeat' (first | exact trivial | refine And.intro ?_ ?_)) <;> first | rfl | exact ren_eq (by first | (simp; done) | fail) (by first | rfl | fail) | fail, by first | simp [plainHf, plainB], by first | rfl | fail, ?_⟩
 conv => whnf
 repeat (fail)
 refine ok1_callF [0] [false, true] false (q2) rfl rfl ⟨⟨rfl, by first | rfl | fail⟩, by (repeat' (first | exact trivial | refine And.intro ?_ ?_)) <;> first | exact ren_eq (by first | (simp; done) | fail) (by first | rfl | fail) | fail, by first | simp [plainHf, plainB], by first | rfl | fail, ?_⟩
 conv => whnf
 repeat (first | (refine Exists.intro _ (And.intro rfl ?_); conv => whnf) | fail)
 refine ok1_callF [10, 9, 8] [false, false, false, true] false (q4) rfl rfl ⟨⟨rfl, by first | rfl | fail⟩, by (repeat' (first | exact trivial | refine And.intro ?_ ?_)) <;> first | rfl | exact ren_eq (by first | (simp; done) | fail) (by first | rfl | fail) | fail, by first | simp [plainHf, plainB], by first | rfl | fail, ?_⟩
 conv => whnf
 repeat (fail)
 refine ⟨[0, 1, 2, 3, 4, 11], ?_, rfl, rfl, ?_, rfl⟩
 ·
  (repeat' (fail)) <;> first | rfl | fail
 ·
  (repeat' (first | exact trivial | refine And.intro ?_ ?_ | (refine wk_cons ?_ ?_))) <;> first | rfl | exact ren_eq (by first | (simp; done) | fail) (by first | rfl | fail) | fail
theorem f50_n (K T : List UInt8) (hK : K.length < 100000000000000) (hT : T.length < 100000000000000) (fk ft : Bool) : SCall Try.prog 50 [.u8 1, .sl 0 0 K.length 1 fk, .sl 1 0 T.length 1 ft] [some (.ro (K.map .u8)), some (.ro (T.map .u8))] (.sl 2 0 32 1 true) [some (.ro (K.map .u8)), some (.ro (T.map .u8)), some (.box ((mac_n K T).map .u8))] := by
 have q := f49_n_b K hK T hT fk ft true
 have l := mac_len_n K T
 obtain ⟨W, hW⟩ : ∃ W, W = mac_n K T := ⟨_, rfl⟩
 rw [← hW] at q l ⊢
 refine scall_of ttOk (by kernel_rfl : Try.prog.funcs[50]? = some Try.f50) rfl rfl rfl ?_
 try simp only [List.length_cons, List.length_nil, Nat.zero_add, Nat.reduceAdd]
 refine sw_ok ttOk mixed (by kernel_rfl) ?_
 conv => whnf
 repeat (first | (refine Exists.intro _ (And.intro rfl ?_); conv => whnf) | fail)
 refine ok1_callF [0, 2, 1] [false, false, false, true] false (q) rfl rfl ⟨⟨rfl, by first | rfl | fail⟩, by (repeat' (first | exact trivial | refine And.intro ?_ ?_)) <;> first | rfl | exact ren_eq (by first | (simp; done) | fail) (by first | rfl | fail) | fail, by first | simp [plainHf, plainB], by first | rfl | fail, ?_⟩
 conv => whnf
 repeat (fail)
 refine ⟨[0, 1, 3], ?_, rfl, rfl, ?_, rfl⟩
 ·
  (repeat' (fail)) <;> first | rfl | fail
 ·
  (repeat' (first | exact trivial | refine And.intro ?_ ?_ | fail)) <;> first | exact ren_eq (by first | (simp; done) | fail) (by first | rfl | fail) | fail
theorem f50_w (K T : List UInt8) (hK : K.length < 100000000000000) (hT : T.length < 100000000000000) (fk ft : Bool) : SCall Try.prog 50 [.u8 2, .sl 0 0 K.length 1 fk, .sl 1 0 T.length 1 ft] [some (.ro (K.map .u8)), some (.ro (T.map .u8))] (.sl 2 0 64 1 true) [some (.ro (K.map .u8)), some (.ro (T.map .u8)), some (.box ((mac_w K T).map .u8))] := by
 have q := f49_w_b K hK T hT fk ft true
 have l := mac_len_w K T
 obtain ⟨W, hW⟩ : ∃ W, W = mac_w K T := ⟨_, rfl⟩
 rw [← hW] at q l ⊢
 refine scall_of ttOk (by kernel_rfl : Try.prog.funcs[50]? = some Try.f50) rfl rfl rfl ?_
 try simp only [List.length_cons, List.length_nil, Nat.zero_add, Nat.reduceAdd]
 refine sw_ok ttOk mixed (by kernel_rfl) ?_
 conv => whnf
 repeat (first | (refine Exists.intro _ (And.intro rfl ?_); conv => whnf) | fail)
 refine ok1_callF [0, 2, 1] [false, false, false, true] false (q) rfl rfl ⟨⟨rfl, by first | rfl | fail⟩, by (repeat' (first | exact trivial | refine And.intro ?_ ?_)) <;> first | rfl | exact ren_eq (by first | (simp; done) | fail) (by first | rfl | fail) | fail, by first | simp [plainHf, plainB], by first | rfl | fail, ?_⟩
 conv => whnf
 repeat (fail)
 refine ⟨[0, 1, 3], ?_, rfl, rfl, ?_, rfl⟩
 ·
  (repeat' (fail)) <;> first | rfl | fail
 ·
  (repeat' (first | exact trivial | refine And.intro ?_ ?_ | fail)) <;> first | exact ren_eq (by first | (simp; done) | fail) (by first | rfl | fail) | fail
end Go.Sh
/- mac: Expand (f51), walked. -/
namespace Go.Sh
open Go.Proofs
set_option maxHeartbeats 4000000

def exT_n (K I : List UInt8) : Nat → List UInt8
 | 0 => []
 | i + 1 => mac_n K (exT_n K I i ++ I ++ [u8i ((i + 1 : Nat) : Int)])
def exO_n (K I : List UInt8) : Nat → List UInt8
 | 0 => []
 | i + 1 => exO_n K I i ++ exT_n K I (i + 1)
def exp_n (K I : List UInt8) (n : Nat) : List UInt8 := (exO_n K I ((n + (32 - 1)) / 32)).take n
theorem exT_len_n (K I : List UInt8) (i : Nat) : (exT_n K I (i + 1)).length = 32 := mac_len_n _ _
theorem exO_len_n (K I : List UInt8) : ∀ i, (exO_n K I i).length = 32 * i
 | 0 => rfl
 | i + 1 => by
  show (exO_n K I i ++ exT_n K I (i + 1)).length = _
  rw [List.length_append, exO_len_n K I i, exT_len_n]; omega
theorem exO_pre_n (K I : List UInt8) (i : Nat) : ∀ j, (exO_n K I (i + j)).take (32 * i) = exO_n K I i
 | 0 => by rw [Nat.add_zero, List.take_of_length_le (by rw [exO_len_n]; exact Nat.le_refl _)]
 | j + 1 => by
  show (exO_n K I (i + j) ++ exT_n K I (i + j + 1)).take (32 * i) = _
  rw [List.take_append_of_le_length (by rw [exO_len_n]; omega)]
  exact exO_pre_n K I i j
theorem exp_len_n (K I : List UInt8) (n : Nat) : (exp_n K I n).length = n := by
 unfold exp_n; rw [List.length_take, exO_len_n]; omega
theorem exp_pre_n (K I : List UInt8) {n m : Nat} (h : n ≤ m) : (exp_n K I m).take n = exp_n K I n := by
 unfold exp_n
 obtain ⟨j, hj⟩ : ∃ j, (m + (32 - 1)) / 32 = (n + (32 - 1)) / 32 + j := ⟨(m + (32 - 1)) / 32 - (n + (32 - 1)) / 32, by omega⟩
 rw [hj, List.take_take, Nat.min_eq_left h, ← exO_pre_n K I ((n + (32 - 1)) / 32) j, List.take_take, Nat.min_eq_left (by omega)]
theorem exT_s_n (K I : List UInt8) (i : Nat) : exT_n K I (i + 1) = mac_n K (exT_n K I i ++ I ++ [u8i ((i + 1 : Nat) : Int)]) := rfl
theorem exT_1_n (K I : List UInt8) : exT_n K I 1 = mac_n K (I ++ [u8i ((1 : Nat) : Int)]) := rfl
theorem exO_s_n (K I : List UInt8) (i : Nat) : exO_n K I (i + 1) = exO_n K I i ++ exT_n K I (i + 1) := rfl
theorem exO_z_n (K I : List UInt8) : exO_n K I 0 = [] := rfl
def exR_n : Nat → SV
 | 0 => .slnil
 | _ + 1 => .sl 3 0 32 1 true
def exB_n (K I : List UInt8) : Nat → Option SB
 | 0 => none
 | i + 1 => some (.box ((exT_n K I (i + 1)).map .u8))
section
attribute [local irreducible] mac_n exT_n exO_n
theorem f51_n (K I : List UInt8) (hK : K.length < 100000000000000) (hI : I.length < 100000000000000) (n : Nat) (hn1 : 1 ≤ n) (hn : n ≤ 8160) (fk fi : Bool) : SCall Try.prog 51 [.u8 1, .sl 0 0 K.length 1 fk, .sl 1 0 I.length 1 fi, .i (n : Int)] [some (.ro (K.map .u8)), some (.ro (I.map .u8))] (.tup [.sl 2 0 n 1 true, .i 0]) [some (.ro (K.map .u8)), some (.ro (I.map .u8)), some (.row 5 ((exO_n K I ((n + (32 - 1)) / 32)).map .u8))] := by
 have e1 : decide ((n : Int) < 1) = false := by simp; omega
 have e2 : decide ((n : Int) > w64 (255 * 32)) = false := by simp [w64_eq]; omega
 obtain ⟨m, hm⟩ : ∃ m, m = (n + (32 - 1)) / 32 := ⟨_, rfl⟩
 rw [← hm]
 refine scall_of ttOk (by kernel_rfl : Try.prog.funcs[51]? = some Try.f51) rfl rfl rfl ?_
 try simp only [List.length_cons, List.length_nil, Nat.zero_add, Nat.reduceAdd]
 refine sw_ok ttOk mixed (by kernel_rfl) ?_
 conv => whnf
 repeat (first | (refine gdT e1 ?_; conv => whnf) | fail)
 refine ok1_callF [] [] true (f98_n) rfl rfl ⟨⟨rfl, by first | rfl | fail⟩, trivial, by first | rfl | fail, by first | rfl | fail, ?_⟩
 conv => whnf
 repeat (first | (refine gdT e1 ?_; conv => whnf) | (refine pkF e1 ?_; conv => whnf) | (refine gdF e2 ?_; conv => whnf) | fail)
 refine SWp.weak (Weak.virt 10 5 1 rfl) ?_
 refine loop_rule ttOk mixed (by kernel_rfl) (ι := { i : Nat // i ≤ m }) (fun i => [(0, .u8 1), (1, .sl 0 0 K.length 1 fk), (2, .sl 1 0 I.length 1 fi), (3, .i n), (8, .slnil), (9, .i 0), (10, .sl 2 0 (32 * i.1) 1 false), (11, exR_n i.1), (12, .i ((i.1 + 1 : Nat) : Int))]) (fun i => [some (.ro (K.map .u8)), some (.ro (I.map .u8)), some (.row 5 ((exO_n K I i.1).map .u8)), exB_n K I i.1]) (fun _ => 4) (fun i => m - i.1) ⟨0, by omega⟩ ?_ ?_
 ·
  have hz := exO_z_n K I
  dsimp only
  rw [hz]
  refine Weak.sel [0, 1, 2, 0] rfl rfl ?_ ?_ rfl rfl
  ·
   (repeat' (first | exact trivial | refine And.intro ?_ ?_ | fail)) <;> first | rfl | fail
  ·
   (repeat' (first | exact trivial | refine And.intro ?_ ?_ | fail)) <;> first | rfl | exact ren_eq (by first | (simp; done) | fail) (by first | rfl | fail) | fail
 ·
  rintro ⟨i, hi⟩
  dsimp only
  have hol := exO_len_n K I i
  have hos := exO_s_n K I i
  have htl := exT_len_n K I i
  have hts := exT_s_n K I i
  have hp : w64 (((i + 1 : Nat) : Int) + 1) = ((i + 1 + 1 : Nat) : Int) := by simp only [w64_eq]; omega
  by_cases hi2 : i < m
  ·
   have hlt : decide (((32 * i : Nat) : Int) < (n : Int)) = true := by simp; omega
   obtain ⟨O, hO⟩ : ∃ O, O = exO_n K I i := ⟨_, rfl⟩
   rw [← hO] at hol hos ⊢
   rcases i with _ | i
   ·
    have q := f49_n_obb K hK I [u8i ((1 : Nat) : Int)] hI (by decide : [u8i ((1 : Nat) : Int)].length < 100000000000000) fk fi true true
    rw [← exT_1_n] at q
    obtain ⟨T, hT⟩ : ∃ T, T = exT_n K I 1 := ⟨_, rfl⟩
    rw [← hT] at q
    have hTl : T.length = 32 := by rw [hT]; exact exT_len_n K I 0
    have hap : (O ++ T).map SV.u8 = List.take (32 * 0 * 1) (List.drop 0 (O.map SV.u8)) ++ List.take (32 * 1) (List.drop 0 (T.map SV.u8)) := by
     rw [List.drop_zero, List.drop_zero, List.take_of_length_le (l := O.map SV.u8) (by rw [List.length_map]; omega), List.take_of_length_le (l := T.map SV.u8) (by rw [List.length_map]; omega), List.map_append]
    conv => whnf
    first | refine brT (by exact hlt) ?_ | fail
    conv => whnf
    repeat (first | (refine Exists.intro _ (And.intro rfl ?_); conv => whnf) | fail)
    refine ok1_callF [0, 5, 1, 4] [false, false, false, false, true] false (q) rfl rfl ⟨⟨rfl, by first | rfl | fail⟩, by (repeat' (first | exact trivial | refine And.intro ?_ ?_)) <;> first | rfl | exact ren_eq (by first | (simp; done) | fail) (by first | rfl | fail) | fail, by first | simp [plainHf, plainB], by first | rfl | fail, ?_⟩
    conv => whnf
    repeat (first | (refine And.intro (by first | omega | (simp [ti5]; omega)) ?_; conv => whnf) | fail)
    refine ⟨⟨1, by omega⟩, by simp only; omega, ?_⟩
    dsimp only
    rw [hos]
    unfold exR_n exB_n
    dsimp only
    rw [← hT]
    refine Weak.sel [0, 1, 7, 6] rfl rfl ?_ ?_ rfl rfl
    ·
     (repeat' (first | exact trivial | refine And.intro ?_ ?_ | fail)) <;> first | exact wk_i (by first | exact hp | fail) | rfl | fail
    ·
     (repeat' (first | exact trivial | exact ren_eq (plainL_u8 _) hap | refine And.intro ?_ ?_ | fail)) <;> first | rfl | exact ren_eq (by first | (simp; done) | fail) (by first | rfl | fail) | fail
   ·
    obtain ⟨T0, hT0⟩ : ∃ T, T = exT_n K I (i + 1) := ⟨_, rfl⟩
    have htl0 := exT_len_n K I i
    rw [← hT0] at htl0
    have q := f49_n_bbb K hK T0 I [u8i ((i + 1 + 1 : Nat) : Int)] (by omega) hI (by simp) fk true fi true true
    rw [hT0, ← exT_s_n, ← hT0, htl0] at q
    obtain ⟨T, hT⟩ : ∃ T, T = exT_n K I (i + 1 + 1) := ⟨_, rfl⟩
    rw [← hT] at q
    have hTl : T.length = 32 := by rw [hT]; exact exT_len_n K I (i + 1)
    have hap : (O ++ T).map SV.u8 = List.take (32 * (i + 1) * 1) (List.drop 0 (O.map SV.u8)) ++ List.take (32 * 1) (List.drop 0 (T.map SV.u8)) := by
     rw [List.drop_zero, List.drop_zero, List.take_of_length_le (l := O.map SV.u8) (by rw [List.length_map]; omega), List.take_of_length_le (l := T.map SV.u8) (by rw [List.length_map]; omega), List.map_append]
    have hnx : 32 * (i + 1 + 1) = 32 * (i + 1) + 32 := by omega
    unfold exR_n exB_n
    dsimp only
    rw [← hT0]
    conv => whnf
    first | refine brT (by exact hlt) ?_ | fail
    conv => whnf
    repeat (first | (refine Exists.intro _ (And.intro rfl ?_); conv => whnf) | fail)
    refine ok1_callF [0, 5, 3, 1, 4] [false, false, false, false, false, true] false (q) rfl rfl ⟨⟨rfl, by first | rfl | fail⟩, by (repeat' (first | exact trivial | refine And.intro ?_ ?_)) <;> first | rfl | exact ren_eq (by first | (simp; done) | fail) (by first | rfl | fail) | fail, by first | simp [plainHf, plainB], by first | rfl | fail, ?_⟩
    conv => whnf
    repeat (first | (refine And.intro (by first | omega | (simp [ti5]; omega)) ?_; conv => whnf) | fail)
    refine ⟨⟨i + 1 + 1, by omega⟩, by simp only; omega, ?_⟩
    dsimp only
    rw [hos, ← hT]
    refine Weak.sel [0, 1, 7, 6] rfl rfl ?_ ?_ rfl rfl
    ·
     (repeat' (first | exact trivial | refine And.intro ?_ ?_ | fail)) <;> first | exact wk_i (by first | exact hp | exact hp.symm | fail) | rfl | fail
    ·
     (repeat' (first | exact trivial | exact ren_eq (plainL_u8 _) hap | refine And.intro ?_ ?_ | fail)) <;> first | rfl | exact ren_eq (by first | (simp; done) | fail) (by first | rfl | fail) | fail
  ·
   obtain rfl : i = m := by omega
   have hlt : decide (((32 * i : Nat) : Int) < (n : Int)) = false := by simp; omega
   rcases i with _ | i
   ·
    omega
   ·
    conv => whnf
    first | refine brF (by exact hlt) ?_ | fail
    conv => whnf
    repeat (first | (refine Exists.intro _ (And.intro rfl ?_); conv => whnf) | (refine And.intro (by first | omega | fail) ?_; conv => whnf) | fail)
    have hdd : decide (((n : Nat) : Int).toNat = ((n : Nat) : Int).toNat) = true := by simp
    rw [hdd, Int.toNat_natCast]
    refine ⟨[0, 1, 2], ?_, rfl, rfl, ?_, rfl⟩
    ·
     (repeat' (first | (refine wk_tup ?_) | (refine wk_cons ?_ ?_))) <;> first | rfl | fail
    ·
     (repeat' (first | exact trivial | refine And.intro ?_ ?_ | fail)) <;> first | rfl | exact ren_eq (by first | (simp; done) | fail) (by first | rfl | fail) | fail
end
def exT_w (K I : List UInt8) : Nat → List UInt8
 | 0 => []
 | i + 1 => mac_w K (exT_w K I i ++ I ++ [u8i ((i + 1 : Nat) : Int)])
def exO_w (K I : List UInt8) : Nat → List UInt8
 | 0 => []
 | i + 1 => exO_w K I i ++ exT_w K I (i + 1)
def exp_w (K I : List UInt8) (n : Nat) : List UInt8 := (exO_w K I ((n + (64 - 1)) / 64)).take n
theorem exT_len_w (K I : List UInt8) (i : Nat) : (exT_w K I (i + 1)).length = 64 := mac_len_w _ _
theorem exO_len_w (K I : List UInt8) : ∀ i, (exO_w K I i).length = 64 * i
 | 0 => rfl
 | i + 1 => by
  show (exO_w K I i ++ exT_w K I (i + 1)).length = _
  rw [List.length_append, exO_len_w K I i, exT_len_w]; omega
theorem exO_pre_w (K I : List UInt8) (i : Nat) : ∀ j, (exO_w K I (i + j)).take (64 * i) = exO_w K I i
 | 0 => by rw [Nat.add_zero, List.take_of_length_le (by rw [exO_len_w]; exact Nat.le_refl _)]
 | j + 1 => by
  show (exO_w K I (i + j) ++ exT_w K I (i + j + 1)).take (64 * i) = _
  rw [List.take_append_of_le_length (by rw [exO_len_w]; omega)]
  exact exO_pre_w K I i j
theorem exp_len_w (K I : List UInt8) (n : Nat) : (exp_w K I n).length = n := by
 unfold exp_w; rw [List.length_take, exO_len_w]; omega
theorem exp_pre_w (K I : List UInt8) {n m : Nat} (h : n ≤ m) : (exp_w K I m).take n = exp_w K I n := by
 unfold exp_w
 obtain ⟨j, hj⟩ : ∃ j, (m + (64 - 1)) / 64 = (n + (64 - 1)) / 64 + j := ⟨(m + (64 - 1)) / 64 - (n + (64 - 1)) / 64, by omega⟩
 rw [hj, List.take_take, Nat.min_eq_left h, ← exO_pre_w K I ((n + (64 - 1)) / 64) j, List.take_take, Nat.min_eq_left (by omega)]
theorem exT_s_w (K I : List UInt8) (i : Nat) : exT_w K I (i + 1) = mac_w K (exT_w K I i ++ I ++ [u8i ((i + 1 : Nat) : Int)]) := rfl
theorem exT_1_w (K I : List UInt8) : exT_w K I 1 = mac_w K (I ++ [u8i ((1 : Nat) : Int)]) := rfl
theorem exO_s_w (K I : List UInt8) (i : Nat) : exO_w K I (i + 1) = exO_w K I i ++ exT_w K I (i + 1) := rfl
theorem exO_z_w (K I : List UInt8) : exO_w K I 0 = [] := rfl
def exR_w : Nat → SV
 | 0 => .slnil
 | _ + 1 => .sl 3 0 64 1 true
def exB_w (K I : List UInt8) : Nat → Option SB
 | 0 => none
 | i + 1 => some (.box ((exT_w K I (i + 1)).map .u8))
section
attribute [local irreducible] mac_w exT_w exO_w
theorem f51_w (K I : List UInt8) (hK : K.length < 100000000000000) (hI : I.length < 100000000000000) (n : Nat) (hn1 : 1 ≤ n) (hn : n ≤ 16320) (fk fi : Bool) : SCall Try.prog 51 [.u8 2, .sl 0 0 K.length 1 fk, .sl 1 0 I.length 1 fi, .i (n : Int)] [some (.ro (K.map .u8)), some (.ro (I.map .u8))] (.tup [.sl 2 0 n 1 true, .i 0]) [some (.ro (K.map .u8)), some (.ro (I.map .u8)), some (.row 5 ((exO_w K I ((n + (64 - 1)) / 64)).map .u8))] := by
 have e1 : decide ((n : Int) < 1) = false := by simp; omega
 have e2 : decide ((n : Int) > w64 (255 * 64)) = false := by simp [w64_eq]; omega
 obtain ⟨m, hm⟩ : ∃ m, m = (n + (64 - 1)) / 64 := ⟨_, rfl⟩
 rw [← hm]
 refine scall_of ttOk (by kernel_rfl : Try.prog.funcs[51]? = some Try.f51) rfl rfl rfl ?_
 try simp only [List.length_cons, List.length_nil, Nat.zero_add, Nat.reduceAdd]
 refine sw_ok ttOk mixed (by kernel_rfl) ?_
 conv => whnf
 repeat (first | (refine gdT e1 ?_; conv => whnf) | fail)
 refine ok1_callF [] [] true (f98_w) rfl rfl ⟨⟨rfl, by first | rfl | fail⟩, trivial, by first | rfl | fail, by first | rfl | fail, ?_⟩
 conv => whnf
 repeat (first | (refine gdT e1 ?_; conv => whnf) | (refine pkF e1 ?_; conv => whnf) | (refine gdF e2 ?_; conv => whnf) | fail)
 refine SWp.weak (Weak.virt 10 5 1 rfl) ?_
 refine loop_rule ttOk mixed (by kernel_rfl) (ι := { i : Nat // i ≤ m }) (fun i => [(0, .u8 2), (1, .sl 0 0 K.length 1 fk), (2, .sl 1 0 I.length 1 fi), (3, .i n), (8, .slnil), (9, .i 0), (10, .sl 2 0 (64 * i.1) 1 false), (11, exR_w i.1), (12, .i ((i.1 + 1 : Nat) : Int))]) (fun i => [some (.ro (K.map .u8)), some (.ro (I.map .u8)), some (.row 5 ((exO_w K I i.1).map .u8)), exB_w K I i.1]) (fun _ => 4) (fun i => m - i.1) ⟨0, by omega⟩ ?_ ?_
 ·
  have hz := exO_z_w K I
  dsimp only
  rw [hz]
  refine Weak.sel [0, 1, 2, 0] rfl rfl ?_ ?_ rfl rfl
  ·
   (repeat' (first | exact trivial | refine And.intro ?_ ?_ | fail)) <;> first | rfl | fail
  ·
   (repeat' (first | exact trivial | refine And.intro ?_ ?_ | fail)) <;> first | rfl | exact ren_eq (by first | (simp; done) | fail) (by first | rfl | fail) | fail
 ·
  rintro ⟨i, hi⟩
  dsimp only
  have hol := exO_len_w K I i
  have hos := exO_s_w K I i
  have htl := exT_len_w K I i
  have hts := exT_s_w K I i
  have hp : w64 (((i + 1 : Nat) : Int) + 1) = ((i + 1 + 1 : Nat) : Int) := by simp only [w64_eq]; omega
  by_cases hi2 : i < m
  ·
   have hlt : decide (((64 * i : Nat) : Int) < (n : Int)) = true := by simp; omega
   obtain ⟨O, hO⟩ : ∃ O, O = exO_w K I i := ⟨_, rfl⟩
   rw [← hO] at hol hos ⊢
   rcases i with _ | i
   ·
    have q := f49_w_obb K hK I [u8i ((1 : Nat) : Int)] hI (by decide : [u8i ((1 : Nat) : Int)].length < 100000000000000) fk fi true true
    rw [← exT_1_w] at q
    obtain ⟨T, hT⟩ : ∃ T, T = exT_w K I 1 := ⟨_, rfl⟩
    rw [← hT] at q
    have hTl : T.length = 64 := by rw [hT]; exact exT_len_w K I 0
    have hap : (O ++ T).map SV.u8 = List.take (64 * 0 * 1) (List.drop 0 (O.map SV.u8)) ++ List.take (64 * 1) (List.drop 0 (T.map SV.u8)) := by
     rw [List.drop_zero, List.drop_zero, List.take_of_length_le (l := O.map SV.u8) (by rw [List.length_map]; omega), List.take_of_length_le (l := T.map SV.u8) (by rw [List.length_map]; omega), List.map_append]
    conv => whnf
    first | refine brT (by exact hlt) ?_ | fail
    conv => whnf
    repeat (first | (refine Exists.intro _ (And.intro rfl ?_); conv => whnf) | fail)
    refine ok1_callF [0, 5, 1, 4] [false, false, false, false, true] false (q) rfl rfl ⟨⟨rfl, by first | rfl | fail⟩, by (repeat' (first | exact trivial | refine And.intro ?_ ?_)) <;> first | rfl | exact ren_eq (by first | (simp; done) | fail) (by first | rfl | fail) | fail, by first | simp [plainHf, plainB], by first | rfl | fail, ?_⟩
    conv => whnf
    repeat (first | (refine And.intro (by first | omega | (simp [ti5]; omega)) ?_; conv => whnf) | fail)
    refine ⟨⟨1, by omega⟩, by simp only; omega, ?_⟩
    dsimp only
    rw [hos]
    unfold exR_w exB_w
    dsimp only
    rw [← hT]
    refine Weak.sel [0, 1, 7, 6] rfl rfl ?_ ?_ rfl rfl
    ·
     (repeat' (first | exact trivial | refine And.intro ?_ ?_ | fail)) <;> first | exact wk_i (by first | exact hp | fail) | rfl | fail
    ·
     (repeat' (first | exact trivial | exact ren_eq (plainL_u8 _) hap | refine And.intro ?_ ?_ | fail)) <;> first | rfl | exact ren_eq (by first | (simp; done) | fail) (by first | rfl | fail) | fail
   ·
    obtain ⟨T0, hT0⟩ : ∃ T, T = exT_w K I (i + 1) := ⟨_, rfl⟩
    have htl0 := exT_len_w K I i
    rw [← hT0] at htl0
    have q := f49_w_bbb K hK T0 I [u8i ((i + 1 + 1 : Nat) : Int)] (by omega) hI (by simp) fk true fi true true
    rw [hT0, ← exT_s_w, ← hT0, htl0] at q
    obtain ⟨T, hT⟩ : ∃ T, T = exT_w K I (i + 1 + 1) := ⟨_, rfl⟩
    rw [← hT] at q
    have hTl : T.length = 64 := by rw [hT]; exact exT_len_w K I (i + 1)
    have hap : (O ++ T).map SV.u8 = List.take (64 * (i + 1) * 1) (List.drop 0 (O.map SV.u8)) ++ List.take (64 * 1) (List.drop 0 (T.map SV.u8)) := by
     rw [List.drop_zero, List.drop_zero, List.take_of_length_le (l := O.map SV.u8) (by rw [List.length_map]; omega), List.take_of_length_le (l := T.map SV.u8) (by rw [List.length_map]; omega), List.map_append]
    have hnx : 64 * (i + 1 + 1) = 64 * (i + 1) + 64 := by omega
    unfold exR_w exB_w
    dsimp only
    rw [← hT0]
    conv => whnf
    first | refine brT (by exact hlt) ?_ | fail
    conv => whnf
    repeat (first | (refine Exists.intro _ (And.intro rfl ?_); conv => whnf) | fail)
    refine ok1_callF [0, 5, 3, 1, 4] [false, false, false, false, false, true] false (q) rfl rfl ⟨⟨rfl, by first | rfl | fail⟩, by (repeat' (first | exact trivial | refine And.intro ?_ ?_)) <;> first | rfl | exact ren_eq (by first | (simp; done) | fail) (by first | rfl | fail) | fail, by first | simp [plainHf, plainB], by first | rfl | fail, ?_⟩
    conv => whnf
    repeat (first | (refine And.intro (by first | omega | (simp [ti5]; omega)) ?_; conv => whnf) | fail)
    refine ⟨⟨i + 1 + 1, by omega⟩, by simp only; omega, ?_⟩
    dsimp only
    rw [hos, ← hT]
    refine Weak.sel [0, 1, 7, 6] rfl rfl ?_ ?_ rfl rfl
    ·
     (repeat' (first | exact trivial | refine And.intro ?_ ?_ | fail)) <;> first | exact wk_i (by first | exact hp | exact hp.symm | fail) | rfl | fail
    ·
     (repeat' (first | exact trivial | exact ren_eq (plainL_u8 _) hap | refine And.intro ?_ ?_ | fail)) <;> first | rfl | exact ren_eq (by first | (simp; done) | fail) (by first | rfl | fail) | fail
  ·
   obtain rfl : i = m := by omega
   have hlt : decide (((64 * i : Nat) : Int) < (n : Int)) = false := by simp; omega
   rcases i with _ | i
   ·
    omega
   ·
    conv => whnf
    first | refine brF (by exact hlt) ?_ | fail
    conv => whnf
    repeat (first | (refine Exists.intro _ (And.intro rfl ?_); conv => whnf) | (refine And.intro (by first | omega | fail) ?_; conv => whnf) | fail)
    have hdd : decide (((n : Nat) : Int).toNat = ((n : Nat) : Int).toNat) = true := by simp
    rw [hdd, Int.toNat_natCast]
    refine ⟨[0, 1, 2], ?_, rfl, rfl, ?_, rfl⟩
    ·
     (repeat' (first | (refine wk_tup ?_) | (refine wk_cons ?_ ?_))) <;> first | rfl | fail
    ·
     (repeat' (first | exact trivial | refine And.intro ?_ ?_ | fail)) <;> first | rfl | exact ren_eq (by first | (simp; done) | fail) (by first | rfl | fail) | fail
end
end Go.Sh
/- mac, the reference: size (f95), sum (f96), walked. -/
namespace Go.Sh
open Go.Proofs
set_option maxHeartbeats 4000000

theorem f95_n : SCall Try.prog 95 [.u8 1] [] (.i 32) [] := by
 refine scall_of ttOk (by kernel_rfl : Try.prog.funcs[95]? = some Try.f95) rfl rfl rfl ?_
 try simp only [List.length_cons, List.length_nil, Nat.zero_add, Nat.reduceAdd]
 refine sw_ok ttOk mixed (by kernel_rfl) ?_
 conv => whnf
 repeat (first | (refine brT rfl ?_; conv => whnf) | fail)
 refine ⟨[], ?_, rfl, rfl, ?_, rfl⟩
 ·
  (repeat' (fail)) <;> first | rfl | fail
 ·
  (repeat' (first | exact trivial | fail)) <;> fail
theorem f96_n (T : List UInt8) (hT : T.length < 100000000000000) (f : Bool) : SCall Try.prog 96 [.u8 1, .sl 0 0 T.length 1 f] [some (.ro (T.map .u8))] (.sl 1 0 32 1 false) [some (.ro (T.map .u8)), some (.row 5 ((sum_n T).map .u8))] := by
 have q := f133_n T hT f
 rw [show hash_n k0_n h0_n T = sum_n T from rfl] at q
 obtain ⟨X, hX⟩ : ∃ X, X = sum_n T := ⟨_, rfl⟩
 rw [← hX] at q ⊢
 refine scall_of ttOk (by kernel_rfl : Try.prog.funcs[96]? = some Try.f96) rfl rfl rfl ?_
 try simp only [List.length_cons, List.length_nil, Nat.zero_add, Nat.reduceAdd]
 refine sw_ok ttOk mixed (by kernel_rfl) ?_
 conv => whnf
 repeat (fail)
 refine ok1_callF [] [] true (f95_n) rfl rfl ⟨⟨rfl, by first | rfl | fail⟩, trivial, by first | rfl | fail, by first | rfl | fail, ?_⟩
 conv => whnf
 repeat (fail)
 refine ok1_callF [0] [false, true] false (q) rfl rfl ⟨⟨rfl, by first | rfl | fail⟩, by (repeat' (first | exact trivial | refine And.intro ?_ ?_)) <;> first | exact ren_eq (by first | (simp; done) | fail) (by first | rfl | fail) | fail, by first | simp [plainHf, plainB], by first | rfl | fail, ?_⟩
 conv => whnf
 repeat (fail)
 refine ⟨[0, 1], ?_, rfl, rfl, ?_, rfl⟩
 ·
  (repeat' (fail)) <;> first | rfl | fail
 ·
  (repeat' (first | exact trivial | refine And.intro ?_ ?_ | fail)) <;> first | rfl | exact ren_eq (by first | (simp; done) | fail) (by first | rfl | fail) | fail
theorem f95_w : SCall Try.prog 95 [.u8 2] [] (.i 64) [] := by
 refine scall_of ttOk (by kernel_rfl : Try.prog.funcs[95]? = some Try.f95) rfl rfl rfl ?_
 try simp only [List.length_cons, List.length_nil, Nat.zero_add, Nat.reduceAdd]
 refine sw_ok ttOk mixed (by kernel_rfl) ?_
 conv => whnf
 repeat (first | (refine brT rfl ?_; conv => whnf) | (refine brF rfl ?_; conv => whnf) | fail)
 refine ⟨[], ?_, rfl, rfl, ?_, rfl⟩
 ·
  (repeat' (fail)) <;> first | rfl | fail
 ·
  (repeat' (first | exact trivial | fail)) <;> fail
theorem f96_w (T : List UInt8) (hT : T.length < 100000000000000) (f : Bool) : SCall Try.prog 96 [.u8 2, .sl 0 0 T.length 1 f] [some (.ro (T.map .u8))] (.sl 1 0 64 1 false) [some (.ro (T.map .u8)), some (.row 5 ((sum_w T).map .u8))] := by
 have q := f133_w T hT f
 rw [show hash_w k0_w h0_w T = sum_w T from rfl] at q
 obtain ⟨X, hX⟩ : ∃ X, X = sum_w T := ⟨_, rfl⟩
 rw [← hX] at q ⊢
 refine scall_of ttOk (by kernel_rfl : Try.prog.funcs[96]? = some Try.f96) rfl rfl rfl ?_
 try simp only [List.length_cons, List.length_nil, Nat.zero_add, Nat.reduceAdd]
 refine sw_ok ttOk mixed (by kernel_rfl) ?_
 conv => whnf
 repeat (fail)
 refine ok1_callF [] [] true (f95_w) rfl rfl ⟨⟨rfl, by first | rfl | fail⟩, trivial, by first | rfl | fail, by first | rfl | fail, ?_⟩
 conv => whnf
 repeat (fail)
 refine ok1_callF [0] [false, true] false (q) rfl rfl ⟨⟨rfl, by first | rfl | fail⟩, by (repeat' (first | exact trivial | refine And.intro ?_ ?_)) <;> first | exact ren_eq (by first | (simp; done) | fail) (by first | rfl | fail) | fail, by first | simp [plainHf, plainB], by first | rfl | fail, ?_⟩
 conv => whnf
 repeat (fail)
 refine ⟨[0, 1], ?_, rfl, rfl, ?_, rfl⟩
 ·
  (repeat' (fail)) <;> first | rfl | fail
 ·
  (repeat' (first | exact trivial | refine And.intro ?_ ?_ | fail)) <;> first | rfl | exact ren_eq (by first | (simp; done) | fail) (by first | rfl | fail) | fail
end Go.Sh
/- mac, the reference: a key's block (f97), walked. -/
namespace Go.Sh
open Go.Proofs
set_option maxHeartbeats 4000000
set_option maxRecDepth 100000

theorem padz_get (Y : List UInt8) (n i : Nat) : (Y ++ List.replicate n 0).getD i 0 = Y.getD i 0 := by
 rw [List.getD_eq_getElem?_getD, List.getD_eq_getElem?_getD]
 by_cases h : i < Y.length
 ·
  rw [List.getElem?_append_left h]
 ·
  rw [List.getElem?_append_right (by omega), List.getElem?_eq_none (i := i) (l := Y) (by omega), List.getElem?_replicate]
  split <;> rfl
theorem rcat8z {E b : List UInt8} {n m : Nat} (hn : n = E.length) (hm : m = b.length) : (E ++ b).map SV.u8 = List.take (n * 1) (List.drop 0 (E.map SV.u8)) ++ List.take (m * 1) (List.drop 0 (b.map SV.u8)) := by
 subst hn; subst hm
 rw [Nat.mul_one, Nat.mul_one, List.drop_zero, List.drop_zero, List.take_of_length_le (l := b.map SV.u8) (by rw [List.length_map]; exact Nat.le_refl _), List.take_of_length_le (l := E.map SV.u8) (by rw [List.length_map]; exact Nat.le_refl _), List.map_append]
theorem f97_n_s (K : List UInt8) (hK : K.length ≤ 64) (w : UInt8) (f : Bool) : SCall Try.prog 97 [.u8 1, .sl 0 0 K.length 1 f, .u8 w] [some (.ro (K.map .u8))] (.sl 1 0 64 1 false) [some (.ro (K.map .u8)), some (.row 5 ((padL 64 K w).map .u8))] := by
 have hz0 : 0 + K.length = K.length := Nat.zero_add _
 have hbk : List.take (0 * ti5.sz) (List.drop 0 (reps 0 (SV.u8 0).cells)) ++ List.take (K.length * ti5.sz) (List.drop 0 (SB.ro (List.map SV.u8 K)).cells) = K.map SV.u8 := by
  show ([] : List SV) ++ List.take (K.length * 1) (K.map SV.u8) = _
  simp
 have hlt : decide ((K.length : Int) > w64 (2 * 32)) = false := by
  rw [show w64 (2 * 32) = 64 from by decide]; simp; omega
 refine scall_of ttOk (by kernel_rfl : Try.prog.funcs[97]? = some Try.f97) rfl rfl rfl ?_
 try simp only [List.length_cons, List.length_nil, Nat.zero_add, Nat.reduceAdd]
 refine sw_ok ttOk mixed (by kernel_rfl) ?_
 conv => whnf
 repeat (first | (refine Exists.intro _ (And.intro rfl ?_); conv => whnf) | (refine And.intro (by first | omega | (simp [ti5]; omega)) ?_; conv => whnf) | fail)
 rw [hbk, hz0]
 refine ok1_callF [] [] true (f95_n) rfl rfl ⟨⟨rfl, by first | rfl | fail⟩, trivial, by first | rfl | fail, by first | rfl | fail, ?_⟩
 conv => whnf
 repeat (fail)
 first | refine brF (by exact hlt) ?_ | fail
 conv => whnf
 repeat (fail)
 have hYl0 : K.length + 0 = K.length := rfl
 refine loop_rule ttOk mixed (by kernel_rfl) (ι := { j : Nat // K.length + j ≤ 64 }) (fun j => [(0, .u8 1), (2, .u8 w), (7, .sl 1 0 (K.length + j.1) 1 false)]) (fun j => [some (.ro (K.map .u8)), some (.row 5 ((K ++ List.replicate j.1 0).map .u8))]) (fun _ => 2) (fun j => 64 - j.1) ⟨0, by omega⟩ ?_ ?_
 ·
  have hz : K ++ List.replicate 0 0 = K := List.append_nil _
  dsimp only
  rw [hz]
  refine Weak.sel [0, 2] rfl rfl ?_ ?_ rfl rfl
  ·
   (repeat' (first | exact trivial | refine And.intro ?_ ?_ | fail)) <;> first | rfl | fail
  ·
   (repeat' (first | exact trivial | refine And.intro ?_ ?_ | fail)) <;> first | rfl | exact ren_eq (by first | (simp; done) | fail) (by first | rfl | fail) | fail
 ·
  rintro ⟨j, hj⟩
  dsimp only
  have hYs : K ++ List.replicate (j + 1) 0 = (K ++ List.replicate j 0) ++ [0] := by rw [List.replicate_succ', List.append_assoc]
  have hgt : ∀ i, (K ++ List.replicate j 0).getD i 0 = K.getD i 0 := fun i => padz_get K j i
  obtain ⟨V, hV⟩ : ∃ V, V = K ++ List.replicate j 0 := ⟨_, rfl⟩
  have hVl : V.length = K.length + j := by rw [hV, List.length_append, List.length_replicate]
  rw [← hV] at hYs hgt ⊢
  by_cases hj2 : K.length + j < 64
  ·
   have hlt2 : decide (((K.length + j : Nat) : Int) < w64 (2 * 32)) = true := by
    rw [show w64 (2 * 32) = 64 from by decide]; simp; omega
   have hap := rcat8z (E := V) (b := [0]) (n := K.length + j) (m := 1) hVl.symm rfl
   have hp : K.length + j + 1 = K.length + (j + 1) := by omega
   conv => whnf
   repeat (fail)
   refine ok1_callF [] [] true (f95_n) rfl rfl ⟨⟨rfl, by first | rfl | fail⟩, trivial, by first | rfl | fail, by first | rfl | fail, ?_⟩
   conv => whnf
   repeat (fail)
   first | refine brT (by exact hlt2) ?_ | fail
   conv => whnf
   repeat (first | (refine Exists.intro _ (And.intro rfl ?_); conv => whnf) | (refine And.intro (by first | omega | (simp [ti5]; omega)) ?_; conv => whnf) | fail)
   refine ⟨⟨j + 1, by omega⟩, by simp only; omega, ?_⟩
   dsimp only
   rw [hYs]
   refine Weak.sel [0, 3] rfl rfl ?_ ?_ rfl rfl
   ·
    (repeat' (first | exact trivial | refine And.intro ?_ ?_ | fail)) <;> first | rfl | fail
   ·
    (repeat' (first | exact trivial | exact ren_eq (plainL_u8 _) hap | refine And.intro ?_ ?_ | fail)) <;> first | rfl | exact ren_eq (by first | (simp; done) | fail) (by first | rfl | fail) | fail
  ·
   have hlt2 : decide (((K.length + j : Nat) : Int) < w64 (2 * 32)) = false := by
    rw [show w64 (2 * 32) = 64 from by decide]; simp; omega
   have hjB : K.length + j = 64 := by omega
   rw [hjB] at hVl hlt2 ⊢
   conv => whnf
   repeat (fail)
   refine ok1_callF [] [] true (f95_n) rfl rfl ⟨⟨rfl, by first | rfl | fail⟩, trivial, by first | rfl | fail, by first | rfl | fail, ?_⟩
   conv => whnf
   repeat (first | (refine brF rfl ?_; conv => whnf) | fail)
   refine loop_rule ttOk mixed (by kernel_rfl) (ι := { i : Nat // i ≤ 64 }) (fun i => [(2, .u8 w), (7, .sl 1 0 64 1 false), (8, .i (i.1 : Int))]) (fun i => [some (.ro (K.map .u8)), some (.row 5 ((fil 64 i.1 (fun i => w ^^^ K.getD i 0) (fun i => V.getD i 0)).map .u8))]) (fun _ => 2) (fun i => 64 - i.1) ⟨0, by omega⟩ ?_ ?_
   ·
    have hz : fil 64 0 (fun i => w ^^^ K.getD i 0) (fun i => V.getD i 0) = V := fil_of_list hVl
    dsimp only
    rw [hz]
    refine Weak.sel [0, 1] rfl rfl ?_ ?_ rfl rfl
    ·
     (repeat' (first | exact trivial | refine And.intro ?_ ?_ | fail)) <;> first | rfl | fail
    ·
     (repeat' (first | exact trivial | refine And.intro ?_ ?_ | fail)) <;> first | rfl | exact ren_eq (by first | (simp; done) | fail) (by first | rfl | fail) | fail
   ·
    rintro ⟨i, hi⟩
    dsimp only
    have hf := fil_len 64 i (fun i => w ^^^ K.getD i 0) (fun i => V.getD i 0)
    by_cases hi2 : i < 64
    ·
     have hlt3 : decide ((i : Int) < 64) = true := by simp; omega
     have hp : w64 ((i : Int) + 1) = ((i + 1 : Nat) : Int) := by simp only [w64_eq]; omega
     have hx : (fil 64 i (fun i => w ^^^ K.getD i 0) (fun i => V.getD i 0)).getD i 0 ^^^ w = (fun i => w ^^^ K.getD i 0) i := by
      rw [fil_getD hi2, if_neg (by omega), hgt i, UInt8.xor_comm]
     have hs := fil_setx (f := fun i => w ^^^ K.getD i 0) (g := fun i => V.getD i 0) hi2 hx
     conv => whnf
     first | refine brT (by exact hlt3) ?_ | fail
     conv => whnf
     repeat (first | (refine Exists.intro _ (And.intro (sput_m8 (i := i) (by first | rfl | omega | fail)) ?_); conv => whnf) | (refine Exists.intro _ (And.intro (sload_u8 (i := i) (by first | rfl | omega | fail) (by first | omega | fail)) ?_); conv => whnf) | (refine Exists.intro _ (And.intro (idx_i (m := i) (by first | rfl | fail)) ?_); conv => whnf) | (refine And.intro (by first | omega | fail) ?_; conv => whnf) | (refine And.intro ⟨by first | exact @rfl Nat _ | fail, by first | (simp only [hf, ti5, List.length_map]; omega) | fail⟩ ?_; conv => whnf) | fail)
     refine ⟨⟨i + 1, by omega⟩, by simp only; omega, ?_⟩
     dsimp only
     rw [← hs]
     refine Weak.sel [0, 1] rfl rfl ?_ ?_ rfl rfl
     ·
      (repeat' (first | exact trivial | refine And.intro ?_ ?_ | fail)) <;> first | exact wk_i (by first | exact hp | exact hp.symm | fail) | rfl | fail
     ·
      (repeat' (first | exact trivial | refine And.intro ?_ ?_ | fail)) <;> first | rfl | exact ren_eq (by first | (simp; done) | fail) (by first | rfl | fail) | exact ren_m8 (by first | rfl | fail) | fail
    ·
     obtain rfl : i = 64 := by omega
     have hfin : fil 64 64 (fun i => w ^^^ K.getD i 0) (fun i => V.getD i 0) = padL 64 K w := fil_full ..
     rw [hfin]
     conv => whnf
     first | refine brF (by rfl) ?_ | fail
     conv => whnf
     repeat (fail)
     refine ⟨[0, 1], ?_, rfl, rfl, ?_, rfl⟩
     ·
      (repeat' (fail)) <;> first | rfl | fail
     ·
      (repeat' (first | exact trivial | refine And.intro ?_ ?_ | (refine wk_cons ?_ ?_))) <;> first | rfl | exact ren_eq (by first | (simp; done) | fail) (by first | rfl | fail) | fail
theorem f97_w_s (K : List UInt8) (hK : K.length ≤ 128) (w : UInt8) (f : Bool) : SCall Try.prog 97 [.u8 2, .sl 0 0 K.length 1 f, .u8 w] [some (.ro (K.map .u8))] (.sl 1 0 128 1 false) [some (.ro (K.map .u8)), some (.row 5 ((padL 128 K w).map .u8))] := by
 have hz0 : 0 + K.length = K.length := Nat.zero_add _
 have hbk : List.take (0 * ti5.sz) (List.drop 0 (reps 0 (SV.u8 0).cells)) ++ List.take (K.length * ti5.sz) (List.drop 0 (SB.ro (List.map SV.u8 K)).cells) = K.map SV.u8 := by
  show ([] : List SV) ++ List.take (K.length * 1) (K.map SV.u8) = _
  simp
 have hlt : decide ((K.length : Int) > w64 (2 * 64)) = false := by
  rw [show w64 (2 * 64) = 128 from by decide]; simp; omega
 refine scall_of ttOk (by kernel_rfl : Try.prog.funcs[97]? = some Try.f97) rfl rfl rfl ?_
 try simp only [List.length_cons, List.length_nil, Nat.zero_add, Nat.reduceAdd]
 refine sw_ok ttOk mixed (by kernel_rfl) ?_
 conv => whnf
 repeat (first | (refine Exists.intro _ (And.intro rfl ?_); conv => whnf) | (refine And.intro (by first | omega | (simp [ti5]; omega)) ?_; conv => whnf) | fail)
 rw [hbk, hz0]
 refine ok1_callF [] [] true (f95_w) rfl rfl ⟨⟨rfl, by first | rfl | fail⟩, trivial, by first | rfl | fail, by first | rfl | fail, ?_⟩
 conv => whnf
 repeat (fail)
 first | refine brF (by exact hlt) ?_ | fail
 conv => whnf
 repeat (fail)
 have hYl0 : K.length + 0 = K.length := rfl
 refine loop_rule ttOk mixed (by kernel_rfl) (ι := { j : Nat // K.length + j ≤ 128 }) (fun j => [(0, .u8 2), (2, .u8 w), (7, .sl 1 0 (K.length + j.1) 1 false)]) (fun j => [some (.ro (K.map .u8)), some (.row 5 ((K ++ List.replicate j.1 0).map .u8))]) (fun _ => 2) (fun j => 128 - j.1) ⟨0, by omega⟩ ?_ ?_
 ·
  have hz : K ++ List.replicate 0 0 = K := List.append_nil _
  dsimp only
  rw [hz]
  refine Weak.sel [0, 2] rfl rfl ?_ ?_ rfl rfl
  ·
   (repeat' (first | exact trivial | refine And.intro ?_ ?_ | fail)) <;> first | rfl | fail
  ·
   (repeat' (first | exact trivial | refine And.intro ?_ ?_ | fail)) <;> first | rfl | exact ren_eq (by first | (simp; done) | fail) (by first | rfl | fail) | fail
 ·
  rintro ⟨j, hj⟩
  dsimp only
  have hYs : K ++ List.replicate (j + 1) 0 = (K ++ List.replicate j 0) ++ [0] := by rw [List.replicate_succ', List.append_assoc]
  have hgt : ∀ i, (K ++ List.replicate j 0).getD i 0 = K.getD i 0 := fun i => padz_get K j i
  obtain ⟨V, hV⟩ : ∃ V, V = K ++ List.replicate j 0 := ⟨_, rfl⟩
  have hVl : V.length = K.length + j := by rw [hV, List.length_append, List.length_replicate]
  rw [← hV] at hYs hgt ⊢
  by_cases hj2 : K.length + j < 128
  ·
   have hlt2 : decide (((K.length + j : Nat) : Int) < w64 (2 * 64)) = true := by
    rw [show w64 (2 * 64) = 128 from by decide]; simp; omega
   have hap := rcat8z (E := V) (b := [0]) (n := K.length + j) (m := 1) hVl.symm rfl
   have hp : K.length + j + 1 = K.length + (j + 1) := by omega
   conv => whnf
   repeat (fail)
   refine ok1_callF [] [] true (f95_w) rfl rfl ⟨⟨rfl, by first | rfl | fail⟩, trivial, by first | rfl | fail, by first | rfl | fail, ?_⟩
   conv => whnf
   repeat (fail)
   first | refine brT (by exact hlt2) ?_ | fail
   conv => whnf
   repeat (first | (refine Exists.intro _ (And.intro rfl ?_); conv => whnf) | (refine And.intro (by first | omega | (simp [ti5]; omega)) ?_; conv => whnf) | fail)
   refine ⟨⟨j + 1, by omega⟩, by simp only; omega, ?_⟩
   dsimp only
   rw [hYs]
   refine Weak.sel [0, 3] rfl rfl ?_ ?_ rfl rfl
   ·
    (repeat' (first | exact trivial | refine And.intro ?_ ?_ | fail)) <;> first | rfl | fail
   ·
    (repeat' (first | exact trivial | exact ren_eq (plainL_u8 _) hap | refine And.intro ?_ ?_ | fail)) <;> first | rfl | exact ren_eq (by first | (simp; done) | fail) (by first | rfl | fail) | fail
  ·
   have hlt2 : decide (((K.length + j : Nat) : Int) < w64 (2 * 64)) = false := by
    rw [show w64 (2 * 64) = 128 from by decide]; simp; omega
   have hjB : K.length + j = 128 := by omega
   rw [hjB] at hVl hlt2 ⊢
   conv => whnf
   repeat (fail)
   refine ok1_callF [] [] true (f95_w) rfl rfl ⟨⟨rfl, by first | rfl | fail⟩, trivial, by first | rfl | fail, by first | rfl | fail, ?_⟩
   conv => whnf
   repeat (first | (refine brF rfl ?_; conv => whnf) | fail)
   refine loop_rule ttOk mixed (by kernel_rfl) (ι := { i : Nat // i ≤ 128 }) (fun i => [(2, .u8 w), (7, .sl 1 0 128 1 false), (8, .i (i.1 : Int))]) (fun i => [some (.ro (K.map .u8)), some (.row 5 ((fil 128 i.1 (fun i => w ^^^ K.getD i 0) (fun i => V.getD i 0)).map .u8))]) (fun _ => 2) (fun i => 128 - i.1) ⟨0, by omega⟩ ?_ ?_
   ·
    have hz : fil 128 0 (fun i => w ^^^ K.getD i 0) (fun i => V.getD i 0) = V := fil_of_list hVl
    dsimp only
    rw [hz]
    refine Weak.sel [0, 1] rfl rfl ?_ ?_ rfl rfl
    ·
     (repeat' (first | exact trivial | refine And.intro ?_ ?_ | fail)) <;> first | rfl | fail
    ·
     (repeat' (first | exact trivial | refine And.intro ?_ ?_ | fail)) <;> first | rfl | exact ren_eq (by first | (simp; done) | fail) (by first | rfl | fail) | fail
   ·
    rintro ⟨i, hi⟩
    dsimp only
    have hf := fil_len 128 i (fun i => w ^^^ K.getD i 0) (fun i => V.getD i 0)
    by_cases hi2 : i < 128
    ·
     have hlt3 : decide ((i : Int) < 128) = true := by simp; omega
     have hp : w64 ((i : Int) + 1) = ((i + 1 : Nat) : Int) := by simp only [w64_eq]; omega
     have hx : (fil 128 i (fun i => w ^^^ K.getD i 0) (fun i => V.getD i 0)).getD i 0 ^^^ w = (fun i => w ^^^ K.getD i 0) i := by
      rw [fil_getD hi2, if_neg (by omega), hgt i, UInt8.xor_comm]
     have hs := fil_setx (f := fun i => w ^^^ K.getD i 0) (g := fun i => V.getD i 0) hi2 hx
     conv => whnf
     first | refine brT (by exact hlt3) ?_ | fail
     conv => whnf
     repeat (first | (refine Exists.intro _ (And.intro (sput_m8 (i := i) (by first | rfl | omega | fail)) ?_); conv => whnf) | (refine Exists.intro _ (And.intro (sload_u8 (i := i) (by first | rfl | omega | fail) (by first | omega | fail)) ?_); conv => whnf) | (refine Exists.intro _ (And.intro (idx_i (m := i) (by first | rfl | fail)) ?_); conv => whnf) | (refine And.intro (by first | omega | fail) ?_; conv => whnf) | (refine And.intro ⟨by first | exact @rfl Nat _ | fail, by first | (simp only [hf, ti5, List.length_map]; omega) | fail⟩ ?_; conv => whnf) | fail)
     refine ⟨⟨i + 1, by omega⟩, by simp only; omega, ?_⟩
     dsimp only
     rw [← hs]
     refine Weak.sel [0, 1] rfl rfl ?_ ?_ rfl rfl
     ·
      (repeat' (first | exact trivial | refine And.intro ?_ ?_ | fail)) <;> first | exact wk_i (by first | exact hp | exact hp.symm | fail) | rfl | fail
     ·
      (repeat' (first | exact trivial | refine And.intro ?_ ?_ | fail)) <;> first | rfl | exact ren_eq (by first | (simp; done) | fail) (by first | rfl | fail) | exact ren_m8 (by first | rfl | fail) | fail
    ·
     obtain rfl : i = 128 := by omega
     have hfin : fil 128 128 (fun i => w ^^^ K.getD i 0) (fun i => V.getD i 0) = padL 128 K w := fil_full ..
     rw [hfin]
     conv => whnf
     first | refine brF (by rfl) ?_ | fail
     conv => whnf
     repeat (fail)
     refine ⟨[0, 1], ?_, rfl, rfl, ?_, rfl⟩
     ·
      (repeat' (fail)) <;> first | rfl | fail
     ·
      (repeat' (first | exact trivial | refine And.intro ?_ ?_ | (refine wk_cons ?_ ?_))) <;> first | rfl | exact ren_eq (by first | (simp; done) | fail) (by first | rfl | fail) | fail
end Go.Sh
/- mac, the reference: a long key's block, any key's block (f97), walked. -/
namespace Go.Sh
open Go.Proofs
set_option maxHeartbeats 4000000
set_option maxRecDepth 100000

attribute [local irreducible] sum_n sum_w
theorem f97_n_l (K : List UInt8) (hK : 64 < K.length) (hKb : K.length < 100000000000000) (w : UInt8) (f : Bool) : SCall Try.prog 97 [.u8 1, .sl 0 0 K.length 1 f, .u8 w] [some (.ro (K.map .u8))] (.sl 1 0 64 1 false) [some (.ro (K.map .u8)), some (.row 5 ((padL 64 (sum_n K) w).map .u8))] := by
 have hz0 : 0 + K.length = K.length := Nat.zero_add _
 have hbk : List.take (0 * ti5.sz) (List.drop 0 (reps 0 (SV.u8 0).cells)) ++ List.take (K.length * ti5.sz) (List.drop 0 (SB.ro (List.map SV.u8 K)).cells) = K.map SV.u8 := by
  show ([] : List SV) ++ List.take (K.length * 1) (K.map SV.u8) = _
  simp
 have hlt : decide ((K.length : Int) > w64 (2 * 32)) = true := by
  rw [show w64 (2 * 32) = 64 from by decide]; simp; omega
 have q96 := f96_n K hKb false
 have hYl := sum_len_n K
 obtain ⟨Y, hY⟩ : ∃ Y, Y = sum_n K := ⟨_, rfl⟩
 rw [← hY] at q96 hYl ⊢
 refine scall_of ttOk (by kernel_rfl : Try.prog.funcs[97]? = some Try.f97) rfl rfl rfl ?_
 try simp only [List.length_cons, List.length_nil, Nat.zero_add, Nat.reduceAdd]
 refine sw_ok ttOk mixed (by kernel_rfl) ?_
 conv => whnf
 repeat (first | (refine Exists.intro _ (And.intro rfl ?_); conv => whnf) | (refine And.intro (by first | omega | (simp [ti5]; omega)) ?_; conv => whnf) | fail)
 rw [hbk, hz0]
 refine ok1_callF [] [] true (f95_n) rfl rfl ⟨⟨rfl, by first | rfl | fail⟩, trivial, by first | rfl | fail, by first | rfl | fail, ?_⟩
 conv => whnf
 repeat (fail)
 first | refine brT (by exact hlt) ?_ | fail
 conv => whnf
 repeat (fail)
 refine ok1_callF [2] [false, true] false (q96) rfl rfl ⟨⟨rfl, by first | rfl | fail⟩, by (repeat' (first | exact trivial | refine And.intro ?_ ?_)) <;> first | exact ren_eq (by first | (simp; done) | fail) (by first | rfl | fail) | fail, by first | simp [plainHf, plainB], by first | rfl | fail, ?_⟩
 conv => whnf
 repeat (fail)
 have hYl0 : Y.length + 0 = 32 := hYl
 refine loop_rule ttOk mixed (by kernel_rfl) (ι := { j : Nat // Y.length + j ≤ 64 }) (fun j => [(0, .u8 1), (2, .u8 w), (7, .sl 1 0 (Y.length + j.1) 1 false)]) (fun j => [some (.ro (K.map .u8)), some (.row 5 ((Y ++ List.replicate j.1 0).map .u8))]) (fun _ => 2) (fun j => 64 - j.1) ⟨0, by omega⟩ ?_ ?_
 ·
  have hz : Y ++ List.replicate 0 0 = Y := List.append_nil _
  dsimp only
  rw [hz]
  refine Weak.sel [0, 3] rfl rfl ?_ ?_ rfl rfl
  ·
   (repeat' (first | exact trivial | refine And.intro ?_ ?_ | fail)) <;> first | rfl | exact wk_sl rfl (by first | rfl | fail) (by first | exact hYl0 | fail) | fail
  ·
   (repeat' (first | exact trivial | refine And.intro ?_ ?_ | fail)) <;> first | rfl | exact ren_eq (by first | (simp; done) | fail) (by first | rfl | fail) | fail
 ·
  rintro ⟨j, hj⟩
  dsimp only
  have hYs : Y ++ List.replicate (j + 1) 0 = (Y ++ List.replicate j 0) ++ [0] := by rw [List.replicate_succ', List.append_assoc]
  have hgt : ∀ i, (Y ++ List.replicate j 0).getD i 0 = Y.getD i 0 := fun i => padz_get Y j i
  obtain ⟨V, hV⟩ : ∃ V, V = Y ++ List.replicate j 0 := ⟨_, rfl⟩
  have hVl : V.length = Y.length + j := by rw [hV, List.length_append, List.length_replicate]
  rw [← hV] at hYs hgt ⊢
  by_cases hj2 : Y.length + j < 64
  ·
   have hlt2 : decide (((Y.length + j : Nat) : Int) < w64 (2 * 32)) = true := by
    rw [show w64 (2 * 32) = 64 from by decide]; simp; omega
   have hap := rcat8z (E := V) (b := [0]) (n := Y.length + j) (m := 1) hVl.symm rfl
   have hp : Y.length + j + 1 = Y.length + (j + 1) := by omega
   conv => whnf
   repeat (fail)
   refine ok1_callF [] [] true (f95_n) rfl rfl ⟨⟨rfl, by first | rfl | fail⟩, trivial, by first | rfl | fail, by first | rfl | fail, ?_⟩
   conv => whnf
   repeat (fail)
   first | refine brT (by exact hlt2) ?_ | fail
   conv => whnf
   repeat (first | (refine Exists.intro _ (And.intro rfl ?_); conv => whnf) | (refine And.intro (by first | omega | (simp [ti5]; omega)) ?_; conv => whnf) | fail)
   refine ⟨⟨j + 1, by omega⟩, by simp only; omega, ?_⟩
   dsimp only
   rw [hYs]
   refine Weak.sel [0, 3] rfl rfl ?_ ?_ rfl rfl
   ·
    (repeat' (first | exact trivial | refine And.intro ?_ ?_ | fail)) <;> first | rfl | fail
   ·
    (repeat' (first | exact trivial | exact ren_eq (plainL_u8 _) hap | refine And.intro ?_ ?_ | fail)) <;> first | rfl | exact ren_eq (by first | (simp; done) | fail) (by first | rfl | fail) | fail
  ·
   have hlt2 : decide (((Y.length + j : Nat) : Int) < w64 (2 * 32)) = false := by
    rw [show w64 (2 * 32) = 64 from by decide]; simp; omega
   have hjB : Y.length + j = 64 := by omega
   rw [hjB] at hVl hlt2 ⊢
   conv => whnf
   repeat (fail)
   refine ok1_callF [] [] true (f95_n) rfl rfl ⟨⟨rfl, by first | rfl | fail⟩, trivial, by first | rfl | fail, by first | rfl | fail, ?_⟩
   conv => whnf
   repeat (first | (refine brF rfl ?_; conv => whnf) | fail)
   refine loop_rule ttOk mixed (by kernel_rfl) (ι := { i : Nat // i ≤ 64 }) (fun i => [(2, .u8 w), (7, .sl 1 0 64 1 false), (8, .i (i.1 : Int))]) (fun i => [some (.ro (K.map .u8)), some (.row 5 ((fil 64 i.1 (fun i => w ^^^ Y.getD i 0) (fun i => V.getD i 0)).map .u8))]) (fun _ => 2) (fun i => 64 - i.1) ⟨0, by omega⟩ ?_ ?_
   ·
    have hz : fil 64 0 (fun i => w ^^^ Y.getD i 0) (fun i => V.getD i 0) = V := fil_of_list hVl
    dsimp only
    rw [hz]
    refine Weak.sel [0, 1] rfl rfl ?_ ?_ rfl rfl
    ·
     (repeat' (first | exact trivial | refine And.intro ?_ ?_ | fail)) <;> first | rfl | fail
    ·
     (repeat' (first | exact trivial | refine And.intro ?_ ?_ | fail)) <;> first | rfl | exact ren_eq (by first | (simp; done) | fail) (by first | rfl | fail) | fail
   ·
    rintro ⟨i, hi⟩
    dsimp only
    have hf := fil_len 64 i (fun i => w ^^^ Y.getD i 0) (fun i => V.getD i 0)
    by_cases hi2 : i < 64
    ·
     have hlt3 : decide ((i : Int) < 64) = true := by simp; omega
     have hp : w64 ((i : Int) + 1) = ((i + 1 : Nat) : Int) := by simp only [w64_eq]; omega
     have hx : (fil 64 i (fun i => w ^^^ Y.getD i 0) (fun i => V.getD i 0)).getD i 0 ^^^ w = (fun i => w ^^^ Y.getD i 0) i := by
      rw [fil_getD hi2, if_neg (by omega), hgt i, UInt8.xor_comm]
     have hs := fil_setx (f := fun i => w ^^^ Y.getD i 0) (g := fun i => V.getD i 0) hi2 hx
     conv => whnf
     first | refine brT (by exact hlt3) ?_ | fail
     conv => whnf
     repeat (first | (refine Exists.intro _ (And.intro (sput_m8 (i := i) (by first | rfl | omega | fail)) ?_); conv => whnf) | (refine Exists.intro _ (And.intro (sload_u8 (i := i) (by first | rfl | omega | fail) (by first | omega | fail)) ?_); conv => whnf) | (refine Exists.intro _ (And.intro (idx_i (m := i) (by first | rfl | fail)) ?_); conv => whnf) | (refine And.intro (by first | omega | fail) ?_; conv => whnf) | (refine And.intro ⟨by first | exact @rfl Nat _ | fail, by first | (simp only [hf, ti5, List.length_map]; omega) | fail⟩ ?_; conv => whnf) | fail)
     refine ⟨⟨i + 1, by omega⟩, by simp only; omega, ?_⟩
     dsimp only
     rw [← hs]
     refine Weak.sel [0, 1] rfl rfl ?_ ?_ rfl rfl
     ·
      (repeat' (first | exact trivial | refine And.intro ?_ ?_ | fail)) <;> first | exact wk_i (by first | exact hp | exact hp.symm | fail) | rfl | fail
     ·
      (repeat' (first | exact trivial | refine And.intro ?_ ?_ | fail)) <;> first | rfl | exact ren_eq (by first | (simp; done) | fail) (by first | rfl | fail) | exact ren_m8 (by first | rfl | fail) | fail
    ·
     obtain rfl : i = 64 := by omega
     have hfin : fil 64 64 (fun i => w ^^^ Y.getD i 0) (fun i => V.getD i 0) = padL 64 Y w := fil_full ..
     rw [hfin]
     conv => whnf
     first | refine brF (by rfl) ?_ | fail
     conv => whnf
     repeat (fail)
     refine ⟨[0, 1], ?_, rfl, rfl, ?_, rfl⟩
     ·
      (repeat' (fail)) <;> first | rfl | fail
     ·
      (repeat' (first | exact trivial | refine And.intro ?_ ?_ | (refine wk_cons ?_ ?_))) <;> first | rfl | exact ren_eq (by first | (simp; done) | fail) (by first | rfl | fail) | fail
theorem f97_n (K : List UInt8) (hKb : K.length < 100000000000000) (w : UInt8) (f : Bool) : SCall Try.prog 97 [.u8 1, .sl 0 0 K.length 1 f, .u8 w] [some (.ro (K.map .u8))] (.sl 1 0 64 1 false) [some (.ro (K.map .u8)), some (.row 5 ((padL 64 (key_n K) w).map .u8))] := by
 by_cases hk : 64 < K.length
 ·
  rw [show key_n K = sum_n K by unfold key_n; rw [if_pos hk]]; exact f97_n_l K hk hKb w f
 ·
  rw [show key_n K = K by unfold key_n; rw [if_neg hk]]; exact f97_n_s K (by omega) w f
theorem f97_w_l (K : List UInt8) (hK : 128 < K.length) (hKb : K.length < 100000000000000) (w : UInt8) (f : Bool) : SCall Try.prog 97 [.u8 2, .sl 0 0 K.length 1 f, .u8 w] [some (.ro (K.map .u8))] (.sl 1 0 128 1 false) [some (.ro (K.map .u8)), some (.row 5 ((padL 128 (sum_w K) w).map .u8))] := by
 have hz0 : 0 + K.length = K.length := Nat.zero_add _
 have hbk : List.take (0 * ti5.sz) (List.drop 0 (reps 0 (SV.u8 0).cells)) ++ List.take (K.length * ti5.sz) (List.drop 0 (SB.ro (List.map SV.u8 K)).cells) = K.map SV.u8 := by
  show ([] : List SV) ++ List.take (K.length * 1) (K.map SV.u8) = _
  simp
 have hlt : decide ((K.length : Int) > w64 (2 * 64)) = true := by
  rw [show w64 (2 * 64) = 128 from by decide]; simp; omega
 have q96 := f96_w K hKb false
 have hYl := sum_len_w K
 obtain ⟨Y, hY⟩ : ∃ Y, Y = sum_w K := ⟨_, rfl⟩
 rw [← hY] at q96 hYl ⊢
 refine scall_of ttOk (by kernel_rfl : Try.prog.funcs[97]? = some Try.f97) rfl rfl rfl ?_
 try simp only [List.length_cons, List.length_nil, Nat.zero_add, Nat.reduceAdd]
 refine sw_ok ttOk mixed (by kernel_rfl) ?_
 conv => whnf
 repeat (first | (refine Exists.intro _ (And.intro rfl ?_); conv => whnf) | (refine And.intro (by first | omega | (simp [ti5]; omega)) ?_; conv => whnf) | fail)
 rw [hbk, hz0]
 refine ok1_callF [] [] true (f95_w) rfl rfl ⟨⟨rfl, by first | rfl | fail⟩, trivial, by first | rfl | fail, by first | rfl | fail, ?_⟩
 conv => whnf
 repeat (fail)
 first | refine brT (by exact hlt) ?_ | fail
 conv => whnf
 repeat (fail)
 refine ok1_callF [2] [false, true] false (q96) rfl rfl ⟨⟨rfl, by first | rfl | fail⟩, by (repeat' (first | exact trivial | refine And.intro ?_ ?_)) <;> first | exact ren_eq (by first | (simp; done) | fail) (by first | rfl | fail) | fail, by first | simp [plainHf, plainB], by first | rfl | fail, ?_⟩
 conv => whnf
 repeat (fail)
 have hYl0 : Y.length + 0 = 64 := hYl
 refine loop_rule ttOk mixed (by kernel_rfl) (ι := { j : Nat // Y.length + j ≤ 128 }) (fun j => [(0, .u8 2), (2, .u8 w), (7, .sl 1 0 (Y.length + j.1) 1 false)]) (fun j => [some (.ro (K.map .u8)), some (.row 5 ((Y ++ List.replicate j.1 0).map .u8))]) (fun _ => 2) (fun j => 128 - j.1) ⟨0, by omega⟩ ?_ ?_
 ·
  have hz : Y ++ List.replicate 0 0 = Y := List.append_nil _
  dsimp only
  rw [hz]
  refine Weak.sel [0, 3] rfl rfl ?_ ?_ rfl rfl
  ·
   (repeat' (first | exact trivial | refine And.intro ?_ ?_ | fail)) <;> first | rfl | exact wk_sl rfl (by first | rfl | fail) (by first | exact hYl0 | fail) | fail
  ·
   (repeat' (first | exact trivial | refine And.intro ?_ ?_ | fail)) <;> first | rfl | exact ren_eq (by first | (simp; done) | fail) (by first | rfl | fail) | fail
 ·
  rintro ⟨j, hj⟩
  dsimp only
  have hYs : Y ++ List.replicate (j + 1) 0 = (Y ++ List.replicate j 0) ++ [0] := by rw [List.replicate_succ', List.append_assoc]
  have hgt : ∀ i, (Y ++ List.replicate j 0).getD i 0 = Y.getD i 0 := fun i => padz_get Y j i
  obtain ⟨V, hV⟩ : ∃ V, V = Y ++ List.replicate j 0 := ⟨_, rfl⟩
  have hVl : V.length = Y.length + j := by rw [hV, List.length_append, List.length_replicate]
  rw [← hV] at hYs hgt ⊢
  by_cases hj2 : Y.length + j < 128
  ·
   have hlt2 : decide (((Y.length + j : Nat) : Int) < w64 (2 * 64)) = true := by
    rw [show w64 (2 * 64) = 128 from by decide]; simp; omega
   have hap := rcat8z (E := V) (b := [0]) (n := Y.length + j) (m := 1) hVl.symm rfl
   have hp : Y.length + j + 1 = Y.length + (j + 1) := by omega
   conv => whnf
   repeat (fail)
   refine ok1_callF [] [] true (f95_w) rfl rfl ⟨⟨rfl, by first | rfl | fail⟩, trivial, by first | rfl | fail, by first | rfl | fail, ?_⟩
   conv => whnf
   repeat (fail)
   first | refine brT (by exact hlt2) ?_ | fail
   conv => whnf
   repeat (first | (refine Exists.intro _ (And.intro rfl ?_); conv => whnf) | (refine And.intro (by first | omega | (simp [ti5]; omega)) ?_; conv => whnf) | fail)
   refine ⟨⟨j + 1, by omega⟩, by simp only; omega, ?_⟩
   dsimp only
   rw [hYs]
   refine Weak.sel [0, 3] rfl rfl ?_ ?_ rfl rfl
   ·
    (repeat' (first | exact trivial | refine And.intro ?_ ?_ | fail)) <;> first | rfl | fail
   ·
    (repeat' (first | exact trivial | exact ren_eq (plainL_u8 _) hap | refine And.intro ?_ ?_ | fail)) <;> first | rfl | exact ren_eq (by first | (simp; done) | fail) (by first | rfl | fail) | fail
  ·
   have hlt2 : decide (((Y.length + j : Nat) : Int) < w64 (2 * 64)) = false := by
    rw [show w64 (2 * 64) = 128 from by decide]; simp; omega
   have hjB : Y.length + j = 128 := by omega
   rw [hjB] at hVl hlt2 ⊢
   conv => whnf
   repeat (fail)
   refine ok1_callF [] [] true (f95_w) rfl rfl ⟨⟨rfl, by first | rfl | fail⟩, trivial, by first | rfl | fail, by first | rfl | fail, ?_⟩
   conv => whnf
   repeat (first | (refine brF rfl ?_; conv => whnf) | fail)
   refine loop_rule ttOk mixed (by kernel_rfl) (ι := { i : Nat // i ≤ 128 }) (fun i => [(2, .u8 w), (7, .sl 1 0 128 1 false), (8, .i (i.1 : Int))]) (fun i => [some (.ro (K.map .u8)), some (.row 5 ((fil 128 i.1 (fun i => w ^^^ Y.getD i 0) (fun i => V.getD i 0)).map .u8))]) (fun _ => 2) (fun i => 128 - i.1) ⟨0, by omega⟩ ?_ ?_
   ·
    have hz : fil 128 0 (fun i => w ^^^ Y.getD i 0) (fun i => V.getD i 0) = V := fil_of_list hVl
    dsimp only
    rw [hz]
    refine Weak.sel [0, 1] rfl rfl ?_ ?_ rfl rfl
    ·
     (repeat' (first | exact trivial | refine And.intro ?_ ?_ | fail)) <;> first | rfl | fail
    ·
     (repeat' (first | exact trivial | refine And.intro ?_ ?_ | fail)) <;> first | rfl | exact ren_eq (by first | (simp; done) | fail) (by first | rfl | fail) | fail
   ·
    rintro ⟨i, hi⟩
    dsimp only
    have hf := fil_len 128 i (fun i => w ^^^ Y.getD i 0) (fun i => V.getD i 0)
    by_cases hi2 : i < 128
    ·
     have hlt3 : decide ((i : Int) < 128) = true := by simp; omega
     have hp : w64 ((i : Int) + 1) = ((i + 1 : Nat) : Int) := by simp only [w64_eq]; omega
     have hx : (fil 128 i (fun i => w ^^^ Y.getD i 0) (fun i => V.getD i 0)).getD i 0 ^^^ w = (fun i => w ^^^ Y.getD i 0) i := by
      rw [fil_getD hi2, if_neg (by omega), hgt i, UInt8.xor_comm]
     have hs := fil_setx (f := fun i => w ^^^ Y.getD i 0) (g := fun i => V.getD i 0) hi2 hx
     conv => whnf
     first | refine brT (by exact hlt3) ?_ | fail
     conv => whnf
     repeat (first | (refine Exists.intro _ (And.intro (sput_m8 (i := i) (by first | rfl | omega | fail)) ?_); conv => whnf) | (refine Exists.intro _ (And.intro (sload_u8 (i := i) (by first | rfl | omega | fail) (by first | omega | fail)) ?_); conv => whnf) | (refine Exists.intro _ (And.intro (idx_i (m := i) (by first | rfl | fail)) ?_); conv => whnf) | (refine And.intro (by first | omega | fail) ?_; conv => whnf) | (refine And.intro ⟨by first | exact @rfl Nat _ | fail, by first | (simp only [hf, ti5, List.length_map]; omega) | fail⟩ ?_; conv => whnf) | fail)
     refine ⟨⟨i + 1, by omega⟩, by simp only; omega, ?_⟩
     dsimp only
     rw [← hs]
     refine Weak.sel [0, 1] rfl rfl ?_ ?_ rfl rfl
     ·
      (repeat' (first | exact trivial | refine And.intro ?_ ?_ | fail)) <;> first | exact wk_i (by first | exact hp | exact hp.symm | fail) | rfl | fail
     ·
      (repeat' (first | exact trivial | refine And.intro ?_ ?_ | fail)) <;> first | rfl | exact ren_eq (by first | (simp; done) | fail) (by first | rfl | fail) | exact ren_m8 (by first | rfl | fail) | fail
    ·
     obtain rfl : i = 128 := by omega
     have hfin : fil 128 128 (fun i => w ^^^ Y.getD i 0) (fun i => V.getD i 0) = padL 128 Y w := fil_full ..
     rw [hfin]
     conv => whnf
     first | refine brF (by rfl) ?_ | fail
     conv => whnf
     repeat (fail)
     refine ⟨[0, 1], ?_, rfl, rfl, ?_, rfl⟩
     ·
      (repeat' (fail)) <;> first | rfl | fail
     ·
      (repeat' (first | exact trivial | refine And.intro ?_ ?_ | (refine wk_cons ?_ ?_))) <;> first | rfl | exact ren_eq (by first | (simp; done) | fail) (by first | rfl | fail) | fail
theorem f97_w (K : List UInt8) (hKb : K.length < 100000000000000) (w : UInt8) (f : Bool) : SCall Try.prog 97 [.u8 2, .sl 0 0 K.length 1 f, .u8 w] [some (.ro (K.map .u8))] (.sl 1 0 128 1 false) [some (.ro (K.map .u8)), some (.row 5 ((padL 128 (key_w K) w).map .u8))] := by
 by_cases hk : 128 < K.length
 ·
  rw [show key_w K = sum_w K by unfold key_w; rw [if_pos hk]]; exact f97_w_l K hk hKb w f
 ·
  rw [show key_w K = K by unfold key_w; rw [if_neg hk]]; exact f97_w_s K (by omega) w f
end Go.Sh
/- mac, the reference: Mac (f48), walked. -/
namespace Go.Sh
open Go.Proofs
set_option maxHeartbeats 4000000

theorem rcatb {E b : List UInt8} {n m : Nat} {B : SB} (hB : B.cells = b.map SV.u8) (hn : n = E.length) (hm : m = b.length) : List.take (n * 1) (List.drop 0 (E.map SV.u8)) ++ List.take (m * 1) (List.drop 0 B.cells) = (E ++ b).map SV.u8 := by rw [hB]; exact (rcat8z hn hm).symm
attribute [local irreducible] sum_n sum_w padL key_n key_w
theorem f48_n (K T : List UInt8) (hK : K.length < 100000000000000) (hT : T.length < 10000000000000) (fk ft : Bool) : SCall Try.prog 48 [.u8 1, .sl 0 0 K.length 1 fk, .sl 1 0 T.length 1 ft] [some (.ro (K.map .u8)), some (.ro (T.map .u8))] (.sl 2 0 32 1 false) [some (.ro (K.map .u8)), some (.ro (T.map .u8)), some (.row 5 ((mac_n K T).map .u8))] := by
 have q1 := f97_n K hK 54 fk
 have q2 := f97_n K hK 92 fk
 have l1 := padL_len 64 (key_n K) 54
 have l2 := padL_len 64 (key_n K) 92
 obtain ⟨P1, hP1⟩ : ∃ P, P = padL 64 (key_n K) 54 := ⟨_, rfl⟩
 obtain ⟨P2, hP2⟩ : ∃ P, P = padL 64 (key_n K) 92 := ⟨_, rfl⟩
 rw [← hP1] at q1 l1
 rw [← hP2] at q2 l2
 have q3 := f96_n (P1 ++ T) (by rw [List.length_append]; omega) false
 have l3 := sum_len_n (P1 ++ T)
 have h3 : (P1 ++ T).length = 64 + T.length := by rw [List.length_append, l1]
 rw [h3] at q3
 have hm : mac_n K T = sum_n (P2 ++ sum_n (P1 ++ T)) := by unfold mac_n; rw [hP1, hP2]
 rw [hm]
 obtain ⟨I, hI⟩ : ∃ I, I = sum_n (P1 ++ T) := ⟨_, rfl⟩
 rw [← hI] at q3 l3 ⊢
 have q4 := f96_n (P2 ++ I) (by rw [List.length_append]; omega) false
 have h4 : (P2 ++ I).length = 64 + 32 := by rw [List.length_append, l2, l3]
 rw [h4] at q4
 have l4 := sum_len_n (P2 ++ I)
 obtain ⟨W, hW⟩ : ∃ W, W = sum_n (P2 ++ I) := ⟨_, rfl⟩
 rw [← hW] at q4 l4 ⊢
 have a1 := rcatb (E := P1) (b := T) (B := .ro (T.map .u8)) rfl l1.symm rfl
 have a2 := rcatb (E := P2) (b := I) (B := .row 5 (I.map .u8)) rfl l2.symm l3.symm
 clear hP1 hP2 hI hW hm
 refine scall_of ttOk (by kernel_rfl : Try.prog.funcs[48]? = some Try.f48) rfl rfl rfl ?_
 try simp only [List.length_cons, List.length_nil, Nat.zero_add, Nat.reduceAdd]
 refine sw_ok ttOk mixed (by kernel_rfl) ?_
 conv => whnf
 repeat (fail)
 refine ok1_callF [] [] true (f95_n) rfl rfl ⟨⟨rfl, by first | rfl | fail⟩, trivial, by first | rfl | fail, by first | rfl | fail, ?_⟩
 conv => whnf
 repeat (first | (refine brF rfl ?_; conv => whnf) | fail)
 refine ok1_callF [0] [false, true] false (q1) rfl rfl ⟨⟨rfl, by first | rfl | fail⟩, by (repeat' (first | exact trivial | refine And.intro ?_ ?_)) <;> first | exact ren_eq (by first | (simp; done) | fail) (by first | rfl | fail) | fail, by first | simp [plainHf, plainB], by first | rfl | fail, ?_⟩
 conv => whnf
 repeat (first | (refine And.intro (by first | omega | (simp [ti5]; omega)) ?_; conv => whnf) | fail)
 rw [a1]
 refine ok1_callF [3] [false, true] false (q3) rfl rfl ⟨⟨rfl, by first | rfl | fail⟩, by (repeat' (first | exact trivial | refine And.intro ?_ ?_)) <;> first | exact ren_eq (by first | (simp; done) | fail) (by first | rfl | fail) | fail, by first | simp [plainHf, plainB], by first | rfl | fail, ?_⟩
 conv => whnf
 repeat (fail)
 refine ok1_callF [0] [false, true] false (q2) rfl rfl ⟨⟨rfl, by first | rfl | fail⟩, by (repeat' (first | exact trivial | refine And.intro ?_ ?_)) <;> first | exact ren_eq (by first | (simp; done) | fail) (by first | rfl | fail) | fail, by first | simp [plainHf, plainB], by first | rfl | fail, ?_⟩
 conv => whnf
 repeat (first | (refine And.intro (by first | omega | (simp [ti5]; omega)) ?_; conv => whnf) | fail)
 rw [a2]
 refine ok1_callF [6] [false, true] false (q4) rfl rfl ⟨⟨rfl, by first | rfl | fail⟩, by (repeat' (first | exact trivial | refine And.intro ?_ ?_)) <;> first | exact ren_eq (by first | (simp; done) | fail) (by first | rfl | fail) | fail, by first | simp [plainHf, plainB], by first | rfl | fail, ?_⟩
 conv => whnf
 repeat (fail)
 refine ⟨[0, 1, 7], ?_, rfl, rfl, ?_, rfl⟩
 ·
  (repeat' (fail)) <;> first | rfl | fail
 ·
  (repeat' (first | exact trivial | refine And.intro ?_ ?_ | fail)) <;> first | rfl | exact ren_eq (by first | (simp; done) | fail) (by first | rfl | fail) | fail
theorem f48_w (K T : List UInt8) (hK : K.length < 100000000000000) (hT : T.length < 10000000000000) (fk ft : Bool) : SCall Try.prog 48 [.u8 2, .sl 0 0 K.length 1 fk, .sl 1 0 T.length 1 ft] [some (.ro (K.map .u8)), some (.ro (T.map .u8))] (.sl 2 0 64 1 false) [some (.ro (K.map .u8)), some (.ro (T.map .u8)), some (.row 5 ((mac_w K T).map .u8))] := by
 have q1 := f97_w K hK 54 fk
 have q2 := f97_w K hK 92 fk
 have l1 := padL_len 128 (key_w K) 54
 have l2 := padL_len 128 (key_w K) 92
 obtain ⟨P1, hP1⟩ : ∃ P, P = padL 128 (key_w K) 54 := ⟨_, rfl⟩
 obtain ⟨P2, hP2⟩ : ∃ P, P = padL 128 (key_w K) 92 := ⟨_, rfl⟩
 rw [← hP1] at q1 l1
 rw [← hP2] at q2 l2
 have q3 := f96_w (P1 ++ T) (by rw [List.length_append]; omega) false
 have l3 := sum_len_w (P1 ++ T)
 have h3 : (P1 ++ T).length = 128 + T.length := by rw [List.length_append, l1]
 rw [h3] at q3
 have hm : mac_w K T = sum_w (P2 ++ sum_w (P1 ++ T)) := by unfold mac_w; rw [hP1, hP2]
 rw [hm]
 obtain ⟨I, hI⟩ : ∃ I, I = sum_w (P1 ++ T) := ⟨_, rfl⟩
 rw [← hI] at q3 l3 ⊢
 have q4 := f96_w (P2 ++ I) (by rw [List.length_append]; omega) false
 have h4 : (P2 ++ I).length = 128 + 64 := by rw [List.length_append, l2, l3]
 rw [h4] at q4
 have l4 := sum_len_w (P2 ++ I)
 obtain ⟨W, hW⟩ : ∃ W, W = sum_w (P2 ++ I) := ⟨_, rfl⟩
 rw [← hW] at q4 l4 ⊢
 have a1 := rcatb (E := P1) (b := T) (B := .ro (T.map .u8)) rfl l1.symm rfl
 have a2 := rcatb (E := P2) (b := I) (B := .row 5 (I.map .u8)) rfl l2.symm l3.symm
 clear hP1 hP2 hI hW hm
 refine scall_of ttOk (by kernel_rfl : Try.prog.funcs[48]? = some Try.f48) rfl rfl rfl ?_
 try simp only [List.length_cons, List.length_nil, Nat.zero_add, Nat.reduceAdd]
 refine sw_ok ttOk mixed (by kernel_rfl) ?_
 conv => whnf
 repeat (fail)
 refine ok1_callF [] [] true (f95_w) rfl rfl ⟨⟨rfl, by first | rfl | fail⟩, trivial, by first | rfl | fail, by first | rfl | fail, ?_⟩
 conv => whnf
 repeat (first | (refine brF rfl ?_; conv => whnf) | fail)
 refine ok1_callF [0] [false, true] false (q1) rfl rfl ⟨⟨rfl, by first | rfl | fail⟩, by (repeat' (first | exact trivial | refine And.intro ?_ ?_)) <;> first | exact ren_eq (by first | (simp; done) | fail) (by first | rfl | fail) | fail, by first | simp [plainHf, plainB], by first | rfl | fail, ?_⟩
 conv => whnf
 repeat (first | (refine And.intro (by first | omega | (simp [ti5]; omega)) ?_; conv => whnf) | fail)
 rw [a1]
 refine ok1_callF [3] [false, true] false (q3) rfl rfl ⟨⟨rfl, by first | rfl | fail⟩, by (repeat' (first | exact trivial | refine And.intro ?_ ?_)) <;> first | exact ren_eq (by first | (simp; done) | fail) (by first | rfl | fail) | fail, by first | simp [plainHf, plainB], by first | rfl | fail, ?_⟩
 conv => whnf
 repeat (fail)
 refine ok1_callF [0] [false, true] false (q2) rfl rfl ⟨⟨rfl, by first | rfl | fail⟩, by (repeat' (first | exact trivial | refine And.intro ?_ ?_)) <;> first | exact ren_eq (by first | (simp; done) | fail) (by first | rfl | fail) | fail, by first | simp [plainHf, plainB], by first | rfl | fail, ?_⟩
 conv => whnf
 repeat (first | (refine And.intro (by first | omega | (simp [ti5]; omega)) ?_; conv => whnf) | fail)
 rw [a2]
 refine ok1_callF [6] [false, true] false (q4) rfl rfl ⟨⟨rfl, by first | rfl | fail⟩, by (repeat' (first | exact trivial | refine And.intro ?_ ?_)) <;> first | exact ren_eq (by first | (simp; done) | fail) (by first | rfl | fail) | fail, by first | simp [plainHf, plainB], by first | rfl | fail, ?_⟩
 conv => whnf
 repeat (fail)
 refine ⟨[0, 1, 7], ?_, rfl, rfl, ?_, rfl⟩
 ·
  (repeat' (fail)) <;> first | rfl | fail
 ·
  (repeat' (first | exact trivial | refine And.intro ?_ ?_ | fail)) <;> first | rfl | exact ren_eq (by first | (simp; done) | fail) (by first | rfl | fail) | fail
end Go.Sh
/- mac, the reference: Expand (f52), walked. -/
namespace Go.Sh
open Go.Proofs
set_option maxHeartbeats 4000000

theorem rcat0 {b : List UInt8} {m : Nat} {B : SB} (hB : B.cells = b.map SV.u8) (hm : m = b.length) : List.take (0 * 1) (List.drop 0 (reps 0 (SV.u8 0).cells)) ++ List.take (m * 1) (List.drop 0 B.cells) = b.map SV.u8 := by
 rw [hB, Nat.mul_one, hm]; show ([] : List SV) ++ _ = _; simp
def exQ_n : Nat → SV
 | 0 => .slnil
 | _ + 1 => .sl 3 0 32 1 false
def exC_n (K I : List UInt8) : Nat → Option SB
 | 0 => none
 | i + 1 => some (.row 5 ((exT_n K I (i + 1)).map .u8))
section
attribute [local irreducible] mac_n exT_n exO_n
theorem f52_n (K I : List UInt8) (hK : K.length < 100000000000000) (hI : I.length < 1000000000000) (n : Nat) (hn1 : 1 ≤ n) (hn : n ≤ 8160) (fk fi : Bool) : SCall Try.prog 52 [.u8 1, .sl 0 0 K.length 1 fk, .sl 1 0 I.length 1 fi, .i (n : Int)] [some (.ro (K.map .u8)), some (.ro (I.map .u8))] (.sl 2 0 n 1 false) [some (.ro (K.map .u8)), some (.ro (I.map .u8)), some (.row 5 ((exO_n K I ((n + (32 - 1)) / 32)).map .u8))] := by
 have e1 : decide ((n : Int) < 1) = false := by simp; omega
 have e2 : decide ((n : Int) > w64 (255 * 32)) = false := by simp [w64_eq]; omega
 obtain ⟨m, hm⟩ : ∃ m, m = (n + (32 - 1)) / 32 := ⟨_, rfl⟩
 rw [← hm]
 refine scall_of ttOk (by kernel_rfl : Try.prog.funcs[52]? = some Try.f52) rfl rfl rfl ?_
 try simp only [List.length_cons, List.length_nil, Nat.zero_add, Nat.reduceAdd]
 refine sw_ok ttOk mixed (by kernel_rfl) ?_
 conv => whnf
 repeat (first | (refine gdT e1 ?_; conv => whnf) | fail)
 refine ok1_callF [] [] true (f95_n) rfl rfl ⟨⟨rfl, by first | rfl | fail⟩, trivial, by first | rfl | fail, by first | rfl | fail, ?_⟩
 conv => whnf
 repeat (first | (refine gdT e1 ?_; conv => whnf) | (refine pkF e1 ?_; conv => whnf) | (refine gdF e2 ?_; conv => whnf) | fail)
 refine SWp.weak (Weak.virt 9 5 1 rfl) ?_
 refine loop_rule ttOk mixed (by kernel_rfl) (ι := { i : Nat // i ≤ m }) (fun i => [(0, .u8 1), (1, .sl 0 0 K.length 1 fk), (2, .sl 1 0 I.length 1 fi), (3, .i n), (9, .sl 2 0 (32 * i.1) 1 false), (10, exQ_n i.1), (11, .i ((i.1 + 1 : Nat) : Int))]) (fun i => [some (.ro (K.map .u8)), some (.ro (I.map .u8)), some (.row 5 ((exO_n K I i.1).map .u8)), exC_n K I i.1]) (fun _ => 4) (fun i => m - i.1) ⟨0, by omega⟩ ?_ ?_
 ·
  have hz := exO_z_n K I
  dsimp only
  rw [hz]
  refine Weak.sel [0, 1, 2, 0] rfl rfl ?_ ?_ rfl rfl
  ·
   (repeat' (first | exact trivial | refine And.intro ?_ ?_ | fail)) <;> first | rfl | fail
  ·
   (repeat' (first | exact trivial | refine And.intro ?_ ?_ | fail)) <;> first | rfl | exact ren_eq (by first | (simp; done) | fail) (by first | rfl | fail) | fail
 ·
  rintro ⟨i, hi⟩
  dsimp only
  have hol := exO_len_n K I i
  have hos := exO_s_n K I i
  have htl := exT_len_n K I i
  have hts := exT_s_n K I i
  have hp : w64 (((i + 1 : Nat) : Int) + 1) = ((i + 1 + 1 : Nat) : Int) := by simp only [w64_eq]; omega
  by_cases hi2 : i < m
  ·
   have hlt : decide (((32 * i : Nat) : Int) < (n : Int)) = true := by simp; omega
   obtain ⟨O, hO⟩ : ∃ O, O = exO_n K I i := ⟨_, rfl⟩
   rw [← hO] at hol hos ⊢
   rcases i with _ | i
   ·
    have q := f48_n K (I ++ [u8i ((1 : Nat) : Int)]) hK (by simp; omega) fk false
    rw [← exT_1_n] at q
    have hIl : (I ++ [u8i ((1 : Nat) : Int)]).length = I.length + 1 := by simp
    rw [hIl] at q
    obtain ⟨T, hT⟩ : ∃ T, T = exT_n K I 1 := ⟨_, rfl⟩
    rw [← hT] at q
    have hTl : T.length = 32 := by rw [hT]; exact exT_len_n K I 0
    have hap : (O ++ T).map SV.u8 = List.take (32 * 0 * 1) (List.drop 0 (O.map SV.u8)) ++ List.take (32 * 1) (List.drop 0 (T.map SV.u8)) := by
     rw [List.drop_zero, List.drop_zero, List.take_of_length_le (l := O.map SV.u8) (by rw [List.length_map]; omega), List.take_of_length_le (l := T.map SV.u8) (by rw [List.length_map]; omega), List.map_append]
    have hz0 : 0 + I.length = I.length := Nat.zero_add _
    have hbk : List.take ((0 + I.length) * ti5.sz) (List.drop 0 (List.take (0 * ti5.sz) (List.drop 0 (reps 0 (SV.u8 0).cells)) ++ List.take (I.length * ti5.sz) (List.drop 0 (SB.ro (List.map SV.u8 I)).cells))) ++ List.take (1 * ti5.sz) (List.drop 0 (SB.row 5 (sput (reps 1 (SV.u8 0).cells) (0 * ti5.sz) (SV.u8 (u8i ((0 + 1 : Nat) : Int))))).cells) = (I ++ [u8i ((1 : Nat) : Int)]).map SV.u8 := by
     show List.take ((0 + I.length) * 1) (([] : List SV) ++ List.take (I.length * 1) (I.map SV.u8)) ++ [SV.u8 (u8i ((1 : Nat) : Int))] = _
     simp
    conv => whnf
    first | refine brT (by exact hlt) ?_ | fail
    conv => whnf
    repeat (first | (refine Exists.intro _ (And.intro rfl ?_); conv => whnf) | (refine And.intro (by first | omega | (simp [ti5]; omega)) ?_; conv => whnf) | fail)
    rw [hbk, hz0]
    refine ok1_callF [0, 7] [false, false, true] false (q) rfl rfl ⟨⟨rfl, by first | rfl | fail⟩, by (repeat' (first | exact trivial | refine And.intro ?_ ?_)) <;> first | exact ren_eq (by first | (simp; done) | fail) (by first | rfl | fail) | fail, by first | simp [plainHf, plainB], by first | rfl | fail, ?_⟩
    conv => whnf
    repeat (first | (refine And.intro (by first | omega | (simp [ti5]; omega)) ?_; conv => whnf) | fail)
    refine ⟨⟨1, by omega⟩, by simp only; omega, ?_⟩
    dsimp only
    rw [hos]
    unfold exQ_n exC_n
    dsimp only
    rw [← hT]
    refine Weak.sel [0, 1, 9, 8] rfl rfl ?_ ?_ rfl rfl
    ·
     (repeat' (first | exact trivial | refine And.intro ?_ ?_ | fail)) <;> first | exact wk_i (by first | exact hp | fail) | rfl | fail
    ·
     (repeat' (first | exact trivial | exact ren_eq (plainL_u8 _) hap | refine And.intro ?_ ?_ | fail)) <;> first | rfl | exact ren_eq (by first | (simp; done) | fail) (by first | rfl | fail) | fail
   ·
    obtain ⟨T0, hT0⟩ : ∃ T, T = exT_n K I (i + 1) := ⟨_, rfl⟩
    have htl0 := exT_len_n K I i
    rw [← hT0] at htl0
    have q := f48_n K (T0 ++ I ++ [u8i ((i + 1 + 1 : Nat) : Int)]) hK (by simp; omega) fk false
    have hIl : (T0 ++ I ++ [u8i ((i + 1 + 1 : Nat) : Int)]).length = 32 + I.length + 1 := by simp; omega
    rw [hIl, hT0, ← exT_s_n, ← hT0] at q
    obtain ⟨T, hT⟩ : ∃ T, T = exT_n K I (i + 1 + 1) := ⟨_, rfl⟩
    rw [← hT] at q
    have hTl : T.length = 32 := by rw [hT]; exact exT_len_n K I (i + 1)
    have hap : (O ++ T).map SV.u8 = List.take (32 * (i + 1) * 1) (List.drop 0 (O.map SV.u8)) ++ List.take (32 * 1) (List.drop 0 (T.map SV.u8)) := by
     rw [List.drop_zero, List.drop_zero, List.take_of_length_le (l := O.map SV.u8) (by rw [List.length_map]; omega), List.take_of_length_le (l := T.map SV.u8) (by rw [List.length_map]; omega), List.map_append]
    have hnx : 32 * (i + 1 + 1) = 32 * (i + 1) + 32 := by omega
    unfold exQ_n exC_n
    dsimp only
    rw [← hT0]
    have hz0 : 0 + 32 + I.length = 32 + I.length := by omega
    have hbk : List.take ((0 + 32 + I.length) * ti5.sz) (List.drop 0 (List.take ((0 + 32) * ti5.sz) (List.drop 0 (List.take (0 * ti5.sz) (List.drop 0 (reps 0 (SV.u8 0).cells)) ++ List.take (32 * ti5.sz) (List.drop 0 (SB.row 5 (List.map SV.u8 T0)).cells))) ++ List.take (I.length * ti5.sz) (List.drop 0 (SB.ro (List.map SV.u8 I)).cells))) ++ List.take (1 * ti5.sz) (List.drop 0 (SB.row 5 (sput (reps 1 (SV.u8 0).cells) (0 * ti5.sz) (SV.u8 (u8i ((i + 1 + 1 : Nat) : Int))))).cells) = (T0 ++ I ++ [u8i ((i + 1 + 1 : Nat) : Int)]).map SV.u8 := by
     show List.take ((0 + 32 + I.length) * 1) (List.take ((0 + 32) * 1) (([] : List SV) ++ List.take (32 * 1) (T0.map SV.u8)) ++ List.take (I.length * 1) (I.map SV.u8)) ++ [SV.u8 (u8i ((i + 1 + 1 : Nat) : Int))] = _
     rw [List.nil_append, List.take_of_length_le (l := T0.map SV.u8) (by rw [List.length_map]; omega), List.take_of_length_le (l := T0.map SV.u8) (by rw [List.length_map]; omega), List.take_of_length_le (l := I.map SV.u8) (by rw [List.length_map]; omega), List.take_of_length_le (by rw [List.length_append, List.length_map, List.length_map]; omega), List.map_append, List.map_append]; rfl
    conv => whnf
    first | refine brT (by exact hlt) ?_ | fail
    conv => whnf
    repeat (first | (refine Exists.intro _ (And.intro rfl ?_); conv => whnf) | (refine And.intro (by first | omega | (simp [ti5]; omega)) ?_; conv => whnf) | fail)
    rw [hbk, hz0]
    refine ok1_callF [0, 8] [false, false, true] false (q) rfl rfl ⟨⟨rfl, by first | rfl | fail⟩, by (repeat' (first | exact trivial | refine And.intro ?_ ?_)) <;> first | exact ren_eq (by first | (simp; done) | fail) (by first | rfl | fail) | fail, by first | simp [plainHf, plainB], by first | rfl | fail, ?_⟩
    conv => whnf
    repeat (first | (refine And.intro (by first | omega | (simp [ti5]; omega)) ?_; conv => whnf) | fail)
    refine ⟨⟨i + 1 + 1, by omega⟩, by simp only; omega, ?_⟩
    dsimp only
    rw [hos, ← hT]
    refine Weak.sel [0, 1, 10, 9] rfl rfl ?_ ?_ rfl rfl
    ·
     (repeat' (first | exact trivial | refine And.intro ?_ ?_ | fail)) <;> first | exact wk_i (by first | exact hp | exact hp.symm | fail) | rfl | fail
    ·
     (repeat' (first | exact trivial | exact ren_eq (plainL_u8 _) hap | refine And.intro ?_ ?_ | fail)) <;> first | rfl | exact ren_eq (by first | (simp; done) | fail) (by first | rfl | fail) | fail
  ·
   obtain rfl : i = m := by omega
   have hlt : decide (((32 * i : Nat) : Int) < (n : Int)) = false := by simp; omega
   rcases i with _ | i
   ·
    omega
   ·
    conv => whnf
    first | refine brF (by exact hlt) ?_ | fail
    conv => whnf
    repeat (first | (refine Exists.intro _ (And.intro rfl ?_); conv => whnf) | (refine And.intro (by first | omega | fail) ?_; conv => whnf) | fail)
    refine ⟨[0, 1, 2], ?_, rfl, rfl, ?_, rfl⟩
    ·
     (repeat' (fail)) <;> first | rfl | fail
    ·
     (repeat' (first | exact trivial | refine And.intro ?_ ?_ | fail)) <;> first | rfl | exact ren_eq (by first | (simp; done) | fail) (by first | rfl | fail) | fail
end
def exQ_w : Nat → SV
 | 0 => .slnil
 | _ + 1 => .sl 3 0 64 1 false
def exC_w (K I : List UInt8) : Nat → Option SB
 | 0 => none
 | i + 1 => some (.row 5 ((exT_w K I (i + 1)).map .u8))
section
attribute [local irreducible] mac_w exT_w exO_w
theorem f52_w (K I : List UInt8) (hK : K.length < 100000000000000) (hI : I.length < 1000000000000) (n : Nat) (hn1 : 1 ≤ n) (hn : n ≤ 16320) (fk fi : Bool) : SCall Try.prog 52 [.u8 2, .sl 0 0 K.length 1 fk, .sl 1 0 I.length 1 fi, .i (n : Int)] [some (.ro (K.map .u8)), some (.ro (I.map .u8))] (.sl 2 0 n 1 false) [some (.ro (K.map .u8)), some (.ro (I.map .u8)), some (.row 5 ((exO_w K I ((n + (64 - 1)) / 64)).map .u8))] := by
 have e1 : decide ((n : Int) < 1) = false := by simp; omega
 have e2 : decide ((n : Int) > w64 (255 * 64)) = false := by simp [w64_eq]; omega
 obtain ⟨m, hm⟩ : ∃ m, m = (n + (64 - 1)) / 64 := ⟨_, rfl⟩
 rw [← hm]
 refine scall_of ttOk (by kernel_rfl : Try.prog.funcs[52]? = some Try.f52) rfl rfl rfl ?_
 try simp only [List.length_cons, List.length_nil, Nat.zero_add, Nat.reduceAdd]
 refine sw_ok ttOk mixed (by kernel_rfl) ?_
 conv => whnf
 repeat (first | (refine gdT e1 ?_; conv => whnf) | fail)
 refine ok1_callF [] [] true (f95_w) rfl rfl ⟨⟨rfl, by first | rfl | fail⟩, trivial, by first | rfl | fail, by first | rfl | fail, ?_⟩
 conv => whnf
 repeat (first | (refine gdT e1 ?_; conv => whnf) | (refine pkF e1 ?_; conv => whnf) | (refine gdF e2 ?_; conv => whnf) | fail)
 refine SWp.weak (Weak.virt 9 5 1 rfl) ?_
 refine loop_rule ttOk mixed (by kernel_rfl) (ι := { i : Nat // i ≤ m }) (fun i => [(0, .u8 2), (1, .sl 0 0 K.length 1 fk), (2, .sl 1 0 I.length 1 fi), (3, .i n), (9, .sl 2 0 (64 * i.1) 1 false), (10, exQ_w i.1), (11, .i ((i.1 + 1 : Nat) : Int))]) (fun i => [some (.ro (K.map .u8)), some (.ro (I.map .u8)), some (.row 5 ((exO_w K I i.1).map .u8)), exC_w K I i.1]) (fun _ => 4) (fun i => m - i.1) ⟨0, by omega⟩ ?_ ?_
 ·
  have hz := exO_z_w K I
  dsimp only
  rw [hz]
  refine Weak.sel [0, 1, 2, 0] rfl rfl ?_ ?_ rfl rfl
  ·
   (repeat' (first | exact trivial | refine And.intro ?_ ?_ | fail)) <;> first | rfl | fail
  ·
   (repeat' (first | exact trivial | refine And.intro ?_ ?_ | fail)) <;> first | rfl | exact ren_eq (by first | (simp; done) | fail) (by first | rfl | fail) | fail
 ·
  rintro ⟨i, hi⟩
  dsimp only
  have hol := exO_len_w K I i
  have hos := exO_s_w K I i
  have htl := exT_len_w K I i
  have hts := exT_s_w K I i
  have hp : w64 (((i + 1 : Nat) : Int) + 1) = ((i + 1 + 1 : Nat) : Int) := by simp only [w64_eq]; omega
  by_cases hi2 : i < m
  ·
   have hlt : decide (((64 * i : Nat) : Int) < (n : Int)) = true := by simp; omega
   obtain ⟨O, hO⟩ : ∃ O, O = exO_w K I i := ⟨_, rfl⟩
   rw [← hO] at hol hos ⊢
   rcases i with _ | i
   ·
    have q := f48_w K (I ++ [u8i ((1 : Nat) : Int)]) hK (by simp; omega) fk false
    rw [← exT_1_w] at q
    have hIl : (I ++ [u8i ((1 : Nat) : Int)]).length = I.length + 1 := by simp
    rw [hIl] at q
    obtain ⟨T, hT⟩ : ∃ T, T = exT_w K I 1 := ⟨_, rfl⟩
    rw [← hT] at q
    have hTl : T.length = 64 := by rw [hT]; exact exT_len_w K I 0
    have hap : (O ++ T).map SV.u8 = List.take (64 * 0 * 1) (List.drop 0 (O.map SV.u8)) ++ List.take (64 * 1) (List.drop 0 (T.map SV.u8)) := by
     rw [List.drop_zero, List.drop_zero, List.take_of_length_le (l := O.map SV.u8) (by rw [List.length_map]; omega), List.take_of_length_le (l := T.map SV.u8) (by rw [List.length_map]; omega), List.map_append]
    have hz0 : 0 + I.length = I.length := Nat.zero_add _
    have hbk : List.take ((0 + I.length) * ti5.sz) (List.drop 0 (List.take (0 * ti5.sz) (List.drop 0 (reps 0 (SV.u8 0).cells)) ++ List.take (I.length * ti5.sz) (List.drop 0 (SB.ro (List.map SV.u8 I)).cells))) ++ List.take (1 * ti5.sz) (List.drop 0 (SB.row 5 (sput (reps 1 (SV.u8 0).cells) (0 * ti5.sz) (SV.u8 (u8i ((0 + 1 : Nat) : Int))))).cells) = (I ++ [u8i ((1 : Nat) : Int)]).map SV.u8 := by
     show List.take ((0 + I.length) * 1) (([] : List SV) ++ List.take (I.length * 1) (I.map SV.u8)) ++ [SV.u8 (u8i ((1 : Nat) : Int))] = _
     simp
    conv => whnf
    first | refine brT (by exact hlt) ?_ | fail
    conv => whnf
    repeat (first | (refine Exists.intro _ (And.intro rfl ?_); conv => whnf) | (refine And.intro (by first | omega | (simp [ti5]; omega)) ?_; conv => whnf) | fail)
    rw [hbk, hz0]
    refine ok1_callF [0, 7] [false, false, true] false (q) rfl rfl ⟨⟨rfl, by first | rfl | fail⟩, by (repeat' (first | exact trivial | refine And.intro ?_ ?_)) <;> first | exact ren_eq (by first | (simp; done) | fail) (by first | rfl | fail) | fail, by first | simp [plainHf, plainB], by first | rfl | fail, ?_⟩
    conv => whnf
    repeat (first | (refine And.intro (by first | omega | (simp [ti5]; omega)) ?_; conv => whnf) | fail)
    refine ⟨⟨1, by omega⟩, by simp only; omega, ?_⟩
    dsimp only
    rw [hos]
    unfold exQ_w exC_w
    dsimp only
    rw [← hT]
    refine Weak.sel [0, 1, 9, 8] rfl rfl ?_ ?_ rfl rfl
    ·
     (repeat' (first | exact trivial | refine And.intro ?_ ?_ | fail)) <;> first | exact wk_i (by first | exact hp | fail) | rfl | fail
    ·
     (repeat' (first | exact trivial | exact ren_eq (plainL_u8 _) hap | refine And.intro ?_ ?_ | fail)) <;> first | rfl | exact ren_eq (by first | (simp; done) | fail) (by first | rfl | fail) | fail
   ·
    obtain ⟨T0, hT0⟩ : ∃ T, T = exT_w K I (i + 1) := ⟨_, rfl⟩
    have htl0 := exT_len_w K I i
    rw [← hT0] at htl0
    have q := f48_w K (T0 ++ I ++ [u8i ((i + 1 + 1 : Nat) : Int)]) hK (by simp; omega) fk false
    have hIl : (T0 ++ I ++ [u8i ((i + 1 + 1 : Nat) : Int)]).length = 64 + I.length + 1 := by simp; omega
    rw [hIl, hT0, ← exT_s_w, ← hT0] at q
    obtain ⟨T, hT⟩ : ∃ T, T = exT_w K I (i + 1 + 1) := ⟨_, rfl⟩
    rw [← hT] at q
    have hTl : T.length = 64 := by rw [hT]; exact exT_len_w K I (i + 1)
    have hap : (O ++ T).map SV.u8 = List.take (64 * (i + 1) * 1) (List.drop 0 (O.map SV.u8)) ++ List.take (64 * 1) (List.drop 0 (T.map SV.u8)) := by
     rw [List.drop_zero, List.drop_zero, List.take_of_length_le (l := O.map SV.u8) (by rw [List.length_map]; omega), List.take_of_length_le (l := T.map SV.u8) (by rw [List.length_map]; omega), List.map_append]
    have hnx : 64 * (i + 1 + 1) = 64 * (i + 1) + 64 := by omega
    unfold exQ_w exC_w
    dsimp only
    rw [← hT0]
    have hz0 : 0 + 64 + I.length = 64 + I.length := by omega
    have hbk : List.take ((0 + 64 + I.length) * ti5.sz) (List.drop 0 (List.take ((0 + 64) * ti5.sz) (List.drop 0 (List.take (0 * ti5.sz) (List.drop 0 (reps 0 (SV.u8 0).cells)) ++ List.take (64 * ti5.sz) (List.drop 0 (SB.row 5 (List.map SV.u8 T0)).cells))) ++ List.take (I.length * ti5.sz) (List.drop 0 (SB.ro (List.map SV.u8 I)).cells))) ++ List.take (1 * ti5.sz) (List.drop 0 (SB.row 5 (sput (reps 1 (SV.u8 0).cells) (0 * ti5.sz) (SV.u8 (u8i ((i + 1 + 1 : Nat) : Int))))).cells) = (T0 ++ I ++ [u8i ((i + 1 + 1 : Nat) : Int)]).map SV.u8 := by
     show List.take ((0 + 64 + I.length) * 1) (List.take ((0 + 64) * 1) (([] : List SV) ++ List.take (64 * 1) (T0.map SV.u8)) ++ List.take (I.length * 1) (I.map SV.u8)) ++ [SV.u8 (u8i ((i + 1 + 1 : Nat) : Int))] = _
     rw [List.nil_append, List.take_of_length_le (l := T0.map SV.u8) (by rw [List.length_map]; omega), List.take_of_length_le (l := T0.map SV.u8) (by rw [List.length_map]; omega), List.take_of_length_le (l := I.map SV.u8) (by rw [List.length_map]; omega), List.take_of_length_le (by rw [List.length_append, List.length_map, List.length_map]; omega), List.map_append, List.map_append]; rfl
    conv => whnf
    first | refine brT (by exact hlt) ?_ | fail
    conv => whnf
    repeat (first | (refine Exists.intro _ (And.intro rfl ?_); conv => whnf) | (refine And.intro (by first | omega | (simp [ti5]; omega)) ?_; conv => whnf) | fail)
    rw [hbk, hz0]
    refine ok1_callF [0, 8] [false, false, true] false (q) rfl rfl ⟨⟨rfl, by first | rfl | fail⟩, by (repeat' (first | exact trivial | refine And.intro ?_ ?_)) <;> first | exact ren_eq (by first | (simp; done) | fail) (by first | rfl | fail) | fail, by first | simp [plainHf, plainB], by first | rfl | fail, ?_⟩
    conv => whnf
    repeat (first | (refine And.intro (by first | omega | (simp [ti5]; omega)) ?_; conv => whnf) | fail)
    refine ⟨⟨i + 1 + 1, by omega⟩, by simp only; omega, ?_⟩
    dsimp only
    rw [hos, ← hT]
    refine Weak.sel [0, 1, 10, 9] rfl rfl ?_ ?_ rfl rfl
    ·
     (repeat' (first | exact trivial | refine And.intro ?_ ?_ | fail)) <;> first | exact wk_i (by first | exact hp | exact hp.symm | fail) | rfl | fail
    ·
     (repeat' (first | exact trivial | exact ren_eq (plainL_u8 _) hap | refine And.intro ?_ ?_ | fail)) <;> first | rfl | exact ren_eq (by first | (simp; done) | fail) (by first | rfl | fail) | fail
  ·
   obtain rfl : i = m := by omega
   have hlt : decide (((64 * i : Nat) : Int) < (n : Int)) = false := by simp; omega
   rcases i with _ | i
   ·
    omega
   ·
    conv => whnf
    first | refine brF (by exact hlt) ?_ | fail
    conv => whnf
    repeat (first | (refine Exists.intro _ (And.intro rfl ?_); conv => whnf) | (refine And.intro (by first | omega | fail) ?_; conv => whnf) | fail)
    refine ⟨[0, 1, 2], ?_, rfl, rfl, ?_, rfl⟩
    ·
     (repeat' (fail)) <;> first | rfl | fail
    ·
     (repeat' (first | exact trivial | refine And.intro ?_ ?_ | fail)) <;> first | rfl | exact ren_eq (by first | (simp; done) | fail) (by first | rfl | fail) | fail
end
end Go.Sh
/- chain: of (f105), Step (f57); the reference's Bytes (f108), Key (f107), Message (f59), Next (f60), walked. -/
namespace Go.Sh
open Go.Proofs
set_option maxHeartbeats 4000000

theorem sload_fst {xs ys : List SV} {n : Nat} (h : xs.length = n) : sload true n (xs ++ ys) 0 = some (.agg xs) := by
 subst h
 simp [sload]
theorem sload_snd {xs ys : List SV} {y : SV} {i : Nat} (h : xs.length = i) : sload false 1 (xs ++ y :: ys) i = some y := by
 subst h
 simp [sload]
theorem sput_fst {xs ys zs : List SV} (h : zs.length = xs.length) : sput (xs ++ ys) 0 (.agg zs) = zs ++ ys := by
 simp [sput, h]
theorem sput_snd {xs ys : List SV} {y z : SV} {i : Nat} (h : xs.length = i) (hz : z.atom = true) : sput (xs ++ y :: ys) i z = xs ++ z :: ys := by
 subst h
 cases z <;> first | (simp [sput]; done) | (cases hz; done)
theorem range_getD {l : List UInt8} {n : Nat} (h : l.length = n) : (List.range n).map (fun i => l.getD i 0) = l := by
 apply List.ext_getElem?
 intro i
 by_cases hi : i < n
 ·
  rw [List.getElem?_map, List.getElem?_range hi, List.getElem?_eq_getElem (by omega), Option.map_some, List.getD_eq_getElem?_getD, List.getElem?_eq_getElem (by omega)]; rfl
 ·
  rw [List.getElem?_eq_none (by simp; omega), List.getElem?_eq_none (by omega)]
def stepK (w : UInt8) (k : List UInt8) : List UInt8 := mac_n k [w]
theorem stepK_len (w : UInt8) (k : List UInt8) : (stepK w k).length = 32 := mac_len_n _ _
attribute [local irreducible] mac_n stepK
theorem f105 (k : List UInt8) (hk : k.length = 32) (w : UInt8) : SCall Try.prog 105 [.agg (k.map .u8), .u8 w] [] (.agg ((stepK w k).map .u8)) [] := by
 have q := f49_n_b k (by omega) [w] (by rw [List.length_singleton]; decide) true true true
 have l := stepK_len w k
 rw [show mac_n k [w] = stepK w k by unfold stepK; rfl, hk] at q
 obtain ⟨X, hX⟩ : ∃ X, X = stepK w k := ⟨_, rfl⟩
 rw [← hX] at q l ⊢
 refine scall_of ttOk (by kernel_rfl : Try.prog.funcs[105]? = some Try.f105) rfl rfl rfl ?_
 try simp only [List.length_cons, List.length_nil, Nat.zero_add, Nat.reduceAdd]
 refine sw_ok ttOk mixed (by kernel_rfl) ?_
 conv => whnf
 repeat (first | (refine Exists.intro _ (And.intro rfl ?_); conv => whnf) | (refine And.intro (by first | omega | (simp; omega) | fail) ?_; conv => whnf) | fail)
 refine ok1_callF [0, 3, 2] [false, false, false, true] false (q) rfl rfl ⟨⟨rfl, by first | rfl | fail⟩, by (repeat' (first | exact trivial | refine And.intro ?_ ?_)) <;> first | rfl | exact ren_eq (by first | (simp; done) | fail) (by first | rfl | fail) | fail, by first | simp [plainHf, plainB], by first | rfl | fail, ?_⟩
 conv => whnf
 repeat (first | (refine Exists.intro _ (And.intro (sload_all rfl (by first | rfl | (simp [l]; done) | fail)) ?_); conv => whnf) | (refine Exists.intro _ (And.intro (sput_all rfl (by first | rfl | (simp [l]; done) | fail)) ?_); conv => whnf) | (refine And.intro (by first | omega | (simp; omega) | fail) ?_; conv => whnf) | fail)
 refine ⟨[], ?_, rfl, rfl, ?_, rfl⟩
 ·
  (repeat' (first | (refine wk_agg ?_) | fail)) <;> first | exact ren_eq (by first | (simp; done) | fail) (by first | rfl | fail) | fail
 ·
  (repeat' (first | exact trivial | fail)) <;> fail
theorem f57 (k : List UInt8) (hk : k.length = 32) (n : UInt32) : SCall Try.prog 57 [.p 0 0] [some (.box (k.map .u8 ++ [.u32 n]))] (.agg ((stepK 1 k).map .u8)) [some (.box ((stepK 2 k).map .u8 ++ [.u32 (n + 1)]))] := by
 have q1 := f105 k hk 1
 have q2 := f105 k hk 2
 have l1 := stepK_len 1 k
 have l2 := stepK_len 2 k
 obtain ⟨X, hX⟩ : ∃ X, X = stepK 1 k := ⟨_, rfl⟩
 obtain ⟨Y, hY⟩ : ∃ Y, Y = stepK 2 k := ⟨_, rfl⟩
 rw [← hX] at q1 l1 ⊢
 rw [← hY] at q2 l2 ⊢
 have m1 : (k.map SV.u8).length = 32 := by rw [List.length_map, hk]
 have m2 : (Y.map SV.u8).length = 32 := by rw [List.length_map, l2]
 refine scall_of ttOk (by kernel_rfl : Try.prog.funcs[57]? = some Try.f57) rfl rfl rfl ?_
 try simp only [List.length_cons, List.length_nil, Nat.zero_add, Nat.reduceAdd]
 refine sw_ok ttOk mixed (by kernel_rfl) ?_
 conv => whnf
 repeat (first | (refine brF rfl ?_; conv => whnf) | (refine Exists.intro _ (And.intro (sload_fst m1) ?_); conv => whnf) | (refine And.intro (by kernel_rfl) ?_; conv => whnf) | fail)
 refine ok1_callF [] [] true (q1) rfl rfl ⟨⟨rfl, by first | ((repeat' (first | exact ren_m8 rfl | exact rfl | (refine wk_agg ?_) | (refine wk_cons ?_ ?_))); done) | fail⟩, trivial, by first | rfl | fail, by first | simp [plainRf, plainR, plainT, plainW], ?_⟩
 conv => whnf
 repeat (first | (refine Exists.intro _ (And.intro (sput_all rfl (by first | rfl | (simp [l1]; done) | fail)) ?_); conv => whnf) | (refine Exists.intro _ (And.intro (sload_fst m1) ?_); conv => whnf) | (refine And.intro (by first | omega | (simp; omega) | fail) ?_; conv => whnf) | fail)
 refine ok1_callF [] [] true (q2) rfl rfl ⟨⟨rfl, by first | ((repeat' (first | exact ren_m8 rfl | exact rfl | (refine wk_agg ?_) | (refine wk_cons ?_ ?_))); done) | fail⟩, trivial, by first | rfl | fail, by first | simp [plainRf, plainR, plainT, plainW], ?_⟩
 conv => whnf
 repeat (first | (refine Exists.intro _ (And.intro (sload_all rfl (by first | rfl | (simp [l1, l2, hk]; done) | fail)) ?_); conv => whnf) | (refine Exists.intro _ (And.intro (sput_all rfl (by first | rfl | (simp [l1, l2, hk]; done) | fail)) ?_); conv => whnf) | (refine Exists.intro _ (And.intro (sload_end (by first | rfl | (simp [l1, l2, hk]; done) | fail)) ?_); conv => whnf) | (refine Exists.intro _ (And.intro (sput_end (by first | rfl | (simp [l1, l2, hk]; done) | fail) rfl) ?_); conv => whnf) | (refine Exists.intro _ (And.intro (sput_fst (m2.trans m1.symm)) ?_); conv => whnf) | (refine And.intro (by first | omega | (simp; omega) | fail) ?_; conv => whnf) | (refine And.intro (by kernel_rfl) ?_; conv => whnf) | fail)
 refine ⟨[0], ?_, rfl, rfl, ?_, rfl⟩
 ·
  (repeat' (first | (refine wk_agg ?_) | fail)) <;> first | exact ren_eq (by first | (simp; done) | fail) (by first | rfl | fail) | fail
 ·
  (repeat' (first | exact trivial | refine And.intro ?_ ?_ | fail)) <;> first | exact ren_eq (by first | (simp; done) | fail) (by first | rfl | fail) | fail
theorem f108 (k : List UInt8) (hk : k.length = 32) : SCall Try.prog 108 [.agg (k.map .u8)] [] (.sl 0 0 32 1 false) [some (.row 5 (k.map .u8))] := by
 refine scall_of ttOk (by kernel_rfl : Try.prog.funcs[108]? = some Try.f108) rfl rfl rfl ?_
 try simp only [List.length_cons, List.length_nil, Nat.zero_add, Nat.reduceAdd]
 refine sw_ok ttOk mixed (by kernel_rfl) ?_
 conv => whnf
 repeat (fail)
 refine SWp.weak (Weak.virt 3 5 1 rfl) ?_
 refine loop_rule ttOk mixed (by kernel_rfl) (ι := { i : Nat // i ≤ 32 }) (fun i => [(1, .p 0 0), (3, .sl 1 0 i.1 1 false), (4, .i (i.1 : Int))]) (fun i => [some (.box (k.map .u8)), some (.row 5 ((k.take i.1).map .u8))]) (fun _ => 2) (fun i => 32 - i.1) ⟨0, by omega⟩ ?_ ?_
 ·
  refine Weak.sel [0, 1] rfl rfl ?_ ?_ rfl rfl
  ·
   (repeat' (first | exact trivial | refine And.intro ?_ ?_ | fail)) <;> first | rfl | fail
  ·
   (repeat' (first | exact trivial | refine And.intro ?_ ?_ | fail)) <;> first | rfl | exact ren_eq (by first | (simp; done) | fail) (by first | rfl | fail) | fail
 ·
  rintro ⟨i, hi⟩
  dsimp only
  by_cases hi2 : i < 32
  ·
   have hlt : decide ((i : Int) < 32) = true := by simp; omega
   have hp := wpi8 i (by omega)
   have hl : (k.take i).length = i := by rw [List.length_take]; omega
   have hs : k.take (i + 1) = k.take i ++ [k.getD i 0] := by
    rw [List.take_add_one, List.getD_eq_getElem?_getD, List.getElem?_eq_getElem (by omega)]; rfl
   obtain ⟨Y, hY⟩ : ∃ Y, Y = k.take i := ⟨_, rfl⟩
   rw [← hY] at hl hs ⊢
   have hap : (Y ++ [k.getD i 0]).map SV.u8 = List.take (i * 1) (List.drop 0 (Y.map SV.u8)) ++ List.take (1 * 1) (List.drop 0 [SV.u8 (k.getD i 0)]) := rcat8z hl.symm rfl
   conv => whnf
   first | refine brT (by exact hlt) ?_ | fail
   conv => whnf
   repeat (first | (refine Exists.intro _ (And.intro (sload_u8 (i := i) (by first | rfl | (simp; done) | fail) (by first | omega | fail)) ?_); conv => whnf) | (refine Exists.intro _ (And.intro (idx_i (m := i) (by first | rfl | fail)) ?_); conv => whnf) | (refine Exists.intro _ (And.intro rfl ?_); conv => whnf) | (refine And.intro (by first | omega | (simp [ti5]; omega)) ?_; conv => whnf) | fail)
   refine ⟨⟨i + 1, by omega⟩, by simp only; omega, ?_⟩
   dsimp only
   rw [hs]
   refine Weak.sel [0, 3] rfl rfl ?_ ?_ rfl rfl
   ·
    (repeat' (first | exact trivial | refine And.intro ?_ ?_ | fail)) <;> first | exact wk_i (by first | exact hp | exact hp.symm | fail) | rfl | fail
   ·
    (repeat' (first | exact trivial | exact ren_eq (plainL_u8 _) hap | refine And.intro ?_ ?_ | fail)) <;> first | rfl | exact ren_eq (by first | (simp; done) | fail) (by first | rfl | fail) | fail
  ·
   obtain rfl : i = 32 := by omega
   have hl : k.take 32 = k := by rw [List.take_of_length_le (by omega)]
   rw [hl]
   conv => whnf
   first | refine brF (by rfl) ?_ | fail
   conv => whnf
   repeat (fail)
   refine ⟨[1], ?_, rfl, rfl, ?_, rfl⟩
   ·
    (repeat' (fail)) <;> first | rfl | fail
   ·
    (repeat' (first | exact trivial | refine And.intro ?_ ?_ | fail)) <;> first | rfl | exact ren_eq (by first | (simp; done) | fail) (by first | rfl | fail) | fail
theorem f107 (D : List UInt8) (at_ : Nat) (h : at_ + 32 ≤ D.length) (hb : D.length < 1000000) (f : Bool) (k : List UInt8) (hk : (D.drop at_).take 32 = k) : SCall Try.prog 107 [.sl 0 0 D.length 1 f, .i (at_ : Int)] [some (.ro (D.map .u8))] (.agg (k.map .u8)) [some (.ro (D.map .u8))] := by
 have hkl : k.length = 32 := by rw [← hk]; simp; omega
 have hkg : ∀ i, i < 32 → k.getD i 0 = D.getD (at_ + i) 0 := fun i hi => by
  rw [← hk, List.getD_eq_getElem?_getD, List.getD_eq_getElem?_getD, List.getElem?_take_of_lt hi, List.getElem?_drop]
 refine scall_of ttOk (by kernel_rfl : Try.prog.funcs[107]? = some Try.f107) rfl rfl rfl ?_
 try simp only [List.length_cons, List.length_nil, Nat.zero_add, Nat.reduceAdd]
 refine sw_ok ttOk mixed (by kernel_rfl) ?_
 conv => whnf
 repeat (fail)
 refine loop_rule ttOk mixed (by kernel_rfl) (ι := { i : Nat // i ≤ 32 }) (fun i => [(0, .sl 0 0 D.length 1 f), (1, .i (at_ : Int)), (4, .p 1 0), (5, .p 2 0), (6, .i (i.1 : Int))]) (fun i => [some (.ro (D.map .u8)), some (.box (reps 32 [.u8 0])), some (.box ((fil 32 i.1 (fun i => k.getD i 0) (fun _ => 0)).map .u8))]) (fun _ => 3) (fun i => 32 - i.1) ⟨0, by omega⟩ ?_ ?_
 ·
  have hz : fil 32 0 (fun i => k.getD i 0) (fun _ => 0) = List.replicate 32 0 := fil_zero _ _ _
  dsimp only
  rw [hz]
  refine Weak.sel [0, 1, 2] rfl rfl ?_ ?_ rfl rfl
  ·
   (repeat' (first | exact trivial | refine And.intro ?_ ?_ | fail)) <;> first | rfl | fail
  ·
   (repeat' (first | exact trivial | exact ren_z8 | refine And.intro ?_ ?_ | (refine wk_cons ?_ ?_))) <;> first | rfl | exact ren_eq (by first | (simp; done) | fail) (by first | rfl | fail) | fail
 ·
  rintro ⟨i, hi⟩
  dsimp only
  have hf := fil_len 32 i (fun i => k.getD i 0) (fun _ => 0)
  by_cases hi2 : i < 32
  ·
   have hlt : decide ((i : Int) < 32) = true := by simp; omega
   have hp := wpi8 i (by omega)
   have ha : w64 ((at_ : Int) + (i : Int)) = ((at_ + i : Nat) : Int) := by simp only [w64_eq]; omega
   have hs := fil_setx (n := 32) (f := fun i => k.getD i 0) (g := fun _ => 0) (i := i) (x := D.getD (at_ + i) 0) hi2 (hkg i hi2).symm
   conv => whnf
   first | refine brT (by exact hlt) ?_ | fail
   conv => whnf
   repeat (first | (refine Exists.intro _ (And.intro (sput_m8 (i := i) (by first | rfl | (simp; done) | fail)) ?_); conv => whnf) | (refine Exists.intro _ (And.intro (idx_i (m := i) (by first | rfl | fail)) ?_); conv => whnf) | (refine Exists.intro _ (And.intro (sload_u8 (i := at_ + i) (by first | rfl | omega | fail) (by first | omega | fail)) ?_); conv => whnf) | (refine Exists.intro _ (And.intro (idx_i (m := at_ + i) (by first | rfl | omega | fail)) ?_); conv => whnf) | (refine And.intro (by first | omega | fail) ?_; conv => whnf) | (refine And.intro ⟨by first | exact @rfl Nat _ | fail, by first | (simp only [hf, ti5, List.length_map]; omega) | fail⟩ ?_; conv => whnf) | fail)
   refine ⟨⟨i + 1, by omega⟩, by simp only; omega, ?_⟩
   dsimp only
   rw [← hs]
   refine Weak.sel [0, 1, 2] rfl rfl ?_ ?_ rfl rfl
   ·
    (repeat' (first | exact trivial | refine And.intro ?_ ?_ | fail)) <;> first | exact wk_i (by first | exact hp | exact hp.symm | fail) | rfl | fail
   ·
    (repeat' (first | exact trivial | refine And.intro ?_ ?_ | (refine wk_cons ?_ ?_))) <;> first | rfl | exact ren_eq (by first | (simp; done) | fail) (by first | rfl | fail) | exact ren_m8 (by first | rfl | fail) | fail
  ·
   obtain rfl : i = 32 := by omega
   have hfin : fil 32 32 (fun i => k.getD i 0) (fun _ => 0) = k := by
    rw [fil_full]; exact range_getD hkl
   rw [hfin]
   conv => whnf
   first | refine brF (by rfl) ?_ | fail
   conv => whnf
   repeat (first | (refine Exists.intro _ (And.intro (sload_all rfl (by first | rfl | (simp [hkl]; done) | fail)) ?_); conv => whnf) | (refine Exists.intro _ (And.intro (sput_all rfl (by first | rfl | (simp [hkl]; done) | fail)) ?_); conv => whnf) | (refine And.intro (by first | omega | (simp; omega) | fail) ?_; conv => whnf) | fail)
   refine ⟨[0], ?_, rfl, rfl, ?_, rfl⟩
   ·
    (repeat' (first | (refine wk_agg ?_) | fail)) <;> first | exact ren_eq (by first | (simp; done) | fail) (by first | rfl | fail) | fail
   ·
    (repeat' (first | exact trivial | refine And.intro ?_ ?_ | fail)) <;> first | exact ren_eq (by first | (simp; done) | fail) (by first | rfl | fail) | fail
theorem f59 (k : List UInt8) (hk : k.length = 32) : SCall Try.prog 59 [.agg (k.map .u8)] [] (.agg ((stepK 1 k).map .u8)) [] := by
 have q := f48_n k [1] (by omega) (by rw [List.length_singleton]; decide) false true
 have l := stepK_len 1 k
 rw [show mac_n k [1] = stepK 1 k by unfold stepK; rfl, hk] at q
 obtain ⟨X, hX⟩ : ∃ X, X = stepK 1 k := ⟨_, rfl⟩
 rw [← hX] at q l ⊢
 have p1 := f108 k hk
 have p2 := f107 X 0 (by omega) (by omega) false X (by rw [List.drop_zero, List.take_of_length_le (by omega)])
 rw [l] at p2
 refine scall_of ttOk (by kernel_rfl : Try.prog.funcs[59]? = some Try.f59) rfl rfl rfl ?_
 try simp only [List.length_cons, List.length_nil, Nat.zero_add, Nat.reduceAdd]
 refine sw_ok ttOk mixed (by kernel_rfl) ?_
 conv => whnf
 repeat (first | (refine Exists.intro _ (And.intro (sload_all rfl (by first | rfl | (simp [hk]; done) | fail)) ?_); conv => whnf) | fail)
 refine ok1_callF [] [true] false (p1) rfl rfl ⟨⟨rfl, by first | ((repeat' (first | exact wk_nil | exact ren_m8 rfl | (refine wk_agg ?_) | (refine wk_cons ?_ ?_))); done) | fail⟩, trivial, by first | simp [plainHf, plainB], by first | rfl | fail, ?_⟩
 conv => whnf
 repeat (first | (refine Exists.intro _ (And.intro rfl ?_); conv => whnf) | fail)
 refine ok1_callF [2, 3] [false, false, true] false (q) rfl rfl ⟨⟨rfl, by first | rfl | fail⟩, by (repeat' (first | exact trivial | refine And.intro ?_ ?_)) <;> first | rfl | exact ren_eq (by first | (simp; done) | fail) (by first | rfl | fail) | fail, by first | simp [plainHf, plainB], by first | rfl | fail, ?_⟩
 conv => whnf
 repeat (fail)
 refine ok1_callF [4] [false] true (p2) rfl rfl ⟨⟨rfl, by first | rfl | fail⟩, by (repeat' (first | exact trivial | refine And.intro ?_ ?_)) <;> first | exact ren_eq (by first | (simp; done) | fail) (by first | rfl | fail) | fail, by first | rfl | fail, by first | simp [plainRf, plainR, plainT, plainW], ?_⟩
 conv => whnf
 repeat (first | (refine Exists.intro _ (And.intro (sload_all rfl (by first | rfl | (simp [l]; done) | fail)) ?_); conv => whnf) | (refine Exists.intro _ (And.intro (sput_all rfl (by first | rfl | (simp [l]; done) | fail)) ?_); conv => whnf) | (refine And.intro (by first | omega | (simp; omega) | fail) ?_; conv => whnf) | fail)
 refine ⟨[], ?_, rfl, rfl, ?_, rfl⟩
 ·
  (repeat' (first | (refine wk_agg ?_) | fail)) <;> first | exact ren_eq (by first | (simp; done) | fail) (by first | rfl | fail) | fail
 ·
  (repeat' (first | exact trivial | fail)) <;> fail
theorem f60 (k : List UInt8) (hk : k.length = 32) : SCall Try.prog 60 [.agg (k.map .u8)] [] (.agg ((stepK 2 k).map .u8)) [] := by
 have q := f48_n k [2] (by omega) (by rw [List.length_singleton]; decide) false true
 have l := stepK_len 2 k
 rw [show mac_n k [2] = stepK 2 k by unfold stepK; rfl, hk] at q
 obtain ⟨X, hX⟩ : ∃ X, X = stepK 2 k := ⟨_, rfl⟩
 rw [← hX] at q l ⊢
 have p1 := f108 k hk
 have p2 := f107 X 0 (by omega) (by omega) false X (by rw [List.drop_zero, List.take_of_length_le (by omega)])
 rw [l] at p2
 refine scall_of ttOk (by kernel_rfl : Try.prog.funcs[60]? = some Try.f60) rfl rfl rfl ?_
 try simp only [List.length_cons, List.length_nil, Nat.zero_add, Nat.reduceAdd]
 refine sw_ok ttOk mixed (by kernel_rfl) ?_
 conv => whnf
 repeat (first | (refine Exists.intro _ (And.intro (sload_all rfl (by first | rfl | (simp [hk]; done) | fail)) ?_); conv => whnf) | fail)
 refine ok1_callF [] [true] false (p1) rfl rfl ⟨⟨rfl, by first | ((repeat' (first | exact wk_nil | exact ren_m8 rfl | (refine wk_agg ?_) | (refine wk_cons ?_ ?_))); done) | fail⟩, trivial, by first | simp [plainHf, plainB], by first | rfl | fail, ?_⟩
 conv => whnf
 repeat (first | (refine Exists.intro _ (And.intro rfl ?_); conv => whnf) | fail)
 refine ok1_callF [2, 3] [false, false, true] false (q) rfl rfl ⟨⟨rfl, by first | rfl | fail⟩, by (repeat' (first | exact trivial | refine And.intro ?_ ?_)) <;> first | rfl | exact ren_eq (by first | (simp; done) | fail) (by first | rfl | fail) | fail, by first | simp [plainHf, plainB], by first | rfl | fail, ?_⟩
 conv => whnf
 repeat (fail)
 refine ok1_callF [4] [false] true (p2) rfl rfl ⟨⟨rfl, by first | rfl | fail⟩, by (repeat' (first | exact trivial | refine And.intro ?_ ?_)) <;> first | exact ren_eq (by first | (simp; done) | fail) (by first | rfl | fail) | fail, by first | rfl | fail, by first | simp [plainRf, plainR, plainT, plainW], ?_⟩
 conv => whnf
 repeat (first | (refine Exists.intro _ (And.intro (sload_all rfl (by first | rfl | (simp [l]; done) | fail)) ?_); conv => whnf) | (refine Exists.intro _ (And.intro (sput_all rfl (by first | rfl | (simp [l]; done) | fail)) ?_); conv => whnf) | (refine And.intro (by first | omega | (simp; omega) | fail) ?_; conv => whnf) | fail)
 refine ⟨[], ?_, rfl, rfl, ?_, rfl⟩
 ·
  (repeat' (first | (refine wk_agg ?_) | fail)) <;> first | exact ren_eq (by first | (simp; done) | fail) (by first | rfl | fail) | fail
 ·
  (repeat' (first | exact trivial | fail)) <;> fail
end Go.Sh
/- chain: expand (f110), key (f111), cut (f109), Root (f61), walked. -/
namespace Go.Sh
open Go.Proofs
set_option maxHeartbeats 4000000

theorem sload_cut {l r : List UInt8} {o n : Nat} (h : (l.drop o).take n = r) (hl : o + n ≤ l.length) : sload true n (l.map .u8) o = some (.agg (r.map .u8)) := by
 subst h
 simp only [sload, if_true, List.length_map]
 rw [if_pos hl, List.map_take, List.map_drop]
attribute [local irreducible] mac_n exO_n
theorem f110 (K I : List UInt8) (hK : K.length < 100000000000000) (hI : I.length < 100000000000000) (n : Nat) (hn1 : 1 ≤ n) (hn : n ≤ 8160) (fk : Bool) : SCall Try.prog 110 [.sl 0 0 K.length 1 fk, .s I, .i (n : Int)] [some (.ro (K.map .u8))] (.sl 1 0 n 1 true) [some (.ro (K.map .u8)), some (.row 5 ((exO_n K I ((n + (32 - 1)) / 32)).map .u8))] := by
 have q := f51_n K I hK hI n hn1 hn fk false
 obtain ⟨X, hX⟩ : ∃ X, X = exO_n K I ((n + (32 - 1)) / 32) := ⟨_, rfl⟩
 rw [← hX] at q ⊢
 refine scall_of ttOk (by kernel_rfl : Try.prog.funcs[110]? = some Try.f110) rfl rfl rfl ?_
 try simp only [List.length_cons, List.length_nil, Nat.zero_add, Nat.reduceAdd]
 refine sw_ok ttOk mixed (by kernel_rfl) ?_
 conv => whnf
 repeat (fail)
 refine ok1_callF [0, 1] [false, false, true] false (q) rfl rfl ⟨⟨rfl, by first | rfl | fail⟩, by (repeat' (first | exact trivial | refine And.intro ?_ ?_)) <;> first | exact ren_eq (by first | (simp; done) | fail) (by first | rfl | fail) | fail, by first | simp [plainHf, plainB], by first | rfl | fail, ?_⟩
 conv => whnf
 repeat (fail)
 refine ⟨[0, 2], ?_, rfl, rfl, ?_, rfl⟩
 ·
  (repeat' (fail)) <;> first | rfl | fail
 ·
  (repeat' (first | exact trivial | refine And.intro ?_ ?_ | fail)) <;> first | rfl | exact ren_eq (by first | (simp; done) | fail) (by first | rfl | fail) | fail
theorem f111 (D : List UInt8) (o : Nat) (k : List UInt8) (hk : (D.drop o).take 32 = k) (hD : o + 32 ≤ D.length) (f : Bool) : SCall Try.prog 111 [.sl 0 o 32 1 f] [some (.ro (D.map .u8))] (.agg (k.map .u8)) [some (.ro (D.map .u8))] := by
 have hl : k.length = 32 := by rw [← hk]; simp; omega
 refine scall_of ttOk (by kernel_rfl : Try.prog.funcs[111]? = some Try.f111) rfl rfl rfl ?_
 try simp only [List.length_cons, List.length_nil, Nat.zero_add, Nat.reduceAdd]
 refine sw_ok ttOk mixed (by kernel_rfl) ?_
 conv => whnf
 repeat (first | (refine Exists.intro _ (And.intro (sload_all rfl (by first | rfl | (simp [hl]; done) | fail)) ?_); conv => whnf) | (refine Exists.intro _ (And.intro (sput_all rfl (by first | rfl | (simp [hl]; done) | fail)) ?_); conv => whnf) | (refine Exists.intro _ (And.intro (sload_cut hk hD) ?_); conv => whnf) | (refine And.intro (by first | omega | (simp; omega) | fail) ?_; conv => whnf) | fail)
 refine ⟨[0], ?_, rfl, rfl, ?_, rfl⟩
 ·
  (repeat' (first | (refine wk_agg ?_) | fail)) <;> first | exact ren_eq (by first | (simp; done) | fail) (by first | rfl | fail) | fail
 ·
  (repeat' (first | exact trivial | refine And.intro ?_ ?_ | fail)) <;> first | exact ren_eq (by first | (simp; done) | fail) (by first | rfl | fail) | fail
theorem f109 (D : List UInt8) (k : List UInt8) (hk : D.take 32 = k) (hD : D.length = 64) : SCall Try.prog 109 [.sl 0 0 64 1 true, .i 32, .fn 111 []] [some (.ro (D.map .u8))] (.tup [.agg (k.map .u8), .sl 0 32 32 1 true]) [some (.ro (D.map .u8))] := by
 have hl : k.length = 32 := by rw [← hk]; simp; omega
 have q := f111 D 0 k (by rw [List.drop_zero]; exact hk) (by omega) false
 refine scall_of ttOk (by kernel_rfl : Try.prog.funcs[109]? = some Try.f109) rfl rfl rfl ?_
 try simp only [List.length_cons, List.length_nil, Nat.zero_add, Nat.reduceAdd]
 refine sw_ok ttOk mixed (by kernel_rfl) ?_
 conv => whnf
 repeat (first | (refine Exists.intro _ (And.intro rfl ?_); conv => whnf) | (refine And.intro (by first | omega | fail) ?_; conv => whnf) | fail)
 refine ok1_callF [0] [false] true (q) rfl rfl ⟨⟨rfl, by first | rfl | fail⟩, by (repeat' (first | exact trivial | refine And.intro ?_ ?_)) <;> first | exact ren_eq (by first | (simp; done) | fail) (by first | rfl | fail) | fail, by first | rfl | fail, by first | simp [plainRf, plainR, plainT, plainW], ?_⟩
 conv => whnf
 repeat (first | (refine Exists.intro _ (And.intro (sload_all rfl (by first | rfl | (simp [hl]; done) | fail)) ?_); conv => whnf) | (refine Exists.intro _ (And.intro (sput_all rfl (by first | rfl | (simp [hl]; done) | fail)) ?_); conv => whnf) | (refine Exists.intro _ (And.intro rfl ?_); conv => whnf) | (refine And.intro (by first | omega | (simp; omega) | fail) ?_; conv => whnf) | (refine And.intro (by kernel_rfl) ?_; conv => whnf) | fail)
 refine ⟨[0], ?_, rfl, rfl, ?_, rfl⟩
 ·
  (repeat' (first | (refine wk_tup ?_) | (refine wk_agg ?_) | (refine wk_cons ?_ ?_))) <;> first | rfl | exact ren_eq (by first | (simp; done) | fail) (by first | rfl | fail) | fail
 ·
  (repeat' (first | exact trivial | refine And.intro ?_ ?_ | fail)) <;> first | exact ren_eq (by first | (simp; done) | fail) (by first | rfl | fail) | fail
def rootS : List UInt8 := [104, 97, 105, 108, 101, 114, 32, 114, 111, 111, 116]
def rootO (r s : List UInt8) : List UInt8 := exO_n (mac_n r s) rootS 2
theorem rootO_len (r s : List UInt8) : (rootO r s).length = 64 := exO_len_n _ _ 2
attribute [local irreducible] rootO
theorem f61 (r s : List UInt8) (hr : r.length = 32) (hs : s.length = 32) : SCall Try.prog 61 [.agg (r.map .u8), .agg (s.map .u8)] [] (.tup [.agg (((rootO r s).take 32).map .u8), .agg (((rootO r s).drop 32).map .u8)]) [] := by
 have q1 := f50_n r s (by omega) (by omega) true true
 have l1 := mac_len_n r s
 have q2 := f110 (mac_n r s) rootS (by omega) (by decide) 64 (by decide) (by decide) true
 rw [show exO_n (mac_n r s) rootS ((64 + (32 - 1)) / 32) = rootO r s by unfold rootO; rfl, l1] at q2
 have l2 := rootO_len r s
 rw [hr, hs] at q1
 obtain ⟨M, hM⟩ : ∃ M, M = mac_n r s := ⟨_, rfl⟩
 obtain ⟨X, hX⟩ : ∃ X, X = rootO r s := ⟨_, rfl⟩
 rw [← hM] at q1 q2 l1
 rw [← hX] at q2 l2 ⊢
 have q3 := f109 X (X.take 32) rfl l2
 have l3 : (X.take 32).length = 32 := by simp; omega
 have l4 : (X.drop 32).length = 32 := by simp; omega
 have hc : (X.drop 32).take 32 = X.drop 32 := List.take_of_length_le (by omega)
 obtain ⟨A, hA⟩ : ∃ A, A = X.take 32 := ⟨_, rfl⟩
 obtain ⟨C, hC⟩ : ∃ C, C = X.drop 32 := ⟨_, rfl⟩
 rw [← hA] at q3 l3 ⊢
 rw [← hC] at l4 ⊢
 have hc2 : (X.drop 32).take 32 = C := by rw [hc, hC]
 have hx : 32 + 32 ≤ X.length := by omega
 refine scall_of ttOk (by kernel_rfl : Try.prog.funcs[61]? = some Try.f61) rfl rfl rfl ?_
 try simp only [List.length_cons, List.length_nil, Nat.zero_add, Nat.reduceAdd]
 refine sw_ok ttOk mixed (by kernel_rfl) ?_
 conv => whnf
 repeat (first | (refine Exists.intro _ (And.intro rfl ?_); conv => whnf) | (refine And.intro (by first | omega | (simp; omega) | fail) ?_; conv => whnf) | fail)
 refine ok1_callF [0, 1] [false, false, true] false (q1) rfl rfl ⟨⟨rfl, by first | rfl | fail⟩, by (repeat' (first | exact trivial | refine And.intro ?_ ?_)) <;> first | exact ren_eq (by first | (simp; done) | fail) (by first | rfl | fail) | fail, by first | simp [plainHf, plainB], by first | rfl | fail, ?_⟩
 conv => whnf
 repeat (fail)
 refine ok1_callF [4] [false, true] false (q2) rfl rfl ⟨⟨rfl, by first | rfl | fail⟩, by (repeat' (first | exact trivial | refine And.intro ?_ ?_)) <;> first | exact ren_eq (by first | (simp; done) | fail) (by first | rfl | fail) | fail, by first | simp [plainHf, plainB], by first | rfl | fail, ?_⟩
 conv => whnf
 repeat (fail)
 refine ok1_callE [5] [some (.ro (X.map .u8))] (.tup [.agg (A.map .u8), .sl 5 32 32 1 true]) (q3) rfl rfl ⟨⟨rfl, by first | rfl | fail⟩, by (repeat' (first | exact trivial | refine And.intro ?_ ?_)) <;> first | exact ren_m8 rfl | fail, by (repeat' (first | exact trivial | refine And.intro ?_ ?_)) <;> first | rfl, by first | (simp [renV, renL, renL_plain]; done), ?_⟩
 conv => whnf
 repeat (first | (refine Exists.intro _ (And.intro (sload_all rfl (by first | rfl | (simp [l3, l4]; done) | fail)) ?_); conv => whnf) | (refine Exists.intro _ (And.intro (sput_all rfl (by first | rfl | (simp [l3, l4]; done) | fail)) ?_); conv => whnf) | (refine Exists.intro _ (And.intro (sload_cut hc2 hx) ?_); conv => whnf) | (refine And.intro (by first | omega | (simp; omega) | fail) ?_; conv => whnf) | (refine And.intro (by kernel_rfl) ?_; conv => whnf) | fail)
 refine ⟨[], ?_, rfl, rfl, ?_, rfl⟩
 ·
  (repeat' (first | (refine wk_tup ?_) | (refine wk_agg ?_) | (refine wk_cons ?_ ?_))) <;> first | rfl | exact ren_eq (by first | (simp; done) | fail) (by first | rfl | fail) | fail
 ·
  (repeat' (first | exact trivial | fail)) <;> fail
end Go.Sh
/- chain's laws: Keys (f58), works (f56), walked. -/
namespace Go.Sh
open Go.Proofs
set_option maxHeartbeats 8000000
set_option maxRecDepth 100000

theorem eqcsC_rf : ∀ (l : List UInt8), eqcs (l.map SV.u8) (l.map SV.u8) = true
 | [] => rfl
 | a :: l => by simp only [List.map_cons, eqcs, eqc, beq_self_eq_true, Bool.true_and]; exact eqcsC_rf l
theorem kdC_u8n {n : Nat} (l : List UInt8) (h : l.length = n) : List.map kd (List.map SV.u8 l) = List.map some (List.replicate n 1) := by
 subst h
 induction l with
 | nil => rfl
 | cons a l ih => simp only [List.map_cons, List.length_cons, List.replicate_succ, ih]; rfl
def key1 (a : UInt8) : List UInt8 := a :: List.replicate 31 0
theorem root_nz : ((((rootO (key1 1) (key1 2)).take 32).getD 0 0) == UInt8.ofNat (Int.toNat 0)) = false := by decide +kernel
def chn (k : List UInt8) (n : UInt32) : List SV := k.map .u8 ++ [.u32 n]
theorem f58 (k : List UInt8) (hk : k.length = 32) (n : UInt32) : SCall Try.prog 58 [.agg (k.map .u8 ++ [.u32 n])] [] (.fn 106 [.p 0 0]) [some (.box (k.map .u8 ++ [.u32 n]))] := by
 refine scall_of ttOk (by kernel_rfl : Try.prog.funcs[58]? = some Try.f58) rfl rfl rfl ?_
 try simp only [List.length_cons, List.length_nil, Nat.zero_add, Nat.reduceAdd]
 refine sw_ok ttOk mixed (by kernel_rfl) ?_
 conv => whnf
 repeat (fail)
 refine ⟨[0], ?_, rfl, rfl, ?_, rfl⟩
 ·
  (repeat' (fail)) <;> first | rfl | fail
 ·
  (repeat' (first | exact trivial | refine And.intro ?_ ?_ | fail)) <;> first | exact ren_eq (by first | (simp; done) | fail) (by first | rfl | fail) | fail
attribute [local irreducible] rootO stepK mac_n
theorem f56 : SCall Try.prog 56 [] [] (.b true) [] := by
 have q1 := f61 (key1 1) (key1 2) rfl rfl
 have l1 := rootO_len (key1 1) (key1 2)
 have nz := root_nz
 obtain ⟨O, hO⟩ : ∃ O, O = rootO (key1 1) (key1 2) := ⟨_, rfl⟩
 rw [← hO] at q1 l1 nz
 have l2 : (O.take 32).length = 32 := by simp; omega
 have l3 : (O.drop 32).length = 32 := by simp; omega
 obtain ⟨A, hA⟩ : ∃ A, A = O.take 32 := ⟨_, rfl⟩
 obtain ⟨C, hC⟩ : ∃ C, C = O.drop 32 := ⟨_, rfl⟩
 rw [← hA] at q1 l2 nz
 rw [← hC] at q1 l3
 have q2 := f57 (key1 7) rfl 5
 have q3 := f59 (key1 7) rfl
 have l4 := stepK_len 1 (key1 7)
 have l5 := stepK_len 2 (key1 7)
 have q4 := f58 (key1 7) rfl 5
 obtain ⟨M, hM⟩ : ∃ M, M = stepK 1 (key1 7) := ⟨_, rfl⟩
 obtain ⟨X, hX⟩ : ∃ X, X = stepK 2 (key1 7) := ⟨_, rfl⟩
 rw [← hM] at q2 q3 l4
 rw [← hX] at q2 l5
 have eM : (!eqcs (M.map SV.u8) (M.map SV.u8)) = false := by rw [eqcsC_rf M]; rfl
 have mX : (X.map SV.u8).length = 32 := by rw [List.length_map, l5]
 clear hM hX hA hC hO l1
 refine scall_of ttOk (by kernel_rfl : Try.prog.funcs[56]? = some Try.f56) rfl rfl rfl ?_
 try simp only [List.length_cons, List.length_nil, Nat.zero_add, Nat.reduceAdd]
 refine sw_ok ttOk mixed (by kernel_rfl) ?_
 conv => whnf
 repeat (first | (refine Exists.intro _ (And.intro (sload_all rfl (by first | rfl | fail)) ?_); conv => whnf) | (refine Exists.intro _ (And.intro (sput_all rfl (by first | rfl | fail)) ?_); conv => whnf) | (refine Exists.intro _ (And.intro rfl ?_); conv => whnf) | (refine And.intro ⟨rfl, Nat.le_of_ble_eq_true rfl⟩ ?_; conv => whnf) | fail)
 refine ok1_callF [] [] true (q1) rfl rfl ⟨⟨rfl, by first | rfl | fail⟩, trivial, by first | rfl | fail, by first | simp [plainRf, plainR, plainT, plainW], ?_⟩
 conv => whnf
 repeat (first | (refine brF rfl ?_; conv => whnf) | (refine Exists.intro _ (And.intro (sput_all rfl (by first | rfl | (simp [l2, l3]; done) | fail)) ?_); conv => whnf) | (refine Exists.intro _ (And.intro (sload_u8 (i := 0) (by first | rfl | fail) (by first | omega | fail)) ?_); conv => whnf) | (refine Exists.intro _ (And.intro (idx_i (m := 0) (by first | rfl | fail)) ?_); conv => whnf) | (refine gdF nz ?_; conv => whnf) | (refine pkF nz ?_; conv => whnf) | (refine Exists.intro _ (And.intro rfl ?_); conv => whnf) | (refine And.intro (by first | omega | (simp; omega) | fail) ?_; conv => whnf) | fail)
 refine ok1_callF [2] [true] true (q2) rfl rfl ⟨⟨rfl, by first | rfl | fail⟩, by (repeat' (first | exact trivial | refine And.intro ?_ ?_)) <;> first | rfl | fail, by first | simp [plainHf, plainB], by first | simp [plainRf, plainR, plainT, plainW], ?_⟩
 conv => whnf
 repeat (first | (refine Exists.intro _ (And.intro rfl ?_); conv => whnf) | fail)
 refine ok1_callF [] [] true (q3) rfl rfl ⟨⟨rfl, by first | rfl | fail⟩, trivial, by first | rfl | fail, by first | simp [plainRf, plainR, plainT, plainW], ?_⟩
 conv => whnf
 repeat (fail)
 refine And.intro (by exact ⟨kdC_u8n _ l4, kdC_u8n _ l4⟩) ?_
 conv => whnf
 repeat (first | (refine Exists.intro _ (And.intro (sload_all rfl (by first | rfl | fail)) ?_); conv => whnf) | (refine gdF eM ?_; conv => whnf) | (refine Exists.intro _ (And.intro rfl ?_); conv => whnf) | (refine And.intro (by first | omega | (simp; done) | fail) ?_; conv => whnf) | fail)
 refine ok1_callF [] [true] false (q4) rfl rfl ⟨⟨rfl, by first | rfl | fail⟩, trivial, by first | rfl | fail, by first | rfl | fail, ?_⟩
 conv => whnf
 repeat (fail)
 refine SWp.weak (R0 := [(0, .p 0 0), (1, .p 1 0), (2, .p 2 0), (5, .p 3 0), (40, .fn 106 [.p 4 0])]) (H0 := [some (.box [.b false]), some (.box ((key1 7).map .u8 ++ [.u32 5])), some (.box (X.map .u8 ++ [.u32 6])), some (.box [.u32 5]), some (.box ((key1 7).map .u8 ++ [.u32 5]))]) (L0 := 5) ?_ ?_
 ·
  refine Weak.sel [0, 1, 2, 5, 6] rfl rfl ?_ ?_ rfl rfl
  ·
   (repeat' (first | exact trivial | refine And.intro ?_ ?_ | fail)) <;> first | rfl | fail
  ·
   (repeat' (first | exact trivial | refine And.intro ?_ ?_ | (refine wk_cons ?_ ?_))) <;> first | rfl | exact ren_eq (by first | (simp; done) | fail) (by first | rfl | fail) | fail
 refine range_named rfl rfl rfl (by kernel_rfl : Try.prog.funcs[106]? = some Try.f106) rfl rfl rfl rfl ?_
 intro asq bdq hasq hbdq
 refine sw_ok ttOk mixed (by kernel_rfl) ?_
 conv => whnf
 repeat (first | (refine Exists.intro _ (And.intro (sload_all rfl (by first | rfl | fail)) ?_); conv => whnf) | (refine Exists.intro _ (And.intro (sput_all rfl (by first | rfl | fail)) ?_); conv => whnf) | (refine And.intro ⟨rfl, Nat.le_of_ble_eq_true rfl⟩ ?_; conv => whnf) | fail)
 refine loop_rounds ttOk mixed (by kernel_rfl) 1 ?_
 conv => whnf
 repeat (first | (refine Exists.intro _ (And.intro rfl ?_); conv => whnf) | fail)
 refine ok1_callF [6] [true] true (q2) rfl rfl ⟨⟨rfl, by first | rfl | fail⟩, by (repeat' (first | exact trivial | refine And.intro ?_ ?_)) <;> first | rfl | fail, by first | simp [plainHf, plainB], by first | simp [plainRf, plainR, plainT, plainW], ?_⟩
 conv => whnf
 repeat (first | (refine Exists.intro _ (And.intro (sload_all rfl (by first | rfl | (simp [l4]; done) | fail)) ?_); conv => whnf) | (refine Exists.intro _ (And.intro (sput_all rfl (by first | rfl | (simp [l4]; done) | fail)) ?_); conv => whnf) | (refine And.intro (by first | omega | (simp; omega) | fail) ?_; conv => whnf) | fail)
 refine ok1_yield 5 [0, 1, 3] [false, true, true, true] (syield_of (ps := [41, 42]) (N := Try.f56.ntmps) (R0 := [(0, .p 1 0), (1, .p 2 0), (5, .p 3 0)]) (args0 := [.u32 5, .agg (M.map .u8)]) (ex := .exit 0) (H0t := [some (.box [.b false]), some (.box ((key1 7).map .u8 ++ [.u32 5])), some (.box [.u32 5])]) (H1t := [some (.box [.b false]), some (.box ((key1 7).map .u8 ++ [.u32 5])), some (.box [.u32 6])]) (.inr (.inr ⟨0, rfl⟩)) rfl rfl rfl ?_) rfl rfl ⟨⟨rfl, by first | ((repeat' (first | exact wk_nil | exact ren_m8 rfl | exact rfl | (refine wk_agg ?_) | (refine wk_cons ?_ ?_))); done)⟩, by (repeat' (first | exact trivial | refine And.intro ?_ ?_)) <;> first | rfl | fail, by first | rfl | fail, ?_⟩
 ·
  subst hasq
  subst hbdq
  refine sw_ok ttOk mixed (by kernel_rfl) ?_
  conv => whnf
  repeat (first | (refine Exists.intro _ (And.intro (sput_all rfl (by first | rfl | (simp [l4]; done) | fail)) ?_); conv => whnf) | (refine And.intro (by first | omega | (simp; done) | (simp; omega) | fail) ?_; conv => whnf) | (refine And.intro (by kernel_rfl) ?_; conv => whnf) | fail)
  refine sw_ok ttOk mixed (by kernel_rfl) ?_
  conv => whnf
  repeat (first | (refine gdT rfl ?_; conv => whnf) | (refine Exists.intro _ (And.intro (sload_all rfl (by first | rfl | (simp [l4]; done) | fail)) ?_); conv => whnf) | (refine Exists.intro _ (And.intro rfl ?_); conv => whnf) | fail)
  refine ok1_callF [] [] true (q3) rfl rfl ⟨⟨rfl, by first | rfl | fail⟩, trivial, by first | rfl | fail, by first | simp [plainRf, plainR, plainT, plainW], ?_⟩
  conv => whnf
  repeat (first | (refine gdT rfl ?_; conv => whnf) | fail)
  refine And.intro (by exact ⟨kdC_u8n _ l4, kdC_u8n _ l4⟩) ?_
  conv => whnf
  repeat (first | (refine brF rfl ?_; conv => whnf) | (refine gdT eM ?_; conv => whnf) | (refine pkF eM ?_; conv => whnf) | (refine Exists.intro _ (And.intro rfl ?_); conv => whnf) | (refine And.intro (by first | omega | (simp; done) | fail) ?_; conv => whnf) | (refine And.intro (by kernel_rfl) ?_; conv => whnf) | fail)
  exact ⟨[0, 1, 2, 3], rfl, rfl, by (repeat' (first | exact trivial | refine And.intro ?_ ?_)) <;> first | rfl | fail, rfl⟩
 ·
  conv => whnf
  repeat (first | (refine brT rfl ?_; conv => whnf) | (refine gdF rfl ?_; conv => whnf) | (refine Exists.intro _ (And.intro (sload_end (by first | rfl | (simp [l5]; done) | fail)) ?_); conv => whnf) | (refine Exists.intro _ (And.intro rfl ?_); conv => whnf) | (refine And.intro ⟨rfl, Nat.le_of_ble_eq_true rfl⟩ ?_; conv => whnf) | fail)
  refine ⟨[], ?_, rfl, rfl, ?_, rfl⟩
  ·
   (repeat' (fail)) <;> first | rfl | fail
  ·
   (repeat' (first | exact trivial | fail)) <;> fail
end Go.Sh
/- chain: Split (f63); the reference's Root (f62), Split (f64), walked. -/
namespace Go.Sh
open Go.Proofs
set_option maxHeartbeats 8000000
set_option maxRecDepth 100000

def splitS : List UInt8 := [104, 97, 105, 108, 101, 114, 32, 109, 101, 115, 115, 97, 103, 101]
def splitO (m : List UInt8) : List UInt8 := exO_n m splitS 1
theorem splitO_len (m : List UInt8) : (splitO m).length = 32 := exO_len_n _ _ 1
attribute [local irreducible] rootO splitO stepK mac_n exO_n
theorem f113 (D : List UInt8) (k : List UInt8) (hk : D.take 16 = k) (hD : D.length = 32) (f : Bool) : SCall Try.prog 113 [.sl 0 0 16 1 f] [some (.ro (D.map .u8))] (.agg (k.map .u8)) [some (.ro (D.map .u8))] := by
 have hl : k.length = 16 := by rw [← hk]; simp; omega
 have hk2 : (D.drop 0).take 16 = k := hk
 have hD2 : 0 + 16 ≤ D.length := by omega
 refine scall_of ttOk (by kernel_rfl : Try.prog.funcs[113]? = some Try.f113) rfl rfl rfl ?_
 try simp only [List.length_cons, List.length_nil, Nat.zero_add, Nat.reduceAdd]
 refine sw_ok ttOk mixed (by kernel_rfl) ?_
 conv => whnf
 repeat (first | (refine Exists.intro _ (And.intro (sload_all rfl (by first | rfl | (simp [hl]; done) | fail)) ?_); conv => whnf) | (refine Exists.intro _ (And.intro (sput_all rfl (by first | rfl | (simp [hl]; done) | fail)) ?_); conv => whnf) | (refine Exists.intro _ (And.intro (sload_cut hk2 hD2) ?_); conv => whnf) | (refine And.intro (by first | omega | (simp; omega) | fail) ?_; conv => whnf) | fail)
 refine ⟨[0], ?_, rfl, rfl, ?_, rfl⟩
 ·
  (repeat' (first | (refine wk_agg ?_) | fail)) <;> first | exact ren_eq (by first | (simp; done) | fail) (by first | rfl | fail) | fail
 ·
  (repeat' (first | exact trivial | refine And.intro ?_ ?_ | fail)) <;> first | exact ren_eq (by first | (simp; done) | fail) (by first | rfl | fail) | fail
theorem f112 (D : List UInt8) (k : List UInt8) (hk : D.take 16 = k) (hD : D.length = 32) : SCall Try.prog 112 [.sl 0 0 28 1 true, .i 16, .fn 113 []] [some (.ro (D.map .u8))] (.tup [.agg (k.map .u8), .sl 0 16 12 1 true]) [some (.ro (D.map .u8))] := by
 have hl : k.length = 16 := by rw [← hk]; simp; omega
 have q := f113 D k hk hD false
 refine scall_of ttOk (by kernel_rfl : Try.prog.funcs[112]? = some Try.f112) rfl rfl rfl ?_
 try simp only [List.length_cons, List.length_nil, Nat.zero_add, Nat.reduceAdd]
 refine sw_ok ttOk mixed (by kernel_rfl) ?_
 conv => whnf
 repeat (first | (refine Exists.intro _ (And.intro rfl ?_); conv => whnf) | (refine And.intro (by first | omega | fail) ?_; conv => whnf) | fail)
 refine ok1_callF [0] [false] true (q) rfl rfl ⟨⟨rfl, by first | rfl | fail⟩, by (repeat' (first | exact trivial | refine And.intro ?_ ?_)) <;> first | exact ren_eq (by first | (simp; done) | fail) (by first | rfl | fail) | fail, by first | rfl | fail, by first | simp [plainRf, plainR, plainT, plainW], ?_⟩
 conv => whnf
 repeat (first | (refine Exists.intro _ (And.intro (sload_all rfl (by first | rfl | (simp [hl]; done) | fail)) ?_); conv => whnf) | (refine Exists.intro _ (And.intro (sput_all rfl (by first | rfl | (simp [hl]; done) | fail)) ?_); conv => whnf) | (refine Exists.intro _ (And.intro rfl ?_); conv => whnf) | (refine And.intro (by first | omega | (simp; omega) | fail) ?_; conv => whnf) | (refine And.intro (by kernel_rfl) ?_; conv => whnf) | fail)
 refine ⟨[0], ?_, rfl, rfl, ?_, rfl⟩
 ·
  (repeat' (first | (refine wk_tup ?_) | (refine wk_agg ?_) | (refine wk_cons ?_ ?_))) <;> first | rfl | exact ren_eq (by first | (simp; done) | fail) (by first | rfl | fail) | fail
 ·
  (repeat' (first | exact trivial | refine And.intro ?_ ?_ | fail)) <;> first | exact ren_eq (by first | (simp; done) | fail) (by first | rfl | fail) | fail
theorem f63 (m : List UInt8) (hm : m.length = 32) : SCall Try.prog 63 [.agg (m.map .u8)] [] (.tup [.agg (((splitO m).take 16).map .u8), .agg ((((splitO m).drop 16).take 12).map .u8)]) [] := by
 have q2 := f110 m splitS (by omega) (by decide) 28 (by decide) (by decide) true
 rw [show exO_n m splitS ((28 + (32 - 1)) / 32) = splitO m by unfold splitO; rfl, hm] at q2
 have l2 := splitO_len m
 obtain ⟨X, hX⟩ : ∃ X, X = splitO m := ⟨_, rfl⟩
 rw [← hX] at q2 l2 ⊢
 have q3 := f112 X (X.take 16) rfl l2
 have l3 : (X.take 16).length = 16 := by simp; omega
 have l4 : ((X.drop 16).take 12).length = 12 := by simp; omega
 obtain ⟨A, hA⟩ : ∃ A, A = X.take 16 := ⟨_, rfl⟩
 obtain ⟨C, hC⟩ : ∃ C, C = (X.drop 16).take 12 := ⟨_, rfl⟩
 rw [← hA] at q3 l3 ⊢
 rw [← hC] at l4 ⊢
 have hc2 : (X.drop 16).take 12 = C := hC.symm
 have hx : 16 + 12 ≤ X.length := by omega
 refine scall_of ttOk (by kernel_rfl : Try.prog.funcs[63]? = some Try.f63) rfl rfl rfl ?_
 try simp only [List.length_cons, List.length_nil, Nat.zero_add, Nat.reduceAdd]
 refine sw_ok ttOk mixed (by kernel_rfl) ?_
 conv => whnf
 repeat (first | (refine Exists.intro _ (And.intro rfl ?_); conv => whnf) | (refine And.intro (by first | omega | (simp; omega) | fail) ?_; conv => whnf) | fail)
 refine ok1_callF [0] [false, true] false (q2) rfl rfl ⟨⟨rfl, by first | rfl | fail⟩, by (repeat' (first | exact trivial | refine And.intro ?_ ?_)) <;> first | exact ren_eq (by first | (simp; done) | fail) (by first | rfl | fail) | fail, by first | simp [plainHf, plainB], by first | rfl | fail, ?_⟩
 conv => whnf
 repeat (fail)
 refine ok1_callE [3] [some (.ro (X.map .u8))] (.tup [.agg (A.map .u8), .sl 3 16 12 1 true]) (q3) rfl rfl ⟨⟨rfl, by first | rfl | fail⟩, by (repeat' (first | exact trivial | refine And.intro ?_ ?_)) <;> first | exact ren_m8 rfl | fail, by (repeat' (first | exact trivial | refine And.intro ?_ ?_)) <;> first | rfl, by first | (simp [renV, renL, renL_plain]; done), ?_⟩
 conv => whnf
 repeat (first | (refine Exists.intro _ (And.intro (sload_all rfl (by first | rfl | (simp [l3, l4]; done) | fail)) ?_); conv => whnf) | (refine Exists.intro _ (And.intro (sput_all rfl (by first | rfl | (simp [l3, l4]; done) | fail)) ?_); conv => whnf) | (refine Exists.intro _ (And.intro (sload_cut hc2 hx) ?_); conv => whnf) | (refine And.intro (by first | omega | (simp; omega) | fail) ?_; conv => whnf) | (refine And.intro (by kernel_rfl) ?_; conv => whnf) | fail)
 refine ⟨[], ?_, rfl, rfl, ?_, rfl⟩
 ·
  (repeat' (first | (refine wk_tup ?_) | (refine wk_agg ?_) | (refine wk_cons ?_ ?_))) <;> first | rfl | exact ren_eq (by first | (simp; done) | fail) (by first | rfl | fail) | fail
 ·
  (repeat' (first | exact trivial | fail)) <;> fail
theorem f62 (r s : List UInt8) (hr : r.length = 32) (hs : s.length = 32) : SCall Try.prog 62 [.agg (r.map .u8), .agg (s.map .u8)] [] (.tup [.agg (((rootO r s).take 32).map .u8), .agg (((rootO r s).drop 32).map .u8)]) [] := by
 have p1 := f108 r hr
 have p2 := f108 s hs
 have q1 := f48_n r s (by omega) (by omega) false false
 have l1 := mac_len_n r s
 have q2 := f52_n (mac_n r s) rootS (by omega) (by decide) 64 (by decide) (by decide) false true
 rw [show exO_n (mac_n r s) rootS ((64 + (32 - 1)) / 32) = rootO r s by unfold rootO; rfl, l1] at q2
 have l2 := rootO_len r s
 rw [hr, hs] at q1
 obtain ⟨M, hM⟩ : ∃ M, M = mac_n r s := ⟨_, rfl⟩
 obtain ⟨X, hX⟩ : ∃ X, X = rootO r s := ⟨_, rfl⟩
 rw [← hM] at q1 q2 l1
 rw [← hX] at q2 l2 ⊢
 have l3 : (X.take 32).length = 32 := by simp; omega
 have l4 : (X.drop 32).length = 32 := by simp; omega
 have q3 := f107 X 0 (by omega) (by omega) false (X.take 32) rfl
 have q4 := f107 X 32 (by omega) (by omega) false (X.drop 32) (List.take_of_length_le (by omega))
 rw [l2] at q3 q4
 obtain ⟨A, hA⟩ : ∃ A, A = X.take 32 := ⟨_, rfl⟩
 obtain ⟨C, hC⟩ : ∃ C, C = X.drop 32 := ⟨_, rfl⟩
 rw [← hA] at q3 l3 ⊢
 rw [← hC] at q4 l4 ⊢
 refine scall_of ttOk (by kernel_rfl : Try.prog.funcs[62]? = some Try.f62) rfl rfl rfl ?_
 try simp only [List.length_cons, List.length_nil, Nat.zero_add, Nat.reduceAdd]
 refine sw_ok ttOk mixed (by kernel_rfl) ?_
 conv => whnf
 repeat (first | (refine Exists.intro _ (And.intro (sload_all rfl (by first | rfl | (simp [hr, hs]; done) | fail)) ?_); conv => whnf) | fail)
 refine ok1_callF [] [true] false (p1) rfl rfl ⟨⟨rfl, by first | ((repeat' (first | exact wk_nil | exact ren_m8 rfl | (refine wk_agg ?_) | (refine wk_cons ?_ ?_))); done) | fail⟩, trivial, by first | simp [plainHf, plainB], by first | rfl | fail, ?_⟩
 conv => whnf
 repeat (first | (refine Exists.intro _ (And.intro (sload_all rfl (by first | rfl | (simp [hr, hs]; done) | fail)) ?_); conv => whnf) | fail)
 refine ok1_callF [] [true] false (p2) rfl rfl ⟨⟨rfl, by first | ((repeat' (first | exact wk_nil | exact ren_m8 rfl | (refine wk_agg ?_) | (refine wk_cons ?_ ?_))); done) | fail⟩, trivial, by first | simp [plainHf, plainB], by first | rfl | fail, ?_⟩
 conv => whnf
 repeat (fail)
 refine ok1_callF [4, 5] [false, false, true] false (q1) rfl rfl ⟨⟨rfl, by first | rfl | fail⟩, by (repeat' (first | exact trivial | refine And.intro ?_ ?_)) <;> first | exact ren_eq (by first | (simp; done) | fail) (by first | rfl | fail) | fail, by first | simp [plainHf, plainB], by first | rfl | fail, ?_⟩
 conv => whnf
 repeat (first | (refine Exists.intro _ (And.intro rfl ?_); conv => whnf) | fail)
 refine ok1_callF [6, 7] [false, false, true] false (q2) rfl rfl ⟨⟨rfl, by first | rfl | fail⟩, by (repeat' (first | exact trivial | refine And.intro ?_ ?_)) <;> first | rfl | exact ren_eq (by first | (simp; done) | fail) (by first | rfl | fail) | fail, by first | simp [plainHf, plainB], by first | rfl | fail, ?_⟩
 conv => whnf
 repeat (first | (refine And.intro (by kernel_rfl) ?_; conv => whnf) | fail)
 refine ok1_callF [8] [false] true (q3) rfl rfl ⟨⟨rfl, by first | rfl | fail⟩, by (repeat' (first | exact trivial | refine And.intro ?_ ?_)) <;> first | exact ren_eq (by first | (simp; done) | fail) (by first | rfl | fail) | fail, by first | rfl | fail, by first | simp [plainRf, plainR, plainT, plainW], ?_⟩
 conv => whnf
 repeat (fail)
 refine ok1_callF [8] [false] true (q4) rfl rfl ⟨⟨rfl, by first | rfl | fail⟩, by (repeat' (first | exact trivial | refine And.intro ?_ ?_)) <;> first | exact ren_eq (by first | (simp; done) | fail) (by first | rfl | fail) | fail, by first | rfl | fail, by first | simp [plainRf, plainR, plainT, plainW], ?_⟩
 conv => whnf
 repeat (first | (refine Exists.intro _ (And.intro (sload_all rfl (by first | rfl | (simp [l2, l3, l4]; done) | fail)) ?_); conv => whnf) | (refine Exists.intro _ (And.intro (sput_all rfl (by first | rfl | (simp [l2, l3, l4]; done) | fail)) ?_); conv => whnf) | (refine And.intro (by first | omega | (simp; omega) | fail) ?_; conv => whnf) | fail)
 refine ⟨[], ?_, rfl, rfl, ?_, rfl⟩
 ·
  (repeat' (first | (refine wk_tup ?_) | (refine wk_agg ?_) | (refine wk_cons ?_ ?_))) <;> first | rfl | exact ren_eq (by first | (simp; done) | fail) (by first | rfl | fail) | fail
 ·
  (repeat' (first | exact trivial | fail)) <;> fail
theorem f64 (m : List UInt8) (hm : m.length = 32) : SCall Try.prog 64 [.agg (m.map .u8)] [] (.sl 0 0 28 1 false) [some (.row 5 ((splitO m).map .u8))] := by
 have p1 := f108 m hm
 have q2 := f52_n m splitS (by omega) (by decide) 28 (by decide) (by decide) false true
 rw [show exO_n m splitS ((28 + (32 - 1)) / 32) = splitO m by unfold splitO; rfl, hm] at q2
 have l2 := splitO_len m
 obtain ⟨X, hX⟩ : ∃ X, X = splitO m := ⟨_, rfl⟩
 rw [← hX] at q2 l2 ⊢
 refine scall_of ttOk (by kernel_rfl : Try.prog.funcs[64]? = some Try.f64) rfl rfl rfl ?_
 try simp only [List.length_cons, List.length_nil, Nat.zero_add, Nat.reduceAdd]
 refine sw_ok ttOk mixed (by kernel_rfl) ?_
 conv => whnf
 repeat (first | (refine Exists.intro _ (And.intro (sload_all rfl (by first | rfl | (simp [hm]; done) | fail)) ?_); conv => whnf) | fail)
 refine ok1_callF [] [true] false (p1) rfl rfl ⟨⟨rfl, by first | ((repeat' (first | exact wk_nil | exact ren_m8 rfl | (refine wk_agg ?_) | (refine wk_cons ?_ ?_))); done) | fail⟩, trivial, by first | simp [plainHf, plainB], by first | rfl | fail, ?_⟩
 conv => whnf
 repeat (first | (refine Exists.intro _ (And.intro rfl ?_); conv => whnf) | fail)
 refine ok1_callF [1, 2] [false, false, true] false (q2) rfl rfl ⟨⟨rfl, by first | rfl | fail⟩, by (repeat' (first | exact trivial | refine And.intro ?_ ?_)) <;> first | rfl | exact ren_eq (by first | (simp; done) | fail) (by first | rfl | fail) | fail, by first | simp [plainHf, plainB], by first | rfl | fail, ?_⟩
 conv => whnf
 repeat (fail)
 refine ⟨[3], ?_, rfl, rfl, ?_, rfl⟩
 ·
  (repeat' (fail)) <;> first | rfl | fail
 ·
  (repeat' (first | exact trivial | refine And.intro ?_ ?_ | fail)) <;> first | rfl | exact ren_eq (by first | (simp; done) | fail) (by first | rfl | fail) | fail
end Go.Sh
/- chain's laws: ChainRoots (f16), walked. -/
namespace Go.Sh
open Go.Proofs
set_option maxHeartbeats 8000000
set_option maxRecDepth 100000

theorem sarith_cat {a c : List UInt8} (h : a.length + c.length < 9223372036854775808) : sarith .add (.s a) (.s c) = some (.s (a ++ c)) := by
 show (if _ then _ else _) = _
 rw [if_pos h]
attribute [local irreducible] rootO splitO stepK mac_n exO_n
theorem f16 (r s : List UInt8) (hr : r.length = 32) (hs : s.length = 32) : SCall Try.prog 16 [.agg (r.map .u8), .agg (s.map .u8)] [] (.b true) [] := by
 have q1 := f61 r s hr hs
 have q2 := f62 r s hr hs
 have q3 := f63 s hs
 have q4 := f64 s hs
 have l1 := rootO_len r s
 have l2 := splitO_len s
 obtain ⟨O, hO⟩ : ∃ O, O = rootO r s := ⟨_, rfl⟩
 obtain ⟨X, hX⟩ : ∃ O, O = splitO s := ⟨_, rfl⟩
 rw [← hO] at q1 q2 l1
 rw [← hX] at q3 q4 l2
 have l3 : (O.take 32).length = 32 := by simp; omega
 have l4 : (O.drop 32).length = 32 := by simp; omega
 have l5 : (X.take 16).length = 16 := by simp; omega
 have l6 : ((X.drop 16).take 12).length = 12 := by simp; omega
 have e1 : (((X.take 16).drop 0).take 16 ++ (((X.drop 16).take 12).drop 0).take 12 == (X.drop 0).take 28) = true := by
  rw [beq_iff_eq, List.drop_zero, List.drop_zero, List.drop_zero, List.take_take, List.take_take]
  show X.take 16 ++ (X.drop 16).take 12 = X.take (16 + 12)
  rw [List.take_add]
 obtain ⟨A, hA⟩ : ∃ A, A = O.take 32 := ⟨_, rfl⟩
 obtain ⟨C, hC⟩ : ∃ C, C = O.drop 32 := ⟨_, rfl⟩
 obtain ⟨D, hD⟩ : ∃ A, A = X.take 16 := ⟨_, rfl⟩
 obtain ⟨E, hE⟩ : ∃ C, C = (X.drop 16).take 12 := ⟨_, rfl⟩
 rw [← hA] at q1 q2 l3
 rw [← hC] at q1 q2 l4
 rw [← hD] at q3 l5 e1
 rw [← hE] at q3 l6 e1
 have eA := eqcsC_rf A
 have eC := eqcsC_rf C
 have lx : 28 ≤ X.length := by omega
 clear hA hC hD hE hO hX
 refine scall_of ttOk (by kernel_rfl : Try.prog.funcs[16]? = some Try.f16) rfl rfl rfl ?_
 try simp only [List.length_cons, List.length_nil, Nat.zero_add, Nat.reduceAdd]
 refine sw_ok ttOk mixed (by kernel_rfl) ?_
 conv => whnf
 repeat (first | (refine Exists.intro _ (And.intro (sload_all rfl (by first | rfl | (simp [hr, hs]; done) | fail)) ?_); conv => whnf) | fail)
 refine ok1_callF [] [] true (q1) rfl rfl ⟨⟨rfl, by first | ((repeat' (first | exact wk_nil | exact ren_m8 rfl | (refine wk_agg ?_) | (refine wk_cons ?_ ?_))); done) | fail⟩, trivial, by first | rfl | fail, by first | simp [plainRf, plainR, plainT, plainW], ?_⟩
 conv => whnf
 repeat (first | (refine Exists.intro _ (And.intro (sload_all rfl (by first | rfl | (simp [hr, hs, l3, l4]; done) | fail)) ?_); conv => whnf) | (refine Exists.intro _ (And.intro (sput_all rfl (by first | rfl | (simp [hr, hs, l3, l4]; done) | fail)) ?_); conv => whnf) | (refine And.intro (by first | omega | (simp; omega) | fail) ?_; conv => whnf) | fail)
 refine ok1_callF [] [] true (q2) rfl rfl ⟨⟨rfl, by first | ((repeat' (first | exact wk_nil | exact ren_m8 rfl | (refine wk_agg ?_) | (refine wk_cons ?_ ?_))); done) | fail⟩, trivial, by first | rfl | fail, by first | simp [plainRf, plainR, plainT, plainW], ?_⟩
 conv => whnf
 repeat (first | (refine Exists.intro _ (And.intro (sload_all rfl (by first | rfl | (simp [hr, hs, l3, l4]; done) | fail)) ?_); conv => whnf) | (refine Exists.intro _ (And.intro (sput_all rfl (by first | rfl | (simp [hr, hs, l3, l4]; done) | fail)) ?_); conv => whnf) | (refine And.intro (by first | omega | (simp; omega) | fail) ?_; conv => whnf) | fail)
 refine ok1_callF [] [] true (q3) rfl rfl ⟨⟨rfl, by first | ((repeat' (first | exact wk_nil | exact ren_m8 rfl | (refine wk_agg ?_) | (refine wk_cons ?_ ?_))); done) | fail⟩, trivial, by first | rfl | fail, by first | simp [plainRf, plainR, plainT, plainW], ?_⟩
 conv => whnf
 repeat (first | (refine Exists.intro _ (And.intro (sload_all rfl (by first | rfl | (simp [l3, l4, l5, l6]; done) | fail)) ?_); conv => whnf) | (refine Exists.intro _ (And.intro (sput_all rfl (by first | rfl | (simp [l3, l4, l5, l6]; done) | fail)) ?_); conv => whnf) | (refine And.intro (by first | (simp; omega) | fail) ?_; conv => whnf) | fail)
 refine And.intro (by exact ⟨kdC_u8n _ l3, kdC_u8n _ l3⟩) ?_
 conv => whnf
 repeat (first | (refine Exists.intro _ (And.intro (sload_all rfl (by first | rfl | (simp [l3, l4, l5, l6]; done) | fail)) ?_); conv => whnf) | (refine gdT eA ?_; conv => whnf) | fail)
 refine And.intro (by exact ⟨kdC_u8n _ l4, kdC_u8n _ l4⟩) ?_
 conv => whnf
 repeat (first | (refine Exists.intro _ (And.intro (bytesOf_cut rfl) ?_); conv => whnf) | (refine pkT eA ?_; conv => whnf) | (refine gdT eC ?_; conv => whnf) | (refine Exists.intro _ (And.intro rfl ?_); conv => whnf) | (refine And.intro (by first | omega | (simp; omega) | fail) ?_; conv => whnf) | fail)
 rw [sarith_cat (by rw [List.length_take, List.length_take]; omega)]
 conv => whnf
 repeat (first | (refine Exists.intro _ (And.intro (sload_all rfl (by first | rfl | (simp [hs]; done) | fail)) ?_); conv => whnf) | (refine gdT eC ?_; conv => whnf) | fail)
 refine ok1_callF [] [true] false (q4) rfl rfl ⟨⟨rfl, by first | ((repeat' (first | exact wk_nil | exact ren_m8 rfl | (refine wk_agg ?_) | (refine wk_cons ?_ ?_))); done) | fail⟩, trivial, by first | simp [plainHf, plainB], by first | rfl | fail, ?_⟩
 conv => whnf
 repeat (first | (refine Exists.intro _ (And.intro (bytesOf_cut rfl) ?_); conv => whnf) | (refine gdT eC ?_; conv => whnf) | (refine pkT eC ?_; conv => whnf) | (refine gdT e1 ?_; conv => whnf) | (refine And.intro (by first | omega | (simp; omega) | fail) ?_; conv => whnf) | fail)
 refine ok1_callF [] [] true (f56) rfl rfl ⟨⟨rfl, by first | rfl | fail⟩, trivial, by first | rfl | fail, by first | rfl | fail, ?_⟩
 conv => whnf
 repeat (first | (refine pkT e1 ?_; conv => whnf) | (refine And.intro (by kernel_rfl) ?_; conv => whnf) | fail)
 refine ⟨[], ?_, rfl, rfl, ?_, rfl⟩
 ·
  (repeat' (fail)) <;> first | rfl | fail
 ·
  (repeat' (first | exact trivial | fail)) <;> fail
end Go.Sh
/- From a function's promise to a law's statement: 'it returns true; what it was handed reads as it did'. -/
namespace Go.Sh
open Go.ChangeShapes Go.WideShapes Go.ChangeAt Go.RowKit

theorem Rels.of_get {ρ : Ren} : ∀ {xs : List SV} {vs : List Value}, xs.length = vs.length → (∀ (i : Nat) x, xs[i]? = some x → ∃ v, vs[i]? = some v ∧ Rel ρ x v) → Rels ρ xs vs
 | [], vs, hl, _ => by
  have : vs = [] := List.eq_nil_of_length_eq_zero (by simpa using hl.symm)
  subst this; exact Rels.nil_iff.2 rfl
 | x :: xs, [], hl, _ => by simp at hl
 | x :: xs, v :: vs, hl, h => by
  obtain ⟨u, hu, hr⟩ := h 0 x rfl
  simp at hu; subst hu
  exact Rels.cons hr (Rels.of_get (by simpa using hl) (fun i y hy => by simpa using h (i + 1) y (by simpa using hy)))

theorem calls_of_scall {P : Program} {f : Nat} {args : List SV} {H0 H1 : HL} (hc : SCall P f args H0 (.b true) H1) (hro : ∀ (id : Nat) b, hg H0 id = some b → b.own = false) {vs : List Value} {W : World} {ρ : Ren}
  (hvs : Rels ρ args vs) (hh : HRel ρ (hg H0) W) (hfr : ∀ id, H0.length ≤ id → ρ id = none) : Calls P f ⟨vs⟩ W fun e w' => e = .returned (.bool true) ∧ RowKit.Below W.heap.size W w' := by
 have h := hc.call 0 ρ W vs hvs hh (fun i j bi bj ri rj _ hi _ _ _ hown => by rw [hro i bi hi] at hown; cases hown) hfr
 refine (callsIn_wide.1 h).mono ?_
 intro e w' hr
 cases e with
 | returned v =>
  obtain ⟨ρ', h1, _, _, _, h5⟩ := hr
  simp only [Rel] at h1
  refine ⟨by rw [h1], h5.fr.below (fun x o _ hown => ?_)⟩
  obtain ⟨id, b, rb, g1, _, g3, _⟩ := hown
  rw [hro id b g1] at g3; cases g3
 | _ => exact hr.elim

theorem trodAll_stays {H : Type} {enc : TypeId × Value → H} {P : Program} (hl : laidOutB P = true) {W W' : World} (hb : RowKit.Below W.heap.size W W') : ∀ {ts : List TypeId} {vs : List Value} {ds : List (DataW H)} {ps : List MemPlace},
  (∀ t ∈ ts, P.readableRec t = true ∧ t < P.types.size) → DataW.TrodAll enc P W 0 (fun _ => true) true ts vs ds ps → (∀ x ∈ ps, x.block < W.heap.size) → ∀ sp : Nat → Bool, (∀ x ∈ ps, sp x.block = true) →
  DataW.TrodAll enc P W' 0 sp true ts vs ds ps
 | [], vs, ds, ps, _, h, _, sp, _ => by
  obtain ⟨rfl, rfl, rfl⟩ := trodAll_nil h
  exact trodAll_mk0
 | t :: ts, vs, ds, ps, ht, h, hlt, sp, hsp => by
  obtain ⟨v, vs', d, ds', p, q, rfl, rfl, rfl, h1, h2⟩ := trodAll_cons h
  obtain ⟨r1, r2⟩ := ht t (List.mem_cons_self ..)
  exact trodAll_cons_mk (WideElems.Trod_stays hl r1 r2 h1 (fun x hx => hb.same (hlt x (List.mem_append_left _ hx))) (fun x hx => hsp x (List.mem_append_left _ hx)))
   (trodAll_stays hl hb (fun u hu => ht u (List.mem_cons_of_mem _ hu)) h2 (fun x hx => hlt x (List.mem_append_right _ hx)) sp (fun x hx => hsp x (List.mem_append_right _ hx)))

theorem same_post {H : Type} {enc : TypeId × Value → H} {P : Program} {fn : Func} {s : ChangeSpec} {W W' : World} {args : Array Value} {ds gs : List (DataW H)} {before : List MemPlace} {bt : TypeId} {apart fresh handsOn again : Bool}
  (hl : laidOutB P = true) (hparams : ∀ t ∈ fn.params.toList, P.readableRec t = true ∧ t < P.types.size) (hbt : P.underlying bt = some .bool) (hrt : fn.resultTypes = #[bt]) (hvars : s.vars = [])
  (hW : DataW.Whole enc P fn.params.toList s.vars apart W args.toList ds gs before) (hspec : s.fn H ds = { results := [.lit (.bool true)], args := ds }) (hb : RowKit.Below W.heap.size W W') :
  s.post enc P fn apart fresh handsOn again W args (.bool true) W' := by
 have hlt := hW.lt
 have hW' := hW
 obtain ⟨p, q, hA, hV, rfl, hfz, hnd⟩ := hW
 rw [hvars] at hV
 obtain ⟨rfl, rfl⟩ := trodVars_none hV
 have hargs : ∀ sp : Nat → Bool, (∀ x ∈ p, sp x.block = true) → DataW.TrodAll enc P W' 0 sp true fn.params.toList args.toList ds p := fun sp hsp =>
  trodAll_stays hl hb hparams hA (fun x hx => hlt x (by simpa using hx)) sp hsp
 have hres : ∀ (b : Nat) (sp : Nat → Bool) (hd : Bool), DataW.TrodAll enc P W' b sp hd fn.resultTypes.toList ((Value.bool true).resultList fn.resultTypes.size) [.lit (.bool true)] [] := fun b sp hd => by
  rw [hrt]
  exact trodAll_cons_mk (shut_bool hbt _) trodAll_mk0
 refine ⟨ds, [], p ++ [], [], p, [], hW', ?_, ?_, ?_, World.keptBut_mono (fun x hx => ⟨hx, ?_⟩) (hb.frame (fun x => x ∈ p ++ [])), fun _ => ?_⟩
 ·
  rw [List.append_nil, hspec]; exact hres _ _ _
 ·
  rw [List.append_nil, hspec]
  exact hargs _ (fun x hx => by simpa using hlt x (by simpa using hx))
 ·
  rw [List.append_nil, hspec, hvars]
  rfl
 ·
  exact .inr (.inl (by simpa using hx))
 ·
  refine ⟨ok_one hrt rfl (okWide_bool_mk hbt _), _, [], ([] ++ p) ++ [], ⟨[] ++ p, [], trodAll_append (hargs _ (fun _ _ => rfl)) (hres _ _ _), by rw [hvars]; rfl, rfl, ?_, ?_⟩, ?_⟩
  ·
   intro b off hp
   have hpl := hlt (.cell b off) (by simpa using hp)
   rw [hb.frozen (p := ⟨b, off, none⟩) hpl]
   exact hfz b off (by simpa using hp)
  ·
   intro ha
   simpa using hnd ha
  ·
   intro x hx _
   simpa using hx

/-! ### What comes in, opened -/

theorem open_u64 {H : Type} {enc : TypeId × Value → H} {P : Program} {w : World} {base : Nat} {spare : Nat → Bool} {held : Bool} {r : Reach} {b0 : Nat} {t : TypeId} {v : Value} {d : DataW H} {ps : List MemPlace}
  (ht : P.underlying t = some (.int .u64)) (hval : Value.okWide P w r b0 t v) (hd : DataW.Trod enc P w base spare held t v d ps) : ∃ x : UInt64, ∀ ρ, Rel ρ (.u64 x) v := by
 obtain ⟨n, rfl, _, _, hw⟩ := open_int ht hval hd
 have hx : 0 ≤ n ∧ n < 18446744073709551616 := by
  simp only [Lit.wf, Bool.and_eq_true, decide_eq_true_eq, IntKind.min, IntKind.max, IntKind.signed, IntKind.bits] at hw
  have h2 := hw.2
  simp at h2 hw
  omega
 refine ⟨UInt64.ofNat n.toNat, fun ρ => ?_⟩
 simp only [Rel]
 congr 1
 simp only [UInt64.toNat_ofNat']
 omega

theorem atoms_u8 (l : List UInt8) : atoms (l.map .u8) = true := by induction l <;> simp_all [atoms, SV.atom]

theorem lits_length {H : Type} (k : IntKind) (zs : List Int) : (lits (H := H) k zs).length = zs.length := by simp [lits]

theorem open_bytes {H : Type} {enc : TypeId × Value → H} {P : Program} {w : World} {base : Nat} {r : Reach} {b0 : Nat} {t e : TypeId} {v : Value} {d : DataW H} {ps : List MemPlace}
  (ht : P.underlying t = some (.slice e)) (he : P.underlying e = some (.int .u8)) (hc : P.cellsOf e = 1) (hval : Value.okWide P w r b0 t v) (hd : DataW.Trod enc P w base (fun _ => true) true t v d ps) :
  ∃ (bs : List UInt8) (rb : RB), (∀ ρ id, ρ id = some rb → Rel ρ (.sl id 0 bs.length 1 false) v) ∧ (∀ ρ, BRel ρ w rb (.ro (bs.map .u8))) ∧
   (bs = [] ∨ ∃ zs rest : List Int, d = .slice (lits .u8 zs) (lits .u8 rest) ∧ zs.length = bs.length) := by
 obtain ⟨a, len, cap, rfl⟩ := okWide_slice ht hval
 obtain ⟨fuel, hf⟩ := hd
 have hcs : (Value.slice a len cap).cells.toList = [.slice a len cap] := rfl
 rw [hcs] at hf
 rcases open_ints ht he hc hf with ⟨h1, h2⟩ | ⟨a', len', cap', zs, h1, _, hlc, _, hzl, h2, hcell, hwf⟩
 ·
  cases h1
  refine ⟨[], ⟨0, 0, 0, true⟩, fun ρ id hr => ?_, fun ρ => .inl rfl, .inl rfl⟩
  simp only [Rel]
  exact ⟨_, none, 0, hr, rfl, Nat.le_refl _, fun h => (by cases h), .inl rfl⟩
 ·
  cases h1
  simp only [if_true] at hzl
  have hb : ∀ z ∈ zs, 0 ≤ z ∧ z < 256 := by
   intro z hz
   have hw := hwf z hz
   simp only [Lit.wf, Bool.and_eq_true, decide_eq_true_eq, IntKind.min, IntKind.max, IntKind.signed, IntKind.bits] at hw
   have h2 := hw.2
   simp at h2 hw
   omega
  have hbl : ((zs.take len).map fun z => UInt8.ofNat z.toNat).length = len := by simp; omega
  refine ⟨(zs.take len).map fun z => UInt8.ofNat z.toNat, ⟨a'.block, a'.off, cap, false⟩, fun ρ id hr => ?_, fun ρ => ?_, .inr ⟨zs.take len, zs.drop len, ?_, by simp⟩⟩
  ·
   rw [hbl]
   simp only [Rel]
   refine ⟨_, some a', cap, hr, rfl, hlc, fun h => (by cases h), ?_⟩
   by_cases h0 : cap = 0
   ·
    exact .inl h0
   ·
    right
    have := hcell 0 (by omega)
    have hsp : a'.spot = none := by
     unfold World.cell? at this
     split at this
     ·
      split at this
      ·
       cases this
      ·
       rename_i hs
       have : (a'.add 0).spot = a'.spot := by unfold Addr.add; split <;> simp_all
       rw [this] at hs
       simpa using hs
     ·
      cases this
    refine ⟨rfl, ?_, by simp⟩
    cases a'; simp at hsp; simp [hsp]
  ·
   by_cases h0 : len = 0
   ·
    left
    subst h0
    simp
   ·
    right
    have key : ∀ i, i < zs.length → ∃ c t fz, w.heap[a'.block]? = some (.cells c t fz) ∧ c[a'.off + i]? = some (.int .u8 (zs.getD i 0)) := by
     intro i hi
     have h := hcell i hi
     unfold World.cell? at h
     have e1 : (a'.add i).block = a'.block := by unfold Addr.add; split <;> rfl
     rw [e1] at h
     split at h
     ·
      rename_i c t fz hh
      split at h
      ·
       cases h
      ·
       rename_i hs
       have e2 : (a'.add i).off = a'.off + i := by
        unfold Addr.add at hs ⊢
        split
        ·
         simp_all
        ·
         rfl
       rw [e2] at h
       exact ⟨c, t, fz, hh, h⟩
     ·
      cases h
    obtain ⟨c, t2, fz, hh, _⟩ := key 0 (by omega)
    have key2 : ∀ i, i < zs.length → c[a'.off + i]? = some (.int .u8 (zs.getD i 0)) := by
     intro i hi
     obtain ⟨c', t', fz', hh', hv⟩ := key i hi
     rw [hh] at hh'; cases hh'
     exact hv
    have hsz : a'.off + len ≤ c.size := by
     have := key2 (len - 1) (by omega)
     have := (Array.getElem?_eq_some_iff.1 this).1
     omega
    refine ⟨⟨c, t2, fz, hh, atoms_u8 _, ?_, fun h => (by cases h), by simp; omega⟩, by simp; omega, rfl⟩
    apply Rels.of_get
    ·
     simp; omega
    ·
     intro i x hx
     have hi : i < len := by have := (List.getElem?_eq_some_iff.1 hx).1; simp at this; omega
     have hzi : i < zs.length := by omega
     have hg : zs.getD i 0 = zs[i] := by simp [hzi]
     simp only [List.map_map, List.getElem?_map, List.getElem?_take_of_lt hi, List.getElem?_eq_getElem hzi, Option.map_some, Option.some.injEq, Function.comp] at hx
     subst hx
     refine ⟨.int .u8 (zs.getD i 0), ?_, ?_⟩
     ·
      rw [List.length_map, hbl, List.getElem?_take_of_lt hi, List.getElem?_drop, Array.getElem?_toList]
      exact key2 i hzi
     ·
      rw [hg]
      simp only [Rel]
      have := hb zs[i] (List.getElem_mem hzi)
      congr 1
      simp only [UInt8.toNat_ofNat']
      omega
  ·
   have := congrArg Prod.fst h2
   exact this
end Go.Sh
/- What comes in, opened: numbers, truths, texts, arrays and structs of such; rows of such. -/
namespace Go.Sh
open Go.ChangeShapes Go.WideShapes Go.ChangeAt Go.RowKit

section
variable {H : Type} {enc : TypeId × Value → H} {P : Program} {w : World} {base : Nat} {spare : Nat → Bool} {held : Bool}

def Rd (enc : TypeId × Value → H) (P : Program) (w : World) (base : Nat) (spare : Nat → Bool) (held : Bool) (t : TypeId) (cs : List Value) : Prop := ∃ fuel x, DataW.trod enc P w base spare held fuel t cs = some x

theorem psz_cells {t : TypeId} {n : Nat} (h : psz P t = some n) : P.cellsOf t = n := by
 unfold psz at h; unfold Program.cellsOf; rw [h]; rfl

theorem chunks {ks : List Nat} {R : List Value → Prop} (hR : ∀ c, R c → ∃ xs : List SV, xs.map kd = ks.map some ∧ ∀ ρ, Rels ρ xs c) (cs : List Value) : ∀ n : Nat, n * ks.length ≤ cs.length →
  (∀ i, i < n → R ((cs.drop (i * ks.length)).take ks.length)) → ∃ xs : List SV, xs.map kd = (List.replicate n ks).flatten.map some ∧ ∀ ρ, Rels ρ xs (cs.take (n * ks.length))
 | 0, _, _ => ⟨[], by simp, fun ρ => by simp [Rels]⟩
 | n + 1, hl, h => by
  have hn : (n + 1) * ks.length = n * ks.length + ks.length := by rw [Nat.add_mul]; omega
  obtain ⟨xs, hx, hxr⟩ := chunks hR cs n (by omega) (fun i hi => h i (by omega))
  obtain ⟨ys, hy, hyr⟩ := hR _ (h n (by omega))
  refine ⟨xs ++ ys, ?_, fun ρ => ?_⟩
  ·
   rw [List.map_append, hx, hy, List.replicate_succ', List.flatten_concat, List.map_append]
  ·
   rw [hn, List.take_add]
   exact Rels.append (hxr ρ) (hyr ρ)

theorem int_kd {k : IntKind} {q : Nat} {n : Int} (hk : kdT (.int k) = some q) (hw : (Lit.int k n).wf = true) : ∃ x : SV, kd x = some q ∧ ∀ ρ, Rel ρ x (.int k n) := by
 cases k <;> simp only [kdT] at hk <;> (try (cases hk; done)) <;> simp only [Option.some.injEq] at hk <;> subst hk
 ·
  exact ⟨.i n, rfl, fun ρ => by simp only [Rel]⟩
 all_goals
  simp only [Lit.wf, Bool.and_eq_true, decide_eq_true_eq, IntKind.min, IntKind.max, IntKind.signed, IntKind.bits] at hw
  have h2 := hw.2
  simp at h2 hw
 ·
  exact ⟨.u8 (UInt8.ofNat n.toNat), rfl, fun ρ => by simp only [Rel, UInt8.toNat_ofNat']; congr 1; omega⟩
 ·
  exact ⟨.u16 (UInt16.ofNat n.toNat), rfl, fun ρ => by simp only [Rel, UInt16.toNat_ofNat']; congr 1; omega⟩
 ·
  exact ⟨.u32 (UInt32.ofNat n.toNat), rfl, fun ρ => by simp only [Rel, UInt32.toNat_ofNat']; congr 1; omega⟩
 ·
  exact ⟨.u64 (UInt64.ofNat n.toNat), rfl, fun ρ => by simp only [Rel, UInt64.toNat_ofNat']; congr 1; omega⟩

theorem open_kinds_both : ∀ d : Nat,
  (∀ {t : TypeId} {ks : List Nat}, kinds P d t = some ks → ∀ {cs : List Value}, Rd enc P w base spare held t cs → ∃ xs : List SV, xs.map kd = ks.map some ∧ ∀ ρ, Rels ρ xs cs) ∧
  (∀ {off : Nat} {fs : List Field} {ks : List Nat}, kindsF P d off fs = some ks → ∀ {cs : List Value}, (∀ f ∈ fs, Rd enc P w base spare held f.type ((cs.drop f.offset).take (P.cellsOf f.type))) → off + ks.length ≤ cs.length →
   ∃ xs : List SV, xs.map kd = ks.map some ∧ ∀ ρ, Rels ρ xs ((cs.drop off).take ks.length))
 | 0 => by
  refine ⟨fun h => by simp [kinds] at h, fun {off fs ks} h => ?_⟩
  cases fs with
  | nil => simp [kindsF] at h; subst h; intro cs _ _; exact ⟨[], rfl, fun ρ => by simp [Rels]⟩
  | cons f fs => simp [kindsF] at h
 | d + 1 => by
  obtain ⟨ihA, ihB⟩ := open_kinds_both d
  refine ⟨fun {t ks} h {cs} hr => ?_, fun {off fs ks} h {cs} hr hl => ?_⟩
  ·
   obtain ⟨fuel, x, hx⟩ := hr
   have hsz := kinds_size h
   simp only [kinds] at h
   split at h
   ·
    rename_i fs hu
    split at h
    ·
     cases h
    ·
     obtain ⟨ks', h1, h2⟩ := Option.bind_eq_some_iff.1 h
     split at h2
     ·
      cases h2
      obtain ⟨xs, n, rfl, rfl, hcl, hxl, hf⟩ := DataW.trod_struct hu hx
      have hcs : cs.length = ks.length := by rw [hcl, psz_cells hsz]
      obtain ⟨ys, hy, hyr⟩ := ihB h1 (cs := cs) (fun f hfm => by
       obtain ⟨i, hi, hfi⟩ := List.getElem_of_mem hfm
       have hi' : i < fs.size := by simpa using hi
       have hget : fs[i]? = some f := by rw [Array.getElem?_eq_getElem hi']; simpa using hfi
       have := hf i f hget
       rw [List.getElem?_eq_getElem (by omega : i < xs.length)] at this
       exact ⟨n, _, this⟩) (by omega)
      refine ⟨ys, hy, fun ρ => ?_⟩
      have := hyr ρ
      rwa [List.drop_zero, List.take_of_length_le (by omega)] at this
     ·
      cases h2
   ·
    rename_i n e hu
    obtain ⟨ks', h1, h2⟩ := Option.bind_eq_some_iff.1 h
    split at h2
    ·
     rename_i hps
     cases h2
     obtain ⟨xs, m, rfl, rfl, hcl, hxl, hf⟩ := DataW.trod_array hu hx
     have hcs : cs.length = n * ks'.length := by rw [hcl, psz_cells hps]
     have he : P.cellsOf e = ks'.length := psz_cells (kinds_size h1)
     obtain ⟨ys, hy, hyr⟩ := chunks (R := fun c => Rd enc P w base spare held e c) (fun c hc => ihA h1 hc) cs n (by omega) (fun i hi => by
      have := hf i hi
      rw [he, List.getElem?_eq_getElem (by omega : i < xs.length)] at this
      exact ⟨m, _, this⟩)
     refine ⟨ys, hy, fun ρ => ?_⟩
     have := hyr ρ
     rwa [List.take_of_length_le (by omega)] at this
    ·
     cases h2
   ·
    rename_i ds hns hna hu
    obtain ⟨k, h1, h2⟩ := Option.bind_eq_some_iff.1 h
    split at h2
    ·
     cases h2
     cases ds with
     | int kk =>
      obtain ⟨n, rfl, _, hw⟩ := DataW.trod_int hu hx
      obtain ⟨y, hy, hyr⟩ := int_kd h1 hw
      exact ⟨[y], by simp [hy], fun ρ => Rels.cons (hyr ρ) (Rels.nil_iff.2 rfl)⟩
     | bool =>
      obtain ⟨b, rfl, _⟩ := DataW.trod_bool hu hx
      simp only [kdT, Option.some.injEq] at h1; subst h1
      exact ⟨[.b b], rfl, fun ρ => Rels.cons (by simp only [Rel]) (Rels.nil_iff.2 rfl)⟩
     | string =>
      obtain ⟨s, rfl, _, _⟩ := DataW.trod_string hu hx
      simp only [kdT, Option.some.injEq] at h1; subst h1
      exact ⟨[.s s.data.toList], rfl, fun ρ => Rels.cons (by simp only [Rel]) (Rels.nil_iff.2 rfl)⟩
     | _ => simp [kdT] at h1
    ·
     cases h2
   ·
    cases h
  ·
   cases fs with
   | nil => simp [kindsF] at h; subst h; exact ⟨[], rfl, fun ρ => by simp [Rels]⟩
   | cons f fs =>
    simp only [kindsF] at h
    split at h
    ·
     rename_i hf
     obtain ⟨k1, h1, h2⟩ := Option.bind_eq_some_iff.1 h
     obtain ⟨k2, h3, h4⟩ := Option.map_eq_some_iff.1 h2
     subst h4
     have he : P.cellsOf f.type = k1.length := psz_cells (kinds_size h1)
     have hr1 := hr f (List.mem_cons_self ..)
     rw [hf.2, he] at hr1
     simp only [List.length_append] at hl
     obtain ⟨xs, hx, hxr⟩ := ihA h1 hr1
     obtain ⟨ys, hy, hyr⟩ := ihB h3 (cs := cs) (fun g hg => hr g (List.mem_cons_of_mem _ hg)) (by omega)
     refine ⟨xs ++ ys, by simp [hx, hy], fun ρ => ?_⟩
     rw [List.length_append, List.take_add, List.drop_drop]
     exact Rels.append (hxr ρ) (hyr ρ)
    ·
     cases h

theorem open_kinds {d : Nat} {t : TypeId} {ks : List Nat} (h : kinds P d t = some ks) {cs : List Value} (hr : Rd enc P w base spare held t cs) : ∃ xs : List SV, xs.map kd = ks.map some ∧ ∀ ρ, Rels ρ xs cs :=
 (open_kinds_both d).1 h hr

/-! ### Kinds, told -/
theorem kd_0 {x : SV} (h : kd x = some 0) : ∃ n, x = .i n := by cases x <;> simp [kd] at h; exact ⟨_, rfl⟩
theorem kd_1 {x : SV} (h : kd x = some 1) : ∃ n, x = .u8 n := by cases x <;> simp [kd] at h; exact ⟨_, rfl⟩
theorem kd_2 {x : SV} (h : kd x = some 2) : ∃ n, x = .u16 n := by cases x <;> simp [kd] at h; exact ⟨_, rfl⟩
theorem kd_3 {x : SV} (h : kd x = some 3) : ∃ n, x = .u32 n := by cases x <;> simp [kd] at h; exact ⟨_, rfl⟩
theorem kd_4 {x : SV} (h : kd x = some 4) : ∃ n, x = .u64 n := by cases x <;> simp [kd] at h; exact ⟨_, rfl⟩
theorem kd_5 {x : SV} (h : kd x = some 5) : ∃ n, x = .b n := by cases x <;> simp [kd] at h; exact ⟨_, rfl⟩
theorem kd_nil {xs : List SV} (h : xs.map kd = ([] : List Nat).map some) : xs = [] := by simpa using h
theorem kd_cons {xs : List SV} {k : Nat} {ks : List Nat} (h : xs.map kd = (k :: ks).map some) : ∃ x ys, xs = x :: ys ∧ kd x = some k ∧ ys.map kd = ks.map some := by
 cases xs with
 | nil => simp at h
 | cons x ys => simp at h; exact ⟨x, ys, rfl, h.1, h.2⟩
theorem kd_append {xs : List SV} {k1 k2 : List Nat} (h : xs.map kd = (k1 ++ k2).map some) : ∃ ys zs, xs = ys ++ zs ∧ ys.map kd = k1.map some ∧ zs.map kd = k2.map some := by
 refine ⟨xs.take k1.length, xs.drop k1.length, (List.take_append_drop ..).symm, ?_, ?_⟩
 ·
  rw [List.map_take, h, List.map_append, List.take_left' (by simp)]
 ·
  rw [List.map_drop, h, List.map_append, List.drop_left' (by simp)]
theorem kd_rep {α : Type} {f : α → SV} {k : Nat} (hf : ∀ x, kd x = some k → ∃ a, x = f a) : ∀ {n : Nat} {xs : List SV}, xs.map kd = (List.replicate n k).map some → ∃ l : List α, xs = l.map f ∧ l.length = n
 | 0, xs, h => by
  have : xs = [] := kd_nil h
  subst this; exact ⟨[], rfl, rfl⟩
 | n + 1, xs, h => by
  rw [List.replicate_succ] at h
  obtain ⟨x, ys, rfl, hx, hy⟩ := kd_cons h
  obtain ⟨a, rfl⟩ := hf x hx
  obtain ⟨l, rfl, hl⟩ := kd_rep hf hy
  exact ⟨a :: l, rfl, by simp [hl]⟩
theorem kd_atoms : ∀ {xs : List SV} {ks : List Nat}, xs.map kd = ks.map some → atoms xs = true
 | [], _, _ => rfl
 | x :: xs, [], h => by simp at h
 | x :: xs, k :: ks, h => by
  simp only [List.map_cons, List.cons.injEq] at h
  simp only [atoms, List.all_cons, kd_atom h.1, Bool.true_and]
  exact kd_atoms h.2

theorem open_agg_k {r : Reach} {b0 d : Nat} {t : TypeId} {ks : List Nat} {v : Value} {y : DataW H} {ps : List MemPlace} (hk : kinds P d t = some ks) (ha : isRow P t = true) (hval : Value.okWide P w r b0 t v) (hd : DataW.Trod enc P w base spare held t v y ps) :
  ∃ xs : List SV, xs.map kd = ks.map some ∧ ∀ ρ, Rel ρ (.agg xs) v := by
 have : ∃ cs, v = .agg cs := by
  unfold Value.okWide at hval
  unfold isRow at ha
  cases hu : P.underlying t with
  | none => rw [hu] at ha; cases ha
  | some ds =>
   rw [hu] at ha hval
   cases ds <;> first | (simp at ha; done) | (obtain ⟨cs, h, _⟩ := hval; exact ⟨cs, h⟩)
 obtain ⟨cs, rfl⟩ := this
 obtain ⟨fuel, hf⟩ := hd
 obtain ⟨xs, hx, hxr⟩ := open_kinds hk (cs := cs.toList) ⟨fuel, _, hf⟩
 refine ⟨xs, hx, fun ρ => ?_⟩
 simp only [Rel]
 exact ⟨cs.toList, rfl, kd_atoms hx, hxr ρ⟩

theorem open_one_k {r : Reach} {b0 k : Nat} {t : TypeId} {ds : TypeDesc} {v : Value} {y : DataW H} {ps : List MemPlace} (hu : P.underlying t = some ds) (hk : kdT ds = some k) (hk6 : k ≠ 6) (hval : Value.okWide P w r b0 t v) (hd : DataW.Trod enc P w base spare held t v y ps) :
  ∃ x : SV, kd x = some k ∧ ∀ ρ, Rel ρ x v := by
 cases ds with
 | int kk =>
  obtain ⟨n, rfl, _, _, hw⟩ := open_int hu hval hd
  exact int_kd hk hw
 | bool =>
  obtain ⟨b, rfl, _⟩ := open_bool hu hval hd
  simp only [kdT, Option.some.injEq] at hk; subst hk
  exact ⟨.b b, rfl, fun ρ => by simp only [Rel]⟩
 | string => simp only [kdT, Option.some.injEq] at hk; exact absurd hk.symm hk6
 | _ => simp [kdT] at hk

/-! ### Rows -/
theorem cells_get {a : Addr} {n : Nat} {l : List Value} (h : w.cells? base a n = some l) : l.length = n ∧ ∀ i, i < n → w.cell? (a.add i) = l[i]? := by
 unfold World.cells? at h
 split at h
 ·
  refine ⟨by simpa using mapM_some_length h, fun i hi => ?_⟩
  simpa using mapM_some_get h i i (by simp [hi])
 ·
  cases h

theorem addr_add (a : Addr) (i : Nat) (h : a.spot = none) : a.add i = ⟨a.block, a.off + i, none⟩ := by
 cases a; simp only at h; subst h
 unfold Addr.add
 split
 ·
  rename_i h0; subst h0; rfl
 ·
  rfl
theorem addr_block (a : Addr) (i : Nat) : (a.add i).block = a.block := by unfold Addr.add; split <;> rfl
theorem addr_zero (a : Addr) : a.add 0 = a := by simp [Addr.add]

structure Row (enc : TypeId × Value → H) (P : Program) (w : World) (base : Nat) (spare : Nat → Bool) (held : Bool) (e : TypeId) (sz : Nat) (a : Addr) (len cap : Nat) (vs : List Value) : Prop where
 le : len ≤ cap
 most : cap ≤ maxLen
 spot : 0 < cap → a.spot = none
 len : vs.length = cap * sz
 cell : ∀ i, i < cap * sz → w.cell? ⟨a.block, a.off + i, none⟩ = vs[i]?
 read : ∀ i, i < cap → Rd enc P w base spare held e ((vs.drop (i * sz)).take sz)

theorem rows_of {α : Type} (f : Nat → Option (List α)) (sz : Nat) : ∀ n, (∀ i, i < n → ∃ l, f i = some l ∧ l.length = sz) → ∃ vs : List α, vs.length = n * sz ∧ ∀ i, i < n → f i = some ((vs.drop (i * sz)).take sz)
 | 0, _ => ⟨[], by simp, fun i hi => by omega⟩
 | n + 1, h => by
  obtain ⟨vs, h1, h2⟩ := rows_of f sz n (fun i hi => h i (by omega))
  obtain ⟨l, hl, hls⟩ := h n (by omega)
  refine ⟨vs ++ l, by simp [h1, hls, Nat.add_mul], fun i hi => ?_⟩
  by_cases hin : i < n
  ·
   rw [h2 i hin]
   have hle : i * sz + sz ≤ vs.length := by
    rw [h1]; calc i * sz + sz = (i + 1) * sz := by rw [Nat.add_mul]; omega
     _ ≤ n * sz := Nat.mul_le_mul_right _ hin
   rw [List.drop_append_of_le_length (by omega), List.take_append_of_le_length (by simp; omega)]
  ·
   have : i = n := by omega
   subst this
   rw [hl, ← h1, List.drop_left, List.take_of_length_le (by omega)]

theorem open_row {e t : TypeId} {sz : Nat} {cs : List Value} (ht : P.underlying t = some (.slice e)) (hs : psz P e = some sz) (h0 : 0 < sz) (hsp : spare = fun _ => true) (hr : Rd enc P w base spare held t cs) :
  cs = [.slice none 0 0] ∨ ∃ a len cap vs, cs = [.slice (some a) len cap] ∧ Row enc P w base spare held e sz a len cap vs := by
 obtain ⟨fuel, x, hx⟩ := hr
 have he := psz_cells hs
 rcases DataW.trod_slice ht hx with ⟨h, _⟩ | ⟨a, len, cap, elems, rest, n, rfl, rfl, _, hb, hlc, hm, hel, h1, h2, _⟩
 ·
  exact .inl h
 ·
  right
  rw [he] at h1 h2
  obtain ⟨hrl, h2⟩ := h2 (by rw [hsp])
  have all : ∀ i, i < cap → ∃ l, w.cells? base (a.add (i * sz)) sz = some l ∧ Rd enc P w base spare held e l := by
   intro i hi
   by_cases hil : i < len
   ·
    have := h1 i hil
    rw [List.getElem?_eq_getElem (by omega : i < elems.length)] at this
    obtain ⟨l, hl, hr⟩ := Option.bind_eq_some_iff.1 this
    exact ⟨l, hl, n, _, hr⟩
   ·
    have := h2 (i - len) (by omega)
    rw [List.getElem?_eq_getElem (by omega : i - len < rest.length), show len + (i - len) = i from by omega] at this
    obtain ⟨l, hl, hr⟩ := Option.bind_eq_some_iff.1 this
    exact ⟨l, hl, n, _, hr⟩
  obtain ⟨vs, hvl, hv⟩ := rows_of (fun i => w.cells? base (a.add (i * sz)) sz) sz cap (fun i hi => by
   obtain ⟨l, hl, _⟩ := all i hi
   exact ⟨l, hl, (cells_get hl).1⟩)
  have hspot : 0 < cap → a.spot = none := by
   intro hc
   obtain ⟨l, hl, _⟩ := all 0 hc
   obtain ⟨g1, g2⟩ := cells_get hl
   have := g2 0 h0
   rw [List.getElem?_eq_getElem (by omega)] at this
   unfold World.cell? at this
   split at this
   ·
    split at this
    ·
     cases this
    ·
     rename_i hs2
     have h3 : ((a.add (0 * sz)).add 0).spot = none := by simpa using hs2
     rwa [Nat.zero_mul, addr_zero, addr_zero] at h3
   ·
    cases this
  refine ⟨a, len, cap, vs, rfl, hlc, hm, hspot, hvl, fun i hi => ?_, fun i hi => ?_⟩
  ·
   have hc : 0 < cap := by
    rcases Nat.eq_zero_or_pos cap with h | h
    ·
     subst h; omega
    ·
     exact h
   have hi2 : i / sz < cap := by rw [Nat.div_lt_iff_lt_mul h0]; exact hi
   have hl := hv (i / sz) hi2
   obtain ⟨g1, g2⟩ := cells_get hl
   have hmod : i % sz < sz := Nat.mod_lt _ h0
   have := g2 (i % sz) hmod
   rw [addr_add a _ (hspot hc), addr_add _ _ rfl] at this
   have hdm : i / sz * sz + i % sz = i := by rw [Nat.mul_comm]; exact Nat.div_add_mod i sz
   rw [List.getElem?_take_of_lt hmod, List.getElem?_drop, hdm] at this
   simp only [Nat.add_assoc, hdm] at this
   exact this
  ·
   obtain ⟨l, hl, hr⟩ := all i hi
   have := hv i hi
   rw [hl] at this
   rw [← Option.some.inj this]; exact hr

theorem Row.block {e : TypeId} {sz : Nat} {a : Addr} {len cap : Nat} {vs : List Value} (h : Row enc P w base spare held e sz a len cap vs) {ρ : Ren} {ys : List SV} (hr : Rels ρ ys (vs.take (len * sz))) (ha : atoms ys = true) :
  (∀ id, ρ id = some ⟨a.block, a.off, cap * sz, false⟩ → Rel ρ (.sl id 0 len sz false) (.slice (some a) len cap)) ∧ BRel ρ w ⟨a.block, a.off, cap * sz, false⟩ (.ro ys) := by
 have hyl : ys.length = len * sz := by
  have := hr.length
  rw [List.length_take, h.len] at this
  have hle : len * sz ≤ cap * sz := Nat.mul_le_mul_right _ h.le
  omega
 refine ⟨fun id hid => ?_, ?_⟩
 ·
  simp only [Rel]
  refine ⟨_, some a, cap, hid, rfl, h.le, fun h => (by cases h), ?_⟩
  by_cases h0 : cap = 0
  ·
   exact .inl h0
  ·
   right
   refine ⟨rfl, ?_, by simp⟩
   have := h.spot (by omega)
   cases a; simp only at this; subst this; simp
 ·
  by_cases h0 : len * sz = 0
  ·
   left; exact List.eq_nil_of_length_eq_zero (by omega)
  ·
   right
   have hle : len * sz ≤ cap * sz := Nat.mul_le_mul_right _ h.le
   have key : ∀ i, i < cap * sz → ∃ c t fz, w.heap[a.block]? = some (.cells c t fz) ∧ c[a.off + i]? = vs[i]? := by
    intro i hi
    have hc := h.cell i hi
    rw [List.getElem?_eq_getElem (by rw [h.len]; exact hi)] at hc
    unfold World.cell? at hc
    split at hc
    ·
     rename_i c t fz hh
     simp only at hc
     exact ⟨c, t, fz, hh, by rw [List.getElem?_eq_getElem (by rw [h.len]; exact hi)]; simpa using hc⟩
    ·
     cases hc
   obtain ⟨c, t2, fz, hh, _⟩ := key 0 (by omega)
   have key2 : ∀ i, i < cap * sz → c[a.off + i]? = vs[i]? := by
    intro i hi
    obtain ⟨c', t', fz', hh', hv⟩ := key i hi
    rw [hh] at hh'; cases hh'; exact hv
   have hsz : a.off + len * sz ≤ c.size := by
    have := key2 (len * sz - 1) (by omega)
    rw [List.getElem?_eq_getElem (by rw [h.len]; omega)] at this
    have := (Array.getElem?_eq_some_iff.1 this).1
    omega
   refine ⟨⟨c, t2, fz, hh, ha, ?_, fun h => (by cases h), by rw [hyl]; exact hsz⟩, by rw [hyl]; exact hle, rfl⟩
   have e1 : (c.toList.drop a.off).take ys.length = vs.take (len * sz) := by
    apply List.ext_getElem?
    intro i
    rw [hyl]
    by_cases hi : i < len * sz
    ·
     rw [List.getElem?_take_of_lt hi, List.getElem?_take_of_lt hi, List.getElem?_drop, Array.getElem?_toList]
     exact key2 i (by omega)
    ·
     rw [List.getElem?_take_eq_none (by omega), List.getElem?_take_eq_none (by omega)]
   rw [e1]; exact hr

theorem open_row_k {r : Reach} {b0 d : Nat} {e t : TypeId} {ks : List Nat} {v : Value} {y : DataW H} {ps : List MemPlace} (ht : P.underlying t = some (.slice e)) (hk : kinds P d e = some ks) (h0 : 0 < ks.length) (hval : Value.okWide P w r b0 t v)
  (hd : DataW.Trod enc P w base (fun _ => true) held t v y ps) : ∃ (n : Nat) (ys : List SV) (rb : RB), n ≤ maxLen ∧ ys.map kd = (List.replicate n ks).flatten.map some ∧ (∀ ρ id, ρ id = some rb → Rel ρ (.sl id 0 n ks.length false) v) ∧ ∀ ρ, BRel ρ w rb (.ro ys) := by
 obtain ⟨a, len, cap, rfl⟩ := okWide_slice ht hval
 obtain ⟨fuel, hf⟩ := hd
 have hcs : (Value.slice a len cap).cells.toList = [.slice a len cap] := rfl
 rw [hcs] at hf
 rcases open_row ht (kinds_size hk) h0 rfl ⟨fuel, _, hf⟩ with h | ⟨a', len', cap', vs, h, hrow⟩
 ·
  cases h
  refine ⟨0, [], ⟨0, 0, 0, true⟩, Nat.zero_le _, rfl, fun ρ id hr => ?_, fun ρ => .inl rfl⟩
  simp only [Rel]
  exact ⟨_, none, 0, hr, rfl, Nat.le_refl _, fun h => (by cases h), .inl rfl⟩
 ·
  cases h
  have hle : len * ks.length ≤ cap * ks.length := Nat.mul_le_mul_right _ hrow.le
  obtain ⟨ys, hy, hyr⟩ := chunks (R := fun c => Rd enc P w base (fun _ => true) held e c) (fun c hc => open_kinds hk hc) vs len (by rw [hrow.len]; exact hle) (fun i hi => hrow.read i (Nat.lt_of_lt_of_le hi hrow.le))
  exact ⟨len, ys, _, Nat.le_trans hrow.le hrow.most, hy, fun ρ id hid => (hrow.block (hyr ρ) (kd_atoms hy)).1 id hid, fun ρ => (hrow.block (hyr ρ) (kd_atoms hy)).2⟩

theorem flat_rep1 (n k : Nat) : (List.replicate n [k]).flatten = List.replicate n k := by
 induction n with
 | zero => rfl
 | succ n ih => rw [List.replicate_succ, List.flatten_cons, ih]; rfl

theorem open_row1 {α : Type} {f : α → SV} {r : Reach} {b0 d k : Nat} {e t : TypeId} {v : Value} {y : DataW H} {ps : List MemPlace} (ht : P.underlying t = some (.slice e)) (hk : kinds P d e = some [k]) (hf : ∀ x, kd x = some k → ∃ a, x = f a) (hval : Value.okWide P w r b0 t v)
  (hd : DataW.Trod enc P w base (fun _ => true) held t v y ps) : ∃ (l : List α) (rb : RB), l.length ≤ maxLen ∧ (∀ ρ id, ρ id = some rb → Rel ρ (.sl id 0 l.length 1 false) v) ∧ ∀ ρ, BRel ρ w rb (.ro (l.map f)) := by
 obtain ⟨n, ys, rb, hm, hy, h1, h2⟩ := open_row_k ht hk (by simp) hval hd
 rw [flat_rep1] at hy
 obtain ⟨l, rfl, rfl⟩ := kd_rep hf hy
 exact ⟨l, rb, hm, h1, h2⟩
end
end Go.Sh
