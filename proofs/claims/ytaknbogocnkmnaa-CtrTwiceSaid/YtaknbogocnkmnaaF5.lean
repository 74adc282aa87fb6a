/- ctr: plain facts of a text turned. -/
import Derived.Test.YtaknbogocnkmnaaF3
namespace Go.Sh
open Go.Proofs
set_option linter.unusedSimpArgs false

theorem turnL_len (w : List UInt8) (R : Nat) (c b : List UInt8) : (turnL w R c b).length = b.length := by unfold turnL; exact rng_len
theorem turnL_getD (w : List UInt8) (R : Nat) (c b : List UInt8) (j : Nat) (h : j < b.length) : (turnL w R c b).getD j 0 = trn w R c b j := by unfold turnL; exact rng_getD h
theorem ext_getD {l m : List UInt8} (hl : l.length = m.length) (h : ∀ j, j < l.length → l.getD j 0 = m.getD j 0) : l = m := by
  apply List.ext_getElem hl
  intro j h1 h2
  have := h j h1
  rw [List.getD_eq_getElem?_getD, List.getD_eq_getElem?_getD, List.getElem?_eq_getElem h1, List.getElem?_eq_getElem h2] at this
  exact this
theorem turnL_twice (w : List UInt8) (R : Nat) (c b : List UInt8) : turnL w R c (turnL w R c b) = b := by
  apply ext_getD
  · rw [turnL_len, turnL_len]
  · intro j hj
    rw [turnL_len] at hj
    rw [turnL_getD _ _ _ _ _ hj]
    rw [turnL_len] at hj
    unfold trn
    rw [turnL_getD _ _ _ _ _ hj]
    unfold trn
    rw [UInt8.xor_assoc, UInt8.xor_self, UInt8.xor_zero]
theorem ctrN_add (c : List UInt8) (a : Nat) : ∀ k, ctrN (ctrN c a) k = ctrN c (a + k)
  | 0 => rfl
  | k + 1 => by rw [ctrN_s, ctrN_add c a k]; rfl
theorem drop_getD (l : List UInt8) (n j : Nat) : (l.drop n).getD j 0 = l.getD (n + j) 0 := by
  rw [List.getD_eq_getElem?_getD, List.getD_eq_getElem?_getD, List.getElem?_drop]
theorem turnL_drop (w : List UInt8) (R : Nat) (c b : List UInt8) (a : Nat) : turnL w R (ctrN c a) (b.drop (16 * a)) = (turnL w R c b).drop (16 * a) := by
  apply ext_getD
  · rw [turnL_len, List.length_drop, List.length_drop, turnL_len]
  · intro j hj
    rw [turnL_len] at hj
    rw [turnL_getD _ _ _ _ _ hj, drop_getD]
    rw [List.length_drop] at hj
    rw [turnL_getD _ _ _ _ _ (by omega)]
    unfold trn ksB
    rw [drop_getD, ctrN_add, show (16 * a + j) / 16 = a + j / 16 by omega, show (16 * a + j) % 16 = j % 16 by omega]
end Go.Sh
