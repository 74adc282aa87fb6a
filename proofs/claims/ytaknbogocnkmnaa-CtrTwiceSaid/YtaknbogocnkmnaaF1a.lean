/- ctr: the next counter, plainly. -/
import Derived.Test.YtaknbogocnkmnaaSh23
namespace Go.Sh
open Go.Proofs
set_option maxHeartbeats 8000000
set_option linter.unusedSimpArgs false

def inc4 (a b c d : UInt8) : List UInt8 :=
  if d + 1 ≠ 0 then [a, b, c, d + 1] else if c + 1 ≠ 0 then [a, b, c + 1, d + 1] else if b + 1 ≠ 0 then [a, b + 1, c + 1, d + 1] else [a + 1, b + 1, c + 1, d + 1]
/-- The next counter. -/
def nextC (l : List UInt8) : List UInt8 := l.take 12 ++ inc4 (l.getD 12 0) (l.getD 13 0) (l.getD 14 0) (l.getD 15 0)
theorem inc4_len (a b c d : UInt8) : (inc4 a b c d).length = 4 := by unfold inc4; split <;> (try split) <;> (try split) <;> rfl
theorem nextC_len {l : List UInt8} (h : l.length = 16) : (nextC l).length = 16 := by unfold nextC; rw [List.length_append, inc4_len]; simp; omega

/-- A counter's number. -/
def cnum (a b c d : UInt8) : Nat := ((a.toNat * 256 + b.toNat) * 256 + c.toNat) * 256 + d.toNat
def cbyt (n : Nat) : List UInt8 := [UInt8.ofNat (n / 16777216), UInt8.ofNat (n / 65536 % 256), UInt8.ofNat (n / 256 % 256), UInt8.ofNat (n % 256)]
theorem u8_p1 (x : UInt8) : (x + 1).toNat = (x.toNat + 1) % 256 := by rw [UInt8.toNat_add]; rfl
theorem u8_nz (x : UInt8) : x + 1 ≠ 0 ↔ x.toNat ≠ 255 := by
  have hx : x.toNat < 256 := UInt8.toNat_lt _
  constructor
  · intro h e; apply h; apply UInt8.toNat_inj.mp; rw [u8_p1, e]; rfl
  · intro h e; have := congrArg UInt8.toNat e; rw [u8_p1] at this; simp at this; omega
theorem inc4_num (a b c d : UInt8) : inc4 a b c d = cbyt ((cnum a b c d + 1) % 4294967296) := by
  have ha : a.toNat < 256 := UInt8.toNat_lt _
  have hb : b.toNat < 256 := UInt8.toNat_lt _
  have hc : c.toNat < 256 := UInt8.toNat_lt _
  have hd : d.toNat < 256 := UInt8.toNat_lt _
  have e : ∀ (x : UInt8) (n : Nat), x.toNat = n % 256 → x = UInt8.ofNat n := fun x n h => by apply UInt8.toNat_inj.mp; rw [h]; simp
  unfold inc4 cbyt cnum
  simp only [u8_nz]
  split
  · simp only [List.cons.injEq, and_true]
    refine ⟨e _ _ ?_, e _ _ ?_, e _ _ ?_, e _ _ ?_⟩ <;> (try rw [u8_p1]) <;> omega
  · split
    · simp only [List.cons.injEq, and_true]
      refine ⟨e _ _ ?_, e _ _ ?_, e _ _ ?_, e _ _ ?_⟩ <;> (try rw [u8_p1]) <;> omega
    · split
      · simp only [List.cons.injEq, and_true]
        refine ⟨e _ _ ?_, e _ _ ?_, e _ _ ?_, e _ _ ?_⟩ <;> (try rw [u8_p1]) <;> omega
      · simp only [List.cons.injEq, and_true]
        refine ⟨e _ _ ?_, e _ _ ?_, e _ _ ?_, e _ _ ?_⟩ <;> (try rw [u8_p1]) <;> omega
end Go.Sh
