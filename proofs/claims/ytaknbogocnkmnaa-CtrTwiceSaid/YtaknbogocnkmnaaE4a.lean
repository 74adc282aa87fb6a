/- aes.Seal: what it is. -/
import Derived.Test.YtaknbogocnkmnaaE3
namespace Go.Sh
open Go.Proofs
set_option maxHeartbeats 8000000
set_option linter.unusedSimpArgs false

/-- A column, mixed. -/
def mixC : List UInt8 → List UInt8
  | [a, b, c, d] => [a ^^^ (a ^^^ b ^^^ c ^^^ d) ^^^ dbl (a ^^^ b), b ^^^ (a ^^^ b ^^^ c ^^^ d) ^^^ dbl (b ^^^ c), c ^^^ (a ^^^ b ^^^ c ^^^ d) ^^^ dbl (c ^^^ d), d ^^^ (a ^^^ b ^^^ c ^^^ d) ^^^ dbl (d ^^^ a)]
  | l => l
def xorL : List UInt8 → List UInt8 → List UInt8
  | a :: l, b :: m => (a ^^^ b) :: xorL l m
  | _, _ => []
/-- The i-th column of a block whose rows have moved, S of each byte. -/
def movC (s : List UInt8) (i : Nat) : List UInt8 := [sb (s.getD (4 * i) 0), sb (s.getD (4 * ((i + 1) % 4) + 1) 0), sb (s.getD (4 * ((i + 2) % 4) + 2) 0), sb (s.getD (4 * ((i + 3) % 4) + 3) 0)]
def wcol (w : List UInt8) (i : Nat) : List UInt8 := [w.getD (4 * i) 0, w.getD (4 * i + 1) 0, w.getD (4 * i + 2) 0, w.getD (4 * i + 3) 0]
def rndC (last : Bool) (w : List UInt8) (n : Nat) (s : List UInt8) (i : Nat) : List UInt8 := xorL (if last then movC s i else mixC (movC s i)) (wcol w (4 * n + i))
/-- A round. -/
def rnd (last : Bool) (w : List UInt8) (n : Nat) (s : List UInt8) : List UInt8 := rndC last w n s 0 ++ rndC last w n s 1 ++ rndC last w n s 2 ++ rndC last w n s 3
def sealSt (w : List UInt8) (R : Nat) (b : List UInt8) : Nat → List UInt8
  | 0 => xorL b (wcol w 0 ++ wcol w 1 ++ wcol w 2 ++ wcol w 3)
  | n + 1 => rnd (decide (n + 1 = R)) w (n + 1) (sealSt w R b n)

theorem xorL_len : ∀ {a b : List UInt8}, a.length = b.length → (xorL a b).length = a.length
  | [], [], _ => rfl
  | x :: a, y :: b, h => by simp only [xorL, List.length_cons]; rw [xorL_len (by simpa using h)]
  | [], _ :: _, h => by simp at h
  | _ :: _, [], h => by simp at h
theorem rndC_len (last : Bool) (w : List UInt8) (n : Nat) (s : List UInt8) (i : Nat) : (rndC last w n s i).length = 4 := by
  unfold rndC; rw [xorL_len]
  · cases last <;> rfl
  · cases last <;> rfl
theorem rnd_len (last : Bool) (w : List UInt8) (n : Nat) (s : List UInt8) : (rnd last w n s).length = 16 := by
  unfold rnd; simp [rndC_len]
theorem sealSt_len (w : List UInt8) (R : Nat) (b : List UInt8) (hb : b.length = 16) : ∀ n, (sealSt w R b n).length = 16
  | 0 => by unfold sealSt; rw [xorL_len] <;> simp [hb, wcol]
  | n + 1 => by unfold sealSt; exact rnd_len ..
theorem ex4 {α : Type} {l : List α} (h : l.length = 4) : ∃ a b c d, l = [a, b, c, d] := by
  match l, h with
  | [a, b, c, d], _ => exact ⟨a, b, c, d, rfl⟩
theorem ex16 {α : Type} {l : List α} (h : l.length = 16) : ∃ s0 s1 s2 s3 s4 s5 s6 s7 s8 s9 s10 s11 s12 s13 s14 s15, l = [s0, s1, s2, s3, s4, s5, s6, s7, s8, s9, s10, s11, s12, s13, s14, s15] := by
  match l, h with
  | [a, b, c, d, e, f, g, h, i, j, k, l, m, n, o, p], _ => exact ⟨a, b, c, d, e, f, g, h, i, j, k, l, m, n, o, p, rfl⟩

theorem sload_col {l : List UInt8} {k i : Nat} (hk : k = i) (h : i + 4 ≤ l.length) : sload true 4 (l.map .u8) k = some (.agg [.u8 (l.getD i 0), .u8 (l.getD (i + 1) 0), .u8 (l.getD (i + 2) 0), .u8 (l.getD (i + 3) 0)]) := by
  subst hk
  simp only [sload, if_true]
  rw [if_pos (by simpa using h)]
  have e : ∀ j, k + j < l.length → (l.map SV.u8)[k + j]? = some (.u8 (l.getD (k + j) 0)) := fun j hj => by
    rw [List.getElem?_map, List.getD_eq_getElem?_getD, List.getElem?_eq_getElem hj]; rfl
  have e0 := e 0 (by omega)
  have e1 := e 1 (by omega)
  have e2 := e 2 (by omega)
  have e3 := e 3 (by omega)
  congr 2
  apply List.ext_getElem?
  intro j
  rw [List.getElem?_take]
  by_cases hj : j < 4
  · rw [if_pos hj, List.getElem?_drop]
    have : j = 0 ∨ j = 1 ∨ j = 2 ∨ j = 3 := by omega
    rcases this with rfl | rfl | rfl | rfl
    · exact e0
    · exact e1
    · exact e2
    · exact e3
  · rw [if_neg hj, List.getElem?_eq_none]; simp; omega

theorem w64_4n (n q : Nat) (h : n ≤ 1000) (hq : q ≤ 3) : w64 (w64 (4 * (n : Int)) + (q : Int)) = ((4 * n + q : Nat) : Int) := by
  simp only [w64_eq]; omega
theorem w64_s (n : Nat) (h : n ≤ 1000) : w64 ((n : Int) + 1) = ((n + 1 : Nat) : Int) := by simp only [w64_eq]; omega

end Go.Sh
