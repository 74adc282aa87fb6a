/- aes: plain facts: S is the reference's. -/
import Derived.Test.YtaknbogocnkmnaaE8
import Derived.Test.YtaknbogocnkmnaaE9a
namespace Go.Sh
open Go.Proofs
set_option maxHeartbeats 8000000
set_option maxRecDepth 100000
set_option linter.unusedSimpArgs false

theorem all_u8 {p : UInt8 → Prop} (h : ∀ n : Nat, n < 256 → p (UInt8.ofNat n)) (x : UInt8) : p x := by
  have := h x.toNat (UInt8.toNat_lt _)
  simpa using this
theorem sbx_eq : sbx = [99, 124, 119, 123, 242, 107, 111, 197, 48, 1, 103, 43, 254, 215, 171, 118, 202, 130, 201, 125, 250, 89, 71, 240, 173, 212, 162, 175, 156, 164, 114, 192, 183, 253, 147, 38, 54, 63, 247, 204, 52, 165, 229, 241, 113, 216, 49, 21, 4, 199, 35, 195, 24, 150, 5, 154, 7, 18, 128, 226, 235, 39, 178, 117, 9, 131, 44, 26, 27, 110, 90, 160, 82, 59, 214, 179, 41, 227, 47, 132, 83, 209, 0, 237, 32, 252, 177, 91, 106, 203, 190, 57, 74, 76, 88, 207, 208, 239, 170, 251, 67, 77, 51, 133, 69, 249, 2, 127, 80, 60, 159, 168, 81, 163, 64, 143, 146, 157, 56, 245, 188, 182, 218, 33, 16, 255, 243, 210, 205, 12, 19, 236, 95, 151, 68, 23, 196, 167, 126, 61, 100, 93, 25, 115, 96, 129, 79, 220, 34, 42, 144, 136, 70, 238, 184, 20, 222, 94, 11, 219, 224, 50, 58, 10, 73, 6, 36, 92, 194, 211, 172, 98, 145, 149, 228, 121, 231, 200, 55, 109, 141, 213, 78, 169, 108, 86, 244, 234, 101, 122, 174, 8, 186, 120, 37, 46, 28, 166, 180, 198, 232, 221, 116, 31, 75, 189, 139, 138, 112, 62, 181, 102, 72, 3, 246, 14, 97, 53, 87, 185, 134, 193, 29, 158, 225, 248, 152, 17, 105, 217, 142, 148, 155, 30, 135, 233, 206, 85, 40, 223, 140, 161, 137, 13, 191, 230, 66, 104, 65, 153, 45, 15, 176, 84, 187, 22] := by kernel_rfl
theorem outB_sbx : outB 256 = sbx := by rw [sbx_eq]; kernel_rfl

theorem sb_ofNat : ∀ n : Nat, n < 256 → ∀ m : Nat, m < 256 → sb (UInt8.ofNat n) = sb (UInt8.ofNat m) → n = m := by
  unfold sb
  rw [sbx_eq]
  decide +kernel
theorem sb_inj {x y : UInt8} (h : sb x = sb y) : x = y := by
  have := sb_ofNat x.toNat (UInt8.toNat_lt _) y.toNat (UInt8.toNat_lt _) (by simpa using h)
  exact UInt8.toNat_inj.mp this

/-- The inverse, by the box of the reference. -/
theorem yAll_ok : ∀ n : Nat, n < 256 → yAll (UInt8.ofNat n) 255 = yB n := by decide +kernel
theorem sb_ref (b : UInt8) : obSt (yAll b 255) 8 = sb b := by
  have h : ∀ n : Nat, n < 256 → obSt (yAll (UInt8.ofNat n) 255) 8 = sb (UInt8.ofNat n) := by
    intro n hn
    rw [yAll_ok n hn]
    have : (outB 256).getD n 0 = obB n := by unfold outB; rw [fil_getD hn, if_pos hn]
    rw [outB_sbx] at this
    unfold sb
    rw [show (UInt8.ofNat n).toNat = n by simp; omega, this]; rfl
  exact all_u8 (p := fun x => obSt (yAll x 255) 8 = sb x) h b

end Go.Sh
