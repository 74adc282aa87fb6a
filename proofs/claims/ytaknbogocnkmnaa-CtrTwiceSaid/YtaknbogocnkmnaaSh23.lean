/- Lists that are filled from the front. -/
import Derived.Test.YtaknbogocnkmnaaSh22
namespace Go.Sh
variable {α : Type}
/-- The first i of n places have f, the others g. -/
def fil (n i : Nat) (f g : Nat → α) : List α := (List.range n).map (fun j => if j < i then f j else g j)
theorem fil_len (n i : Nat) (f g : Nat → α) : (fil n i f g).length = n := by simp [fil]
theorem fil_zero (n : Nat) (f : Nat → α) (z : α) : fil n 0 f (fun _ => z) = List.replicate n z := by
  apply List.ext_getElem?; intro j; by_cases h : j < n <;> simp [fil, h]
theorem fil_full (n : Nat) (f g : Nat → α) : fil n n f g = (List.range n).map f := by
  unfold fil; apply List.map_congr_left; intro j hj; rw [if_pos (by simpa using hj)]
theorem fil_getD {n i j : Nat} {f g : Nat → α} {d : α} (h : j < n) : (fil n i f g).getD j d = if j < i then f j else g j := by
  rw [List.getD_eq_getElem?_getD]; simp [fil, h]
theorem fil_set {n i : Nat} {f g : Nat → α} (h : i < n) : (fil n i f g).set i (f i) = fil n (i + 1) f g := by
  apply List.ext_getElem?; intro j
  rw [List.getElem?_set]
  by_cases hj : i = j
  · subst hj; simp [fil, h]
  · rw [if_neg hj]
    by_cases h2 : j < n
    · simp only [fil, List.getElem?_map, List.getElem?_range h2, Option.map_some]
      by_cases h3 : j < i
      · rw [if_pos h3, if_pos (by omega)]
      · rw [if_neg h3, if_neg (by omega)]
    · simp [fil, h2]
theorem fil_setx {n i : Nat} {f g : Nat → α} {x : α} (h : i < n) (hx : x = f i) : (fil n i f g).set i x = fil n (i + 1) f g := by subst hx; exact fil_set h
theorem fil_same {n i : Nat} {f g : Nat → α} {x : α} (h : i < n) (hx : x = g i) : (fil n i f g).set i x = fil n i f g := by
  apply List.ext_getElem?; intro j
  rw [List.getElem?_set]
  by_cases hj : i = j
  · subst hj; subst hx; simp [fil, h]
  · rw [if_neg hj]
theorem fil_of_list {n : Nat} {f : Nat → α} {l : List α} {d : α} (h : l.length = n) : fil n 0 f (fun j => l.getD j d) = l := by
  apply List.ext_getElem?; intro j
  by_cases h2 : j < n
  · simp only [fil, List.getElem?_map, List.getElem?_range h2, Option.map_some, Nat.not_lt_zero, if_false]
    rw [List.getD_eq_getElem?_getD, List.getElem?_eq_getElem (by omega)]; rfl
  · rw [List.getElem?_eq_none (by simp [fil_len]; omega), List.getElem?_eq_none (by omega)]
theorem rng_getD {n j : Nat} {f : Nat → α} {d : α} (h : j < n) : ((List.range n).map f).getD j d = f j := by
  rw [List.getD_eq_getElem?_getD]; simp [h]
theorem rng_len {n : Nat} {f : Nat → α} : ((List.range n).map f).length = n := by simp
theorem rng_succ {n : Nat} {f : Nat → α} : (List.range (n + 1)).map f = (List.range n).map f ++ [f n] := by rw [List.range_succ]; simp
theorem set_get_set {l : List UInt8} {i : Nat} {x c : UInt8} (h : i < l.length) : (l.set i x).set i ((l.set i x).getD i 0 + c) = l.set i (x + c) := by
  rw [List.getD_eq_getElem?_getD, List.getElem?_set]; simp [h]
theorem getD_app_l {l m : List α} {i : Nat} {d : α} (h : i < l.length) : (l ++ m).getD i d = l.getD i d := by
  rw [List.getD_eq_getElem?_getD, List.getD_eq_getElem?_getD, List.getElem?_append_left h]
theorem getD_app_r {l m : List α} {i j : Nat} {d : α} (h : i = l.length + j) : (l ++ m).getD i d = m.getD j d := by
  subst h; rw [List.getD_eq_getElem?_getD, List.getD_eq_getElem?_getD, List.getElem?_append_right (by omega)]; congr 2; omega
theorem ren_m8 {sel : List Nat} {l m : List UInt8} (h : l = m) : renL sel (l.map .u8) = some (m.map .u8) := by subst h; exact renL_plain sel (plainL_u8 l)
theorem ren_m32 {sel : List Nat} {l m : List UInt32} (h : l = m) : renL sel (l.map .u32) = some (m.map .u32) := by subst h; exact renL_plain sel (plainL_u32 l)
theorem ren_m64 {sel : List Nat} {l m : List UInt64} (h : l = m) : renL sel (l.map .u64) = some (m.map .u64) := by subst h; exact renL_plain sel (plainL_u64 l)
theorem ren_mi {sel : List Nat} {l m : List Int} (h : l = m) : renL sel (l.map .i) = some (m.map .i) := by subst h; exact renL_plain sel (plainL_i l)
theorem app1 {l : List UInt8} {n : Nat} {y : UInt8} (h : l.length = n) : List.take (n * 1) (List.drop 0 (l.map SV.u8)) ++ List.take (1 * 1) (List.drop 0 [SV.u8 y]) = (l ++ [y]).map SV.u8 := by
  rw [List.drop_zero, List.take_of_length_le (by simp; omega)]; simp
end Go.Sh
