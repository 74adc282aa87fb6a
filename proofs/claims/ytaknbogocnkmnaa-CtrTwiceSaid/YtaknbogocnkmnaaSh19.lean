/- Loads out of rows of numbers; small facts for walks, further. -/
import Derived.Test.YtaknbogocnkmnaaSh17
namespace Go.Sh

theorem sload_map {α : Type} (f : α → SV) (d : α) {l : List α} {k i : Nat} (hk : k = i) (h : i < l.length) : sload false 1 (l.map f) k = some (f (l.getD i d)) := by
  subst hk
  simp [sload, h]
theorem sload_u8 {l : List UInt8} {k i : Nat} (hk : k = i) (h : i < l.length) : sload false 1 (l.map .u8) k = some (.u8 (l.getD i 0)) := sload_map _ _ hk h
theorem sload_u32 {l : List UInt32} {k i : Nat} (hk : k = i) (h : i < l.length) : sload false 1 (l.map .u32) k = some (.u32 (l.getD i 0)) := sload_map _ _ hk h
theorem sload_u64 {l : List UInt64} {k i : Nat} (hk : k = i) (h : i < l.length) : sload false 1 (l.map .u64) k = some (.u64 (l.getD i 0)) := sload_map _ _ hk h
theorem sload_i {l : List Int} {k i : Nat} (hk : k = i) (h : i < l.length) : sload false 1 (l.map .i) k = some (.i (l.getD i 0)) := sload_map _ _ hk h
theorem sload_all {l : List SV} {k sz : Nat} (hk : k = 0) (h : l.length = sz) : sload true sz l k = some (.agg l) := by
  subst hk; subst h
  simp only [sload, if_true]
  rw [if_pos (by omega), List.drop_zero, List.take_of_length_le (Nat.le_refl _)]
theorem sload_sub {α : Type} (f : α → SV) {l : List α} {k i sz : Nat} (hk : k = i) (h : i + sz ≤ l.length) : sload true sz (l.map f) k = some (.agg (((l.drop i).take sz).map f)) := by
  subst hk
  simp only [sload, if_true]
  rw [if_pos (by simpa using h), ← List.map_drop, ← List.map_take]
@[simp] theorem sput_agg_whole {l m : List SV} (h : m.length = l.length) : sput l 0 (.agg m) = m := by
  simp [sput, h]
theorem sput_all {l m : List SV} {k : Nat} (hk : k = 0) (h : m.length = l.length) : sput l k (.agg m) = m := by subst hk; exact sput_agg_whole h
theorem sput_m8 {l : List UInt8} {k i : Nat} {x : UInt8} (hk : k = i) : sput (l.map .u8) k (.u8 x) = (l.set i x).map .u8 := by subst hk; simp [sput, List.map_set]
theorem sput_mi {l : List Int} {k i : Nat} {x : Int} (hk : k = i) : sput (l.map .i) k (.i x) = (l.set i x).map .i := by subst hk; simp [sput, List.map_set]
theorem sput_m32 {l : List UInt32} {k i : Nat} {x : UInt32} (hk : k = i) : sput (l.map .u32) k (.u32 x) = (l.set i x).map .u32 := by subst hk; simp [sput, List.map_set]
theorem sput_m64 {l : List UInt64} {k i : Nat} {x : UInt64} (hk : k = i) : sput (l.map .u64) k (.u64 x) = (l.set i x).map .u64 := by subst hk; simp [sput, List.map_set]
theorem sload_pre8 {l : List UInt8} {r : List SV} {k i : Nat} (hk : k = i) (h : i < l.length) : sload false 1 (l.map .u8 ++ r) k = some (.u8 (l.getD i 0)) := by
  subst hk
  simp [sload, List.getElem?_append_left, h]
theorem sload_end {l : List SV} {x : SV} {k : Nat} (hk : k = l.length) : sload false 1 (l ++ [x]) k = some x := by
  subst hk; simp [sload]
theorem sput_end {l : List SV} {x y : SV} {k : Nat} (hk : k = l.length) (hy : y.atom = true) : sput (l ++ [x]) k y = l ++ [y] := by
  subst hk
  cases y <;> first | (simp [SV.atom] at hy; done) | simp [sput]
theorem bytesOf_cut {l r : List UInt8} {o n : Nat} (h : (l.drop o).take n = r) : bytesOf (((l.map SV.u8).drop o).take n) = some r := by
  subst h; rw [← List.map_drop, ← List.map_take, bytesOf_map]
theorem bytesOf_all {l : List UInt8} : bytesOf (((l.map SV.u8).drop 0).take l.length) = some l := by
  rw [List.drop_zero, take_map_len, bytesOf_map]
theorem set_map {α : Type} (f : α → SV) (l : List α) (k : Nat) (x : α) : (l.map f).set k (f x) = (l.set k x).map f := by simp [List.map_set]

theorem plainL_rep (n : Nat) {x : SV} (h : plainV x = true) : plainL (List.replicate n x) = true := by
  simp only [plainL, List.all_eq_true]; intro y hy; rw [List.eq_of_mem_replicate hy]; exact h
theorem ren_z8 {sel : List Nat} {n : Nat} {x : UInt8} : renL sel ((List.replicate n x).map .u8) = some (List.replicate n (.u8 x)) := by rw [List.map_replicate]; exact renL_plain sel (plainL_rep n rfl)
theorem ren_zi {sel : List Nat} {n : Nat} {x : Int} : renL sel ((List.replicate n x).map .i) = some (List.replicate n (.i x)) := by rw [List.map_replicate]; exact renL_plain sel (plainL_rep n rfl)
theorem ren_z32 {sel : List Nat} {n : Nat} {x : UInt32} : renL sel ((List.replicate n x).map .u32) = some (List.replicate n (.u32 x)) := by rw [List.map_replicate]; exact renL_plain sel (plainL_rep n rfl)
theorem ren_z64 {sel : List Nat} {n : Nat} {x : UInt64} : renL sel ((List.replicate n x).map .u64) = some (List.replicate n (.u64 x)) := by rw [List.map_replicate]; exact renL_plain sel (plainL_rep n rfl)
theorem ren_app {sel : List Nat} {a b c : List SV} (ha : plainL a = true) (h : renL sel b = some c) : renL sel (a ++ b) = some (a ++ c) := by
  induction a with
  | nil => exact h
  | cons x a ih =>
    simp only [plainL_cons, Bool.and_eq_true] at ha
    simp only [List.cons_append, renL, renV_plain sel ha.1, ih ha.2]
theorem ren_app2 {sel : List Nat} {a a' b c : List SV} (ha : plainL a = true) (e : a = a') (h : renL sel b = some c) : renL sel (a ++ b) = some (a' ++ c) := by subst e; exact ren_app ha h

/-! ### What stands in a register, as it is to stand -/
theorem wk_i {sel : List Nat} {n m : Int} (h : n = m) : renV sel (.i n) = some (.i m) := by subst h; rfl
theorem wk_u8 {sel : List Nat} {n m : UInt8} (h : n = m) : renV sel (.u8 n) = some (.u8 m) := by subst h; rfl
theorem wk_u32 {sel : List Nat} {n m : UInt32} (h : n = m) : renV sel (.u32 n) = some (.u32 m) := by subst h; rfl
theorem wk_u64 {sel : List Nat} {n m : UInt64} (h : n = m) : renV sel (.u64 n) = some (.u64 m) := by subst h; rfl
theorem wk_b {sel : List Nat} {n m : Bool} (h : n = m) : renV sel (.b n) = some (.b m) := by subst h; rfl
theorem wk_sl {sel : List Nat} {i j o o' n n' z : Nat} {f : Bool} (hi : sel[i]? = some j) (ho : o = o') (hn : n = n') : renV sel (.sl i o n z f) = some (.sl j o' n' z f) := by subst ho; subst hn; simp only [renV, hi]
theorem wk_tup {sel : List Nat} {l m : List SV} (h : renL sel l = some m) : renV sel (.tup l) = some (.tup m) := by simp only [renV, h]
theorem wk_agg {sel : List Nat} {l m : List SV} (h : renL sel l = some m) : renV sel (.agg l) = some (.agg m) := by simp only [renV, h]
theorem wk_cons {sel : List Nat} {x y : SV} {l m : List SV} (h : renV sel x = some y) (k : renL sel l = some m) : renL sel (x :: l) = some (y :: m) := by simp only [renL, h, k]
theorem wk_nil {sel : List Nat} : renL sel [] = some [] := rfl
theorem evb_i {R : RL} {d : Nat} {x : Operand} {n : Int} {m : Nat} (h : ev R x = some (.i n)) (hn : n = (m : Int)) : evb R d (some x) = some m := by
  subst hn; simp [evb, h, idxOf]
end Go.Sh
