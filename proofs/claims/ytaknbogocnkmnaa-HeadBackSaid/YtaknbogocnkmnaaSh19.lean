/- Loads out of rows of numbers; small facts for walks, further. -/
import Derived.Test.YtaknbogocnkmnaaSh17
namespace Go.Sh

theorem sload_map {α : Type} (f : α → SV) (d : α) {l : List α} {k i : Nat} (hk : k = i) (h : i < l.length) : sload false 1 (l.map f) k = some (f (l.getD i d)) := by
  subst hk
  simp [sload, h]
theorem sload_u8 {l : List UInt8} {k i : Nat} (hk : k = i) (h : i < l.length) : sload false 1 (l.map .u8) k = some (.u8 (l.getD i 0)) := sload_map _ _ hk h
theorem sload_u32 {l : List UInt32} {k i : Nat} (hk : k = i) (h : i < l.length) : sload false 1 (l.map .u32) k = some (.u32 (l.getD i 0)) := sload_map _ _ hk h
theorem sload_u64 {l : List UInt64} {k i : Nat} (hk : k = i) (h : i < l.length) : sload false 1 (l.map .u64) k = some (.u64 (l.getD i 0)) := sload_map _ _ hk h
theorem sload_i {l : List Int} {k i : Nat} (hk : k = i) (h : i < l.length) : sload false 1 (l.map .i) k = some (.i (l.getD i 0)) := sload_map _ _ hk h
theorem bytesOf_cut {l r : List UInt8} {o n : Nat} (h : (l.drop o).take n = r) : bytesOf (((l.map SV.u8).drop o).take n) = some r := by
  subst h; rw [← List.map_drop, ← List.map_take, bytesOf_map]
theorem bytesOf_all {l : List UInt8} : bytesOf (((l.map SV.u8).drop 0).take l.length) = some l := by
  rw [List.drop_zero, take_map_len, bytesOf_map]
theorem set_map {α : Type} (f : α → SV) (l : List α) (k : Nat) (x : α) : (l.map f).set k (f x) = (l.set k x).map f := by simp [List.map_set]

/-! ### What stands in a register, as it is to stand -/
theorem wk_i {sel : List Nat} {n m : Int} (h : n = m) : renV sel (.i n) = some (.i m) := by subst h; rfl
theorem wk_u8 {sel : List Nat} {n m : UInt8} (h : n = m) : renV sel (.u8 n) = some (.u8 m) := by subst h; rfl
theorem wk_u32 {sel : List Nat} {n m : UInt32} (h : n = m) : renV sel (.u32 n) = some (.u32 m) := by subst h; rfl
theorem wk_u64 {sel : List Nat} {n m : UInt64} (h : n = m) : renV sel (.u64 n) = some (.u64 m) := by subst h; rfl
theorem wk_b {sel : List Nat} {n m : Bool} (h : n = m) : renV sel (.b n) = some (.b m) := by subst h; rfl
theorem wk_sl {sel : List Nat} {i j o o' n n' z : Nat} {f : Bool} (hi : sel[i]? = some j) (ho : o = o') (hn : n = n') : renV sel (.sl i o n z f) = some (.sl j o' n' z f) := by subst ho; subst hn; simp only [renV, hi]
theorem wk_tup {sel : List Nat} {l m : List SV} (h : renL sel l = some m) : renV sel (.tup l) = some (.tup m) := by simp only [renV, h]
theorem wk_agg {sel : List Nat} {l m : List SV} (h : renL sel l = some m) : renV sel (.agg l) = some (.agg m) := by simp only [renV, h]
theorem wk_cons {sel : List Nat} {x y : SV} {l m : List SV} (h : renV sel x = some y) (k : renL sel l = some m) : renL sel (x :: l) = some (y :: m) := by simp only [renL, h, k]
theorem wk_nil {sel : List Nat} : renL sel [] = some [] := rfl
theorem evb_i {R : RL} {d : Nat} {x : Operand} {n : Int} {m : Nat} (h : ev R x = some (.i n)) (hn : n = (m : Int)) : evb R d (some x) = some m := by
  subst hn; simp [evb, h, idxOf]
end Go.Sh
