/- Merged for a claim: Sh1, Sh2, Sh3, Sh4, Sh5, Sh6, Sh7, Sh8, Sh9, Sh10. -/
import Derived.WalkKit
import Derived.RangeFuncNested
import Derived.RangeFuncCalls
import Derived.RangeFuncLeaves
import Derived.OrdersIn
import Derived.TacticsIn
import Derived.WalkLawsBesides
import Derived.Lib.Strings
set_option linter.unusedSimpArgs false
set_option linter.unusedVariables false
namespace Go.Sh
structure RB where
 blk : Nat
 off : Nat
 cap : Nat
 virt : Bool
inductive SV where
 | i (n : Int)
 | u8 (x : UInt8)
 | u16 (x : UInt16)
 | u32 (x : UInt32)
 | u64 (x : UInt64)
 | b (x : Bool)
 | s (l : List UInt8)
 | p (id off : Nat)
 | pnil
 | sl (id o n sz : Nat) (full : Bool)
 | slnil
 | fnil
 | fn (f : Nat) (cap : List SV)
 | yld (id : Nat)
 | mp (id : Nat)
 | mnil
 | agg (l : List SV)
 | tup (l : List SV)
 | lit (v : Value)
 | slc (id o n c sz : Nat)
 deriving Inhabited
def SV.atom : SV → Bool
 | .agg _ => false
 | .tup _ => false
 | _ => true
def atoms (l : List SV) : Bool := l.all SV.atom
abbrev Ren := Nat → Option RB
mutual
def Rel (ρ : Ren) : SV → Value → Prop
 | .i n, v => v = .int .i64 n
 | .u8 x, v => v = .int .u8 (x.toNat : Int)
 | .u16 x, v => v = .int .u16 (x.toNat : Int)
 | .u32 x, v => v = .int .u32 (x.toNat : Int)
 | .u64 x, v => v = .int .u64 (x.toNat : Int)
 | .b x, v => v = .bool x
 | .s l, v => v = .string ⟨⟨l⟩⟩
 | .p id off, v => ∃ rb, ρ id = some rb ∧ v = .pointer (some ⟨rb.blk, rb.off + off, none⟩)
 | .pnil, v => v = .pointer none
 | .sl id o n sz full, v => ∃ rb a c, ρ id = some rb ∧ v = .slice a n c ∧ n ≤ c ∧ (full = true → c = n) ∧
   (c = 0 ∨ (rb.virt = false ∧ a = some ⟨rb.blk, rb.off + o, none⟩ ∧ o + c * sz ≤ rb.cap))
 | .slc id o n c sz, v => ∃ rb a k, ρ id = some rb ∧ v = .slice a n k ∧ n ≤ c ∧ c ≤ k ∧
   (k = 0 ∨ (rb.virt = false ∧ a = some ⟨rb.blk, rb.off + o, none⟩ ∧ o + k * sz ≤ rb.cap))
 | .slnil, v => v = .slice none 0 0
 | .fnil, v => v = .nilFunc
 | .fn f cap, v => ∃ cs, v = .func (.func f) #[] ⟨cs⟩ ∧ Rels ρ cap cs
 | .yld id, v => ∃ rb, ρ id = some rb ∧ v = .func (.yield rb.blk) #[] #[]
 | .mp id, v => ∃ rb, ρ id = some rb ∧ v = .map (some rb.blk)
 | .mnil, v => v = .map none
 | .lit u, v => v = u ∧ ∃ a n c, u = .slice a n c
 | .agg l, v => ∃ cs, v = .agg ⟨cs⟩ ∧ atoms l = true ∧ Rels ρ l cs
 | .tup l, v => ∃ cs, v = .tuple ⟨cs⟩ ∧ Rels ρ l cs
def Rels (ρ : Ren) : List SV → List Value → Prop
 | [], vs => vs = []
 | x :: xs, vs => ∃ y ys, vs = y :: ys ∧ Rel ρ x y ∧ Rels ρ xs ys
end
def Ext (ρ ρ' : Ren) : Prop := ∀ id rb, ρ id = some rb → ρ' id = some rb
theorem Ext.refl (ρ : Ren) : Ext ρ ρ := fun _ _ h => h
theorem Ext.trans {a b c : Ren} (h : Ext a b) (k : Ext b c) : Ext a c := fun i r e => k i r (h i r e)
mutual
theorem Rel.ext {ρ ρ' : Ren} (h : Ext ρ ρ') : ∀ (x : SV) {v : Value}, Rel ρ x v → Rel ρ' x v
 | .i _, _, k => by simpa only [Rel] using k
 | .u8 _, _, k => by simpa only [Rel] using k
 | .u16 _, _, k => by simpa only [Rel] using k
 | .u32 _, _, k => by simpa only [Rel] using k
 | .u64 _, _, k => by simpa only [Rel] using k
 | .b _, _, k => by simpa only [Rel] using k
 | .s _, _, k => by simpa only [Rel] using k
 | .pnil, _, k => by simpa only [Rel] using k
 | .slnil, _, k => by simpa only [Rel] using k
 | .fnil, _, k => by simpa only [Rel] using k
 | .mnil, _, k => by simpa only [Rel] using k
 | .lit _, _, k => by simpa only [Rel] using k
 | .p id off, v, k => by
  simp only [Rel] at k ⊢; obtain ⟨rb, hr, e⟩ := k; exact ⟨rb, h _ _ hr, e⟩
 | .sl id o n sz full, v, k => by
  simp only [Rel] at k ⊢; obtain ⟨rb, a, c, hr, e⟩ := k; exact ⟨rb, a, c, h _ _ hr, e⟩
 | .slc id o n c sz, v, k => by
  simp only [Rel] at k ⊢; obtain ⟨rb, a, c, hr, e⟩ := k; exact ⟨rb, a, c, h _ _ hr, e⟩
 | .yld id, v, k => by
  simp only [Rel] at k ⊢; obtain ⟨rb, hr, e⟩ := k; exact ⟨rb, h _ _ hr, e⟩
 | .mp id, v, k => by
  simp only [Rel] at k ⊢; obtain ⟨rb, hr, e⟩ := k; exact ⟨rb, h _ _ hr, e⟩
 | .fn f cap, v, k => by
  simp only [Rel] at k ⊢; obtain ⟨cs, e, hr⟩ := k; exact ⟨cs, e, Rels.ext h cap hr⟩
 | .agg l, v, k => by
  simp only [Rel] at k ⊢; obtain ⟨cs, e, ha, hr⟩ := k; exact ⟨cs, e, ha, Rels.ext h l hr⟩
 | .tup l, v, k => by
  simp only [Rel] at k ⊢; obtain ⟨cs, e, hr⟩ := k; exact ⟨cs, e, Rels.ext h l hr⟩
theorem Rels.ext {ρ ρ' : Ren} (h : Ext ρ ρ') : ∀ (xs : List SV) {vs : List Value}, Rels ρ xs vs → Rels ρ' xs vs
 | [], _, k => by simpa only [Rels] using k
 | x :: xs, vs, k => by
  simp only [Rels] at k ⊢
  obtain ⟨y, ys, e, hy, hys⟩ := k
  exact ⟨y, ys, e, Rel.ext h x hy, Rels.ext h xs hys⟩
end
theorem Rels.nil_iff {ρ : Ren} {vs : List Value} : Rels ρ [] vs ↔ vs = [] := by simp only [Rels]
theorem Rels.cons_iff {ρ : Ren} {x : SV} {xs : List SV} {v : Value} {vs : List Value} : Rels ρ (x :: xs) (v :: vs) ↔ Rel ρ x v ∧ Rels ρ xs vs := by
 simp only [Rels]
 constructor
 ·
  rintro ⟨y, ys, e, hy, hys⟩; cases e; exact ⟨hy, hys⟩
 ·
  rintro ⟨hy, hys⟩; exact ⟨v, vs, rfl, hy, hys⟩
theorem Rels.cons {ρ : Ren} {x : SV} {xs : List SV} {v : Value} {vs : List Value} (h : Rel ρ x v) (k : Rels ρ xs vs) : Rels ρ (x :: xs) (v :: vs) := Rels.cons_iff.2 ⟨h, k⟩
theorem Rels.length {ρ : Ren} : ∀ {xs : List SV} {vs : List Value}, Rels ρ xs vs → vs.length = xs.length
 | [], vs, h => by rw [Rels.nil_iff] at h; subst h; rfl
 | x :: xs, vs, h => by
  simp only [Rels] at h
  obtain ⟨y, ys, rfl, _, hys⟩ := h
  simp [Rels.length hys]
theorem Rels.get {ρ : Ren} : ∀ {xs : List SV} {vs : List Value}, Rels ρ xs vs → ∀ {k : Nat} {x : SV}, xs[k]? = some x → ∃ v, vs[k]? = some v ∧ Rel ρ x v
 | [], _, _, k, x, hx => by simp at hx
 | y :: ys, vs, h, k, x, hx => by
  simp only [Rels] at h
  obtain ⟨v, vs', rfl, hy, hys⟩ := h
  cases k with
  | zero => simp at hx; subst hx; exact ⟨v, rfl, hy⟩
  | succ k => simp at hx; obtain ⟨u, hu, hr⟩ := Rels.get hys hx; exact ⟨u, by simpa using hu, hr⟩
theorem Rels.append {ρ : Ren} : ∀ {xs ys : List SV} {vs us : List Value}, Rels ρ xs vs → Rels ρ ys us → Rels ρ (xs ++ ys) (vs ++ us)
 | [], ys, vs, us, h, k => by rw [Rels.nil_iff] at h; subst h; simpa using k
 | x :: xs, ys, vs, us, h, k => by
  simp only [Rels] at h
  obtain ⟨v, vs', rfl, hy, hys⟩ := h
  exact Rels.cons hy (Rels.append hys k)
theorem Rels.take {ρ : Ren} : ∀ {xs : List SV} {vs : List Value} (n : Nat), Rels ρ xs vs → Rels ρ (xs.take n) (vs.take n)
 | [], vs, n, h => by rw [Rels.nil_iff] at h; subst h; simp [Rels]
 | x :: xs, vs, n, h => by
  simp only [Rels] at h
  obtain ⟨v, vs', rfl, hy, hys⟩ := h
  cases n with
  | zero => simp [Rels]
  | succ n => exact Rels.cons hy (Rels.take n hys)
theorem Rels.drop {ρ : Ren} : ∀ {xs : List SV} {vs : List Value} (n : Nat), Rels ρ xs vs → Rels ρ (xs.drop n) (vs.drop n)
 | [], vs, n, h => by rw [Rels.nil_iff] at h; subst h; simp [Rels]
 | x :: xs, vs, n, h => by
  have h0 := h
  simp only [Rels] at h
  obtain ⟨v, vs', rfl, hy, hys⟩ := h
  cases n with
  | zero => simpa using h0
  | succ n => simpa using Rels.drop n hys
theorem Rels.set {ρ : Ren} : ∀ {xs : List SV} {vs : List Value} {k : Nat} {x : SV} {v : Value}, Rels ρ xs vs → Rel ρ x v → Rels ρ (xs.set k x) (vs.set k v)
 | [], vs, k, x, v, h, _ => by rw [Rels.nil_iff] at h; subst h; simp [Rels]
 | y :: ys, vs, k, x, v, h, hx => by
  simp only [Rels] at h
  obtain ⟨u, us, rfl, hy, hys⟩ := h
  cases k with
  | zero => exact Rels.cons hx hys
  | succ k => exact Rels.cons hy (Rels.set hys hx)
theorem Rels.replicate {ρ : Ren} {x : SV} {v : Value} (h : Rel ρ x v) : ∀ n, Rels ρ (List.replicate n x) (List.replicate n v)
 | 0 => by simp [Rels]
 | n + 1 => Rels.cons h (Rels.replicate h n)
theorem Rel.oneCell {ρ : Ren} {x : SV} {v : Value} (h : Rel ρ x v) (ha : x.atom = true) : v.oneCell' = true := by
 cases x <;> simp only [Rel, SV.atom] at h ha <;> first | (obtain ⟨rfl, _, _, _, rfl⟩ := h; rfl) | (subst h; rfl) | (obtain ⟨_, _, rfl⟩ := h; rfl) | (obtain ⟨_, rfl, _⟩ := h; rfl) | (obtain ⟨_, _, _, _, rfl, _⟩ := h; rfl) | exact absurd ha (by decide)
theorem Rel.cells {ρ : Ren} {x : SV} {v : Value} (h : Rel ρ x v) (ha : x.atom = true) : v.cells = #[v] := by
 cases x <;> simp only [Rel, SV.atom] at h ha <;> first | (obtain ⟨rfl, _, _, _, rfl⟩ := h; rfl) | (subst h; rfl) | (obtain ⟨_, _, rfl⟩ := h; rfl) | (obtain ⟨_, rfl, _⟩ := h; rfl) | (obtain ⟨_, _, _, _, rfl, _⟩ := h; rfl) | exact absurd ha (by decide)
theorem Rels.oneCell {ρ : Ren} : ∀ {xs : List SV} {vs : List Value}, Rels ρ xs vs → atoms xs = true → ∀ v ∈ vs, v.oneCell' = true
 | [], vs, h, _, v, hv => by rw [Rels.nil_iff] at h; subst h; simp at hv
 | x :: xs, vs, h, ha, v, hv => by
  simp only [Rels] at h
  obtain ⟨u, us, rfl, hy, hys⟩ := h
  simp [atoms] at ha
  rcases List.mem_cons.1 hv with rfl | hv
  ·
   exact hy.oneCell ha.1
  ·
   exact Rels.oneCell hys (by simpa [atoms] using ha.2) v hv
theorem Rel.slc_sl {ρ : Ren} {id o n c sz : Nat} {v : Value} (h : Rel ρ (.slc id o n c sz) v) : Rel ρ (.sl id o n sz false) v := by
 simp only [Rel] at h ⊢
 obtain ⟨rb, a, k, h1, h2, h3, h4, h5⟩ := h
 exact ⟨rb, a, k, h1, h2, by omega, fun h => (by cases h), h5⟩
def SV.cells : SV → List SV
 | .agg l => l
 | v => [v]
theorem Rel.cells_rel {ρ : Ren} {x : SV} {v : Value} (h : Rel ρ x v) (ht : ∀ l, x ≠ .tup l) : Rels ρ x.cells v.cells.toList ∧ atoms x.cells = true := by
 by_cases ha : x.atom = true
 ·
  rw [h.cells ha]
  have : x.cells = [x] := by cases x <;> first | rfl | (simp [SV.atom] at ha)
  rw [this]
  exact ⟨Rels.cons h (Rels.nil_iff.2 rfl), by simpa [atoms] using ha⟩
 ·
  cases x <;> simp only [SV.atom, not_true_eq_false] at ha
  ·
   simp only [Rel] at h
   obtain ⟨cs, rfl, hl, hr⟩ := h
   exact ⟨hr, hl⟩
  ·
   exact absurd rfl (ht _)
inductive OB where
 | loop (R : List (Nat × SV)) (N : Nat) (ps : List Nat) (assign body : Code)
 | pend (c : Code)
structure FE where
 v : Value
 rb : RB
 n : Nat
 sz : Nat
 cells : List SV
inductive YB where
 | fam (l : List FE)
 | lit (o : Obj)
 | locd (r : Nat) (o : Obj)
def YB.own : YB → Bool
 | .fam _ => false
 | .lit _ => true
 | .locd _ _ => true
inductive SB where
 | row (t : Nat) (cells : List SV)
 | box (cells : List SV)
 | ro (cells : List SV)
 | obj (y : OB)
 | ext (y : YB)
def SB.own : SB → Bool
 | .ro _ => false
 | .ext y => y.own
 | _ => true
abbrev Heap := Nat → Option SB
def YB.foot (rb : RB) : YB → Nat → Nat → Prop
 | .fam l, k, o => ∃ e, e ∈ l ∧ k = e.rb.blk ∧ e.rb.off ≤ o ∧ o < e.rb.off + e.cells.length
 | .lit _, k, _ => k = rb.blk
 | .locd _ _, k, _ => k = rb.blk
def foot (rb : RB) : SB → Nat → Nat → Prop
 | .row _ _, k, o => rb.virt = false ∧ k = rb.blk ∧ rb.off ≤ o
 | .box l, k, o => k = rb.blk ∧ rb.off ≤ o ∧ o < rb.off + l.length
 | .ro l, k, o => k = rb.blk ∧ rb.off ≤ o ∧ o < rb.off + l.length
 | .obj _, k, _ => k = rb.blk
 | .ext y, k, o => y.foot rb k o
def Unfz (c : Array Value) (fz : Nat × Nat) : Prop := fz = (0, 0) ∨ c.size ≤ fz.1
def CellsAt (ρ : Ren) (w : World) (blk off : Nat) (cells : List SV) (free : Bool) : Prop :=
 ∃ c t fz, w.heap[blk]? = some (.cells c t fz) ∧ atoms cells = true ∧ Rels ρ cells ((c.toList.drop off).take cells.length) ∧ (free = true → Unfz c fz) ∧ off + cells.length ≤ c.size
def RelR (ρ : Ren) (R : List (Nat × SV)) (tmps : Array Value) : Prop := ∀ t v, R.lookup t = some v → Rel ρ v (tmps.getD t undef)
def ORel (ρ : Ren) (w : World) (blk : Nat) : OB → Prop
 | .loop R N ps assign body => ∃ r : Loop, w.heap[blk]? = some (.loop r) ∧ r.state = .ready ∧ r.pending = none ∧ r.params = ⟨ps⟩ ∧ r.assign = assign ∧ r.body = body ∧ r.tmps.size = N ∧ RelR ρ R r.tmps
 | .pend c => ∃ r : Loop, w.heap[blk]? = some (.loop r) ∧ r.state = .done ∧ r.pending = some c
def mutK : Obj → Nat
 | .loop _ => 1
 | .map .. => 2
 | .mapIter .. => 3
 | _ => 0
def FEOk (w : World) (e : FE) : Prop :=
 (∃ a c, e.v = .slice a e.n c ∧ e.n ≤ c ∧ (c = 0 ∨ (e.rb.virt = false ∧ a = some ⟨e.rb.blk, e.rb.off, none⟩ ∧ c * e.sz ≤ e.rb.cap))) ∧
 (e.cells = [] ∨ (CellsAt (fun _ => none) w e.rb.blk e.rb.off e.cells false ∧ e.cells.length ≤ e.rb.cap ∧ e.rb.virt = false))
def YRel (w : World) (rb : RB) : YB → Prop
 | .fam l => ∀ e, e ∈ l → FEOk w e
 | .lit o => (2 ≤ mutK o ∧ rb.off = 0) ∧ w.heap[rb.blk]? = some o
 | .locd r o => (2 ≤ mutK o ∧ rb.off = 0 ∧ rb.blk = r) ∧ w.heap[rb.blk]? = some o
def BRel (ρ : Ren) (w : World) (rb : RB) : SB → Prop
 | .obj y => ORel ρ w rb.blk y
 | .ext y => YRel w rb y
 | .ro l => l = [] ∨ (CellsAt ρ w rb.blk rb.off l false ∧ l.length ≤ rb.cap ∧ rb.virt = false)
 | .box l => CellsAt ρ w rb.blk rb.off l true ∧ l.length ≤ rb.cap ∧ rb.virt = false
 | .row t l => (rb.virt = true ∧ l = []) ∨ (rb.virt = false ∧ ∃ c fz, w.heap[rb.blk]? = some (.cells c t fz) ∧ Unfz c fz ∧ c.size = rb.off + rb.cap ∧ atoms l = true ∧
   Rels ρ l ((c.toList.drop rb.off).take l.length) ∧ l.length ≤ rb.cap)
def HRel (ρ : Ren) (H : Heap) (w : World) : Prop := ∀ id b, H id = some b → ∃ rb, ρ id = some rb ∧ BRel ρ w rb b
def Sep (ρ : Ren) (H : Heap) : Prop := ∀ i j bi bj ri rj, i ≠ j → H i = some bi → H j = some bj → ρ i = some ri → ρ j = some rj → bi.own = true →
 ∀ k o, ¬ (foot ri bi k o ∧ foot rj bj k o)
def Owned (ρ : Ren) (H : Heap) (k o : Nat) : Prop := ∃ id b rb, H id = some b ∧ ρ id = some rb ∧ b.own = true ∧ foot rb b k o
def FrO (S : Nat → Prop) : Obj → Option Obj → Prop
 | .cells c t fz, o => ∃ (c' : Array Value) (fz' : Nat × Nat), o = some (.cells c' t fz') ∧ c'.size = c.size ∧ (fz' = fz ∨ ((∃ j, S j) ∧ (Unfz c fz → Unfz c' fz'))) ∧ ∀ j, ¬ S j → c'[j]? = c[j]?
 | x, o => o = some x ∨ ((∃ j, S j) ∧ mutK x ≠ 0 ∧ ∃ y, o = some y ∧ mutK y = mutK x)
structure Fr (S : Nat → Nat → Prop) (w w' : World) : Prop where
 os : w'.os = w.os
 tape : w'.tape = w.tape
 output : w'.output = w.output
 size : w.heap.size ≤ w'.heap.size
 blk : ∀ k o, w.heap[k]? = some o → FrO (S k) o w'.heap[k]?
theorem Unfz.same {c c' : Array Value} {fz : Nat × Nat} (h : Unfz c fz) (hs : c'.size = c.size) : Unfz c' fz := by unfold Unfz at *; rw [hs]; exact h
theorem FrO.refl (S : Nat → Prop) (x : Obj) : FrO S x (some x) := by
 cases x <;> first | exact ⟨_, _, rfl, rfl, .inl rfl, fun _ _ => rfl⟩ | exact .inl rfl
theorem FrO.same {S : Nat → Prop} {x : Obj} {o : Option Obj} (h : FrO S x o) (hS : ∀ j, ¬ S j) : o = some x := by
 cases x with
 | cells cc t fz =>
  obtain ⟨c1, f1, e1, s1, hf, g1⟩ := h
  have : c1 = cc := Array.ext_getElem? (fun j => g1 j (hS j))
  rcases hf with rfl | ⟨⟨j, hj⟩, _⟩
  ·
   rw [e1, this]
  ·
   exact absurd hj (hS j)
 | _ =>
  rcases h with h | ⟨⟨j, hj⟩, _⟩
  ·
   exact h
  ·
   exact absurd hj (hS j)
theorem FrO.fixed {S : Nat → Prop} {x : Obj} {o : Option Obj} (h : FrO S x o) (hm : mutK x = 0) (hc : ∀ c t fz, x ≠ .cells c t fz) : o = some x := by
 cases x with
 | cells cc t fz => exact absurd rfl (hc _ _ _)
 | _ =>
  rcases h with h | ⟨_, h2, _⟩
  ·
   exact h
  ·
   exact absurd hm h2
theorem Fr.refl (S : Nat → Nat → Prop) (w : World) : Fr S w w := ⟨rfl, rfl, rfl, Nat.le_refl _, fun k o h => by rw [h]; exact FrO.refl _ _⟩
theorem FrO.trans {S T : Nat → Prop} {x : Obj} {o1 o2 : Option Obj} (h : FrO S x o1) (k : ∀ y, o1 = some y → FrO T y o2) (hT : ∀ j, T j → S j) : FrO S x o2 := by
 cases x with
 | cells cc t fz =>
  obtain ⟨c1, f1, e1, s1, hf1, g1⟩ := h
  obtain ⟨c2, f2, e2, s2, hf2, g2⟩ := k _ e1
  refine ⟨c2, f2, e2, s2.trans s1, ?_, fun j hj => (g2 j (fun ht => hj (hT j ht))).trans (g1 j hj)⟩
  rcases hf2 with rfl | ⟨⟨j, hj⟩, hu2⟩
  ·
   rcases hf1 with rfl | ⟨hj, hu⟩
   ·
    exact .inl rfl
   ·
    exact .inr ⟨hj, fun u => (hu u).same s2⟩
  ·
   refine .inr ⟨⟨j, hT j hj⟩, fun u => hu2 ?_⟩
   rcases hf1 with rfl | ⟨_, hu⟩
   ·
    exact u.same s1
   ·
    exact hu u
 | _ =>
  rcases h with h | ⟨hj, hm, y, hy, he⟩
  ·
   rcases k _ h with h2 | ⟨⟨j, hj⟩, hm, y, hy, he⟩
   ·
    exact .inl h2
   ·
    exact .inr ⟨⟨j, hT j hj⟩, hm, y, hy, he⟩
  ·
   have h2 := k _ hy
   refine .inr ⟨hj, hm, ?_⟩
   cases y with
   | cells cc t fz => exact absurd he.symm hm
   | _ =>
    rcases h2 with h2 | ⟨_, hm2, z, hz, he2⟩
    ·
     exact ⟨_, h2, he⟩
    ·
     exact ⟨z, hz, he2.trans he⟩
theorem Fr.trans {S T : Nat → Nat → Prop} {a b c : World} (h : Fr S a b) (k : Fr T b c) (hT : ∀ x o, x < a.heap.size → T x o → S x o) : Fr S a c := by
 refine ⟨k.os.trans h.os, k.tape.trans h.tape, k.output.trans h.output, Nat.le_trans h.size k.size, fun x o ho => ?_⟩
 have hx : x < a.heap.size := (Array.getElem?_eq_some_iff.1 ho).1
 exact (h.blk x o ho).trans (fun y hy => k.blk x y hy) (fun j hj => hT x j hx hj)
theorem Fr.mono {S T : Nat → Nat → Prop} {a b : World} (h : Fr S a b) (hT : ∀ x o, x < a.heap.size → S x o → T x o) : Fr T a b := by
 refine ⟨h.os, h.tape, h.output, h.size, fun x o ho => ?_⟩
 have hx : x < a.heap.size := (Array.getElem?_eq_some_iff.1 ho).1
 exact (FrO.refl (T x) o).trans (fun y hy => by cases hy; exact h.blk x o ho) (fun j hj => hT x j hx hj)
theorem Fr.below {S : Nat → Nat → Prop} {a b : World} (h : Fr S a b) (hS : ∀ x o, x < a.heap.size → ¬ S x o) : RowKit.Below a.heap.size a b := by
 refine ⟨h.os, h.tape, h.output, h.size, fun k hk => ?_⟩
 obtain ⟨o, ho⟩ : ∃ o, a.heap[k]? = some o := ⟨_, Array.getElem?_eq_getElem hk⟩
 rw [ho]
 exact (h.blk k o ho).same (fun j => hS k j hk)
theorem Fr.drew {S : Nat → Nat → Prop} {a b : World} (h : Fr S a b) : Fr S a { b with drawn := b.drawn + 1 } := ⟨h.os, h.tape, h.output, h.size, h.blk⟩
theorem Fr.alloc (S : Nat → Nat → Prop) (w : World) (o : Obj) : Fr S w (w.alloc o) := by
 refine ⟨rfl, rfl, rfl, by simp, fun k x hx => ?_⟩
 have hk : k < w.heap.size := (Array.getElem?_eq_some_iff.1 hx).1
 rw [RowKit.Below.heap_alloc w o k hk, hx]
 exact FrO.refl _ _
def putAt (c : Array Value) (off : Nat) (vs : List Value) : Array Value := ⟨c.toList.take off ++ vs ++ c.toList.drop (off + vs.length)⟩
theorem putAt_size (c : Array Value) (off : Nat) (vs : List Value) (h : off + vs.length ≤ c.size) : (putAt c off vs).size = c.size := by
 simp [putAt]; omega
def World.putCells (w : World) (blk off : Nat) (vs : List Value) : World :=
 { w with heap := w.heap.modify blk fun
   | .cells c t fz => .cells (putAt c off vs) t fz
   | o => o }
theorem putAt_getElem? (c : Array Value) (off : Nat) (vs : List Value) (h : off + vs.length ≤ c.size) (j : Nat) :
  (putAt c off vs)[j]? = if off ≤ j ∧ j < off + vs.length then vs[j - off]? else c[j]? := by
 have hl : c.toList.length = c.size := by simp
 simp only [putAt, List.getElem?_toArray]
 by_cases h1 : j < off
 ·
  rw [if_neg (by omega), List.getElem?_append_left (by simp; omega), List.getElem?_append_left (by simp; omega), List.getElem?_take_of_lt h1]; simp
 ·
  by_cases h2 : j < off + vs.length
  ·
   rw [if_pos (by omega), List.getElem?_append_left (by simp; omega), List.getElem?_append_right (by simp; omega)]
   congr 1; simp; omega
  ·
   rw [if_neg (by omega), List.getElem?_append_right (by simp; omega), List.getElem?_drop]
   rw [← Array.getElem?_toList]
   congr 1; simp; omega
theorem World.putCells_heap (w : World) (blk off : Nat) (vs : List Value) {c : Array Value} {t : TypeId} {fz : Nat × Nat} (h : w.heap[blk]? = some (.cells c t fz)) :
  (World.putCells w blk off vs).heap[blk]? = some (.cells (putAt c off vs) t fz) := by
 simp [World.putCells, Array.getElem?_modify, h]
theorem World.putCells_other (w : World) (blk off : Nat) (vs : List Value) {k : Nat} (h : k ≠ blk) : (World.putCells w blk off vs).heap[k]? = w.heap[k]? := by
 simp only [World.putCells, Array.getElem?_modify]
 rw [if_neg (fun e => h e.symm)]
theorem Unfz.put {c : Array Value} {fz : Nat × Nat} (h : Unfz c fz) (off : Nat) (vs : List Value) (hs : off + vs.length ≤ c.size) : Unfz (putAt c off vs) fz := by
 unfold Unfz; rw [putAt_size _ _ _ hs]; exact h
theorem World.putCells_size (w : World) (blk off : Nat) (vs : List Value) : (World.putCells w blk off vs).heap.size = w.heap.size := by simp [World.putCells]
theorem Fr.putCells (S : Nat → Nat → Prop) (w : World) (blk off : Nat) (vs : List Value) {c : Array Value} {t : TypeId} {fz : Nat × Nat} (h : w.heap[blk]? = some (.cells c t fz))
  (hb : off + vs.length ≤ c.size) (hS : ∀ o, off ≤ o → o < off + vs.length → S blk o) : Fr S w (World.putCells w blk off vs) := by
 refine ⟨rfl, rfl, rfl, by rw [World.putCells_size]; exact Nat.le_refl _, fun k o ho => ?_⟩
 by_cases hk : k = blk
 ·
  subst hk
  rw [World.putCells_heap w k off vs h]
  rw [h] at ho; cases ho
  exact ⟨_, _, rfl, putAt_size _ _ _ hb, .inl rfl, fun j hj => by rw [putAt_getElem? _ _ _ hb, if_neg (fun hh => hj (hS j hh.1 hh.2))]⟩
 ·
  rw [World.putCells_other w blk off vs hk, ho]
  exact FrO.refl _ _
end Go.Sh
namespace Go.Sh
def w64 (n : Int) : Int := IntKind.i64.wrap n
theorem w64_of {n : Int} (h : -9223372036854775808 ≤ n) (k : n < 9223372036854775808) : w64 n = n := by
 unfold w64; rw [IntKind.wrap_i64]; omega
theorem w64_eq (n : Int) : w64 n = (n + 9223372036854775808) % 18446744073709551616 - 9223372036854775808 := IntKind.wrap_i64 n
def shl8 (a : UInt8) (n : Nat) : UInt8 := if n < 8 then a <<< UInt8.ofNat n else 0
def shr8 (a : UInt8) (n : Nat) : UInt8 := if n < 8 then a >>> UInt8.ofNat n else 0
def shl16 (a : UInt16) (n : Nat) : UInt16 := if n < 16 then a <<< UInt16.ofNat n else 0
def shr16 (a : UInt16) (n : Nat) : UInt16 := if n < 16 then a >>> UInt16.ofNat n else 0
def shl32 (a : UInt32) (n : Nat) : UInt32 := if n < 32 then a <<< UInt32.ofNat n else 0
def shr32 (a : UInt32) (n : Nat) : UInt32 := if n < 32 then a >>> UInt32.ofNat n else 0
def shl64 (a : UInt64) (n : Nat) : UInt64 := if n < 64 then a <<< UInt64.ofNat n else 0
def shr64 (a : UInt64) (n : Nat) : UInt64 := if n < 64 then a >>> UInt64.ofNat n else 0
def u8i (n : Int) : UInt8 := UInt8.ofNat (n % 256).toNat
def u16i (n : Int) : UInt16 := UInt16.ofNat (n % 65536).toNat
def u32i (n : Int) : UInt32 := UInt32.ofNat (n % 4294967296).toNat
def u64i (n : Int) : UInt64 := UInt64.ofNat (n % 18446744073709551616).toNat
def cnt : SV → Option Nat
 | .i n => if 0 ≤ n then some n.toNat else none
 | .u64 c => some c.toNat
 | .u32 c => some c.toNat
 | .u8 c => some c.toNat
 | _ => none
def sshl (n : Nat) : SV → Option SV
 | .u8 a => some (.u8 (shl8 a n))
 | .u16 a => some (.u16 (shl16 a n))
 | .u32 a => some (.u32 (shl32 a n))
 | .u64 a => some (.u64 (shl64 a n))
 | .i a => some (.i (w64 (a * 2 ^ min n 64)))
 | _ => none
def sshr (n : Nat) : SV → Option SV
 | .u8 a => some (.u8 (shr8 a n))
 | .u16 a => some (.u16 (shr16 a n))
 | .u32 a => some (.u32 (shr32 a n))
 | .u64 a => some (.u64 (shr64 a n))
 | .i a => some (.i (a.fdiv (2 ^ min n 64)))
 | _ => none
def sarith (op : BinOp) : SV → SV → Option SV
 | .i a, .i c => match op with
  | .add => some (.i (w64 (a + c))) | .sub => some (.i (w64 (a - c))) | .mul => some (.i (w64 (a * c)))
  | .quo => if c = 0 then none else some (.i (w64 (a.tdiv c))) | .rem => if c = 0 then none else some (.i (a.tmod c))
  | .eql => some (.b (a == c)) | .neq => some (.b (a != c)) | .lss => some (.b (decide (a < c))) | .leq => some (.b (decide (a ≤ c)))
  | .gtr => some (.b (decide (a > c))) | .geq => some (.b (decide (a ≥ c))) | _ => none
 | .u8 a, .u8 c => match op with
  | .add => some (.u8 (a + c)) | .sub => some (.u8 (a - c)) | .mul => some (.u8 (a * c))
  | .quo => if c = 0 then none else some (.u8 (a / c)) | .rem => if c = 0 then none else some (.u8 (a % c))
  | .and => some (.u8 (a &&& c)) | .or => some (.u8 (a ||| c)) | .xor => some (.u8 (a ^^^ c))
  | .eql => some (.b (a == c)) | .neq => some (.b (a != c)) | .lss => some (.b (decide (a < c))) | .leq => some (.b (decide (a ≤ c)))
  | .gtr => some (.b (decide (a > c))) | .geq => some (.b (decide (a ≥ c))) | _ => none
 | .u16 a, .u16 c => match op with
  | .add => some (.u16 (a + c)) | .sub => some (.u16 (a - c)) | .mul => some (.u16 (a * c))
  | .quo => if c = 0 then none else some (.u16 (a / c)) | .rem => if c = 0 then none else some (.u16 (a % c))
  | .and => some (.u16 (a &&& c)) | .or => some (.u16 (a ||| c)) | .xor => some (.u16 (a ^^^ c))
  | .eql => some (.b (a == c)) | .neq => some (.b (a != c)) | .lss => some (.b (decide (a < c))) | .leq => some (.b (decide (a ≤ c)))
  | .gtr => some (.b (decide (a > c))) | .geq => some (.b (decide (a ≥ c))) | _ => none
 | .u32 a, .u32 c => match op with
  | .add => some (.u32 (a + c)) | .sub => some (.u32 (a - c)) | .mul => some (.u32 (a * c))
  | .quo => if c = 0 then none else some (.u32 (a / c)) | .rem => if c = 0 then none else some (.u32 (a % c))
  | .and => some (.u32 (a &&& c)) | .or => some (.u32 (a ||| c)) | .xor => some (.u32 (a ^^^ c))
  | .eql => some (.b (a == c)) | .neq => some (.b (a != c)) | .lss => some (.b (decide (a < c))) | .leq => some (.b (decide (a ≤ c)))
  | .gtr => some (.b (decide (a > c))) | .geq => some (.b (decide (a ≥ c))) | _ => none
 | .u64 a, .u64 c => match op with
  | .add => some (.u64 (a + c)) | .sub => some (.u64 (a - c)) | .mul => some (.u64 (a * c))
  | .quo => if c = 0 then none else some (.u64 (a / c)) | .rem => if c = 0 then none else some (.u64 (a % c))
  | .and => some (.u64 (a &&& c)) | .or => some (.u64 (a ||| c)) | .xor => some (.u64 (a ^^^ c))
  | .eql => some (.b (a == c)) | .neq => some (.b (a != c)) | .lss => some (.b (decide (a < c))) | .leq => some (.b (decide (a ≤ c)))
  | .gtr => some (.b (decide (a > c))) | .geq => some (.b (decide (a ≥ c))) | _ => none
 | .s a, .s c => match op with
  | .eql => some (.b (a == c)) | .neq => some (.b (!(a == c)))
  | .add => if a.length + c.length < 9223372036854775808 then some (.s (a ++ c)) else none
  | _ => none
 | _, _ => none
def snum (op : BinOp) (x y : SV) : Option SV :=
 match op with
 | .shl => (cnt y).bind fun n => sshl n x
 | .shr => (cnt y).bind fun n => sshr n x
 | _ => sarith op x y
section
variable {P : Program} {ρ : Ren} {w : World}
theorem cnt_spec {y : SV} {n : Nat} {v : Value} (h : cnt y = some n) (hy : Rel ρ y v) : ∃ k : IntKind, v = .int k (n : Int) := by
 cases y <;> simp only [cnt, Rel] at h hy <;> try (cases h; done)
 ·
  rename_i m
  split at h
  ·
   cases h; exact ⟨_, by rw [hy]; congr 1; omega⟩
  ·
   cases h
 all_goals (cases h; exact ⟨_, hy⟩)
set_option maxRecDepth 4000 in
theorem shl8_toNat (a : UInt8) (n : Nat) : (((shl8 a n).toNat : Nat) : Int) = IntKind.u8.wrap ((a.toNat : Int) * 2 ^ min n 8) := by
 rw [IntKind.wrap_u8]
 unfold shl8
 have h2 : (2 : Int) ^ 8 = 256 := by decide
 split
 ·
  rename_i h
  rw [Nat.min_eq_left (by omega), UInt8.toNat_shiftLeft, UInt8.toNat_ofNat', Nat.shiftLeft_eq]
  rw [Nat.mod_eq_of_lt (by omega : n % 2 ^ 8 < 8), Nat.mod_eq_of_lt (by omega : n < 2 ^ 8)]
  generalize hq : a.toNat * 2 ^ n = q
  have e : (a.toNat : Int) * 2 ^ n = (q : Int) := by rw [← hq]; simp only [Int.natCast_mul, Int.natCast_pow]; rfl
  rw [e]; omega
 ·
  rename_i h
  rw [Nat.min_eq_right (by omega), h2]
  show (0 : Int) = _
  omega
set_option maxRecDepth 4000 in
theorem shl16_toNat (a : UInt16) (n : Nat) : (((shl16 a n).toNat : Nat) : Int) = IntKind.u16.wrap ((a.toNat : Int) * 2 ^ min n 16) := by
 rw [IntKind.wrap_u16]
 unfold shl16
 have h2 : (2 : Int) ^ 16 = 65536 := by decide
 split
 ·
  rename_i h
  rw [Nat.min_eq_left (by omega), UInt16.toNat_shiftLeft, UInt16.toNat_ofNat', Nat.shiftLeft_eq]
  rw [Nat.mod_eq_of_lt (by omega : n % 2 ^ 16 < 16), Nat.mod_eq_of_lt (by omega : n < 2 ^ 16)]
  generalize hq : a.toNat * 2 ^ n = q
  have e : (a.toNat : Int) * 2 ^ n = (q : Int) := by rw [← hq]; simp only [Int.natCast_mul, Int.natCast_pow]; rfl
  rw [e]; omega
 ·
  rename_i h
  rw [Nat.min_eq_right (by omega), h2]
  show (0 : Int) = _
  omega
set_option maxRecDepth 4000 in
theorem shl32_toNat (a : UInt32) (n : Nat) : (((shl32 a n).toNat : Nat) : Int) = IntKind.u32.wrap ((a.toNat : Int) * 2 ^ min n 32) := by
 rw [IntKind.wrap_u32]
 unfold shl32
 have h2 : (2 : Int) ^ 32 = 4294967296 := by decide
 split
 ·
  rename_i h
  rw [Nat.min_eq_left (by omega), UInt32.toNat_shiftLeft, UInt32.toNat_ofNat', Nat.shiftLeft_eq]
  rw [Nat.mod_eq_of_lt (by omega : n % 2 ^ 32 < 32), Nat.mod_eq_of_lt (by omega : n < 2 ^ 32)]
  generalize hq : a.toNat * 2 ^ n = q
  have e : (a.toNat : Int) * 2 ^ n = (q : Int) := by rw [← hq]; simp only [Int.natCast_mul, Int.natCast_pow]; rfl
  rw [e]; omega
 ·
  rename_i h
  rw [Nat.min_eq_right (by omega), h2]
  show (0 : Int) = _
  omega
set_option maxRecDepth 4000 in
theorem shl64_toNat (a : UInt64) (n : Nat) : (((shl64 a n).toNat : Nat) : Int) = IntKind.u64.wrap ((a.toNat : Int) * 2 ^ min n 64) := by
 rw [IntKind.wrap_u64]
 unfold shl64
 have h2 : (2 : Int) ^ 64 = 18446744073709551616 := by decide
 split
 ·
  rename_i h
  rw [Nat.min_eq_left (by omega), UInt64.toNat_shiftLeft, UInt64.toNat_ofNat', Nat.shiftLeft_eq]
  rw [Nat.mod_eq_of_lt (by omega : n % 2 ^ 64 < 64), Nat.mod_eq_of_lt (by omega : n < 2 ^ 64)]
  generalize hq : a.toNat * 2 ^ n = q
  have e : (a.toNat : Int) * 2 ^ n = (q : Int) := by rw [← hq]; simp only [Int.natCast_mul, Int.natCast_pow]; rfl
  rw [e]; omega
 ·
  rename_i h
  rw [Nat.min_eq_right (by omega), h2]
  show (0 : Int) = _
  omega
theorem fdiv_nat (a n : Nat) : ((a : Int)).fdiv (2 ^ n) = ((a / 2 ^ n : Nat) : Int) := by
 rw [Int.fdiv_eq_ediv_of_nonneg _ (by exact Int.le_of_lt (Int.pow_pos (by decide)))]
 push_cast; rfl
theorem shr8_toNat (a : UInt8) (n : Nat) : (((shr8 a n).toNat : Nat) : Int) = ((a.toNat : Int)).fdiv (2 ^ min n 8) := by
 rw [fdiv_nat]
 unfold shr8
 have ha := a.toNat_lt
 split
 ·
  rename_i h
  rw [Nat.min_eq_left (by omega), UInt8.toNat_shiftRight, UInt8.toNat_ofNat', Nat.shiftRight_eq_div_pow]
  rw [Nat.mod_eq_of_lt (by omega : n % 2 ^ 8 < 8), Nat.mod_eq_of_lt (by omega : n < 2 ^ 8)]
 ·
  rename_i h
  rw [Nat.min_eq_right (by omega), Nat.div_eq_of_lt ha]; rfl
theorem shr16_toNat (a : UInt16) (n : Nat) : (((shr16 a n).toNat : Nat) : Int) = ((a.toNat : Int)).fdiv (2 ^ min n 16) := by
 rw [fdiv_nat]
 unfold shr16
 have ha := a.toNat_lt
 split
 ·
  rename_i h
  rw [Nat.min_eq_left (by omega), UInt16.toNat_shiftRight, UInt16.toNat_ofNat', Nat.shiftRight_eq_div_pow]
  rw [Nat.mod_eq_of_lt (by omega : n % 2 ^ 16 < 16), Nat.mod_eq_of_lt (by omega : n < 2 ^ 16)]
 ·
  rename_i h
  rw [Nat.min_eq_right (by omega), Nat.div_eq_of_lt ha]; rfl
theorem shr32_toNat (a : UInt32) (n : Nat) : (((shr32 a n).toNat : Nat) : Int) = ((a.toNat : Int)).fdiv (2 ^ min n 32) := by
 rw [fdiv_nat]
 unfold shr32
 have ha := a.toNat_lt
 split
 ·
  rename_i h
  rw [Nat.min_eq_left (by omega), UInt32.toNat_shiftRight, UInt32.toNat_ofNat', Nat.shiftRight_eq_div_pow]
  rw [Nat.mod_eq_of_lt (by omega : n % 2 ^ 32 < 32), Nat.mod_eq_of_lt (by omega : n < 2 ^ 32)]
 ·
  rename_i h
  rw [Nat.min_eq_right (by omega), Nat.div_eq_of_lt ha]; rfl
theorem shr64_toNat (a : UInt64) (n : Nat) : (((shr64 a n).toNat : Nat) : Int) = ((a.toNat : Int)).fdiv (2 ^ min n 64) := by
 rw [fdiv_nat]
 unfold shr64
 have ha := a.toNat_lt
 split
 ·
  rename_i h
  rw [Nat.min_eq_left (by omega), UInt64.toNat_shiftRight, UInt64.toNat_ofNat', Nat.shiftRight_eq_div_pow]
  rw [Nat.mod_eq_of_lt (by omega : n % 2 ^ 64 < 64), Nat.mod_eq_of_lt (by omega : n < 2 ^ 64)]
 ·
  rename_i h
  rw [Nat.min_eq_right (by omega), Nat.div_eq_of_lt ha]; rfl
theorem run_shl {k yk : IntKind} (a : Int) (n : Nat) (t : TypeId) : (binOp .shl t (.int k a) (.int yk (n : Int))).run P w = .ok (.int k (k.wrap (a * 2 ^ min n k.bits))) w := by
 have h : ¬ ((n : Int) < 0) := by omega
 simp [binOp, Op.shift, h]
theorem run_shr {k yk : IntKind} (a : Int) (n : Nat) (t : TypeId) : (binOp .shr t (.int k a) (.int yk (n : Int))).run P w = .ok (.int k (a.fdiv (2 ^ min n k.bits))) w := by
 have h : ¬ ((n : Int) < 0) := by omega
 simp [binOp, Op.shift, h]
theorem sshl_ok {n : Nat} {x z : SV} {v : Value} {yk : IntKind} (t : TypeId) (h : sshl n x = some z) (hx : Rel ρ x v) :
  ∃ u, (binOp .shl t v (.int yk (n : Int))).run P w = .ok u w ∧ Rel ρ z u := by
 cases x <;> simp only [sshl, Rel] at h hx <;> try (cases h; done)
 all_goals (cases h; subst hx; refine ⟨_, run_shl _ _ _, ?_⟩; simp only [Rel])
 ·
  rfl
 ·
  rw [shl8_toNat]; rfl
 ·
  rw [shl16_toNat]; rfl
 ·
  rw [shl32_toNat]; rfl
 ·
  rw [shl64_toNat]; rfl
theorem sshr_ok {n : Nat} {x z : SV} {v : Value} {yk : IntKind} (t : TypeId) (h : sshr n x = some z) (hx : Rel ρ x v) :
  ∃ u, (binOp .shr t v (.int yk (n : Int))).run P w = .ok u w ∧ Rel ρ z u := by
 cases x <;> simp only [sshr, Rel] at h hx <;> try (cases h; done)
 all_goals (cases h; subst hx; refine ⟨_, run_shr _ _ _, ?_⟩; simp only [Rel])
 ·
  rfl
 ·
  rw [shr8_toNat]; rfl
 ·
  rw [shr16_toNat]; rfl
 ·
  rw [shr32_toNat]; rfl
 ·
  rw [shr64_toNat]; rfl
theorem tmod_nat (a b : Nat) : (a : Int).tmod b = ((a % b : Nat) : Int) := rfl
theorem tdiv_nat (a b : Nat) : (a : Int).tdiv b = ((a / b : Nat) : Int) := rfl
theorem byteArray_toList (l : List UInt8) : (⟨⟨l⟩⟩ : ByteArray).toList = l := by
 rw [ByteArray.toList_eq]
def arithOf (op : BinOp) (k : IntKind) (a c : Int) : Sem Value :=
 match op with
 | .add | .sub | .mul => Op.intArith op k a c
 | .quo | .rem => Op.intDiv op k a c
 | .and | .or | .xor | .andNot => Op.intBits op k a c
 | _ => Op.intCmp op a c
theorem run_arith {op : BinOp} {k : IntKind} (a c : Int) (t : TypeId) (h : op ≠ .shl ∧ op ≠ .shr) : (binOp op t (.int k a) (.int k c)).run P w = (arithOf op k a c).run P w := by
 cases op <;> first | (exact absurd rfl h.1) | (exact absurd rfl h.2) | (simp [binOp, arithOf])
theorem i_ok {op : BinOp} {a c : Int} {z : SV} (t : TypeId) (h : sarith op (.i a) (.i c) = some z) :
  ∃ r, (binOp op t (.int .i64 a) (.int .i64 c)).run P w = .ok r w ∧ Rel ρ z r := by
 cases op <;> simp only [sarith] at h <;> (try (cases h; done)) <;> rw [run_arith a c t (by decide)]
 ·
  cases h; exact ⟨_, rfl, by simp only [Rel, w64]⟩
 ·
  cases h; exact ⟨_, rfl, by simp only [Rel, w64]⟩
 ·
  cases h; exact ⟨_, rfl, by simp only [Rel, w64]⟩
 ·
  by_cases hc : c = 0
  ·
   rw [if_pos hc] at h; cases h
  ·
   rw [if_neg hc] at h; cases h
   exact ⟨_, by simp only [arithOf, Op.intDiv, if_neg hc]; rfl, by simp only [Rel, w64]⟩
 ·
  by_cases hc : c = 0
  ·
   rw [if_pos hc] at h; cases h
  ·
   rw [if_neg hc] at h; cases h
   exact ⟨_, by simp only [arithOf, Op.intDiv, if_neg hc]; rfl, by simp only [Rel]⟩
 ·
  cases h; exact ⟨_, rfl, by simp only [Rel]⟩
 ·
  cases h; exact ⟨_, rfl, by simp only [Rel]⟩
 ·
  cases h; exact ⟨_, rfl, by simp only [Rel]⟩
 ·
  cases h; exact ⟨_, rfl, by simp only [Rel]⟩
 ·
  cases h; exact ⟨_, rfl, by simp only [Rel]⟩
 ·
  cases h; exact ⟨_, rfl, by simp only [Rel]⟩
theorem u8_bits (x : BitVec 8) : IntKind.u8.wrap (x.toNat : Int) = (x.toNat : Int) := by
 rw [IntKind.wrap_u8]; have := x.isLt; omega
theorem u8_ofInt (a : UInt8) : BitVec.ofInt IntKind.u8.bits (a.toNat : Int) = a.toBitVec := by
 show BitVec.ofInt 8 (a.toNat : Int) = _
 rw [BitVec.ofInt_natCast]; simp
theorem u8_ok {op : BinOp} {a c : UInt8} {z : SV} (t : TypeId) (h : sarith op (.u8 a) (.u8 c) = some z) :
  ∃ r, (binOp op t (.int .u8 (a.toNat : Int)) (.int .u8 (c.toNat : Int))).run P w = .ok r w ∧ Rel ρ z r := by
 have ha := a.toNat_lt
 have hc := c.toNat_lt
 cases op <;> simp only [sarith] at h <;> (try (cases h; done)) <;> rw [run_arith _ _ t (by decide)]
 ·
  cases h; refine ⟨_, rfl, ?_⟩; simp only [Rel]; rw [IntKind.wrap_u8, UInt8.toNat_add]; congr 1
 ·
  cases h; refine ⟨_, rfl, ?_⟩; simp only [Rel]; rw [IntKind.wrap_u8, UInt8.toNat_sub]; congr 1; omega
 ·
  cases h; refine ⟨_, rfl, ?_⟩; simp only [Rel]; rw [IntKind.wrap_u8, UInt8.toNat_mul]; congr 1
 ·
  by_cases h0 : c = 0
  ·
   rw [if_pos h0] at h; cases h
  ·
   rw [if_neg h0] at h; cases h
   have hn : ¬ ((c.toNat : Int) = 0) := fun e => h0 (UInt8.toNat_inj.1 (by simpa using e))
   refine ⟨_, by simp only [arithOf, Op.intDiv, if_neg hn]; rfl, ?_⟩
   simp only [Rel]; rw [tdiv_nat, IntKind.wrap_u8, UInt8.toNat_div]; congr 1
   have : a.toNat / c.toNat ≤ a.toNat := Nat.div_le_self _ _
   generalize a.toNat / c.toNat = q at this ⊢
   omega
 ·
  by_cases h0 : c = 0
  ·
   rw [if_pos h0] at h; cases h
  ·
   rw [if_neg h0] at h; cases h
   have hn : ¬ ((c.toNat : Int) = 0) := fun e => h0 (UInt8.toNat_inj.1 (by simpa using e))
   refine ⟨_, by simp only [arithOf, Op.intDiv, if_neg hn]; rfl, ?_⟩
   simp only [Rel]; rw [tmod_nat, UInt8.toNat_mod]
 ·
  cases h; refine ⟨_, rfl, ?_⟩; simp only [Rel, u8_ofInt]; exact congrArg _ (u8_bits _)
 ·
  cases h; refine ⟨_, rfl, ?_⟩; simp only [Rel, u8_ofInt]; exact congrArg _ (u8_bits _)
 ·
  cases h; refine ⟨_, rfl, ?_⟩; simp only [Rel, u8_ofInt]; exact congrArg _ (u8_bits _)
 ·
  cases h; refine ⟨_, rfl, ?_⟩; simp only [Rel]; congr 1; rw [Bool.eq_iff_iff]; simp [← UInt8.toNat_inj]; omega
 ·
  cases h; refine ⟨_, rfl, ?_⟩; simp only [Rel]; congr 1; rw [Bool.eq_iff_iff]; simp [← UInt8.toNat_inj]; omega
 ·
  cases h; refine ⟨_, rfl, ?_⟩; simp only [Rel]; congr 1; rw [Bool.eq_iff_iff]; simp [UInt8.lt_iff_toNat_lt]
 ·
  cases h; refine ⟨_, rfl, ?_⟩; simp only [Rel]; congr 1; rw [Bool.eq_iff_iff]; simp [UInt8.le_iff_toNat_le]
 ·
  cases h; refine ⟨_, rfl, ?_⟩; simp only [Rel]; congr 1; rw [Bool.eq_iff_iff]; simp [UInt8.lt_iff_toNat_lt]
 ·
  cases h; refine ⟨_, rfl, ?_⟩; simp only [Rel]; congr 1; rw [Bool.eq_iff_iff]; simp [UInt8.le_iff_toNat_le]
theorem u16_bits (x : BitVec 16) : IntKind.u16.wrap (x.toNat : Int) = (x.toNat : Int) := by
 rw [IntKind.wrap_u16]; have := x.isLt; omega
theorem u16_ofInt (a : UInt16) : BitVec.ofInt IntKind.u16.bits (a.toNat : Int) = a.toBitVec := by
 show BitVec.ofInt 16 (a.toNat : Int) = _
 rw [BitVec.ofInt_natCast]; simp
theorem u16_ok {op : BinOp} {a c : UInt16} {z : SV} (t : TypeId) (h : sarith op (.u16 a) (.u16 c) = some z) :
  ∃ r, (binOp op t (.int .u16 (a.toNat : Int)) (.int .u16 (c.toNat : Int))).run P w = .ok r w ∧ Rel ρ z r := by
 have ha := a.toNat_lt
 have hc := c.toNat_lt
 cases op <;> simp only [sarith] at h <;> (try (cases h; done)) <;> rw [run_arith _ _ t (by decide)]
 ·
  cases h; refine ⟨_, rfl, ?_⟩; simp only [Rel]; rw [IntKind.wrap_u16, UInt16.toNat_add]; congr 1
 ·
  cases h; refine ⟨_, rfl, ?_⟩; simp only [Rel]; rw [IntKind.wrap_u16, UInt16.toNat_sub]; congr 1; omega
 ·
  cases h; refine ⟨_, rfl, ?_⟩; simp only [Rel]; rw [IntKind.wrap_u16, UInt16.toNat_mul]; congr 1
 ·
  by_cases h0 : c = 0
  ·
   rw [if_pos h0] at h; cases h
  ·
   rw [if_neg h0] at h; cases h
   have hn : ¬ ((c.toNat : Int) = 0) := fun e => h0 (UInt16.toNat_inj.1 (by simpa using e))
   refine ⟨_, by simp only [arithOf, Op.intDiv, if_neg hn]; rfl, ?_⟩
   simp only [Rel]; rw [tdiv_nat, IntKind.wrap_u16, UInt16.toNat_div]; congr 1
   have : a.toNat / c.toNat ≤ a.toNat := Nat.div_le_self _ _
   generalize a.toNat / c.toNat = q at this ⊢
   omega
 ·
  by_cases h0 : c = 0
  ·
   rw [if_pos h0] at h; cases h
  ·
   rw [if_neg h0] at h; cases h
   have hn : ¬ ((c.toNat : Int) = 0) := fun e => h0 (UInt16.toNat_inj.1 (by simpa using e))
   refine ⟨_, by simp only [arithOf, Op.intDiv, if_neg hn]; rfl, ?_⟩
   simp only [Rel]; rw [tmod_nat, UInt16.toNat_mod]
 ·
  cases h; refine ⟨_, rfl, ?_⟩; simp only [Rel, u16_ofInt]; exact congrArg _ (u16_bits _)
 ·
  cases h; refine ⟨_, rfl, ?_⟩; simp only [Rel, u16_ofInt]; exact congrArg _ (u16_bits _)
 ·
  cases h; refine ⟨_, rfl, ?_⟩; simp only [Rel, u16_ofInt]; exact congrArg _ (u16_bits _)
 ·
  cases h; refine ⟨_, rfl, ?_⟩; simp only [Rel]; congr 1; rw [Bool.eq_iff_iff]; simp [← UInt16.toNat_inj]; omega
 ·
  cases h; refine ⟨_, rfl, ?_⟩; simp only [Rel]; congr 1; rw [Bool.eq_iff_iff]; simp [← UInt16.toNat_inj]; omega
 ·
  cases h; refine ⟨_, rfl, ?_⟩; simp only [Rel]; congr 1; rw [Bool.eq_iff_iff]; simp [UInt16.lt_iff_toNat_lt]
 ·
  cases h; refine ⟨_, rfl, ?_⟩; simp only [Rel]; congr 1; rw [Bool.eq_iff_iff]; simp [UInt16.le_iff_toNat_le]
 ·
  cases h; refine ⟨_, rfl, ?_⟩; simp only [Rel]; congr 1; rw [Bool.eq_iff_iff]; simp [UInt16.lt_iff_toNat_lt]
 ·
  cases h; refine ⟨_, rfl, ?_⟩; simp only [Rel]; congr 1; rw [Bool.eq_iff_iff]; simp [UInt16.le_iff_toNat_le]
theorem u32_bits (x : BitVec 32) : IntKind.u32.wrap (x.toNat : Int) = (x.toNat : Int) := by
 rw [IntKind.wrap_u32]; have := x.isLt; omega
theorem u32_ofInt (a : UInt32) : BitVec.ofInt IntKind.u32.bits (a.toNat : Int) = a.toBitVec := by
 show BitVec.ofInt 32 (a.toNat : Int) = _
 rw [BitVec.ofInt_natCast]; simp
theorem u32_ok {op : BinOp} {a c : UInt32} {z : SV} (t : TypeId) (h : sarith op (.u32 a) (.u32 c) = some z) :
  ∃ r, (binOp op t (.int .u32 (a.toNat : Int)) (.int .u32 (c.toNat : Int))).run P w = .ok r w ∧ Rel ρ z r := by
 have ha := a.toNat_lt
 have hc := c.toNat_lt
 cases op <;> simp only [sarith] at h <;> (try (cases h; done)) <;> rw [run_arith _ _ t (by decide)]
 ·
  cases h; refine ⟨_, rfl, ?_⟩; simp only [Rel]; rw [IntKind.wrap_u32, UInt32.toNat_add]; congr 1
 ·
  cases h; refine ⟨_, rfl, ?_⟩; simp only [Rel]; rw [IntKind.wrap_u32, UInt32.toNat_sub]; congr 1; omega
 ·
  cases h; refine ⟨_, rfl, ?_⟩; simp only [Rel]; rw [IntKind.wrap_u32, UInt32.toNat_mul]; congr 1
 ·
  by_cases h0 : c = 0
  ·
   rw [if_pos h0] at h; cases h
  ·
   rw [if_neg h0] at h; cases h
   have hn : ¬ ((c.toNat : Int) = 0) := fun e => h0 (UInt32.toNat_inj.1 (by simpa using e))
   refine ⟨_, by simp only [arithOf, Op.intDiv, if_neg hn]; rfl, ?_⟩
   simp only [Rel]; rw [tdiv_nat, IntKind.wrap_u32, UInt32.toNat_div]; congr 1
   have : a.toNat / c.toNat ≤ a.toNat := Nat.div_le_self _ _
   generalize a.toNat / c.toNat = q at this ⊢
   omega
 ·
  by_cases h0 : c = 0
  ·
   rw [if_pos h0] at h; cases h
  ·
   rw [if_neg h0] at h; cases h
   have hn : ¬ ((c.toNat : Int) = 0) := fun e => h0 (UInt32.toNat_inj.1 (by simpa using e))
   refine ⟨_, by simp only [arithOf, Op.intDiv, if_neg hn]; rfl, ?_⟩
   simp only [Rel]; rw [tmod_nat, UInt32.toNat_mod]
 ·
  cases h; refine ⟨_, rfl, ?_⟩; simp only [Rel, u32_ofInt]; exact congrArg _ (u32_bits _)
 ·
  cases h; refine ⟨_, rfl, ?_⟩; simp only [Rel, u32_ofInt]; exact congrArg _ (u32_bits _)
 ·
  cases h; refine ⟨_, rfl, ?_⟩; simp only [Rel, u32_ofInt]; exact congrArg _ (u32_bits _)
 ·
  cases h; refine ⟨_, rfl, ?_⟩; simp only [Rel]; congr 1; rw [Bool.eq_iff_iff]; simp [← UInt32.toNat_inj]; omega
 ·
  cases h; refine ⟨_, rfl, ?_⟩; simp only [Rel]; congr 1; rw [Bool.eq_iff_iff]; simp [← UInt32.toNat_inj]; omega
 ·
  cases h; refine ⟨_, rfl, ?_⟩; simp only [Rel]; congr 1; rw [Bool.eq_iff_iff]; simp [UInt32.lt_iff_toNat_lt]
 ·
  cases h; refine ⟨_, rfl, ?_⟩; simp only [Rel]; congr 1; rw [Bool.eq_iff_iff]; simp [UInt32.le_iff_toNat_le]
 ·
  cases h; refine ⟨_, rfl, ?_⟩; simp only [Rel]; congr 1; rw [Bool.eq_iff_iff]; simp [UInt32.lt_iff_toNat_lt]
 ·
  cases h; refine ⟨_, rfl, ?_⟩; simp only [Rel]; congr 1; rw [Bool.eq_iff_iff]; simp [UInt32.le_iff_toNat_le]
theorem u64_bits (x : BitVec 64) : IntKind.u64.wrap (x.toNat : Int) = (x.toNat : Int) := by
 rw [IntKind.wrap_u64]; have := x.isLt; omega
theorem u64_ofInt (a : UInt64) : BitVec.ofInt IntKind.u64.bits (a.toNat : Int) = a.toBitVec := by
 show BitVec.ofInt 64 (a.toNat : Int) = _
 rw [BitVec.ofInt_natCast]; simp
theorem u64_ok {op : BinOp} {a c : UInt64} {z : SV} (t : TypeId) (h : sarith op (.u64 a) (.u64 c) = some z) :
  ∃ r, (binOp op t (.int .u64 (a.toNat : Int)) (.int .u64 (c.toNat : Int))).run P w = .ok r w ∧ Rel ρ z r := by
 have ha := a.toNat_lt
 have hc := c.toNat_lt
 cases op <;> simp only [sarith] at h <;> (try (cases h; done)) <;> rw [run_arith _ _ t (by decide)]
 ·
  cases h; refine ⟨_, rfl, ?_⟩; simp only [Rel]; rw [IntKind.wrap_u64, UInt64.toNat_add]; congr 1
 ·
  cases h; refine ⟨_, rfl, ?_⟩; simp only [Rel]; rw [IntKind.wrap_u64, UInt64.toNat_sub]; congr 1; omega
 ·
  cases h; refine ⟨_, rfl, ?_⟩; simp only [Rel]; rw [IntKind.wrap_u64, UInt64.toNat_mul]; congr 1
 ·
  by_cases h0 : c = 0
  ·
   rw [if_pos h0] at h; cases h
  ·
   rw [if_neg h0] at h; cases h
   have hn : ¬ ((c.toNat : Int) = 0) := fun e => h0 (UInt64.toNat_inj.1 (by simpa using e))
   refine ⟨_, by simp only [arithOf, Op.intDiv, if_neg hn]; rfl, ?_⟩
   simp only [Rel]; rw [tdiv_nat, IntKind.wrap_u64, UInt64.toNat_div]; congr 1
   have : a.toNat / c.toNat ≤ a.toNat := Nat.div_le_self _ _
   generalize a.toNat / c.toNat = q at this ⊢
   omega
 ·
  by_cases h0 : c = 0
  ·
   rw [if_pos h0] at h; cases h
  ·
   rw [if_neg h0] at h; cases h
   have hn : ¬ ((c.toNat : Int) = 0) := fun e => h0 (UInt64.toNat_inj.1 (by simpa using e))
   refine ⟨_, by simp only [arithOf, Op.intDiv, if_neg hn]; rfl, ?_⟩
   simp only [Rel]; rw [tmod_nat, UInt64.toNat_mod]
 ·
  cases h; refine ⟨_, rfl, ?_⟩; simp only [Rel, u64_ofInt]; exact congrArg _ (u64_bits _)
 ·
  cases h; refine ⟨_, rfl, ?_⟩; simp only [Rel, u64_ofInt]; exact congrArg _ (u64_bits _)
 ·
  cases h; refine ⟨_, rfl, ?_⟩; simp only [Rel, u64_ofInt]; exact congrArg _ (u64_bits _)
 ·
  cases h; refine ⟨_, rfl, ?_⟩; simp only [Rel]; congr 1; rw [Bool.eq_iff_iff]; simp [← UInt64.toNat_inj]; omega
 ·
  cases h; refine ⟨_, rfl, ?_⟩; simp only [Rel]; congr 1; rw [Bool.eq_iff_iff]; simp [← UInt64.toNat_inj]; omega
 ·
  cases h; refine ⟨_, rfl, ?_⟩; simp only [Rel]; congr 1; rw [Bool.eq_iff_iff]; simp [UInt64.lt_iff_toNat_lt]
 ·
  cases h; refine ⟨_, rfl, ?_⟩; simp only [Rel]; congr 1; rw [Bool.eq_iff_iff]; simp [UInt64.le_iff_toNat_le]
 ·
  cases h; refine ⟨_, rfl, ?_⟩; simp only [Rel]; congr 1; rw [Bool.eq_iff_iff]; simp [UInt64.lt_iff_toNat_lt]
 ·
  cases h; refine ⟨_, rfl, ?_⟩; simp only [Rel]; congr 1; rw [Bool.eq_iff_iff]; simp [UInt64.le_iff_toNat_le]
theorem s_ok {op : BinOp} {a c : List UInt8} {z : SV} (t : TypeId) (h : sarith op (.s a) (.s c) = some z) :
  ∃ r, (binOp op t (.string ⟨⟨a⟩⟩) (.string ⟨⟨c⟩⟩)).run P w = .ok r w ∧ Rel ρ z r := by
 cases op <;> simp only [sarith] at h <;> (try (cases h; done))
 ·
  split at h
  ·
   rename_i hl
   cases h
   refine ⟨.string ⟨⟨a ++ c⟩⟩, ?_, by simp only [Rel]⟩
   have e : (⟨⟨a⟩⟩ ++ ⟨⟨c⟩⟩ : ByteArray) = ⟨⟨a ++ c⟩⟩ := by
    apply WideShapes.bytes_inj; simp
   have h1 : (⟨⟨a⟩⟩ : ByteArray).size = a.length := rfl
   have h2 : (⟨⟨c⟩⟩ : ByteArray).size = c.length := rfl
   have h3 : IntKind.i64.max = 9223372036854775807 := by decide
   simp only [binOp, Op.stringOp, h1, h2, h3, e]
   rw [if_neg (by omega)]
   rfl
  ·
   cases h
 ·
  cases h; refine ⟨_, rfl, ?_⟩; simp only [Rel, byteArray_toList]
 ·
  cases h; refine ⟨_, rfl, ?_⟩; simp only [Rel, byteArray_toList]
theorem sarith_ok {op : BinOp} {x y z : SV} {v u : Value} (t : TypeId) (h : sarith op x y = some z) (hx : Rel ρ x v) (hy : Rel ρ y u) :
  ∃ r, (binOp op t v u).run P w = .ok r w ∧ Rel ρ z r := by
 cases x <;> cases y <;> (try (simp only [sarith] at h; cases h; done)) <;> simp only [Rel] at hx hy <;> subst hx <;> subst hy <;>
  first | exact i_ok t h | exact u8_ok t h | exact u16_ok t h | exact u32_ok t h | exact u64_ok t h | exact s_ok t h
theorem snum_ok {op : BinOp} {x y z : SV} {v u : Value} (t : TypeId) (h : snum op x y = some z) (hx : Rel ρ x v) (hy : Rel ρ y u) :
  ∃ r, (binOp op t v u).run P w = .ok r w ∧ Rel ρ z r := by
 cases op <;> simp only [snum] at h <;> (try exact sarith_ok t h hx hy)
 ·
  obtain ⟨n, hn, hs⟩ := Option.bind_eq_some_iff.1 h
  obtain ⟨k, rfl⟩ := cnt_spec hn hy
  exact sshl_ok t hs hx
 ·
  obtain ⟨n, hn, hs⟩ := Option.bind_eq_some_iff.1 h
  obtain ⟨k, rfl⟩ := cnt_spec hn hy
  exact sshr_ok t hs hx
def sun (op : UnOp) : SV → Option SV
 | .b x => match op with | .not => some (.b (!x)) | _ => none
 | .i n => match op with | .neg => some (.i (w64 (0 - n))) | _ => none
 | .u8 n => match op with | .neg => some (.u8 (0 - n)) | .xor => some (.u8 (~~~ n)) | _ => none
 | .u32 n => match op with | .neg => some (.u32 (0 - n)) | .xor => some (.u32 (~~~ n)) | _ => none
 | .u64 n => match op with | .neg => some (.u64 (0 - n)) | .xor => some (.u64 (~~~ n)) | _ => none
 | _ => none
theorem u8_not (n : UInt8) : (Op.intBits .xor .u8 IntKind.u8.max (n.toNat : Int)).run P w = .ok (.int .u8 ((~~~ n).toNat : Int)) w := by
 have e : BitVec.ofInt IntKind.u8.bits IntKind.u8.max = BitVec.allOnes 8 := by
  show BitVec.ofInt 8 _ = _
  decide
 simp only [Op.intBits, u8_ofInt, e]
 show Result.ok _ w = _
 congr 2
 have e2 : (BitVec.allOnes 8 ^^^ n.toBitVec) = ~~~ n.toBitVec := BitVec.allOnes_xor
 exact (congrArg (fun x : BitVec 8 => IntKind.u8.wrap (x.toNat : Int)) e2).trans (u8_bits _)
theorem u32_not (n : UInt32) : (Op.intBits .xor .u32 IntKind.u32.max (n.toNat : Int)).run P w = .ok (.int .u32 ((~~~ n).toNat : Int)) w := by
 have e : BitVec.ofInt IntKind.u32.bits IntKind.u32.max = BitVec.allOnes 32 := by
  show BitVec.ofInt 32 _ = _
  decide
 simp only [Op.intBits, u32_ofInt, e]
 show Result.ok _ w = _
 congr 2
 have e2 : (BitVec.allOnes 32 ^^^ n.toBitVec) = ~~~ n.toBitVec := BitVec.allOnes_xor
 exact (congrArg (fun x : BitVec 32 => IntKind.u32.wrap (x.toNat : Int)) e2).trans (u32_bits _)
theorem u64_not (n : UInt64) : (Op.intBits .xor .u64 IntKind.u64.max (n.toNat : Int)).run P w = .ok (.int .u64 ((~~~ n).toNat : Int)) w := by
 have e : BitVec.ofInt IntKind.u64.bits IntKind.u64.max = BitVec.allOnes 64 := by
  show BitVec.ofInt 64 _ = _
  decide
 simp only [Op.intBits, u64_ofInt, e]
 show Result.ok _ w = _
 congr 2
 have e2 : (BitVec.allOnes 64 ^^^ n.toBitVec) = ~~~ n.toBitVec := BitVec.allOnes_xor
 exact (congrArg (fun x : BitVec 64 => IntKind.u64.wrap (x.toNat : Int)) e2).trans (u64_bits _)
theorem sun_ok {op : UnOp} {x z : SV} {v : Value} (h : sun op x = some z) (hx : Rel ρ x v) : ∃ r, (Op.unary op v).run P w = .ok r w ∧ Rel ρ z r := by
 cases x <;> (try (simp only [sun] at h; cases h; done)) <;> simp only [Rel] at hx <;> subst hx <;> cases op <;> simp only [sun] at h <;> (try (cases h; done)) <;> cases h
 ·
  exact ⟨_, rfl, by simp only [Rel]; rfl⟩
 ·
  obtain ⟨r, hr, hz⟩ := u8_ok (P := P) (ρ := ρ) (w := w) (op := .sub) (a := 0) (c := _) 0 rfl
  exact ⟨r, by simpa [binOp, Op.unary] using hr, hz⟩
 ·
  exact ⟨_, by simp only [Op.unary]; exact u8_not _, by simp only [Rel]⟩
 ·
  obtain ⟨r, hr, hz⟩ := u32_ok (P := P) (ρ := ρ) (w := w) (op := .sub) (a := 0) (c := _) 0 rfl
  exact ⟨r, by simpa [binOp, Op.unary] using hr, hz⟩
 ·
  exact ⟨_, by simp only [Op.unary]; exact u32_not _, by simp only [Rel]⟩
 ·
  obtain ⟨r, hr, hz⟩ := u64_ok (P := P) (ρ := ρ) (w := w) (op := .sub) (a := 0) (c := _) 0 rfl
  exact ⟨r, by simpa [binOp, Op.unary] using hr, hz⟩
 ·
  exact ⟨_, by simp only [Op.unary]; exact u64_not _, by simp only [Rel]⟩
 ·
  exact ⟨_, rfl, by simp only [Rel]⟩
def sconv (d : IntKind) : SV → Option SV
 | .i n => match d with
  | .i64 => some (.i (w64 n)) | .u8 => some (.u8 (u8i n)) | .u16 => some (.u16 (u16i n)) | .u32 => some (.u32 (u32i n)) | .u64 => some (.u64 (u64i n)) | _ => none
 | .u8 x => match d with
  | .i64 => some (.i (x.toNat : Int)) | .u8 => some (.u8 x) | .u16 => some (.u16 x.toUInt16) | .u32 => some (.u32 x.toUInt32) | .u64 => some (.u64 x.toUInt64) | _ => none
 | .u16 x => match d with
  | .i64 => some (.i (x.toNat : Int)) | .u8 => some (.u8 x.toUInt8) | .u16 => some (.u16 x) | .u32 => some (.u32 x.toUInt32) | .u64 => some (.u64 x.toUInt64) | _ => none
 | .u32 x => match d with
  | .i64 => some (.i (x.toNat : Int)) | .u8 => some (.u8 x.toUInt8) | .u16 => some (.u16 x.toUInt16) | .u32 => some (.u32 x) | .u64 => some (.u64 x.toUInt64) | _ => none
 | .u64 x => match d with
  | .i64 => some (.i (w64 (x.toNat : Int))) | .u8 => some (.u8 x.toUInt8) | .u16 => some (.u16 x.toUInt16) | .u32 => some (.u32 x.toUInt32) | .u64 => some (.u64 x) | _ => none
 | _ => none
theorem u8i_toNat (n : Int) : (((u8i n).toNat : Nat) : Int) = n % 256 := by unfold u8i; rw [UInt8.toNat_ofNat']; omega
theorem u16i_toNat (n : Int) : (((u16i n).toNat : Nat) : Int) = n % 65536 := by unfold u16i; rw [UInt16.toNat_ofNat']; omega
theorem u32i_toNat (n : Int) : (((u32i n).toNat : Nat) : Int) = n % 4294967296 := by unfold u32i; rw [UInt32.toNat_ofNat']; omega
theorem u64i_toNat (n : Int) : (((u64i n).toNat : Nat) : Int) = n % 18446744073709551616 := by unfold u64i; rw [UInt64.toNat_ofNat']; omega
theorem vint_eq {k : IntKind} {a b : Int} (h : a = b) : Value.int k a = Value.int k b := by rw [h]
theorem sconv_num {d : IntKind} {x z : SV} {v : Value} (h : sconv d x = some z) (hx : Rel ρ x v) : ∃ k n, v = .int k n ∧ Rel ρ z (.int d (d.wrap n)) := by
 cases x <;> (try (simp only [sconv] at h; cases h; done)) <;> simp only [Rel] at hx <;> subst hx <;> refine ⟨_, _, rfl, ?_⟩ <;>
  cases d <;> simp only [sconv] at h <;> (try (cases h; done)) <;> cases h <;> simp only [Rel] <;> (try rfl) <;>
  simp only [IntKind.wrap_u8, IntKind.wrap_u16, IntKind.wrap_u32, IntKind.wrap_u64, IntKind.wrap_i64, u8i_toNat, u16i_toNat, u32i_toNat, u64i_toNat, UInt8.toNat_toUInt16, UInt8.toNat_toUInt32, UInt8.toNat_toUInt64,
   UInt16.toNat_toUInt8, UInt16.toNat_toUInt32, UInt16.toNat_toUInt64, UInt32.toNat_toUInt8, UInt32.toNat_toUInt16, UInt32.toNat_toUInt64, UInt64.toNat_toUInt8, UInt64.toNat_toUInt16, UInt64.toNat_toUInt32] <;>
  refine vint_eq ?_ <;> first
   | (rename_i x; have := x.toNat_lt; omega)
   | omega
end
end Go.Sh
namespace Go.Sh
section
variable {P : Program} {ρ ρ' : Ren} {w w' : World}
theorem add_addr (b o j : Nat) : (⟨b, o, none⟩ : Addr).add j = ⟨b, o + j, none⟩ := by unfold Addr.add; split <;> simp_all
theorem cell?_cells {b o : Nat} {c : Array Value} {t : TypeId} {fz : Nat × Nat} (h : w.heap[b]? = some (.cells c t fz)) : w.cell? ⟨b, o, none⟩ = c[o]? := by
 simp [World.cell?, h]
theorem frozen?_cells {b o : Nat} {c : Array Value} {t : TypeId} {fz : Nat × Nat} (h : w.heap[b]? = some (.cells c t fz)) (hz : Unfz c fz) (ho : o < c.size) : w.frozen? ⟨b, o, none⟩ = false := by
 obtain ⟨lo, hi⟩ := fz
 simp only [World.frozen?, h]
 rcases hz with hz | hz
 ·
  cases hz; simp
 ·
  simp only at hz; simp; omega
theorem run_cells {b o n : Nat} {c : Array Value} {t : TypeId} {fz : Nat × Nat} (h : w.heap[b]? = some (.cells c t fz)) (hn : o + n ≤ c.size) :
  (loadCells ⟨b, o, none⟩ n).run P w = .ok ⟨(c.toList.drop o).take n⟩ w := by
 have hl : ((c.toList.drop o).take n).length = n := by simp; omega
 have := run_loadCells_list (P := P) w ⟨b, o, none⟩ ((c.toList.drop o).take n) (fun j v hv => by
  rw [add_addr, cell?_cells h, ← Array.getElem?_toList]
  have hj : j < ((c.toList.drop o).take n).length := (List.getElem?_eq_some_iff.1 hv).1
  rw [List.getElem?_take_of_lt (by omega), List.getElem?_drop] at hv
  exact hv)
 rw [hl] at this
 simpa using this
theorem run_cell {b o : Nat} {c : Array Value} {t : TypeId} {fz : Nat × Nat} {v : Value} (h : w.heap[b]? = some (.cells c t fz)) (hv : c[o]? = some v) :
  (load ⟨b, o, none⟩).run P w = .ok v w := by
 rw [run_load, cell?_cells h, hv]
theorem setCell_put {b o : Nat} {c : Array Value} {t : TypeId} {fz : Nat × Nat} {v : Value} (h : w.heap[b]? = some (.cells c t fz)) (ho : o < c.size) :
  w.setCell ⟨b, o, none⟩ v = World.putCells w b o [v] := by
 have hh : (w.setCell ⟨b, o, none⟩ v).heap = (World.putCells w b o [v]).heap := by
  apply Array.ext_getElem?
  intro k
  by_cases hk : k = b
  ·
   subst hk
   rw [World.putCells_heap w k o [v] h]
   simp only [World.setCell, Array.getElem?_modify, h, if_true, Option.map_some]
   simp
   apply Array.ext_getElem?
   intro j
   rw [putAt_getElem? _ _ _ (by simp; omega)]
   by_cases hj : j = o
   ·
    subst hj; simp [ho]
   ·
    rw [Array.getElem?_setIfInBounds_ne (fun e => hj e.symm), if_neg (by simp; omega)]
  ·
   rw [World.putCells_other w b o [v] hk]
   simp only [World.setCell, Array.getElem?_modify]
   rw [if_neg (fun e => hk e.symm)]
 cases w; simp only [World.setCell, World.putCells] at hh ⊢; rw [hh]
theorem putCells_cons {b o : Nat} {c : Array Value} {t : TypeId} {fz : Nat × Nat} {v : Value} {vs : List Value} (h : w.heap[b]? = some (.cells c t fz)) (ho : o + (vs.length + 1) ≤ c.size) :
  World.putCells (World.putCells w b o [v]) b (o + 1) vs = World.putCells w b o (v :: vs) := by
 have h1 := World.putCells_heap w b o [v] h
 have s1 : (putAt c o [v]).size = c.size := putAt_size _ _ _ (by simp; omega)
 have hh : (World.putCells (World.putCells w b o [v]) b (o + 1) vs).heap = (World.putCells w b o (v :: vs)).heap := by
  apply Array.ext_getElem?
  intro k
  by_cases hk : k = b
  ·
   subst hk
   rw [World.putCells_heap _ k (o + 1) vs h1, World.putCells_heap w k o (v :: vs) h]
   congr 2
   apply Array.ext_getElem?
   intro j
   rw [putAt_getElem? _ _ _ (by rw [s1]; omega), putAt_getElem? _ _ _ (by simp; omega), putAt_getElem? _ _ _ (by simp; omega)]
   by_cases h1 : j = o
   ·
    subst h1
    rw [if_neg (by omega), if_pos (by simp), if_pos (by simp)]; simp
   ·
    by_cases h2 : o + 1 ≤ j ∧ j < o + 1 + vs.length
    ·
     rw [if_pos h2, if_pos (by simp; omega)]
     rw [show j - o = (j - (o + 1)) + 1 from by omega]; simp
    ·
     rw [if_neg h2, if_neg (by simp; omega), if_neg (by simp; omega)]
  ·
   rw [World.putCells_other _ b _ _ hk, World.putCells_other _ b _ _ hk, World.putCells_other _ b _ _ hk]
 simp only [World.putCells] at hh ⊢; rw [hh]
theorem putCells_nil (w : World) (b o : Nat) : World.putCells w b o [] = w := by
 have hh : (World.putCells w b o []).heap = w.heap := by
  apply Array.ext_getElem?
  intro k
  simp only [World.putCells, Array.getElem?_modify]
  split
  ·
   rename_i e
   cases hk : w.heap[k]? with
   | none => rfl
   | some x => cases x <;> simp [putAt]
  ·
   rfl
 cases w; simp only [World.putCells] at hh ⊢; rw [hh]
theorem run_puts {b o : Nat} {t : TypeId} {fz : Nat × Nat} : ∀ (vs : List Value) (i : Nat) {w : World} {c : Array Value}, w.heap[b]? = some (.cells c t fz) → Unfz c fz → o + i + vs.length ≤ c.size → (∀ v ∈ vs, v.oneCell' = true) →
  (storeCells ⟨b, o, none⟩ vs i).run P w = .ok () (World.putCells w b (o + i) vs)
 | [], i, w, c, _, _, _, _ => by rw [putCells_nil]; rfl
 | v :: vs, i, w, c, h, hz, hn, h1 => by
  simp at hn
  have hs : w.cell? ⟨b, o + i, none⟩ = c[o + i]? := cell?_cells h
  have e : (store ((⟨b, o, none⟩ : Addr).add i) v).run P w = .ok () (World.putCells w b (o + i) [v]) := by
   rw [run_store P w _ v .plain (h1 v (by simp)), add_addr, hs, Array.getElem?_eq_getElem (by omega)]
   simp only [frozen?_cells h hz (show o + i < c.size by omega), Bool.false_eq_true, if_false]
   rw [setCell_put h (by omega)]
  have ih := run_puts (o := o) vs (i + 1) (w := World.putCells w b (o + i) [v]) (World.putCells_heap w b (o + i) [v] h) (hz.put _ _ (by simp; omega)) (by rw [putAt_size _ _ _ (by simp; omega)]; omega) (fun u hu => h1 u (by simp [hu]))
  simp only [storeCells, Sem.run_bind, e, Result.andThen_ok, ih]
  rw [show o + (i + 1) = o + i + 1 from by omega, putCells_cons h (by omega)]
def psz (P : Program) (t : TypeId) : Option Nat := (P.info? t).map (·.size)
def pagg (P : Program) (t : TypeId) : Option Bool := (P.underlying t).map fun | .struct _ => true | .array _ _ => true | _ => false
theorem run_size {t : TypeId} {n : Nat} (h : psz P t = some n) : (sizeOf t).run P w = .ok n w := by
 unfold psz at h
 cases hi : P.info? t with
 | none => simp [hi] at h
 | some i => simp [hi] at h; simp [sizeOf, typeInfo, hi, h]
theorem run_und {t : TypeId} {d : TypeDesc} (h : P.underlying t = some d) : (underlying t).run P w = .ok d w := by
 simp [underlying, h]
theorem run_agg {t : TypeId} {g : Bool} (h : pagg P t = some g) : (isAgg t).run P w = .ok g w := by
 unfold pagg at h
 cases hi : P.underlying t with
 | none => simp [hi] at h
 | some d => rw [hi] at h; unfold isAgg; rw [Sem.run_bind, run_und hi, Result.andThen_ok]; cases d <;> simp at h <;> subst h <;> rfl
def ofAtom : Value → Option SV
 | .int .i64 n => some (.i n)
 | .int .u8 n => if 0 ≤ n ∧ n < 256 then some (.u8 (UInt8.ofNat n.toNat)) else none
 | .int .u16 n => if 0 ≤ n ∧ n < 65536 then some (.u16 (UInt16.ofNat n.toNat)) else none
 | .int .u32 n => if 0 ≤ n ∧ n < 4294967296 then some (.u32 (UInt32.ofNat n.toNat)) else none
 | .int .u64 n => if 0 ≤ n ∧ n < 18446744073709551616 then some (.u64 (UInt64.ofNat n.toNat)) else none
 | .bool b => some (.b b)
 | .string s => some (.s s.data.toList)
 | .pointer none => some .pnil
 | .slice none 0 0 => some .slnil
 | .nilFunc => some .fnil
 | .map none => some .mnil
 | _ => none
def ofAtoms : List Value → Option (List SV)
 | [] => some []
 | v :: vs => (ofAtom v).bind fun x => (ofAtoms vs).map (x :: ·)
def ofVal : Value → Option SV
 | .agg c => (ofAtoms c.toList).map .agg
 | v => ofAtom v
theorem ofAtom_rel {v : Value} {x : SV} (h : ofAtom v = some x) : Rel ρ x v ∧ x.atom = true := by
 unfold ofAtom at h
 split at h <;> (try (cases h; done)) <;> (try (split at h <;> (try (cases h; done)))) <;> cases h <;> refine ⟨?_, rfl⟩ <;> simp only [Rel]
 all_goals (rename_i hh; refine vint_eq ?_; simp only [UInt8.toNat_ofNat', UInt16.toNat_ofNat', UInt32.toNat_ofNat', UInt64.toNat_ofNat']; omega)
theorem ofAtoms_rel : ∀ {vs : List Value} {xs : List SV}, ofAtoms vs = some xs → Rels ρ xs vs ∧ atoms xs = true
 | [], xs, h => by cases h; exact ⟨Rels.nil_iff.2 rfl, rfl⟩
 | v :: vs, xs, h => by
  simp only [ofAtoms] at h
  obtain ⟨x, hx, h2⟩ := Option.bind_eq_some_iff.1 h
  obtain ⟨ys, hy, rfl⟩ := Option.map_eq_some_iff.1 h2
  obtain ⟨a, b⟩ := ofAtoms_rel hy
  obtain ⟨c, d⟩ := ofAtom_rel (ρ := ρ) hx
  exact ⟨Rels.cons c a, by simp [atoms] at b ⊢; exact ⟨d, b⟩⟩
theorem ofVal_rel {v : Value} {x : SV} (h : ofVal v = some x) : Rel ρ x v ∧ ∀ l, x ≠ .tup l := by
 unfold ofVal at h
 split at h
 ·
  rename_i c
  obtain ⟨l, hl, rfl⟩ := Option.map_eq_some_iff.1 h
  obtain ⟨a, b⟩ := ofAtoms_rel (ρ := ρ) hl
  exact ⟨by simp only [Rel]; exact ⟨_, rfl, b, a⟩, fun l => by simp⟩
 ·
  obtain ⟨a, b⟩ := ofAtom_rel (ρ := ρ) h
  exact ⟨a, fun l e => by subst e; simp [SV.atom] at b⟩
def pzero (P : Program) (t : TypeId) : Option SV := (P.info? t).bind fun i => i.zero.bind ofVal
theorem run_zero {t : TypeId} {x : SV} (h : pzero P t = some x) : ∃ v, (zeroValue t).run P w = .ok v w ∧ (∀ ρ, Rel ρ x v) ∧ ∀ l, x ≠ .tup l := by
 unfold pzero at h
 cases hi : P.info? t with
 | none => simp [hi] at h
 | some i =>
  rw [hi, Option.bind_some] at h
  obtain ⟨v, hv, hx⟩ := Option.bind_eq_some_iff.1 h
  exact ⟨v, by simp [zeroValue, typeInfo, hi, hv], fun ρ => (ofVal_rel hx).1, (ofVal_rel (ρ := fun _ => none) hx).2⟩
def sload (agg : Bool) (sz : Nat) (l : List SV) (k : Nat) : Option SV :=
 if agg then (if k + sz ≤ l.length then some (.agg ((l.drop k).take sz)) else none) else l[k]?
def sput (l : List SV) (k : Nat) : SV → List SV
 | .agg xs => l.take k ++ xs ++ l.drop (k + xs.length)
 | x => l.set k x
theorem sput_eq (l : List SV) (k : Nat) (x : SV) (h : k + x.cells.length ≤ l.length) : sput l k x = l.take k ++ x.cells ++ l.drop (k + x.cells.length) := by
 have aux : ∀ y : SV, k < l.length → l.set k y = l.take k ++ [y] ++ l.drop (k + 1) := fun y hk => by
  rw [List.set_eq_take_append_cons_drop, if_pos hk]; simp
 cases x <;> first | rfl | exact aux _ (by simp [SV.cells] at h; omega)
theorem drop_take_get {l : List Value} {o n k : Nat} (hk : k < n) : ((l.drop o).take n)[k]? = l[o + k]? := by
 rw [List.getElem?_take_of_lt hk, List.getElem?_drop]
theorem load_ok {t : TypeId} {g : Bool} {sz blk off k : Nat} {l : List SV} {x : SV} {fr : Bool} (hg : pagg P t = some g) (hs : psz P t = some sz) (hc : CellsAt ρ w blk off l fr)
  (hx : sload g sz l k = some x) : ∃ v, (loadVar t ⟨blk, off + k, none⟩).run P w = .ok v w ∧ Rel ρ x v := by
 obtain ⟨c, ty, fz, hb, ha, hr, _, hsz⟩ := hc
 unfold sload at hx
 unfold loadVar
 rw [Sem.run_bind, run_agg hg, Result.andThen_ok]
 cases g with
 | true =>
  simp only [if_true] at hx ⊢
  split at hx
  ·
   rename_i hk
   cases hx
   have hrl := hr.length
   simp only [List.length_take, List.length_drop, Array.length_toList] at hrl
   refine ⟨_, by rw [Sem.run_bind, run_size hs, Result.andThen_ok, Sem.run_bind, run_cells hb (by omega), Result.andThen_ok, Sem.run_pure], ?_⟩
   simp only [Rel]
   refine ⟨_, rfl, ?_, ?_⟩
   ·
    simp only [atoms, List.all_eq_true] at ha ⊢
    exact fun y hy => ha y (List.mem_of_mem_drop (List.mem_of_mem_take hy))
   ·
    have := (hr.drop k).take sz
    rw [List.drop_take, List.drop_drop, List.take_take, Nat.min_eq_left (by omega)] at this
    exact this
  ·
   cases hx
 | false =>
  simp only [Bool.false_eq_true, if_false] at hx ⊢
  obtain ⟨v, hv, hxv⟩ := hr.get hx
  have hk : k < l.length := (List.getElem?_eq_some_iff.1 hx).1
  rw [drop_take_get hk, Array.getElem?_toList] at hv
  exact ⟨v, run_cell hb hv, hxv⟩
theorem CellsAt.put {blk off k : Nat} {l : List SV} {x : SV} {v : Value} (hc : CellsAt ρ w blk off l true) (hx : Rel ρ x v) (ht : ∀ l, x ≠ .tup l) (hk : k + x.cells.length ≤ l.length) :
  CellsAt ρ (World.putCells w blk (off + k) v.cells.toList) blk off (sput l k x) true ∧ (sput l k x).length = l.length := by
 obtain ⟨c, ty, fz, hb, ha, hr, hf, hsz⟩ := hc
 obtain ⟨h1, h2⟩ := hx.cells_rel ht
 have h1l := h1.length
 rw [sput_eq l k x hk]
 have hlen : (l.take k ++ x.cells ++ l.drop (k + x.cells.length)).length = l.length := by simp; omega
 refine ⟨⟨_, ty, fz, World.putCells_heap w blk _ _ hb, ?_, ?_, fun _ => (hf rfl).put _ _ (by omega), ?_⟩, hlen⟩
 ·
  simp only [atoms, List.all_eq_true, List.mem_append] at ha h2 ⊢
  rintro y ((hy | hy) | hy)
  ·
   exact ha y (List.mem_of_mem_take hy)
  ·
   exact h2 y hy
  ·
   exact ha y (List.mem_of_mem_drop hy)
 ·
  rw [hlen]
  have e : ((putAt c (off + k) v.cells.toList).toList.drop off).take l.length = ((c.toList.drop off).take l.length).take k ++ v.cells.toList ++ ((c.toList.drop off).take l.length).drop (k + v.cells.toList.length) := by
   have hL : ((c.toList.drop off).take l.length).length = l.length := by simp; omega
   have hV : v.cells.toList.length = v.cells.size := by simp
   have hP : (putAt c (off + k) v.cells.toList).size = c.size := putAt_size _ _ _ (by omega)
   apply List.ext_getElem?
   intro j
   have hg : ∀ i, i < l.length → ((c.toList.drop off).take l.length)[i]? = c[off + i]? := fun i hi => by rw [drop_take_get hi, Array.getElem?_toList]
   have hout : l.length ≤ j → ((c.toList.drop off).take l.length)[j]? = none := fun hi => List.getElem?_eq_none (by omega)
   generalize (c.toList.drop off).take l.length = L at hL hg hout
   by_cases hj : j < l.length
   ·
    rw [drop_take_get hj, Array.getElem?_toList, putAt_getElem? _ _ _ (by omega)]
    by_cases a1 : j < k
    ·
     rw [if_neg (by omega), List.getElem?_append_left (by rw [List.length_append, List.length_take]; omega), List.getElem?_append_left (by rw [List.length_take]; omega), List.getElem?_take_of_lt a1, hg j hj]
    ·
     by_cases a2 : j < k + v.cells.toList.length
     ·
      rw [if_pos (by omega), List.getElem?_append_left (by rw [List.length_append, List.length_take]; omega), List.getElem?_append_right (by rw [List.length_take]; omega)]
      congr 1; rw [List.length_take]; omega
     ·
      rw [if_neg (by omega), List.getElem?_append_right (by rw [List.length_append, List.length_take]; omega), List.getElem?_drop]
      rw [show k + v.cells.toList.length + (j - (L.take k ++ v.cells.toList).length) = j from by rw [List.length_append, List.length_take]; omega, hg j hj]
   ·
    rw [List.getElem?_eq_none (by simp; omega), List.getElem?_eq_none (by simp only [List.length_append, List.length_take, List.length_drop]; omega)]
  rw [e, h1l]
  exact ((hr.take k).append h1).append (hr.drop _)
 ·
  rw [hlen, putAt_size _ _ _ (by omega)]; exact hsz
theorem store_ok {t : TypeId} {sz blk off k : Nat} {l : List SV} {x : SV} {v : Value} (hs : psz P t = some sz) (hc : CellsAt ρ w blk off l true)
  (hx : Rel ρ x v) (ht : ∀ l, x ≠ .tup l) (hxs : x.cells.length = sz) (hk : k + sz ≤ l.length) :
  (storeVar t ⟨blk, off + k, none⟩ v).run P w = .ok () (World.putCells w blk (off + k) v.cells.toList) := by
 obtain ⟨c, ty, fz, hb, ha, hr, hf, hsz⟩ := hc
 obtain ⟨h1, h2⟩ := hx.cells_rel ht
 have h1l := h1.length
 have hfz := hf rfl
 unfold storeVar
 rw [Sem.run_bind, run_size hs, Result.andThen_ok]
 have hne : ¬ (v.cells.size ≠ sz) := by simp at h1l; omega
 simp only [hne, if_false]
 exact run_puts (P := P) v.cells.toList 0 hb hfz (by omega) (h1.oneCell h2)
end
end Go.Sh
namespace Go.Sh
abbrev Env := Nat → Option SV
abbrev Upd := List (Nat × Option SB)
def updW (H : Heap) (W : Upd) : Heap := fun id => match W.lookup id with | some ob => ob | none => H id
def OwnW (ρ : Ren) (H : Heap) (W : Upd) (k o : Nat) : Prop := ∃ id ob b rb, (id, ob) ∈ W ∧ H id = some b ∧ ρ id = some rb ∧ b.own = true ∧ foot rb b k o
structure Chg (ρ : Ren) (H : Heap) (w : World) (W : Upd) (ρ' : Ren) (w' : World) : Prop where
 ext : Ext ρ ρ'
 dom : ∀ id rb, ρ' id = some rb → ρ id = some rb ∨ ∃ ob, (id, ob) ∈ W
 blks : ∀ id b, (id, some b) ∈ W → ∃ rb, ρ' id = some rb ∧ BRel ρ' w' rb b
 fr : Fr (OwnW ρ H W) w w'
 feet : ∀ id b rb k o, (id, some b) ∈ W → ρ' id = some rb → foot rb b k o → OwnW ρ H W k o ∨ w.heap.size ≤ k
 sep : ∀ i j bi bj ri rj, i ≠ j → (i, some bi) ∈ W → (j, some bj) ∈ W → ρ' i = some ri → ρ' j = some rj → bi.own = true → ∀ k o, ¬ (foot ri bi k o ∧ foot rj bj k o)
theorem mem_of_lookup {W : Upd} {id : Nat} {ob : Option SB} (h : W.lookup id = some ob) : (id, ob) ∈ W := by
 induction W with
 | nil => simp at h
 | cons x xs ih =>
  obtain ⟨i, b⟩ := x
  simp only [List.lookup_cons] at h
  split at h
  ·
   rename_i e; cases h; simp at e; subst e; simp
  ·
   exact List.mem_cons_of_mem _ (ih h)
theorem lookup_none {W : Upd} {id : Nat} (h : W.lookup id = none) (ob : Option SB) : (id, ob) ∉ W := by
 induction W with
 | nil => simp
 | cons x xs ih =>
  obtain ⟨i, b⟩ := x
  simp only [List.lookup_cons] at h
  split at h
  ·
   cases h
  ·
   rename_i e
   intro hm
   rcases List.mem_cons.1 hm with hm | hm
   ·
    cases hm; simp at e
   ·
    exact ih h hm
section
variable {P : Program} {ρ ρ' : Ren} {H : Heap} {w w' : World} {W : Upd}
theorem CellsAt.ext {blk off : Nat} {l : List SV} {f : Bool} (h : CellsAt ρ w blk off l f) (he : Ext ρ ρ') : CellsAt ρ' w blk off l f := by
 obtain ⟨c, t, fz, hb, ha, hr, hf, hs⟩ := h
 exact ⟨c, t, fz, hb, ha, hr.ext he, hf, hs⟩
theorem RelR.ext {R : List (Nat × SV)} {tmps : Array Value} (h : RelR ρ R tmps) (he : Ext ρ ρ') : RelR ρ' R tmps := fun t v hv => (h t v hv).ext he
theorem ORel.ext {blk : Nat} {y : OB} (h : ORel ρ w blk y) (he : Ext ρ ρ') : ORel ρ' w blk y := by
 cases y with
 | loop R N ps as_ bd => obtain ⟨r, h1, h2, h3, h4, h5, h6, h7, h8⟩ := h; exact ⟨r, h1, h2, h3, h4, h5, h6, h7, h8.ext he⟩
 | pend c => exact h
theorem ORel.frame {blk : Nat} {y : OB} {S : Nat → Nat → Prop} (h : ORel ρ w blk y) (hf : Fr S w w') (hd : ∀ o, ¬ S blk o) : ORel ρ w' blk y := by
 cases y with
 | loop R N ps as_ bd => obtain ⟨r, h1, h2, h3, h4, h5, h6, h7, h8⟩ := h; exact ⟨r, (hf.blk _ _ h1).same hd, h2, h3, h4, h5, h6, h7, h8⟩
 | pend c => obtain ⟨r, h1, h2, h3⟩ := h; exact ⟨r, (hf.blk _ _ h1).same hd, h2, h3⟩
theorem ORel.lt {blk : Nat} {y : OB} (h : ORel ρ w blk y) : blk < w.heap.size := by
 cases y with
 | loop R N ps as_ bd => obtain ⟨r, h1, _⟩ := h; exact (Array.getElem?_eq_some_iff.1 h1).1
 | pend c => obtain ⟨r, h1, _⟩ := h; exact (Array.getElem?_eq_some_iff.1 h1).1
theorem BRel.ext {rb : RB} {b : SB} (h : BRel ρ w rb b) (he : Ext ρ ρ') : BRel ρ' w rb b := by
 cases b with
 | obj y => exact ORel.ext h he
 | ext y => exact h
 | ro l => exact h.imp id fun h => ⟨h.1.ext he, h.2⟩
 | box l => exact ⟨h.1.ext he, h.2⟩
 | row t l =>
  rcases h with h | ⟨hv, c, fz, hb, hz, hs, ha, hr, hl⟩
  ·
   exact .inl h
  ·
   exact .inr ⟨hv, c, fz, hb, hz, hs, ha, hr.ext he, hl⟩
theorem take_drop_eq {c c' : Array Value} {off n : Nat} (_hs : c'.size = c.size) (h : ∀ j, off ≤ j → j < off + n → c'[j]? = c[j]?) : (c'.toList.drop off).take n = (c.toList.drop off).take n := by
 apply List.ext_getElem?
 intro j
 by_cases hj : j < n
 ·
  rw [drop_take_get hj, drop_take_get hj, Array.getElem?_toList, Array.getElem?_toList, h _ (by omega) (by omega)]
 ·
  rw [List.getElem?_eq_none (by simp; omega), List.getElem?_eq_none (by simp; omega)]
theorem CellsAt.frame {blk off : Nat} {l : List SV} {f : Bool} {S : Nat → Nat → Prop} (h : CellsAt ρ w blk off l f) (hf : Fr S w w') (hd : ∀ o, off ≤ o → o < off + l.length → ¬ S blk o) : CellsAt ρ w' blk off l f := by
 obtain ⟨c, t, fz, hb, ha, hr, hz, hs⟩ := h
 obtain ⟨c', fz', hb', hs', hfz, hg⟩ := hf.blk _ _ hb
 refine ⟨c', t, fz', hb', ha, ?_, fun e => hfz.elim (fun q => by rw [q]; exact (hz e).same hs') (fun q => q.2 (hz e)), by rw [hs']; exact hs⟩
 rw [take_drop_eq hs' (fun j h1 h2 => hg j (hd j h1 h2))]
 exact hr
theorem YRel.frame {rb : RB} {y : YB} {S : Nat → Nat → Prop} (h : YRel w rb y) (hf : Fr S w w') (hd : ∀ k o, y.foot rb k o → ¬ S k o) : YRel w' rb y := by
 cases y with
 | fam l => exact fun e he => ⟨(h e he).1, (h e he).2.imp id fun q => ⟨q.1.frame hf fun o h1 h2 => hd _ _ ⟨e, he, rfl, h1, h2⟩, q.2⟩⟩
 | lit o => exact ⟨h.1, (hf.blk _ _ h.2).same (fun j => hd _ j rfl)⟩
 | locd r o => exact ⟨h.1, (hf.blk _ _ h.2).same (fun j => hd _ j rfl)⟩
theorem YRel.foot_mut {rb : RB} {y : YB} (h : YRel w rb y) {k o : Nat} (hk : y.foot rb k o) : ∃ x, w.heap[k]? = some x ∧ mutK x ≠ 1 := by
 cases y with
 | fam l =>
  obtain ⟨e, he, rfl, h1, h2⟩ := hk
  rcases (h e he).2 with q | ⟨⟨c, t, fz, hb, _⟩, _⟩
  ·
   rw [q] at h2; simp at h2; omega
  ·
   exact ⟨_, hb, by simp [mutK]⟩
 | lit o => obtain ⟨⟨h1, _⟩, h2⟩ := h; subst hk; exact ⟨_, h2, by omega⟩
 | locd r o => obtain ⟨⟨h1, _⟩, h2⟩ := h; subst hk; exact ⟨_, h2, by omega⟩
theorem BRel.frame {rb : RB} {b : SB} {S : Nat → Nat → Prop} (h : BRel ρ w rb b) (hf : Fr S w w') (hd : ∀ k o, foot rb b k o → ¬ S k o) : BRel ρ w' rb b := by
 cases b with
 | obj y => exact ORel.frame h hf (fun o => hd _ o rfl)
 | ext y => exact YRel.frame h hf hd
 | ro l => exact h.imp id fun h => ⟨h.1.frame hf fun o h1 h2 => hd _ _ ⟨rfl, h1, h2⟩, h.2⟩
 | box l => exact ⟨h.1.frame hf fun o h1 h2 => hd _ _ ⟨rfl, h1, h2⟩, h.2⟩
 | row t l =>
  rcases h with h | ⟨hv, c, fz, hb, hz, hs, ha, hr, hl⟩
  ·
   exact .inl h
  ·
   obtain ⟨c', fz', hb', hs', hfz, hg⟩ := hf.blk _ _ hb
   refine .inr ⟨hv, c', fz', hb', hfz.elim (fun q => by rw [q]; exact hz.same hs') (fun q => q.2 hz), by rw [hs']; exact hs, ha, ?_, hl⟩
   rw [take_drop_eq hs' (fun j h1 h2 => hg j (hd _ _ ⟨hv, rfl, h1⟩))]
   exact hr
theorem BRel.foot_lt {rb : RB} {b : SB} (h : BRel ρ w rb b) {k o : Nat} (hk : foot rb b k o) : k < w.heap.size := by
 cases b with
 | obj y => rw [hk]; exact ORel.lt h
 | ext y => obtain ⟨x, hx, _⟩ := YRel.foot_mut h hk; exact (Array.getElem?_eq_some_iff.1 hx).1
 | ro l =>
  rcases h with rfl | ⟨⟨c, t, fz, hb, _⟩, _⟩
  ·
   have := hk.2; simp at this; omega
  ·
   rw [hk.1]; exact (Array.getElem?_eq_some_iff.1 hb).1
 | box l => obtain ⟨⟨c, t, fz, hb, _⟩, _⟩ := h; rw [hk.1]; exact (Array.getElem?_eq_some_iff.1 hb).1
 | row t l =>
  rcases h with h | ⟨hv, c, fz, hb, _⟩
  ·
   rw [hk.1] at h; cases h.1
  ·
   rw [hk.2.1]; exact (Array.getElem?_eq_some_iff.1 hb).1
structure Evo (ρ : Ren) (H : Heap) (w : World) (ρ' : Ren) (H' : Heap) (w' : World) : Prop where
 ext : Ext ρ ρ'
 heap : HRel ρ' H' w'
 sep : Sep ρ' H'
 fr : Fr (Owned ρ H) w w'
 own : ∀ k o, Owned ρ' H' k o → Owned ρ H k o ∨ w.heap.size ≤ k
theorem Evo.refl (hh : HRel ρ H w) (hs : Sep ρ H) : Evo ρ H w ρ H w := ⟨Ext.refl _, hh, hs, Fr.refl _ _, fun _ _ h => .inl h⟩
theorem Evo.trans {ρ1 ρ2 ρ3 : Ren} {H1 H2 H3 : Heap} {w1 w2 w3 : World} (h : Evo ρ1 H1 w1 ρ2 H2 w2) (k : Evo ρ2 H2 w2 ρ3 H3 w3) : Evo ρ1 H1 w1 ρ3 H3 w3 :=
  ⟨h.ext.trans k.ext, k.heap, k.sep, h.fr.trans k.fr (fun x o hx ho => (h.own x o ho).resolve_right (by omega)),
   fun x o ho => (k.own x o ho).elim (fun h2 => h.own x o h2) (fun h2 => .inr (Nat.le_trans h.fr.size h2))⟩
theorem OwnW.owned {k o : Nat} (h : OwnW ρ H W k o) : Owned ρ H k o := by
 obtain ⟨id, ob, b, rb, _, h1, h2, h3, h4⟩ := h
 exact ⟨id, b, rb, h1, h2, h3, h4⟩
theorem Chg.evo {H0 : Heap} (h : Chg ρ H0 w W ρ' w') (hagree : ∀ id ob, (id, ob) ∈ W → H0 id = H id) (hh : HRel ρ H w) (hs : Sep ρ H) : Evo ρ H w ρ' (updW H W) w' := by
 have hO : ∀ k o, OwnW ρ H0 W k o → OwnW ρ H W k o := by
  rintro k o ⟨id, ob, b, rb, h1, h2, h3⟩
  exact ⟨id, ob, b, rb, h1, (hagree _ _ h1) ▸ h2, h3⟩
 have out : ∀ id b rb, W.lookup id = none → H id = some b → ρ id = some rb → ∀ k o, foot rb b k o → ¬ OwnW ρ H0 W k o := by
  rintro id b rb hl hb hr k o hf ho
  obtain ⟨id2, ob, b2, rb2, hm, h2, h3, h4, h5⟩ := hO k o ho
  have hne : id2 ≠ id := fun e => lookup_none hl ob (e ▸ hm)
  exact hs id2 id b2 b rb2 rb hne h2 hb h3 hr h4 k o ⟨h5, hf⟩
 refine ⟨h.ext, ?_, ?_, h.fr.mono (fun k o _ ho => (hO k o ho).owned), ?_⟩
 ·
  intro id b hb
  simp only [updW] at hb
  split at hb
  ·
   rename_i ob hl
   subst hb
   exact h.blks id b (mem_of_lookup hl)
  ·
   rename_i hl
   obtain ⟨rb, hr, hbr⟩ := hh id b hb
   exact ⟨rb, h.ext _ _ hr, (hbr.frame h.fr (fun k o hf => out id b rb hl hb hr k o hf)).ext h.ext⟩
 ·
  intro i j bi bj ri rj hne hi hj hri hrj hown k o ⟨hfi, hfj⟩
  simp only [updW] at hi hj
  split at hi
  ·
   rename_i obi hli
   subst hi
   split at hj
   ·
    rename_i obj hlj
    subst hj
    exact h.sep i j bi bj ri rj hne (mem_of_lookup hli) (mem_of_lookup hlj) hri hrj hown k o ⟨hfi, hfj⟩
   ·
    rename_i hlj
    obtain ⟨rb, hr, hbr⟩ := hh j bj hj
    have e := h.ext _ _ hr
    rw [hrj] at e; cases e
    rcases h.feet i bi ri k o (mem_of_lookup hli) hri hfi with ho | ho
    ·
     exact out j bj rj hlj hj hr k o hfj ho
    ·
     exact absurd (hbr.foot_lt hfj) (by omega)
  ·
   rename_i hli
   obtain ⟨rbi, hr, hbr⟩ := hh i bi hi
   have e := h.ext _ _ hr
   rw [hri] at e; cases e
   split at hj
   ·
    rename_i obj hlj
    subst hj
    rcases h.feet j bj rj k o (mem_of_lookup hlj) hrj hfj with ho | ho
    ·
     exact out i bi ri hli hi hr k o hfi ho
    ·
     exact absurd (hbr.foot_lt hfi) (by omega)
   ·
    obtain ⟨rbj, hr2, _⟩ := hh j bj hj
    have e2 := h.ext _ _ hr2
    rw [hrj] at e2; cases e2
    exact hs i j bi bj ri rj hne hi hj hr hr2 hown k o ⟨hfi, hfj⟩
 ·
  rintro k o ⟨id, b, rb, hb, hr, hown, hf⟩
  simp only [updW] at hb
  split at hb
  ·
   rename_i ob hl
   subst hb
   rcases h.feet id b rb k o (mem_of_lookup hl) hr hf with ho | ho
   ·
    exact .inl (hO k o ho).owned
   ·
    exact .inr ho
  ·
   obtain ⟨rb2, hr2, _⟩ := hh id b hb
   have e2 := h.ext _ _ hr2
   rw [hr] at e2; cases e2
   exact .inl ⟨id, b, rb, hb, hr2, hown, hf⟩
theorem Chg.zero (ρ : Ren) (H : Heap) (w : World) : Chg ρ H w [] ρ w :=
 ⟨Ext.refl _, fun _ _ h => .inl h, fun _ _ h => by simp at h, Fr.refl _ _, fun _ _ _ _ _ h => by simp at h, fun _ _ _ _ _ _ _ h => by simp at h⟩
def setR (ρ : Ren) (id : Nat) (rb : RB) : Ren := fun i => if i = id then some rb else ρ i
theorem setR_same (ρ : Ren) (id : Nat) (rb : RB) : setR ρ id rb id = some rb := by simp [setR]
theorem setR_other (ρ : Ren) {id i : Nat} (rb : RB) (h : i ≠ id) : setR ρ id rb i = ρ i := by simp [setR, h]
theorem Ext.setR {id : Nat} (rb : RB) (h : ρ id = none) : Ext ρ (setR ρ id rb) := fun i r hr => by
 rw [setR_other ρ rb (fun e => by rw [e, h] at hr; cases hr)]; exact hr
theorem alloc_heap_new (w : World) (o : Obj) : (w.alloc o).heap[w.heap.size]? = some o := by
 show (w.heap.push o)[w.heap.size]? = some o
 simp
theorem Chg.new {nid : Nat} {b : SB} {rb : RB} {c : Array Value} {t : TypeId} {fz : Nat × Nat} (d : Nat) (hn : ρ nid = none) (hblk : rb.blk = w.heap.size)
  (hb : BRel ρ ({ (w.alloc (.cells c t fz)) with drawn := d }) rb b) (hx : ∀ y, b ≠ .ext y := by intro y e; cases e) : Chg ρ H w [(nid, some b)] (setR ρ nid rb) { (w.alloc (.cells c t fz)) with drawn := d } := by
 have he : Ext ρ (setR ρ nid rb) := Ext.setR rb hn
 refine ⟨he, ?_, ?_, ?_, ?_, ?_⟩
 ·
  intro id r hr
  by_cases e : id = nid
  ·
   subst e; exact .inr ⟨_, List.mem_singleton.2 rfl⟩
  ·
   rw [setR_other ρ rb e] at hr; exact .inl hr
 ·
  intro id x hx
  simp at hx
  obtain ⟨rfl, rfl⟩ := hx
  exact ⟨rb, setR_same _ _ _, hb.ext he⟩
 ·
  have := Fr.alloc (OwnW ρ H [(nid, some b)]) w (.cells c t fz)
  exact ⟨this.os, this.tape, this.output, this.size, this.blk⟩
 ·
  intro id x r k o hm hr hf
  simp at hm
  obtain ⟨rfl, rfl⟩ := hm
  rw [setR_same] at hr; cases hr
  right
  cases x with
  | ext y => exact absurd rfl (hx y)
  | _ => simp only [foot] at hf; omega
 ·
  intro i j bi bj ri rj hne hi hj
  simp at hi hj
  exact absurd (hi.1.trans hj.1.symm) hne
theorem fr_mark {w : World} {rb : RB} {t : Nat} {l : List SV} {c : Array Value} {fz : Nat × Nat} (hv : rb.virt = false) (hb : w.heap[rb.blk]? = some (.cells c t fz)) (hz : Unfz c fz) :
  ∃ fz', (w.freeze ⟨rb.blk, c.size, none⟩ 1).heap[rb.blk]? = some (.cells c t fz') ∧ Unfz c fz' ∧ Fr (fun k o => foot rb (.row t l) k o) w (w.freeze ⟨rb.blk, c.size, none⟩ 1) := by
 obtain ⟨lo, hi⟩ := fz
 have hh : ∀ k, (w.freeze ⟨rb.blk, c.size, none⟩ 1).heap[k]? = if k = rb.blk then some (.cells c t (if lo == hi then (c.size, c.size + 1) else (min lo c.size, max hi (c.size + 1)))) else w.heap[k]? := by
  intro k
  simp only [World.freeze, Nat.one_ne_zero, if_false, Array.getElem?_modify]
  by_cases hk : k = rb.blk
  ·
   subst hk; rw [if_pos rfl, if_pos rfl, hb]; rfl
  ·
   rw [if_neg (fun e => hk e.symm), if_neg hk]
 have hu : Unfz c (if lo == hi then (c.size, c.size + 1) else (min lo c.size, max hi (c.size + 1))) := by
  unfold Unfz at *
  rcases hz with h | h
  ·
   cases h; right; simp
  ·
   right
   split
   ·
    exact Nat.le_refl _
   ·
    simp only at h ⊢; omega
 refine ⟨_, by rw [hh, if_pos rfl], hu, ?_⟩
 refine ⟨rfl, rfl, rfl, by simp [World.freeze], fun k o ho => ?_⟩
 rw [hh]
 by_cases hk : k = rb.blk
 ·
  subst hk
  rw [if_pos rfl]
  rw [hb] at ho; cases ho
  exact ⟨c, _, rfl, rfl, .inr ⟨⟨rb.off, hv, rfl, Nat.le_refl _⟩, fun _ => hu⟩, fun _ _ => rfl⟩
 ·
  rw [if_neg hk, ho]; exact FrO.refl _ _
theorem Chg.put {id : Nat} {b b' : SB} {rb : RB} (hid : H id = some b) (hr : ρ id = some rb) (hown : b.own = true) (hfoot : ∀ k o, foot rb b' k o → foot rb b k o)
  (hb : BRel ρ w' rb b') (hf : Fr (fun k o => foot rb b k o) w w') : Chg ρ H w [(id, some b')] ρ w' := by
 have ho : ∀ k o, foot rb b k o → OwnW ρ H [(id, some b')] k o := fun k o h => ⟨id, _, b, rb, List.mem_singleton.2 rfl, hid, hr, hown, h⟩
 refine ⟨Ext.refl _, fun _ _ h => .inl h, ?_, hf.mono (fun k o _ h => ho k o h), ?_, ?_⟩
 ·
  intro i x hx
  simp at hx
  obtain ⟨rfl, rfl⟩ := hx
  exact ⟨rb, hr, hb⟩
 ·
  intro i x r k o hx hrr hff
  simp at hx
  obtain ⟨rfl, rfl⟩ := hx
  rw [hr] at hrr; cases hrr
  exact .inl (ho k o (hfoot k o hff))
 ·
  intro i j bi bj ri rj hne hi hj
  simp at hi hj
  exact absurd (hi.1.trans hj.1.symm) hne
theorem Chg.move {id nid : Nat} {b b' : SB} {rb rb' : RB} (hne : id ≠ nid) (hid : H id = some b) (hr : ρ id = some rb) (hown : b.own = true) (hn : ρ nid = none)
  (hfoot : ∀ k o, foot rb' b' k o → foot rb b k o ∨ w.heap.size ≤ k) (hb : BRel ρ w' rb' b') (hf : Fr (fun k o => foot rb b k o) w w') :
  Chg ρ H w [(id, none), (nid, some b')] (setR ρ nid rb') w' := by
 have ho : ∀ k o, foot rb b k o → OwnW ρ H [(id, none), (nid, some b')] k o := fun k o h => ⟨id, none, b, rb, by simp, hid, hr, hown, h⟩
 have he : Ext ρ (setR ρ nid rb') := Ext.setR rb' hn
 refine ⟨he, ?_, ?_, hf.mono (fun k o _ h => ho k o h), ?_, ?_⟩
 ·
  intro i r hrr
  by_cases e : i = nid
  ·
   subst e; exact .inr ⟨some b', by simp⟩
  ·
   rw [setR_other ρ rb' e] at hrr; exact .inl hrr
 ·
  intro i x hx
  simp at hx
  obtain ⟨rfl, rfl⟩ := hx
  exact ⟨rb', setR_same _ _ _, hb.ext he⟩
 ·
  intro i x r k o hx hrr hff
  simp at hx
  obtain ⟨rfl, rfl⟩ := hx
  rw [setR_same] at hrr; cases hrr
  exact (hfoot k o hff).imp (ho k o) (fun h => h)
 ·
  intro i j bi bj ri rj hne hi hj
  simp at hi hj
  exact absurd (hi.1.trans hj.1.symm) hne
def Fw (r : Option Nat) : Fence := { Fence.wide with round := r }
def evO (R : Env) : Operand → Option SV
 | .tmp t => R t
 | .const v => ofVal v
 | .func f => some (.fn f [])
 | .global _ => none
def readsOf (o : Oper) : List Nat := o.op.operands.toList.filterMap fun | .tmp t => some t | _ => none
def SepF (ρ : Ren) (H : Heap) (F : List Nat) : Prop := ∀ i ∈ F, ∀ j ∈ F, ∀ bi bj ri rj, i ≠ j → H i = some bi → H j = some bj → ρ i = some ri → ρ j = some rj → bi.own = true →
 ∀ k o, ¬ (foot ri bi k o ∧ foot rj bj k o)
def LT (P : Program) (o : Oper) (R : Env) (H : Heap) (F : List Nat) (W : Upd) (out : Option SV) : Prop :=
 ∀ (r : Option Nat) (n : Nat) (a : Act) (w : World) (ρ : Ren) (next : Act → World → Prop) (Q : Exit → Act → World → Prop),
  (∀ t ∈ readsOf o, ∀ v, R t = some v → Rel ρ v (a.tmps.getD t undef)) →
  (∀ id ∈ F, ∀ b, H id = some b → ∃ rb, ρ id = some rb ∧ BRel ρ w rb b) → SepF ρ H F →
  (∀ id ob, (id, ob) ∈ W → id ∉ F → ρ id = none) →
  (∀ rv w' ρ', Chg ρ H w W ρ' w' → (∀ v, out = some v → Rel ρ' v rv) → next (a.put o.dst rv) w') → o.wpIn (Fw r) n P a w next Q
theorem LT.of_run {o : Oper} {R : Env} {F : List Nat} {out : Option SV} (hd : ∀ c, o.op ≠ .defer c)
  (h : ∀ (e : Operand → Value) (w : World) (ρ : Ren), (∀ x ∈ o.op.operands, ∀ v, evO R x = some v → Rel ρ v (e x)) →
   (∀ id ∈ F, ∀ b, H id = some b → ∃ rb, ρ id = some rb ∧ BRel ρ w rb b) → SepF ρ H F → (∀ id ob, (id, ob) ∈ W → id ∉ F → ρ id = none) →
   ∃ x w' ρ', (execOp e o).run P w = .ok x w' ∧ Chg ρ H w W ρ' w' ∧ ((∃ rv, x = .value rv ∧ ∀ v, out = some v → Rel ρ' v rv) ∨ (x = .skip ∧ out = none))) :
  LT P o R H F W out := by
 intro r n a w ρ next Q hR hF hS hn hk
 refine ⟨fun _ _ => trivial, ?_⟩
 rw [Oper.semAt_eq _ _ _ hd]
 obtain ⟨x, w', ρ', hrun, hc, ho⟩ := h a.eval w ρ (fun x hx v hv => by
  cases x with
  | tmp t => exact hR t (by simp only [readsOf, List.mem_filterMap]; exact ⟨.tmp t, by simpa using hx, rfl⟩) v hv
  | const u => exact (ofVal_rel hv).1
  | func f => simp only [evO, Option.some.injEq] at hv; subst hv; simp only [Rel]; exact ⟨[], rfl, Rels.nil_iff.2 rfl⟩
  | global g => cases hv) hF hS hn
 rw [hrun]
 rcases ho with ⟨rv, rfl, hv⟩ | ⟨rfl, ho⟩
 ·
  exact hk rv w' ρ' hc hv
 ·
  exact hk undef w' ρ' hc (fun v hv => by rw [ho] at hv; cases hv)
theorem LT.pure {o : Oper} {R : Env} {F : List Nat} {z : SV} (hd : ∀ c, o.op ≠ .defer c)
  (h : ∀ (e : Operand → Value) (w : World) (ρ : Ren), (∀ x ∈ o.op.operands, ∀ v, evO R x = some v → Rel ρ v (e x)) →
   (∀ id ∈ F, ∀ b, H id = some b → ∃ rb, ρ id = some rb ∧ BRel ρ w rb b) → ∃ rv, (execOp e o).run P w = .ok (.value rv) w ∧ Rel ρ z rv) :
  LT P o R H F [] (some z) :=
 LT.of_run hd fun e w ρ h1 h2 _ _ => by
  obtain ⟨rv, hr, hz⟩ := h e w ρ h1 h2
  exact ⟨_, w, ρ, hr, Chg.zero _ _ _, .inl ⟨rv, rfl, fun v hv => by cases hv; exact hz⟩⟩
end
end Go.Sh
namespace Go.Sh
def SB.cells : SB → List SV
 | .row _ l => l
 | .box l => l
 | .ro l => l
 | .obj _ => []
 | .ext _ => []
def SB.with (b : SB) (l : List SV) : SB :=
 match b with
 | .row t _ => .row t l
 | .box _ => .box l
 | .ro _ => .ro l
 | .obj y => .obj y
 | .ext y => .ext y
def SV.isTup : SV → Bool
 | .tup _ => true
 | _ => false
theorem SV.not_tup {x : SV} (h : x.isTup = false) : ∀ l, x ≠ .tup l := fun l e => by subst e; cases h
section
variable {P : Program} {ρ ρ' : Ren} {H : Heap} {w w' : World}
theorem BRel.cellsAt {rb : RB} {b : SB} (h : BRel ρ w rb b) (hne : 0 < b.cells.length) : CellsAt ρ w rb.blk rb.off b.cells b.own ∧ rb.virt = false := by
 cases b with
 | obj y => simp [SB.cells] at hne
 | ext y => simp [SB.cells] at hne
 | ro l =>
  rcases h with rfl | h
  ·
   simp [SB.cells] at hne
  ·
   exact ⟨h.1, h.2.2⟩
 | box l => exact ⟨h.1, h.2.2⟩
 | row t l =>
  rcases h with ⟨_, rfl⟩ | ⟨hv, c, fz, hb, hz, hs, ha, hr, hl⟩
  ·
   simp [SB.cells] at hne
  ·
   exact ⟨⟨c, t, fz, hb, ha, hr, fun _ => hz, by simp only [SB.cells]; omega⟩, hv⟩
theorem BRel.put {rb : RB} {b : SB} {k : Nat} {x : SV} {v : Value} (h : BRel ρ w rb b) (hown : b.own = true) (hx : Rel ρ x v) (ht : ∀ l, x ≠ .tup l) (hk : k + x.cells.length ≤ b.cells.length) (hne : 0 < b.cells.length) :
  BRel ρ (World.putCells w rb.blk (rb.off + k) v.cells.toList) rb (b.with (sput b.cells k x)) ∧
   Fr (fun i o => foot rb b i o) w (World.putCells w rb.blk (rb.off + k) v.cells.toList) ∧ (∀ i o, foot rb (b.with (sput b.cells k x)) i o → foot rb b i o) := by
 have hvl : v.cells.toList.length = x.cells.length := (hx.cells_rel ht).1.length
 cases b with
 | obj y => simp [SB.cells] at hne
 | ext y => simp [SB.cells] at hne
 | ro l => cases hown
 | box l =>
  obtain ⟨hc, hl, hv⟩ := h
  obtain ⟨h1, h2⟩ := hc.put hx ht hk
  refine ⟨⟨h1, by simp only [SB.cells]; omega, hv⟩, ?_, ?_⟩
  ·
   obtain ⟨c, t, fz, hb, ha, hr, hz, hs⟩ := hc
   exact Fr.putCells _ _ _ _ _ hb (by simp [SB.cells] at hk; omega) (fun o h3 h4 => ⟨rfl, by simp [SB.cells] at hk; omega, by simp [SB.cells] at hk; omega⟩)
  ·
   rintro i o ⟨h3, h4, h5⟩
   simp only [SB.with, SB.cells] at h5
   exact ⟨h3, h4, by rw [h2] at h5; exact h5⟩
 | row t l =>
  rcases h with ⟨_, rfl⟩ | ⟨hv, c, fz, hb, hz, hs, ha, hr, hl⟩
  ·
   simp [SB.cells] at hne
  ·
   have hc : CellsAt ρ w rb.blk rb.off l true := ⟨c, t, fz, hb, ha, hr, fun _ => hz, by omega⟩
   obtain ⟨⟨c', t', fz', hb', ha', hr', hz', hs'⟩, h2⟩ := hc.put hx ht hk
   have hb2 := World.putCells_heap w rb.blk (rb.off + k) v.cells.toList hb
   rw [hb2] at hb'; cases hb'
   simp only [SB.cells] at hk
   have hps : (putAt c (rb.off + k) v.cells.toList).size = c.size := putAt_size _ _ _ (by omega)
   refine ⟨.inr ⟨hv, _, _, hb2, hz' rfl, by rw [hps]; exact hs, ha', hr', by simp only [SB.cells]; omega⟩, ?_, fun i o h => h⟩
   exact Fr.putCells _ _ _ _ _ hb (by omega) (fun o h3 h4 => ⟨hv, rfl, by omega⟩)
theorem lt_move {o : Oper} {R : Env} {x : Operand} {z : SV} (ho : o.op = .move x ∨ o.op = .assign x) (hx : evO R x = some z) : LT P o R H [] [] (some z) := by
 refine LT.pure (by rcases ho with h | h <;> simp [h]) fun e w ρ h1 _ => ⟨e x, ?_, h1 x (by rcases ho with h | h <;> simp [h, Op.operands]) z hx⟩
 rcases ho with h | h <;> simp [execOp, h]
theorem lt_pick {o : Oper} {R : Env} {c x y : Operand} {t : Bool} {z : SV} (ho : o.op = .pick c x y) (hc : evO R c = some (.b t)) (hx : (if t then evO R x else evO R y) = some z) : LT P o R H [] [] (some z) := by
 refine LT.pure (by simp [ho]) fun e w ρ h1 _ => ?_
 have h2 := h1 c (by simp [ho, Op.operands]) _ hc
 simp only [Rel] at h2
 cases t
 ·
  exact ⟨e y, by simp [execOp, ho, h2, asBool], h1 y (by simp [ho, Op.operands]) z (by simpa using hx)⟩
 ·
  exact ⟨e x, by simp [execOp, ho, h2, asBool], h1 x (by simp [ho, Op.operands]) z (by simpa using hx)⟩
theorem run_newVar {t : TypeId} {v : Value} : (newVar t v).run P w = .ok ⟨w.heap.size, 0, none⟩ (w.alloc (.cells v.cells t)) := rfl
theorem Chg.box {nid : Nat} {x : SV} {v : Value} {t : TypeId} (hn : ρ nid = none) (hx : Rel ρ x v) (ht : ∀ l, x ≠ .tup l) :
  Chg ρ H w [(nid, some (.box x.cells))] (setR ρ nid ⟨w.heap.size, 0, x.cells.length, false⟩) (w.alloc (.cells v.cells t)) := by
 obtain ⟨h1, h2⟩ := hx.cells_rel ht
 have hl := h1.length
 have := Chg.new (ρ := ρ) (H := H) (w := w) (nid := nid) (b := .box x.cells) (rb := ⟨w.heap.size, 0, x.cells.length, false⟩) (c := v.cells) (t := t) (fz := (0, 0)) w.drawn hn rfl
  ⟨⟨v.cells, t, (0, 0), alloc_heap_new w _, h2, by simp only [List.drop_zero]; rw [List.take_of_length_le (by omega)]; exact h1, fun _ => .inl rfl, by simp only [Array.length_toList] at hl; simp only; omega⟩, Nat.le_refl _, rfl⟩
 exact this
theorem lt_box {o : Oper} {R : Env} {x : Operand} {t nid : Nat} {z : SV} (ho : o.op = .box t x) (hx : evO R x = some z) (ht : z.isTup = false) : LT P o R H [] [(nid, some (.box z.cells))] (some (.p nid 0)) := by
 refine LT.of_run (by simp [ho]) fun e w ρ h1 _ _ hn => ?_
 have h2 := h1 x (by simp [ho, Op.operands]) _ hx
 refine ⟨.value (.pointer (some ⟨w.heap.size, 0, none⟩)), w.alloc (.cells (e x).cells t), _, by simp only [execOp, ho, Instr.box, Sem.run_bind, run_newVar, Result.andThen_ok, Sem.run_pure], Chg.box (hn nid (some (.box z.cells)) (by simp) (by simp)) h2 (SV.not_tup ht), .inl ⟨_, rfl, ?_⟩⟩
 intro v hv; cases hv
 simp only [Rel]
 exact ⟨_, setR_same _ _ _, rfl⟩
theorem lt_alloc {o : Oper} {R : Env} {t nid : Nat} {z : SV} (ho : o.op = .alloc t) (hz : pzero P t = some z) : LT P o R H [] [(nid, some (.box z.cells))] (some (.p nid 0)) := by
 refine LT.of_run (by simp [ho]) fun e w ρ _ _ _ hn => ?_
 obtain ⟨v, hv, hr, ht⟩ := run_zero (P := P) (w := w) hz
 refine ⟨.value (.pointer (some ⟨w.heap.size, 0, none⟩)), w.alloc (.cells v.cells t), _, by simp only [execOp, ho, Instr.alloc, Sem.run_bind, hv, run_newVar, Result.andThen_ok, Sem.run_pure], Chg.box (hn nid (some (.box z.cells)) (by simp) (by simp)) (hr ρ) ht, .inl ⟨_, rfl, ?_⟩⟩
 intro v hv; cases hv
 simp only [Rel]
 exact ⟨_, setR_same _ _ _, rfl⟩
theorem sload_pos {g : Bool} {sz : Nat} {l : List SV} {k : Nat} {x : SV} (h : sload g sz l k = some x) (hsz : 0 < sz) : 0 < l.length := by
 unfold sload at h
 split at h
 ·
  split at h
  ·
   omega
  ·
   cases h
 ·
  have := (List.getElem?_eq_some_iff.1 h).1; omega
theorem lt_load {o : Oper} {R : Env} {x : Operand} {t id k sz : Nat} {g : Bool} {b : SB} {z : SV} (ho : o.op = .load t x) (hx : evO R x = some (.p id k)) (hb : H id = some b)
  (hg : pagg P t = some g) (hs : psz P t = some sz) (hsz : 0 < sz) (hz : sload g sz b.cells k = some z) : LT P o R H [id] [] (some z) := by
 refine LT.pure (by simp [ho]) fun e w ρ h1 h2 => ?_
 have h3 := h1 x (by simp [ho, Op.operands]) _ hx
 simp only [Rel] at h3
 obtain ⟨rb, hr, he⟩ := h3
 obtain ⟨rb', hr', hbr⟩ := h2 id (by simp) b hb
 rw [hr] at hr'; cases hr'
 obtain ⟨v, hv, hzv⟩ := load_ok hg hs (hbr.cellsAt (sload_pos hz hsz)).1 hz
 exact ⟨v, by simp only [execOp, ho, he, Instr.loadAt, Instr.sureAddr, Sem.run_bind, Sem.run_pure, Result.andThen_ok, hv], hzv⟩
theorem lt_store {o : Oper} {R : Env} {x y : Operand} {t id k sz : Nat} {b : SB} {z : SV} (ho : o.op = .store t x y) (hx : evO R x = some (.p id k)) (hy : evO R y = some z) (hb : H id = some b)
  (hown : b.own = true) (hs : psz P t = some sz) (hsz : 0 < sz) (ht : z.isTup = false) (hzs : z.cells.length = sz) (hk : k + sz ≤ b.cells.length) :
  LT P o R H [id] [(id, some (b.with (sput b.cells k z)))] none := by
 refine LT.of_run (by simp [ho]) fun e w ρ h1 h2 _ _ => ?_
 have h3 := h1 x (by simp [ho, Op.operands]) _ hx
 have h4 := h1 y (by simp [ho, Op.operands]) _ hy
 simp only [Rel] at h3
 obtain ⟨rb, hr, he⟩ := h3
 obtain ⟨rb', hr', hbr⟩ := h2 id (by simp) b hb
 rw [hr] at hr'; cases hr'
 obtain ⟨hc, _⟩ := hbr.cellsAt (by omega)
 rw [hown] at hc
 have hrun := store_ok (P := P) hs hc h4 (SV.not_tup ht) hzs hk
 obtain ⟨p1, p2, p3⟩ := hbr.put (k := k) hown h4 (SV.not_tup ht) (by omega) (by omega)
 exact ⟨.skip, _, ρ, by simp only [execOp, ho, he, Instr.storeAt, Instr.sureAddr, Sem.run_bind, Sem.run_pure, Result.andThen_ok, hrun], Chg.put hb hr hown p3 p1 p2, .inr ⟨rfl, rfl⟩⟩
theorem run_eqGuard {op : BinOp} {t : TypeId} {x y : Operand} {a b : Value} (ha : ∀ c, a ≠ .agg c) (hi : a ≠ .nilIface) : (eqGuard op t x y a b).run P w = .ok () w := by
 cases a <;> first
  | exact absurd rfl (ha _)
  | exact absurd rfl hi
  | (cases op <;> simp [eqGuard])
theorem Rel.plain {x : SV} {v : Value} (h : ∀ l, x ≠ .agg l) (hx : Rel ρ x v) : (∀ c, v ≠ .agg c) ∧ v ≠ .nilIface := by
 cases x <;> simp only [Rel] at hx <;> first
  | exact absurd rfl (h _)
  | (subst hx; exact ⟨fun c => by simp, by simp⟩)
  | (obtain ⟨rfl, _, _, _, rfl⟩ := hx; exact ⟨fun c => by simp, by simp⟩)
  | (obtain ⟨_, _, rfl⟩ := hx; exact ⟨fun c => by simp, by simp⟩)
  | (obtain ⟨_, rfl, _⟩ := hx; exact ⟨fun c => by simp, by simp⟩)
  | (obtain ⟨_, _, _, _, rfl, _⟩ := hx; exact ⟨fun c => by simp, by simp⟩)
theorem snum_plain {op : BinOp} {x y z : SV} (h : snum op x y = some z) : ∀ l, x ≠ .agg l := by
 intro l e
 subst e
 cases op <;> simp only [snum] at h <;> first
  | (obtain ⟨n, _, hs⟩ := Option.bind_eq_some_iff.1 h; simp only [sshl, sshr] at hs; cases hs; done)
  | (cases y <;> simp only [sarith] at h <;> cases h)
theorem sarith_num {op : BinOp} {x y z : SV} {v : Value} (h : snum op x y = some z) (hx : Rel ρ x v) : (∀ c, v ≠ .agg c) ∧ v ≠ .nilIface := Rel.plain (snum_plain h) hx
theorem lt_num {o : Oper} {R : Env} {op : BinOp} {t t2 : TypeId} {x y : Operand} {a b z : SV} (ho : o.op = .binOp op t x y t2) (hx : evO R x = some a) (hy : evO R y = some b) (hz : snum op a b = some z) :
  LT P o R H [] [] (some z) := by
 refine LT.pure (by simp [ho]) fun e w ρ h1 _ => ?_
 have h2 := h1 x (by simp [ho, Op.operands]) _ hx
 have h3 := h1 y (by simp [ho, Op.operands]) _ hy
 obtain ⟨r, hr, hrel⟩ := snum_ok (P := P) (w := w) t hz h2 h3
 obtain ⟨g1, g2⟩ := sarith_num hz h2
 exact ⟨r, by simp only [execOp, ho, Sem.run_bind, run_eqGuard g1 g2, Result.andThen_ok, hr, Sem.run_pure], hrel⟩
theorem lt_cat {o : Oper} {R : Env} {t t2 : TypeId} {x y : Operand} {u v : List UInt8} (ho : o.op = .binOp .add t x y t2) (hx : evO R x = some (.s u)) (hy : evO R y = some (.s v)) (hl : u.length + v.length ≤ 9223372036854775807) :
  LT P o R H [] [] (some (.s (u ++ v))) := by
 refine LT.pure (by simp [ho]) fun e w ρ h1 _ => ?_
 have h2 := h1 x (by simp [ho, Op.operands]) _ hx
 have h3 := h1 y (by simp [ho, Op.operands]) _ hy
 simp only [Rel] at h2 h3
 have hc : (⟨⟨u⟩⟩ : ByteArray) ++ (⟨⟨v⟩⟩ : ByteArray) = ⟨⟨u ++ v⟩⟩ := by
  apply ByteArray.ext
  rw [ByteArray.data_append]
  simp
 have hsz : (((⟨⟨u⟩⟩ : ByteArray).size + (⟨⟨v⟩⟩ : ByteArray).size : Nat) : Int) = ((u.length + v.length : Nat) : Int) := rfl
 refine ⟨.string ⟨⟨u ++ v⟩⟩, ?_, by simp only [Rel]⟩
 have hg : (eqGuard .add t x y (.string ⟨⟨u⟩⟩) (.string ⟨⟨v⟩⟩)).run P w = .ok () w := run_eqGuard (by simp) (by simp)
 have hmax : IntKind.i64.max = 9223372036854775807 := by rfl
 have hb : (binOp .add t (.string ⟨⟨u⟩⟩) (.string ⟨⟨v⟩⟩)).run P w = .ok (.string ⟨⟨u ++ v⟩⟩) w := by
  simp only [binOp, Op.stringOp]
  rw [if_neg (by rw [hsz, hmax]; omega), hc, Sem.run_pure]
 simp only [execOp, ho, h2, h3, Sem.run_bind, hg, Result.andThen_ok, hb, Sem.run_pure]
theorem lt_un {o : Oper} {R : Env} {op : UnOp} {t : TypeId} {x : Operand} {a z : SV} (ho : o.op = .unOp op t x) (hx : evO R x = some a) (hz : sun op a = some z) : LT P o R H [] [] (some z) := by
 refine LT.pure (by simp [ho]) fun e w ρ h1 _ => ?_
 have h2 := h1 x (by simp [ho, Op.operands]) _ hx
 obtain ⟨r, hr, hrel⟩ := sun_ok (P := P) (w := w) hz h2
 exact ⟨r, by simp only [execOp, ho, Sem.run_bind, Result.andThen_ok, hr, Sem.run_pure], hrel⟩
theorem lt_conv {o : Oper} {R : Env} {s d : TypeId} {k : IntKind} {x : Operand} {a z : SV} {ds : TypeDesc} (ho : o.op = .convert s d x) (hs : P.underlying s = some ds) (hd : P.underlying d = some (.int k))
  (hx : evO R x = some a) (hz : sconv k a = some z) : LT P o R H [] [] (some z) := by
 refine LT.pure (by simp [ho]) fun e w ρ h1 _ => ?_
 have h2 := h1 x (by simp [ho, Op.operands]) _ hx
 obtain ⟨k', n, he, hrel⟩ := sconv_num hz h2
 exact ⟨_, by simp only [execOp, ho, he, convert, Sem.run_bind, run_und hs, run_und hd, Result.andThen_ok, Conv.intToInt, Sem.run_pure], hrel⟩
theorem lt_conv_str {o : Oper} {R : Env} {s d : TypeId} {x : Operand} {l : List UInt8} {ds : TypeDesc} (ho : o.op = .convert s d x) (hs : P.underlying s = some ds) (hd : P.underlying d = some .string)
  (hx : evO R x = some (.s l)) : LT P o R H [] [] (some (.s l)) := by
 refine LT.pure (by simp [ho]) fun e w ρ h1 _ => ?_
 have h2 := h1 x (by simp [ho, Op.operands]) _ hx
 simp only [Rel] at h2
 refine ⟨_, ?_, by simp only [Rel]; rfl⟩
 simp only [execOp, ho, h2, convert, Sem.run_bind, run_und hs, run_und hd, Result.andThen_ok]
 cases ds <;> rfl
def pfield (P : Program) (t f : Nat) : Option (Nat × Nat) :=
 match P.underlying t with
 | some (.struct fs) => (fs[f]?).map fun x => (x.offset, x.type)
 | _ => none
theorem lt_fieldAddr {o : Oper} {R : Env} {x : Operand} {t f id k off ft sz : Nat} (ho : o.op = .fieldAddr t x f) (hx : evO R x = some (.p id k)) (hf : pfield P t f = some (off, ft)) (hs : psz P ft = some sz) (hsz : 0 < sz) :
  LT P o R H [] [] (some (.p id (k + off))) := by
 refine LT.pure (by simp [ho]) fun e w ρ h1 _ => ?_
 have h3 := h1 x (by simp [ho, Op.operands]) _ hx
 simp only [Rel] at h3
 obtain ⟨rb, hr, he⟩ := h3
 unfold pfield at hf
 split at hf
 ·
  rename_i fs hu
  obtain ⟨fd, hfd, e2⟩ := Option.map_eq_some_iff.1 hf
  cases e2
  refine ⟨.pointer (some ⟨rb.blk, rb.off + k + fd.offset, none⟩), ?_, by simp only [Rel]; exact ⟨rb, hr, by rw [Nat.add_assoc]⟩⟩
  simp only [execOp, ho, he, Instr.fieldAt, Sem.run_bind, run_und hu, Result.andThen_ok, hfd, Instr.sureAddr, Sem.run_pure, fieldPlace, run_size hs]
  rw [if_neg (by omega), Sem.run_pure, Result.andThen_ok, add_addr, Result.andThen_ok]
 ·
  cases hf
theorem slice_addr {id o n sz : Nat} {full : Bool} {v : Value} (h : Rel ρ (.sl id o n sz full) v) (hn : 0 < n) : ∃ rb c, ρ id = some rb ∧ v = .slice (some ⟨rb.blk, rb.off + o, none⟩) n c ∧ n ≤ c ∧ (full = true → c = n) ∧ rb.virt = false ∧ o + c * sz ≤ rb.cap := by
 simp only [Rel] at h
 obtain ⟨rb, a, c, hr, rfl, hc, hf, h0 | ⟨hv, rfl, hcap⟩⟩ := h
 ·
  omega
 ·
  exact ⟨rb, c, hr, rfl, hc, hf, hv, hcap⟩
def idxOf : SV → Option Nat
 | .i n => if 0 ≤ n then some n.toNat else none
 | .u8 x => some x.toNat
 | .u64 x => some x.toNat
 | .u32 x => some x.toNat
 | _ => none
theorem idxOf_spec {x : SV} {n : Nat} {v : Value} (h : idxOf x = some n) (hx : Rel ρ x v) : ∃ k, v = .int k (n : Int) := by
 cases x <;> simp only [idxOf, Rel] at h hx <;> try (cases h; done)
 ·
  split at h
  ·
   cases h; exact ⟨_, by rw [hx]; congr 1; omega⟩
  ·
   cases h
 all_goals (cases h; exact ⟨_, hx⟩)
theorem lt_index_arrU {o : Oper} {R : Env} {x y : Operand} {t id k len el sz i : Nat} {z : SV} (ho : o.op = .indexAddr t x y) (hx : evO R x = some (.p id k)) (hy : evO R y = some z) (hi : idxOf z = some i) (hu : P.underlying t = some (.array len el))
  (hs : psz P el = some sz) (hlt : i < len) : LT P o R H [] [] (some (.p id (k + i * sz))) := by
 refine LT.pure (by simp [ho]) fun e w ρ h1 _ => ?_
 have h3 := h1 x (by simp [ho, Op.operands]) _ hx
 obtain ⟨kk, h4⟩ := idxOf_spec hi (h1 y (by simp [ho, Op.operands]) _ hy)
 simp only [Rel] at h3
 obtain ⟨rb, hr, he⟩ := h3
 have h0 : (0 : Int) ≤ (i : Int) := Int.natCast_nonneg _
 have hlt' : (i : Int) < (len : Int) := by omega
 refine ⟨.pointer (some ⟨rb.blk, rb.off + k + i * sz, none⟩), ?_, by simp only [Rel]; exact ⟨rb, hr, by rw [Nat.add_assoc]⟩⟩
 simp only [execOp, ho, he, h4, Instr.indexAt, asIntOf, Sem.run_bind, run_und hu, Result.andThen_ok, Instr.sureAddr, Sem.run_pure, h0, hlt', and_self, if_true, run_size hs, add_addr, Int.toNat_natCast]
theorem lt_index_sl {o : Oper} {R : Env} {x y : Operand} {t id k n sz el i : Nat} {full : Bool} {z : SV} (ho : o.op = .indexAddr t x y) (hx : evO R x = some (.sl id k n sz full)) (hy : evO R y = some z) (hi : idxOf z = some i)
  (hu : P.underlying t = some (.slice el)) (hs : psz P el = some sz) (hlt : i < n) : LT P o R H [] [] (some (.p id (k + i * sz))) := by
 refine LT.pure (by simp [ho]) fun e w ρ h1 _ => ?_
 obtain ⟨rb, c, hr, he, _⟩ := slice_addr (h1 x (by simp [ho, Op.operands]) _ hx) (by omega)
 obtain ⟨kk, h4⟩ := idxOf_spec hi (h1 y (by simp [ho, Op.operands]) _ hy)
 have h0 : (0 : Int) ≤ (i : Int) := Int.natCast_nonneg _
 have hlt' : (i : Int) < (n : Int) := by omega
 refine ⟨.pointer (some ⟨rb.blk, rb.off + k + i * sz, none⟩), ?_, by simp only [Rel]; exact ⟨rb, hr, by rw [Nat.add_assoc]⟩⟩
 simp only [execOp, ho, he, h4, Instr.indexAt, asIntOf, Sem.run_bind, run_und hu, Result.andThen_ok, Sem.run_pure, h0, hlt', and_self, if_true, run_size hs, add_addr, Int.toNat_natCast]
theorem lt_index_agg {o : Oper} {R : Env} {x y : Operand} {t len el sz i : Nat} {g : Bool} {l : List SV} {z r : SV} (ho : o.op = .index t x y) (hx : evO R x = some (.agg l)) (hy : evO R y = some z) (hi : idxOf z = some i)
  (hu : P.underlying t = some (.array len el)) (hg : pagg P el = some g) (hs : psz P el = some sz) (hlt : i < len) (hz : sload g sz l (i * sz) = some r) : LT P o R H [] [] (some r) := by
 refine LT.pure (by simp [ho]) fun e w ρ h1 _ => ?_
 have h3 := h1 x (by simp [ho, Op.operands]) _ hx
 simp only [Rel] at h3
 obtain ⟨cs, he, ha, hr⟩ := h3
 obtain ⟨kk, h4⟩ := idxOf_spec hi (h1 y (by simp [ho, Op.operands]) _ hy)
 have h0 : (0 : Int) ≤ (i : Int) := Int.natCast_nonneg _
 have hlt' : (i : Int) < (len : Int) := by omega
 have key : ∃ v, (part el ⟨cs⟩ (i * sz)).run P w = .ok v w ∧ Rel ρ r v := by
  unfold sload at hz
  unfold part
  rw [Sem.run_bind, run_agg hg, Result.andThen_ok]
  cases g with
  | true =>
   simp only [if_true] at hz ⊢
   split at hz
   ·
    cases hz
    refine ⟨_, by rw [Sem.run_bind, run_size hs, Result.andThen_ok, Sem.run_pure], ?_⟩
    simp only [Rel]
    refine ⟨(cs.drop (i * sz)).take sz, ?_, ?_, (hr.drop _).take _⟩
    ·
     congr 1
     apply Array.toList_inj.1
     simp [List.extract_eq_take_drop]
    ·
     simp only [atoms, List.all_eq_true] at ha ⊢
     exact fun y hy => ha y (List.mem_of_mem_drop (List.mem_of_mem_take hy))
   ·
    cases hz
  | false =>
   simp only [Bool.false_eq_true, if_false] at hz ⊢
   obtain ⟨v, hv, hxv⟩ := hr.get hz
   refine ⟨v, ?_, hxv⟩
   have : (⟨cs⟩ : Array Value)[i * sz]? = some v := by simpa using hv
   rw [this]; rfl
 obtain ⟨v, hv, hrv⟩ := key
 refine ⟨v, ?_, hrv⟩
 simp only [execOp, ho, he, h4, Instr.index, asIntOf, Sem.run_bind, run_und hu, Result.andThen_ok, Sem.run_pure, h0, hlt', and_self, if_true, run_size hs, Int.toNat_natCast, hv]
theorem lt_field {o : Oper} {R : Env} {x : Operand} {t f off ft sz : Nat} {g : Bool} {l : List SV} {r : SV} (ho : o.op = .field t x f) (hx : evO R x = some (.agg l)) (hf : pfield P t f = some (off, ft))
  (hg : pagg P ft = some g) (hs : psz P ft = some sz) (hz : sload g sz l off = some r) : LT P o R H [] [] (some r) := by
 refine LT.pure (by simp [ho]) fun e w ρ h1 _ => ?_
 have h3 := h1 x (by simp [ho, Op.operands]) _ hx
 simp only [Rel] at h3
 obtain ⟨cs, he, ha, hr⟩ := h3
 have key : ∃ v, (part ft ⟨cs⟩ off).run P w = .ok v w ∧ Rel ρ r v := by
  unfold sload at hz
  unfold part
  rw [Sem.run_bind, run_agg hg, Result.andThen_ok]
  cases g with
  | true =>
   simp only [if_true] at hz ⊢
   split at hz
   ·
    cases hz
    refine ⟨_, by rw [Sem.run_bind, run_size hs, Result.andThen_ok, Sem.run_pure], ?_⟩
    simp only [Rel]
    refine ⟨(cs.drop off).take sz, ?_, ?_, (hr.drop _).take _⟩
    ·
     congr 1
     apply Array.toList_inj.1
     simp [List.extract_eq_take_drop]
    ·
     simp only [atoms, List.all_eq_true] at ha ⊢
     exact fun y hy => ha y (List.mem_of_mem_drop (List.mem_of_mem_take hy))
   ·
    cases hz
  | false =>
   simp only [Bool.false_eq_true, if_false] at hz ⊢
   obtain ⟨v, hv, hxv⟩ := hr.get hz
   refine ⟨v, ?_, hxv⟩
   have : (⟨cs⟩ : Array Value)[off]? = some v := by simpa using hv
   rw [this]; rfl
 obtain ⟨v, hv, hrv⟩ := key
 refine ⟨v, ?_, hrv⟩
 unfold pfield at hf
 split at hf
 ·
  rename_i fs hu
  obtain ⟨fd, hfd, e2⟩ := Option.map_eq_some_iff.1 hf
  cases e2
  simp only [execOp, ho, he, Instr.field, Sem.run_bind, run_und hu, Result.andThen_ok, hfd, asAgg, Sem.run_pure, hv]
 ·
  cases hf
theorem lt_index_str {o : Oper} {R : Env} {x y : Operand} {t i : Nat} {l : List UInt8} {z : SV} {c : UInt8} (ho : o.op = .index t x y) (hx : evO R x = some (.s l)) (hy : evO R y = some z) (hi : idxOf z = some i)
  (hu : P.underlying t = some .string) (hz : l[i]? = some c) : LT P o R H [] [] (some (.u8 c)) := by
 refine LT.pure (by simp [ho]) fun e w ρ h1 _ => ?_
 have h3 := h1 x (by simp [ho, Op.operands]) _ hx
 simp only [Rel] at h3
 obtain ⟨kk, h4⟩ := idxOf_spec hi (h1 y (by simp [ho, Op.operands]) _ hy)
 have h0 : (0 : Int) ≤ (i : Int) := Int.natCast_nonneg _
 have hb : (⟨⟨l⟩⟩ : ByteArray)[i]? = some c := by
  have hlt : i < l.length := (List.getElem?_eq_some_iff.1 hz).1
  have hg := (List.getElem?_eq_some_iff.1 hz).2
  rw [getElem?_pos (⟨⟨l⟩⟩ : ByteArray) i hlt]
  exact congrArg some hg
 refine ⟨_, ?_, by simp only [Rel]; rfl⟩
 simp only [execOp, ho, h3, h4, Instr.index, asIntOf, Sem.run_bind, run_und hu, Result.andThen_ok, Sem.run_pure, h0, if_true, Int.toNat_natCast, hb]
theorem lt_extract {o : Oper} {R : Env} {x : Operand} {i : Nat} {l : List SV} {z : SV} (ho : o.op = .extract x i) (hx : evO R x = some (.tup l)) (hz : l[i]? = some z) : LT P o R H [] [] (some z) := by
 refine LT.pure (by simp [ho]) fun e w ρ h1 _ => ?_
 have h3 := h1 x (by simp [ho, Op.operands]) _ hx
 simp only [Rel] at h3
 obtain ⟨cs, he, hr⟩ := h3
 obtain ⟨v, hv, hzv⟩ := hr.get hz
 have : (⟨cs⟩ : Array Value)[i]? = some v := by simpa using hv
 exact ⟨v, by simp only [execOp, ho, he, Instr.extract, this, Sem.run_bind, Sem.run_pure, Result.andThen_ok], hzv⟩
theorem lt_nilCheck {o : Oper} {R : Env} {x : Operand} {id k : Nat} (ho : o.op = .nilCheck x) (hx : evO R x = some (.p id k)) : LT P o R H [] [] (some (.p id k)) := by
 refine LT.pure (by simp [ho]) fun e w ρ h1 _ => ?_
 have h3 := h1 x (by simp [ho, Op.operands]) _ hx
 have h4 := h3
 simp only [Rel] at h3
 obtain ⟨rb, hr, he⟩ := h3
 exact ⟨e x, by simp only [execOp, ho, he, Sem.run_pure], h4⟩
theorem lt_makeFunc {o : Oper} {R : Env} {f : Nat} {xs : Array Operand} {zs : List SV} (ho : o.op = .makeFunc (.func f) #[] xs) (hx : xs.toList.map (evO R) = zs.map some) : LT P o R H [] [] (some (.fn f zs)) := by
 refine LT.pure (by simp [ho]) fun e w ρ h1 _ => ?_
 refine ⟨.func (.func f) #[] (xs.map e), by simp only [execOp, ho, Instr.makeFunc, Array.map_empty, Sem.run_bind, Sem.run_pure, Result.andThen_ok], ?_⟩
 simp only [Rel]
 refine ⟨(xs.map e).toList, rfl, ?_⟩
 rw [Array.toList_map]
 have h2 : ∀ x ∈ xs.toList, ∀ v, evO R x = some v → Rel ρ v (e x) := fun x hx => h1 x (by simpa [ho, Op.operands] using hx)
 clear h1 ho
 generalize xs.toList = ys at hx h2
 induction ys generalizing zs with
 | nil => cases zs <;> simp at hx; exact Rels.nil_iff.2 rfl
 | cons y ys ih =>
  cases zs with
  | nil => simp at hx
  | cons z zs =>
   simp at hx
   exact Rels.cons (h2 y (by simp) z hx.1) (ih hx.2 (fun x hx => h2 x (by simp [hx])))
theorem lt_arrayAt {o : Oper} {R : Env} {x : Operand} {t id k n sz len el : Nat} {full : Bool} (ho : o.op = .sliceToArrayPointer t x) (hx : evO R x = some (.sl id k n sz full)) (hu : P.underlying t = some (.array len el)) (h0 : 0 < len) (hn : len ≤ n) :
  LT P o R H [] [] (some (.p id k)) := by
 refine LT.pure (by simp [ho]) fun e w ρ h1 _ => ?_
 obtain ⟨rb, c, hr, he, _⟩ := slice_addr (h1 x (by simp [ho, Op.operands]) _ hx) (by omega)
 refine ⟨.pointer (some ⟨rb.blk, rb.off + k, none⟩), ?_, by simp only [Rel]; exact ⟨rb, hr, rfl⟩⟩
 simp only [execOp, ho, he, Instr.arrayAt, Sem.run_bind, run_und hu, Result.andThen_ok]
 rw [if_neg (by omega), Sem.run_pure, Result.andThen_ok, Sem.run_pure]
theorem lt_len_sl {o : Oper} {R : Env} {x : Operand} {t id k n sz el : Nat} {full : Bool} (ho : o.op = .call { callee := .builtin .len, args := #[x], argTypes := #[t] }) (hx : evO R x = some (.sl id k n sz full)) (hu : P.underlying t = some (.slice el)) :
  LT P o R H [] [] (some (.i (n : Int))) := by
 refine LT.pure (by simp [ho]) fun e w ρ h1 _ => ?_
 have h3 := h1 x (by simp [ho, Op.operands, Call.operands]) _ hx
 simp only [Rel] at h3
 obtain ⟨rb, a, c, hr, he, _⟩ := h3
 exact ⟨_, by simp [execOp, ho, resolve, invoke, builtin, Builtin.len_, he, run_und hu, goInt]; rfl, by simp only [Rel]⟩
theorem lt_len_slc {o : Oper} {R : Env} {x : Operand} {t id k n c sz el : Nat} (ho : o.op = .call { callee := .builtin .len, args := #[x], argTypes := #[t] }) (hx : evO R x = some (.slc id k n c sz)) (hu : P.underlying t = some (.slice el)) :
  LT P o R H [] [] (some (.i (n : Int))) := by
 refine LT.pure (by simp [ho]) fun e w ρ h1 _ => ?_
 have h3 := h1 x (by simp [ho, Op.operands, Call.operands]) _ hx
 simp only [Rel] at h3
 obtain ⟨rb, a, c, hr, he, _⟩ := h3
 exact ⟨_, by simp [execOp, ho, resolve, invoke, builtin, Builtin.len_, he, run_und hu, goInt]; rfl, by simp only [Rel]⟩
theorem lt_len_nil {o : Oper} {R : Env} {x : Operand} {t el : Nat} (ho : o.op = .call { callee := .builtin .len, args := #[x], argTypes := #[t] }) (hx : evO R x = some .slnil) (hu : P.underlying t = some (.slice el)) :
  LT P o R H [] [] (some (.i 0)) := by
 refine LT.pure (by simp [ho]) fun e w ρ h1 _ => ?_
 have h3 := h1 x (by simp [ho, Op.operands, Call.operands]) _ hx
 simp only [Rel] at h3
 exact ⟨_, by simp [execOp, ho, resolve, invoke, builtin, Builtin.len_, h3, run_und hu, goInt]; rfl, by simp only [Rel]⟩
theorem lt_len_str {o : Oper} {R : Env} {x : Operand} {t : Nat} {l : List UInt8} (ho : o.op = .call { callee := .builtin .len, args := #[x], argTypes := #[t] }) (hx : evO R x = some (.s l)) (hu : P.underlying t = some .string) :
  LT P o R H [] [] (some (.i (l.length : Int))) := by
 refine LT.pure (by simp [ho]) fun e w ρ h1 _ => ?_
 have h3 := h1 x (by simp [ho, Op.operands, Call.operands]) _ hx
 simp only [Rel] at h3
 exact ⟨_, by simp [execOp, ho, resolve, invoke, builtin, Builtin.len_, h3, run_und hu, goInt]; rfl, by simp only [Rel]; rfl⟩
theorem lt_len_arr {o : Oper} {R : Env} {x : Operand} {t n el : Nat} (ho : o.op = .call { callee := .builtin .len, args := #[x], argTypes := #[t] }) (hu : P.underlying t = some (.array n el)) :
  LT P o R H [] [] (some (.i (n : Int))) := by
 refine LT.pure (by simp [ho]) fun e w ρ h1 _ => ?_
 refine ⟨.int .i64 n, ?_, by simp only [Rel]⟩
 simp [execOp, ho, resolve, invoke, builtin, Builtin.len_, run_und hu, goInt]
theorem lt_min {o : Oper} {R : Env} {x y : Operand} {t1 t2 : Nat} {a b : Int} (ho : o.op = .call { callee := .builtin .min, args := #[x, y], argTypes := #[t1, t2] }) (hx : evO R x = some (.i a)) (hy : evO R y = some (.i b)) :
  LT P o R H [] [] (some (.i (if b < a then b else a))) := by
 refine LT.pure (by simp [ho]) fun e w ρ h1 _ => ?_
 have h3 := h1 x (by simp [ho, Op.operands, Call.operands]) _ hx
 have h4 := h1 y (by simp [ho, Op.operands, Call.operands]) _ hy
 simp only [Rel] at h3 h4
 refine ⟨_, ?_, by simp only [Rel]; rfl⟩
 simp [execOp, ho, resolve, invoke, builtin, Builtin.min_, Builtin.min2, h3, h4]
theorem lt_max {o : Oper} {R : Env} {x y : Operand} {t1 t2 : Nat} {a b : Int} (ho : o.op = .call { callee := .builtin .max, args := #[x, y], argTypes := #[t1, t2] }) (hx : evO R x = some (.i a)) (hy : evO R y = some (.i b)) :
  LT P o R H [] [] (some (.i (if b > a then b else a))) := by
 refine LT.pure (by simp [ho]) fun e w ρ h1 _ => ?_
 have h3 := h1 x (by simp [ho, Op.operands, Call.operands]) _ hx
 have h4 := h1 y (by simp [ho, Op.operands, Call.operands]) _ hy
 simp only [Rel] at h3 h4
 refine ⟨_, ?_, by simp only [Rel]; rfl⟩
 simp [execOp, ho, resolve, invoke, builtin, Builtin.max_, Builtin.max2, h3, h4]
end
end Go.Sh
namespace Go.Sh
def reps (n : Nat) : List SV → List SV
 | [z] => List.replicate n z
 | zs => (List.replicate n zs).flatten
theorem reps_eq (n : Nat) (zs : List SV) : reps n zs = (List.replicate n zs).flatten := by
 cases zs with
 | nil => rfl
 | cons z zs =>
  cases zs with
  | nil =>
   simp only [reps]
   induction n with
   | zero => rfl
   | succ n ih => simp [List.replicate_succ, ← ih]
  | cons y ys => rfl
def sfill (place : Nat → Option (Nat × Nat)) : List SV → List (Nat × SV) → Option (List SV)
 | l, [] => some l
 | l, (i, x) :: rest =>
  match place i with
  | none => none
  | some (off, sz) =>
   if x.isTup = false ∧ x.cells.length = sz ∧ off + sz ≤ l.length then sfill place (sput l off x) rest else none
def pplaces (P : Program) (t : TypeId) : Option (List (Nat × Nat)) :=
 match P.underlying t with
 | some (.struct fields) => fields.toList.mapM (fun f => (P.info? f.type).map fun i => (f.offset, i.size))
 | _ => none
def relParts (ρ : Ren) : List (Nat × SV) → List (Nat × Value) → Prop
 | [], vs => vs = []
 | (i, x) :: xs, vs => ∃ v vs', vs = (i, v) :: vs' ∧ Rel ρ x v ∧ relParts ρ xs vs'
section
variable {P : Program} {ρ ρ' : Ren} {H : Heap} {w w' : World}
theorem fold_put (off : Nat) : ∀ (vs : List Value) (k : Nat) (cs : Array Value), off + k + vs.length ≤ cs.size →
  (vs.zipIdx k).foldl (fun (cs : Array Value) (p : Value × Nat) => cs.setIfInBounds (off + p.2) p.1) cs = putAt cs (off + k) vs
 | [], k, cs, _ => by
  simp only [List.zipIdx_nil, List.foldl_nil]
  apply Array.ext_getElem?
  intro j
  rw [putAt_getElem? _ _ _ (by simpa using ‹_›), if_neg (by simp)]
 | v :: vs, k, cs, h => by
  simp at h
  simp only [List.zipIdx_cons, List.foldl_cons]
  rw [fold_put off vs (k + 1) _ (by simp; omega)]
  apply Array.ext_getElem?
  intro j
  rw [putAt_getElem? _ _ _ (by simp; omega), putAt_getElem? _ _ _ (by simp; omega)]
  by_cases h1 : j = off + k
  ·
   subst h1
   rw [if_neg (by omega), if_pos (by simp)]
   rw [Array.getElem?_setIfInBounds_self_of_lt (by omega)]; simp
  ·
   by_cases h2 : off + (k + 1) ≤ j ∧ j < off + (k + 1) + vs.length
   ·
    rw [if_pos h2, if_pos (by simp; omega), show j - (off + k) = (j - (off + (k + 1))) + 1 from by omega]; simp
   ·
    rw [if_neg h2, if_neg (by simp; omega), Array.getElem?_setIfInBounds_ne (by omega)]
theorem fill_ok {place : Nat → Option (Nat × Nat)} : ∀ {xs : List (Nat × SV)} {vs : List (Nat × Value)} {l l' : List SV} {cs : Array Value}, relParts ρ xs vs → Rels ρ l cs.toList → atoms l = true → sfill place l xs = some l' →
  ∃ cs', Instr.fill place cs vs = some cs' ∧ Rels ρ l' cs'.toList ∧ atoms l' = true
 | [], vs, l, l', cs, hp, hr, ha, h => by
  simp only [relParts] at hp; subst hp
  simp only [sfill, Option.some.injEq] at h; subst h
  exact ⟨cs, rfl, hr, ha⟩
 | (i, x) :: xs, vs, l, l', cs, hp, hr, ha, h => by
  simp only [relParts] at hp
  obtain ⟨v, vs', rfl, hx, hxs⟩ := hp
  simp only [sfill] at h
  cases hpl : place i with
  | none => rw [hpl] at h; cases h
  | some q =>
   obtain ⟨off, sz⟩ := q
   rw [hpl] at h
   simp only at h
   split at h
   ·
    rename_i hc
    obtain ⟨h1, h2, h3⟩ := hc
    obtain ⟨hxr, hxa⟩ := hx.cells_rel (SV.not_tup h1)
    have hlen := hxr.length
    have hll := hr.length
    simp only [Array.length_toList] at hlen hll
    have hput : v.cells.zipIdx.foldl (fun (cs : Array Value) (p : Value × Nat) => cs.setIfInBounds (off + p.2) p.1) cs = putAt cs off v.cells.toList := by
     have := fold_put off v.cells.toList 0 cs (by simp; omega)
     rw [Nat.add_zero] at this
     rw [← this, ← Array.foldl_toList, Array.toList_zipIdx]
    have hr2 : Rels ρ (sput l off x) (putAt cs off v.cells.toList).toList := by
     rw [sput_eq l off x (by omega)]
     have e : (putAt cs off v.cells.toList).toList = cs.toList.take off ++ v.cells.toList ++ cs.toList.drop (off + x.cells.length) := by
      simp only [putAt, Array.length_toList, hlen]
     rw [e]
     exact ((hr.take _).append hxr).append (hr.drop _)
    have ha2 : atoms (sput l off x) = true := by
     rw [sput_eq l off x (by omega)]
     simp only [atoms, List.all_eq_true, List.mem_append] at ha hxa ⊢
     rintro y ((hy | hy) | hy)
     ·
      exact ha y (List.mem_of_mem_take hy)
     ·
      exact hxa y hy
     ·
      exact ha y (List.mem_of_mem_drop hy)
    obtain ⟨cs', g1, g2, g3⟩ := fill_ok (cs := putAt cs off v.cells.toList) hxs hr2 ha2 h
    refine ⟨cs', ?_, g2, g3⟩
    simp only [Instr.fill, hpl]
    rw [if_neg (by simp; omega)]
    rw [← hput] at g1
    exact g1
   ·
    cases h
theorem relParts_map {e : Operand → Value} {R : Env} : ∀ {parts : List (Nat × Operand)} {xs : List (Nat × SV)}, (∀ p ∈ parts, ∀ v, evO R p.2 = some v → Rel ρ v (e p.2)) →
  parts.map (fun p => (p.1, evO R p.2)) = xs.map (fun p => (p.1, some p.2)) → relParts ρ xs (parts.map fun p => (p.1, e p.2))
 | [], xs, _, h => by cases xs <;> simp at h; simp [relParts]
 | p :: ps, xs, hp, h => by
  cases xs with
  | nil => simp at h
  | cons x xs =>
   obtain ⟨i, x⟩ := x
   simp at h
   obtain ⟨⟨h1, h2⟩, h3⟩ := h
   simp only [relParts, List.map_cons]
   exact ⟨e p.2, ps.map (fun p => (p.1, e p.2)), by rw [h1], hp p (by simp) x h2, relParts_map (fun q hq => hp q (by simp [hq])) (by simpa using h3)⟩
theorem zero_of {t : TypeId} {z : SV} (h : pzero P t = some z) : ∃ i v, P.info? t = some i ∧ i.zero = some v ∧ (∀ ρ, Rel ρ z v) ∧ ∀ l, z ≠ .tup l := by
 unfold pzero at h
 obtain ⟨i, hi, h2⟩ := Option.bind_eq_some_iff.1 h
 obtain ⟨v, hv, h3⟩ := Option.bind_eq_some_iff.1 h2
 exact ⟨i, v, hi, hv, fun ρ => (ofVal_rel h3).1, (ofVal_rel (ρ := fun _ => none) h3).2⟩
theorem parts_ops {o : Oper} {parts : Array (Nat × Operand)} {e : Operand → Value} {R : Env} (hop : ∀ x, (∃ p ∈ parts.toList, p.2 = x) → x ∈ o.op.operands) (h1 : ∀ x ∈ o.op.operands, ∀ v, evO R x = some v → Rel ρ v (e x)) :
  ∀ p ∈ parts.toList, ∀ v, evO R p.2 = some v → Rel ρ v (e p.2) := fun p hp v hv => h1 p.2 (hop _ ⟨p, hp, rfl⟩) v hv
theorem map_parts (parts : Array (Nat × Operand)) (e : Operand → Value) : (parts.map fun (i, x) => (i, e x)).toList = parts.toList.map fun p => (p.1, e p.2) := by
 rw [Array.toList_map]
theorem lt_build_struct {o : Oper} {R : Env} {t : TypeId} {parts : Array (Nat × Operand)} {xs : List (Nat × SV)} {z : SV} {pl : List (Nat × Nat)} {l : List SV} (ho : o.op = .build t parts)
  (hx : parts.toList.map (fun p => (p.1, evO R p.2)) = xs.map (fun p => (p.1, some p.2))) (hz : pzero P t = some z) (hp : pplaces P t = some pl) (hf : sfill (fun i => pl[i]?) z.cells xs = some l) : LT P o R H [] [] (some (.agg l)) := by
 refine LT.pure (by simp [ho]) fun e w ρ h1 _ => ?_
 obtain ⟨i, v, hi, hv, hr, ht⟩ := zero_of hz
 obtain ⟨zr, za⟩ := (hr ρ).cells_rel ht
 obtain ⟨cs, g1, g2, g3⟩ := fill_ok (relParts_map (parts_ops (fun x hx => by obtain ⟨p, hp, rfl⟩ := hx; simp [ho, Op.operands]; exact ⟨p.1, by simpa using hp⟩) h1) hx) zr za hf
 refine ⟨.agg cs, ?_, by simp only [Rel]; exact ⟨cs.toList, rfl, g3, g2⟩⟩
 have hb : P.built t (parts.map fun (i, x) => (i, e x)).toList = some cs := by
  rw [map_parts]
  unfold pplaces at hp
  unfold Program.built
  split at hp
  ·
   rename_i fs hu
   simp only [hi, hu, hv, hp]
   simpa using g1
  ·
   cases hp
 simp only [execOp, ho, Sem.run_bind, run_build w t _ cs hb, Result.andThen_ok, Sem.run_pure]
theorem lt_build_array {o : Oper} {R : Env} {t n el sz : Nat} {parts : Array (Nat × Operand)} {xs : List (Nat × SV)} {z : SV} {l : List SV} (ho : o.op = .build t parts)
  (hx : parts.toList.map (fun p => (p.1, evO R p.2)) = xs.map (fun p => (p.1, some p.2))) (hu : P.underlying t = some (.array n el)) (hz : pzero P t = some z) (hs : psz P el = some sz)
  (hf : sfill (fun i => some (i * sz, sz)) z.cells xs = some l) : LT P o R H [] [] (some (.agg l)) := by
 refine LT.pure (by simp [ho]) fun e w ρ h1 _ => ?_
 obtain ⟨i, v, hi, hv, hr, ht⟩ := zero_of hz
 obtain ⟨zr, za⟩ := (hr ρ).cells_rel ht
 obtain ⟨cs, g1, g2, g3⟩ := fill_ok (relParts_map (parts_ops (fun x hx => by obtain ⟨p, hp, rfl⟩ := hx; simp [ho, Op.operands]; exact ⟨p.1, by simpa using hp⟩) h1) hx) zr za hf
 refine ⟨.agg cs, ?_, by simp only [Rel]; exact ⟨cs.toList, rfl, g3, g2⟩⟩
 have hb : P.built t (parts.map fun (i, x) => (i, e x)).toList = some cs := by
  rw [map_parts]
  unfold psz at hs
  obtain ⟨ie, hie, rfl⟩ := Option.map_eq_some_iff.1 hs
  unfold Program.built
  simp only [hi, hu, hv, hie]
  exact g1
 simp only [execOp, ho, Sem.run_bind, run_build w t _ cs hb, Result.andThen_ok, Sem.run_pure]
theorem made_succ (zero : Array Value) (n : Nat) : (madeCells zero ((n + 1) * zero.size)).toList = (madeCells zero (n * zero.size)).toList ++ zero.toList := by
 by_cases hz : zero.size = 0
 ·
  have : zero = #[] := Array.eq_empty_of_size_eq_zero hz
  subst this
  simp [madeCells]
 ·
  simp only [madeCells, Array.toList_map, Array.toList_range]
  rw [Nat.add_mul, Nat.one_mul, List.range_add, List.map_append]
  congr 1
  apply List.ext_getElem?
  intro j
  by_cases hj : j < zero.size
  ·
   simp [hj, Nat.mul_add_mod_self_right, Nat.mod_eq_of_lt hj]
  ·
   rw [List.getElem?_eq_none (by simp; omega), List.getElem?_eq_none (by simp; omega)]
theorem made_rel {zs : List SV} {zero : Array Value} (h : Rels ρ zs zero.toList) (ha : atoms zs = true) : ∀ n, Rels ρ (reps n zs) (madeCells zero (n * zero.size)).toList ∧ atoms (reps n zs) = true
 | 0 => by simp [reps_eq, madeCells, Rels, atoms]
 | n + 1 => by
  obtain ⟨h1, h2⟩ := made_rel h ha n
  rw [reps_eq] at h1 h2 ⊢
  rw [List.replicate_succ', List.flatten_append, made_succ]
  refine ⟨h1.append (by simpa using h), ?_⟩
  simp [atoms] at h2 ha ⊢
  exact ⟨h2, ha⟩
theorem reps_length (n : Nat) (zs : List SV) : (reps n zs).length = n * zs.length := by
 rw [reps_eq]; simp
theorem Chg.row {nid : Nat} {l : List SV} {vs : Array Value} {t : TypeId} {fz : Nat × Nat} (d : Nat) (hn : ρ nid = none) (ha : atoms l = true) (hr : Rels ρ l (vs.toList.take l.length)) (hl : l.length ≤ vs.size) (hz : Unfz vs fz) :
  Chg ρ H w [(nid, some (.row t l))] (setR ρ nid ⟨w.heap.size, 0, vs.size, false⟩) { (w.alloc (.cells vs t fz)) with drawn := d } :=
 Chg.new (b := .row t l) (rb := ⟨w.heap.size, 0, vs.size, false⟩) d hn rfl
  (.inr ⟨rfl, vs, fz, alloc_heap_new w _, hz, by simp, ha, by simpa using hr, hl⟩)
theorem run_buildSlice' {t n el sz : Nat} {v : Value} {i : TypeInfo} {parts : Array (Nat × Value)} {cs : Array Value} (hu : P.underlying t = some (.slice el)) (hs : psz P el = some sz) (hi : P.info? el = some i) (hv : i.zero = some v)
  (hn : n * sz ≤ 16777216) (hf : Instr.fill (fun i => some (i * sz, sz)) (madeCells v.cells (n * sz)) parts.toList = some cs) :
  (Instr.buildSlice t n parts).run P w = .ok (.slice (some ⟨w.heap.size, 0, none⟩) n n) (w.alloc (.cells cs el)) := by
 have hnn : ¬ (16777216 < n * sz) := by omega
 have hbig : (2 : Nat) ^ 24 = 16777216 := by decide
 have hz0 : (zeroValue el).run P w = .ok v w := by simp [zeroValue, typeInfo, hi, hv]
 unfold madeCells at hf
 unfold Instr.buildSlice
 simp only [Sem.run_bind, run_und hu, run_size hs, Result.andThen_ok, hbig, gt_iff_lt, hnn, if_false]
 by_cases h0 : n * sz = 0
 ·
  rw [h0, Array.range_zero'] at hf
  simp only [h0, if_true, Sem.run_pure, Sem.run_bind, Result.andThen_ok, Array.range_zero']
  rw [show Array.map (fun x => (#[] : Array Value)[x % (#[] : Array Value).size]!) #[] = Array.map (fun x => v.cells[x % v.cells.size]!) #[] from by simp, hf]
  rfl
 ·
  simp only [h0, if_false, Sem.run_pure, Sem.run_bind, Result.andThen_ok, hz0, hf]
  rfl
theorem lt_buildSlice {o : Oper} {R : Env} {t n el sz nid : Nat} {parts : Array (Nat × Operand)} {xs : List (Nat × SV)} {z : SV} {l : List SV} (ho : o.op = .buildSlice t n parts)
  (hx : parts.toList.map (fun p => (p.1, evO R p.2)) = xs.map (fun p => (p.1, some p.2))) (hu : P.underlying t = some (.slice el)) (hz : pzero P el = some z) (hs : psz P el = some sz) (hzs : z.cells.length = sz)
  (hn : n * sz ≤ 16777216) (hf : sfill (fun i => some (i * sz, sz)) (reps n z.cells) xs = some l) : LT P o R H [] [(nid, some (.row el l))] (some (.sl nid 0 n sz true)) := by
 refine LT.of_run (by simp [ho]) fun e w ρ h1 _ _ hfresh => ?_
 obtain ⟨i, v, hi, hv, hr, ht⟩ := zero_of hz
 obtain ⟨zr, za⟩ := (hr ρ).cells_rel ht
 have hzl := zr.length
 simp only [Array.length_toList] at hzl
 obtain ⟨mr, ma⟩ := made_rel zr za n
 rw [hzl, hzs] at mr
 obtain ⟨cs, g1, g2, g3⟩ := fill_ok (relParts_map (parts_ops (fun x hx => by obtain ⟨p, hp, rfl⟩ := hx; simp [ho, Op.operands]; exact ⟨p.1, by simpa using hp⟩) h1) hx) mr ma hf
 have hcl := g2.length
 simp only [Array.length_toList] at hcl
 have hlen : l.length = n * sz := by
  have : ∀ (ys : List (Nat × SV)) (l l' : List SV), sfill (fun i => some (i * sz, sz)) l ys = some l' → l'.length = l.length := by
   intro ys
   induction ys with
   | nil => intro l l' h; simp only [sfill, Option.some.injEq] at h; rw [h]
   | cons y ys ih =>
    intro l l' h
    obtain ⟨i, y⟩ := y
    simp only [sfill] at h
    split at h
    ·
     rename_i hc
     rw [ih _ _ h, sput_eq _ _ _ (by omega)]
     simp; omega
    ·
     cases h
  rw [this _ _ _ hf, reps_length, hzs]
 refine ⟨.value (.slice (some ⟨w.heap.size, 0, none⟩) n n), w.alloc (.cells cs el), _, ?_, Chg.row w.drawn (hfresh nid (some (.row el l)) (by simp) (by simp)) g3 (by rw [List.take_of_length_le (by simp; omega)]; exact g2) (by omega) (.inl rfl), .inl ⟨_, rfl, ?_⟩⟩
 ·
  rw [← map_parts] at g1
  simp only [execOp, ho, Sem.run_bind, run_buildSlice' hu hs hi hv hn g1, Result.andThen_ok, Sem.run_pure]
 ·
  intro u hu2; cases hu2
  simp only [Rel]
  exact ⟨_, _, n, setR_same _ _ _, rfl, Nat.le_refl _, fun _ => rfl, .inr ⟨rfl, rfl, by simp only; omega⟩⟩
def pbytes (P : Program) (t : TypeId) : Option Nat := (P.info? t).map (·.bytes)
theorem lt_makeSlice {o : Oper} {R : Env} {t el sz nid by_ : Nat} {x y : Operand} {n m : Int} {z : SV} (ho : o.op = .makeSlice t x y) (hx : evO R x = some (.i n)) (hy : evO R y = some (.i m)) (hu : P.underlying t = some (.slice el))
  (hz : pzero P el = some z) (hs : psz P el = some sz) (hzs : z.cells.length = sz) (hb : pbytes P el = some by_) (h0 : 0 ≤ n) (hnm : n ≤ m) (hm : (by_ : Int) * m ≤ 281474976710656) (h63 : m ≤ 9223372036854775807) :
  LT P o R H [] [(nid, some (.row el (reps n.toNat z.cells)))] (some (.sl nid 0 n.toNat sz (decide (n = m)))) := by
 refine LT.of_run (by simp [ho]) fun e w ρ h1 _ _ hfresh => ?_
 have hx2 := h1 x (by simp [ho, Op.operands]) _ hx
 have hy2 := h1 y (by simp [ho, Op.operands]) _ hy
 simp only [Rel] at hx2 hy2
 obtain ⟨i, v, hi, hv, hr, ht⟩ := zero_of hz
 obtain ⟨zr, za⟩ := (hr ρ).cells_rel ht
 have hzl := zr.length
 simp only [Array.length_toList] at hzl
 obtain ⟨mr, ma⟩ := made_rel zr za n.toNat
 obtain ⟨mr2, _⟩ := made_rel zr za m.toNat
 unfold pbytes at hb
 unfold psz at hs
 rw [hi] at hb hs
 simp only [Option.map_some, Option.some.injEq] at hb hs
 have hrun := run_make (P := P) w t el i v hu hi hv .i64 .i64 n m h0 hnm (by rw [hb]; exact hm) h63
 have hsz : v.cells.size = i.size := by omega
 rw [hsz] at mr mr2
 have l1 := mr.length
 have l2 := mr2.length
 rw [reps_length] at l1 l2
 simp only [Array.length_toList] at l1 l2
 have hmul : n.toNat * z.cells.length ≤ m.toNat * z.cells.length := Nat.mul_le_mul_right _ (by omega)
 have htake : (madeCells v.cells (m.toNat * i.size)).toList.take (n.toNat * z.cells.length) = (madeCells v.cells (n.toNat * i.size)).toList := by
  rw [hzs, ← hs]
  simp only [madeCells, Array.toList_map, Array.toList_range, ← List.map_take, List.take_range]
  congr 2
  have : n.toNat * i.size ≤ m.toNat * i.size := Nat.mul_le_mul_right _ (by omega)
  omega
 refine ⟨.value (.slice (some ⟨w.heap.size, 0, none⟩) n.toNat m.toNat), w.alloc (.cells (madeCells v.cells (m.toNat * i.size)) el), _, ?_,
  Chg.row w.drawn (hfresh nid (some (.row el (reps n.toNat z.cells))) (by simp) (by simp)) ma (by rw [reps_length, htake]; exact mr) (by rw [reps_length]; omega) (.inl rfl), .inl ⟨_, rfl, ?_⟩⟩
 ·
  simp only [execOp, ho, hx2, hy2, Sem.run_bind, hrun, Result.andThen_ok, Sem.run_pure]
 ·
  intro u hu2; cases hu2
  simp only [Rel]
  refine ⟨_, _, m.toNat, setR_same _ _ _, rfl, by omega, fun hd => by simp at hd; omega, .inr ⟨rfl, rfl, ?_⟩⟩
  simp only [Nat.zero_add]; rw [l2, hzs]; exact Nat.le_refl _
def bound (R : Env) (d : Nat) : Option Operand → Option Nat
 | none => some d
 | some x => (evO R x).bind idxOf
theorem bound_some {R : Env} {d k : Nat} {x : Operand} {e : Operand → Value} (h : bound R d (some x) = some k) (h1 : ∀ v, evO R x = some v → Rel ρ v (e x)) : ∃ kk, e x = .int kk (k : Int) := by
 simp only [bound] at h
 obtain ⟨v, hv, h2⟩ := Option.bind_eq_some_iff.1 h
 exact idxOf_spec h2 (h1 v hv)
theorem run_sb {x : Value} {k : IntKind} {n y : Nat} {c : BoundsCode} (h : x = .int k (n : Int)) (hn : n ≤ y) : (Instr.sliceBound x y c).run P w = .ok n w := by
 subst h
 have h0 : (0 : Int) ≤ (n : Int) := Int.natCast_nonneg _
 have h1 : (n : Int) ≤ (y : Int) := by omega
 simp only [Instr.sliceBound, asIntOf, Sem.run_bind, Sem.run_pure, Result.andThen_ok, h0, h1, and_self, if_true, Int.toNat_natCast]
theorem run_bounds {s : Bool} {len cap l h m : Nat} {lo hi mx : Option Value} (hm : m ≤ cap) (hh : h ≤ m) (hl : l ≤ h)
  (e1 : (lo = none ∧ l = 0) ∨ ∃ v k, lo = some v ∧ v = .int k (l : Int)) (e2 : (hi = none ∧ h = len ∧ mx = none) ∨ ∃ v k, hi = some v ∧ v = .int k (h : Int))
  (e3 : (mx = none ∧ m = cap) ∨ ∃ v k, mx = some v ∧ v = .int k (m : Int)) :
  (Instr.sliceBounds s len cap lo hi mx).run P w = .ok (l, h, m) w := by
 unfold Instr.sliceBounds
 rcases e3 with ⟨rfl, rfl⟩ | ⟨vm, km, rfl, em⟩
 ·
  rcases e2 with ⟨rfl, rfl, _⟩ | ⟨vh, kh, rfl, eh⟩
  ·
   rcases e1 with ⟨rfl, rfl⟩ | ⟨vl, kl, rfl, el⟩
   ·
    simp only [Sem.run_bind, Sem.run_pure, Result.andThen_ok]
   ·
    simp only [Sem.run_bind, Sem.run_pure, Result.andThen_ok, run_sb el hl]
  ·
   rcases e1 with ⟨rfl, rfl⟩ | ⟨vl, kl, rfl, el⟩
   ·
    simp only [Sem.run_bind, Sem.run_pure, Result.andThen_ok, run_sb eh hh]
   ·
    simp only [Sem.run_bind, Sem.run_pure, Result.andThen_ok, run_sb eh hh, run_sb el hl]
 ·
  rcases e2 with ⟨rfl, rfl, hbad⟩ | ⟨vh, kh, rfl, eh⟩
  ·
   cases hbad
  ·
   rcases e1 with ⟨rfl, rfl⟩ | ⟨vl, kl, rfl, el⟩
   ·
    simp only [Sem.run_bind, Sem.run_pure, Result.andThen_ok, run_sb eh hh, run_sb em hm]
   ·
    simp only [Sem.run_bind, Sem.run_pure, Result.andThen_ok, run_sb eh hh, run_sb el hl, run_sb em hm]
theorem bound_low {R : Env} {l : Nat} {lo : Option Operand} {e : Operand → Value} (h : bound R 0 lo = some l) (h1 : ∀ x, lo = some x → ∀ v, evO R x = some v → Rel ρ v (e x)) :
  (lo.map e = none ∧ l = 0) ∨ ∃ v k, lo.map e = some v ∧ v = .int k (l : Int) := by
 cases lo with
 | none => simp only [bound, Option.some.injEq] at h; exact .inl ⟨rfl, h.symm⟩
 | some x => obtain ⟨k, hk⟩ := bound_some h (h1 x rfl); exact .inr ⟨_, k, rfl, hk⟩
theorem lt_slice_sl {o : Oper} {R : Env} {t el id k n sz l h : Nat} {full : Bool} {x : Operand} {lo hi : Option Operand} (ho : o.op = .slice t x lo hi none) (hx : evO R x = some (.sl id k n sz full)) (hu : P.underlying t = some (.slice el))
  (hs : psz P el = some sz) (hlo : bound R 0 lo = some l) (hhi : bound R n hi = some h) (hlh : l ≤ h) (hn : h ≤ n) : LT P o R H [] [] (some (.sl id (k + l * sz) (h - l) sz (full && decide (h = n)))) := by
 refine LT.pure (by simp [ho]) fun e w ρ h1 _ => ?_
 have hx2 := h1 x (by simp [ho, Op.operands]) _ hx
 simp only [Rel] at hx2
 obtain ⟨rb, a, c, hr, he, hnc, hfull, hdis⟩ := hx2
 have b1 := bound_low hlo (fun y hy => h1 y (by simp [ho, Op.operands, hy]))
 have b2 : (hi.map e = none ∧ h = n ∧ (none : Option Value) = none) ∨ ∃ v k, hi.map e = some v ∧ v = .int k (h : Int) := by
  cases hi with
  | none => simp only [bound, Option.some.injEq] at hhi; exact .inl ⟨rfl, hhi.symm, rfl⟩
  | some y => obtain ⟨kk, hk⟩ := bound_some hhi (h1 y (by simp [ho, Op.operands])); exact .inr ⟨_, kk, rfl, hk⟩
 have hb := run_bounds (P := P) (w := w) (s := true) (len := n) (cap := c) (l := l) (h := h) (m := c) (mx := none) (Nat.le_refl _) (by omega) hlh b1 b2 (.inl ⟨rfl, rfl⟩)
 refine ⟨.slice (if c = l then a else a.map (·.add (l * sz))) (h - l) (c - l), ?_, ?_⟩
 ·
  simp only [execOp, ho, he, Instr.sliceAt, Instr.slice, Option.map_none, Sem.run_bind, run_und hu, Result.andThen_ok, hb, run_size hs, Sem.run_pure]
 ·
  simp only [Rel]
  refine ⟨rb, _, c - l, hr, rfl, by omega, fun hf => ?_, ?_⟩
  ·
   simp at hf
   have := hfull hf.1
   omega
  ·
   rcases hdis with h0 | ⟨hv, ha, hcap⟩
   ·
    left; omega
   ·
    by_cases hc : c = l
    ·
     left; omega
    ·
     right
     refine ⟨hv, ?_, ?_⟩
     ·
      rw [if_neg hc, ha, Option.map_some, add_addr, Nat.add_assoc]
     ·
      rw [Nat.sub_mul]; have : l * sz ≤ c * sz := Nat.mul_le_mul_right _ (by omega); omega
theorem lt_slice_slc {o : Oper} {R : Env} {t el id k n c sz l h : Nat} {x : Operand} {lo hi : Option Operand} (ho : o.op = .slice t x lo hi none) (hx : evO R x = some (.slc id k n c sz)) (hu : P.underlying t = some (.slice el))
  (hs : psz P el = some sz) (hlo : bound R 0 lo = some l) (hhi : bound R n hi = some h) (hlh : l ≤ h) (hn : h ≤ c) : LT P o R H [] [] (some (.slc id (k + l * sz) (h - l) (c - l) sz)) := by
 refine LT.pure (by simp [ho]) fun e w ρ h1 _ => ?_
 have hx2 := h1 x (by simp [ho, Op.operands]) _ hx
 simp only [Rel] at hx2
 obtain ⟨rb, a, cc, hr, he, hnc, hcc, hdis⟩ := hx2
 have b1 := bound_low hlo (fun y hy => h1 y (by simp [ho, Op.operands, hy]))
 have b2 : (hi.map e = none ∧ h = n ∧ (none : Option Value) = none) ∨ ∃ v k, hi.map e = some v ∧ v = .int k (h : Int) := by
  cases hi with
  | none => simp only [bound, Option.some.injEq] at hhi; exact .inl ⟨rfl, hhi.symm, rfl⟩
  | some y => obtain ⟨kk, hk⟩ := bound_some hhi (h1 y (by simp [ho, Op.operands])); exact .inr ⟨_, kk, rfl, hk⟩
 have hb := run_bounds (P := P) (w := w) (s := true) (len := n) (cap := cc) (l := l) (h := h) (m := cc) (mx := none) (Nat.le_refl _) (by omega) hlh b1 b2 (.inl ⟨rfl, rfl⟩)
 refine ⟨.slice (if cc = l then a else a.map (·.add (l * sz))) (h - l) (cc - l), ?_, ?_⟩
 ·
  simp only [execOp, ho, he, Instr.sliceAt, Instr.slice, Option.map_none, Sem.run_bind, run_und hu, Result.andThen_ok, hb, run_size hs, Sem.run_pure]
 ·
  simp only [Rel]
  refine ⟨rb, _, cc - l, hr, rfl, by omega, by omega, ?_⟩
  rcases hdis with h0 | ⟨hv, ha, hcap⟩
  ·
   left; omega
  ·
   by_cases hc : cc = l
   ·
    left; omega
   ·
    right
    refine ⟨hv, ?_, ?_⟩
    ·
     rw [if_neg hc, ha, Option.map_some, add_addr, Nat.add_assoc]
    ·
     rw [Nat.sub_mul]; have : l * sz ≤ cc * sz := Nat.mul_le_mul_right _ (by omega); omega
theorem lt_slice_sl3 {o : Oper} {R : Env} {t el id k n sz l h m : Nat} {full : Bool} {x y z : Operand} {lo : Option Operand} (ho : o.op = .slice t x lo (some y) (some z)) (hx : evO R x = some (.sl id k n sz full)) (hu : P.underlying t = some (.slice el))
  (hs : psz P el = some sz) (hlo : bound R 0 lo = some l) (hhi : bound R n (some y) = some h) (hmx : bound R n (some z) = some m) (hlh : l ≤ h) (hhm : h ≤ m) (hn : m ≤ n) :
  LT P o R H [] [] (some (.sl id (k + l * sz) (h - l) sz (decide (h = m)))) := by
 refine LT.pure (by simp [ho]) fun e w ρ h1 _ => ?_
 have hx2 := h1 x (by simp [ho, Op.operands]) _ hx
 simp only [Rel] at hx2
 obtain ⟨rb, a, c, hr, he, hnc, hfull, hdis⟩ := hx2
 have b1 := bound_low hlo (fun y hy => h1 y (by simp [ho, Op.operands, hy]))
 obtain ⟨k2, hk2⟩ := bound_some hhi (h1 y (by simp [ho, Op.operands]))
 obtain ⟨k3, hk3⟩ := bound_some hmx (h1 z (by simp [ho, Op.operands]))
 have hb := run_bounds (P := P) (w := w) (s := true) (len := n) (cap := c) (l := l) (h := h) (m := m) (hi := some (e y)) (mx := some (e z)) (by omega) hhm hlh b1 (.inr ⟨_, k2, rfl, hk2⟩) (.inr ⟨_, k3, rfl, hk3⟩)
 refine ⟨.slice (if m = l then a else a.map (·.add (l * sz))) (h - l) (m - l), ?_, ?_⟩
 ·
  simp only [execOp, ho, he, Instr.sliceAt, Instr.slice, Option.map_some, Sem.run_bind, run_und hu, Result.andThen_ok, hb, run_size hs, Sem.run_pure]
 ·
  simp only [Rel]
  refine ⟨rb, _, m - l, hr, rfl, by omega, fun hf => by simp at hf; omega, ?_⟩
  ·
   rcases hdis with h0 | ⟨hv, ha, hcap⟩
   ·
    left; omega
   ·
    by_cases hc : m = l
    ·
     left; omega
    ·
     right
     refine ⟨hv, ?_, ?_⟩
     ·
      rw [if_neg hc, ha, Option.map_some, add_addr, Nat.add_assoc]
     ·
      rw [Nat.sub_mul]
      have h2 : l * sz ≤ m * sz := Nat.mul_le_mul_right _ (by omega)
      have h3 : m * sz ≤ c * sz := Nat.mul_le_mul_right _ (by omega)
      omega
theorem lt_slice_arr {o : Oper} {R : Env} {t el len id k sz l h : Nat} {x : Operand} {lo hi : Option Operand} {b : SB} (ho : o.op = .slice t x lo hi none) (hx : evO R x = some (.p id k)) (hb : H id = some b) (hu : P.underlying t = some (.array len el))
  (hs : psz P el = some sz) (hlo : bound R 0 lo = some l) (hhi : bound R len hi = some h) (hlh : l ≤ h) (hn : h ≤ len) (hsz : 0 < len * sz) (hin : k + len * sz ≤ b.cells.length) :
  LT P o R H [id] [] (some (.sl id (k + l * sz) (h - l) sz (decide (h = len)))) := by
 refine LT.pure (by simp [ho]) fun e w ρ h1 h2 => ?_
 have hx2 := h1 x (by simp [ho, Op.operands]) _ hx
 simp only [Rel] at hx2
 obtain ⟨rb, hr, he⟩ := hx2
 obtain ⟨rb', hr', hbr⟩ := h2 id (by simp) b hb
 rw [hr] at hr'; cases hr'
 have hv := (hbr.cellsAt (by omega)).2
 have hcapl : b.cells.length ≤ rb.cap := by
  cases b with
  | obj y => simp [SB.cells]
  | ext y => simp [SB.cells]
  | ro l => rcases hbr with rfl | hbr; (simp [SB.cells]); exact hbr.2.1
  | box l => exact hbr.2.1
  | row t l => rcases hbr with ⟨_, rfl⟩ | ⟨_, c, fz, _, _, _, _, _, hl⟩; (simp [SB.cells]); exact hl
 have b1 := bound_low hlo (fun y hy => h1 y (by simp [ho, Op.operands, hy]))
 have b2 : (hi.map e = none ∧ h = len ∧ (none : Option Value) = none) ∨ ∃ v k, hi.map e = some v ∧ v = .int k (h : Int) := by
  cases hi with
  | none => simp only [bound, Option.some.injEq] at hhi; exact .inl ⟨rfl, hhi.symm, rfl⟩
  | some y => obtain ⟨kk, hk⟩ := bound_some hhi (h1 y (by simp [ho, Op.operands])); exact .inr ⟨_, kk, rfl, hk⟩
 have hb2 := run_bounds (P := P) (w := w) (s := false) (len := len) (cap := len) (l := l) (h := h) (m := len) (mx := none) (Nat.le_refl _) (by omega) hlh b1 b2 (.inl ⟨rfl, rfl⟩)
 refine ⟨.slice (some (if len = l then ⟨rb.blk, rb.off + k, none⟩ else (⟨rb.blk, rb.off + k, none⟩ : Addr).add (l * sz))) (h - l) (len - l), ?_, ?_⟩
 ·
  simp only [execOp, ho, he, Instr.sliceAt, Instr.sureAddr, Option.map_none, Sem.run_bind, run_und hu, Result.andThen_ok, hb2, run_size hs, Sem.run_pure]
 ·
  simp only [Rel]
  refine ⟨rb, _, len - l, hr, rfl, by omega, fun hf => by simp at hf; omega, ?_⟩
  by_cases hc : len = l
  ·
   left; omega
  ·
   right
   refine ⟨hv, ?_, ?_⟩
   ·
    rw [if_neg hc, add_addr, Nat.add_assoc]
   ·
    rw [Nat.sub_mul]; have : l * sz ≤ len * sz := Nat.mul_le_mul_right _ (by omega); omega
theorem lt_slice_nil {o : Oper} {R : Env} {t el sz : Nat} {x : Operand} {lo hi : Option Operand} (ho : o.op = .slice t x lo hi none) (hx : evO R x = some .slnil) (hu : P.underlying t = some (.slice el))
  (hs : psz P el = some sz) (hlo : bound R 0 lo = some 0) (hhi : bound R 0 hi = some 0) : LT P o R H [] [] (some .slnil) := by
 refine LT.pure (by simp [ho]) fun e w ρ h1 _ => ?_
 have hx2 := h1 x (by simp [ho, Op.operands]) _ hx
 simp only [Rel] at hx2
 have b1 := bound_low hlo (fun y hy => h1 y (by simp [ho, Op.operands, hy]))
 have b2 : (hi.map e = none ∧ 0 = 0 ∧ (none : Option Value) = none) ∨ ∃ v k, hi.map e = some v ∧ v = .int k ((0 : Nat) : Int) := by
  cases hi with
  | none => exact .inl ⟨rfl, rfl, rfl⟩
  | some y => obtain ⟨kk, hk⟩ := bound_some hhi (h1 y (by simp [ho, Op.operands])); exact .inr ⟨_, kk, rfl, hk⟩
 have hb := run_bounds (P := P) (w := w) (s := true) (len := 0) (cap := 0) (l := 0) (h := 0) (m := 0) (mx := none) (Nat.le_refl _) (by omega) (Nat.le_refl _) b1 b2 (.inl ⟨rfl, rfl⟩)
 refine ⟨.slice none 0 0, ?_, by simp only [Rel]⟩
 simp only [execOp, ho, hx2, Instr.sliceAt, Instr.slice, Option.map_none, Sem.run_bind, run_und hu, Result.andThen_ok, hb, run_size hs, Sem.run_pure, if_true, Nat.sub_self]
theorem lt_slice_str {o : Oper} {R : Env} {t l h : Nat} {bs : List UInt8} {x : Operand} {lo hi : Option Operand} (ho : o.op = .slice t x lo hi none) (hx : evO R x = some (.s bs)) (hu : P.underlying t = some .string)
  (hlo : bound R 0 lo = some l) (hhi : bound R bs.length hi = some h) (hlh : l ≤ h) (hn : h ≤ bs.length) : LT P o R H [] [] (some (.s ((bs.take h).drop l))) := by
 refine LT.pure (by simp [ho]) fun e w ρ h1 _ => ?_
 have hx2 := h1 x (by simp [ho, Op.operands]) _ hx
 simp only [Rel] at hx2
 have b1 := bound_low hlo (fun y hy => h1 y (by simp [ho, Op.operands, hy]))
 have b2 : (hi.map e = none ∧ h = bs.length ∧ (none : Option Value) = none) ∨ ∃ v k, hi.map e = some v ∧ v = .int k (h : Int) := by
  cases hi with
  | none => simp only [bound, Option.some.injEq] at hhi; exact .inl ⟨rfl, hhi.symm, rfl⟩
  | some y => obtain ⟨kk, hk⟩ := bound_some hhi (h1 y (by simp [ho, Op.operands])); exact .inr ⟨_, kk, rfl, hk⟩
 have hsz : (⟨⟨bs⟩⟩ : ByteArray).size = bs.length := rfl
 have hb := run_bounds (P := P) (w := w) (s := false) (len := bs.length) (cap := bs.length) (l := l) (h := h) (m := bs.length) (mx := none) (Nat.le_refl _) hn hlh b1 b2 (.inl ⟨rfl, rfl⟩)
 refine ⟨.string ((⟨⟨bs⟩⟩ : ByteArray).extract l h), ?_, ?_⟩
 ·
  simp only [execOp, ho, hx2, Instr.sliceAt, Instr.slice, Option.map_none, Option.isSome_none, Bool.false_eq_true, if_false, Sem.run_bind, run_und hu, Result.andThen_ok, hsz, hb, Sem.run_pure]
 ·
  simp only [Rel]
  congr 1
  apply WideShapes.bytes_inj
  rw [Lib.extract_data]
  simp [List.drop_take]
end
end Go.Sh
namespace Go.Sh
section
variable {P : Program} {ρ ρ' : Ren} {H : Heap} {w w' : World}
theorem Chg.virtual {nid : Nat} {t : TypeId} (hn : ρ nid = none) : Chg ρ H w [(nid, some (.row t []))] (setR ρ nid ⟨0, 0, 0, true⟩) w := by
 have he : Ext ρ (setR ρ nid ⟨0, 0, 0, true⟩) := Ext.setR _ hn
 refine ⟨he, ?_, ?_, Fr.refl _ _, ?_, ?_⟩
 ·
  intro id r hr
  by_cases e : id = nid
  ·
   subst e; exact .inr ⟨_, List.mem_singleton.2 rfl⟩
  ·
   rw [setR_other ρ _ e] at hr; exact .inl hr
 ·
  intro id x hx
  simp at hx
  obtain ⟨rfl, rfl⟩ := hx
  exact ⟨_, setR_same _ _ _, .inl ⟨rfl, rfl⟩⟩
 ·
  intro id x r k o hx hr hf
  simp at hx
  obtain ⟨rfl, rfl⟩ := hx
  rw [setR_same] at hr; cases hr
  simp [foot] at hf
 ·
  intro i j bi bj ri rj hne hi hj
  simp at hi hj
  exact absurd (hi.1.trans hj.1.symm) hne
theorem app_room {t xT ty el sz n m c : Nat} {a : Option Addr} {x : Value} {news : List Value} {dx : TypeDesc} (hT : P.underlying t = some (.slice el)) (hX : P.underlying xT = some dx) (hdx : ∀ k, dx ≠ .int k)
    (hs : psz P el = some sz) (hl : (Builtin.lenOf x).run P w = .ok m w) (hf : (Builtin.firstCells sz m x).run P w = .ok ⟨news⟩ w) (hroom : n + m ≤ c) :
    (Builtin.append_ #[t, xT] ty #[.slice a n c, x]).run P w = (match a with | some a => (storeCells (a.add (n * sz)) news).run P w | none => .ok () w).andThen fun _ w' => .ok (.slice a (n + m) c) w' := by
  have hm : (dx matches .int _) = false := by cases dx <;> first | rfl | exact absurd rfl (hdx _)
  have e1 : (underlying xT).run P w = .ok dx w := run_und hX
  unfold Builtin.append_
  simp only [List.getElem?_toArray, List.getElem?_cons_zero, List.getElem?_cons_succ, Sem.run_bind, run_und hT, Result.andThen_ok, run_size hs, e1, Sem.run_pure]
  cases dx <;> first
    | exact absurd rfl (hdx _)
    | (simp only [Bool.false_eq_true, if_false, Bool.not_false, if_true, hl, Result.andThen_ok, hroom, Sem.run_bind, hf]
       cases a <;> simp [Sem.run_pure, Result.andThen])
theorem app_grow {t xT ty el sz n m c : Nat} {a : Option Addr} {x z : Value} {olds news : List Value} {dx : TypeDesc} {i : TypeInfo} (hT : P.underlying t = some (.slice el)) (hX : P.underlying xT = some dx) (hdx : ∀ k, dx ≠ .int k)
    (hi : P.info? el = some i) (hz : i.zero = some z) (hsz : i.size = sz) (hl : (Builtin.lenOf x).run P w = .ok m w) (hf : (Builtin.firstCells sz m x).run P w.drew = .ok ⟨news⟩ w.drew)
    (ho : (Builtin.firstCells sz n (.slice a n c)).run P w.drew = .ok ⟨olds⟩ w.drew) (hg : c < n + m) (hby : 0 < i.bytes) (h48 : Builtin.nextslicecap (n + m) c * i.bytes ≤ 281474976710656) :
    (Builtin.append_ #[t, xT] ty #[.slice a n c, x]).run P w = .ok (.slice (some ⟨w.heap.size, 0, none⟩) (n + m) (grownCap w (n + m) c el))
      (w.drew.alloc (.cells ((⟨olds⟩ : Array Value) ++ ⟨news⟩ ++ Builtin.zeroCells z.cells (grownCap w (n + m) c el - (n + m))) el)) := by
  have hn : ¬ (n + m ≤ c) := by omega
  have h48' : ¬ (281474976710656 < Builtin.nextslicecap (n + m) c * i.bytes) := by omega
  have hb0 : ¬ (i.bytes = 0) := by omega
  have e1 : (underlying xT).run P w = .ok dx w := run_und hX
  have e2 : ∀ w : World, (typeInfo el).run P w = .ok i w := fun w => by simp [typeInfo, hi]
  have e3 : ∀ w : World, (zeroValue el).run P w = .ok z w := fun w => by simp [zeroValue, typeInfo, hi, hz]
  have e4 : (sizeOf el).run P w = .ok sz w := by simp [sizeOf, typeInfo, hi, hsz]
  have hch : (choose (.appendCap (n + m) c el)).run P w = .ok (grownCap w (n + m) c el) w.drew := by
    rw [run_choose]; rfl
  have hbig : (2 : Nat) ^ 48 = 281474976710656 := by decide
  unfold Builtin.append_
  simp only [List.getElem?_toArray, List.getElem?_cons_zero, List.getElem?_cons_succ, Sem.run_bind, run_und hT, Result.andThen_ok, e4, e1, Sem.run_pure]
  cases dx <;> first
    | exact absurd rfl (hdx _)
    | (simp only [Bool.false_eq_true, if_false, Bool.not_false, if_true, hl, Result.andThen_ok, hn, Sem.run_bind, e2, hb0, false_or, or_false, and_false, gt_iff_lt, hbig, h48', hch, run_askRoom, ho, hf, e3, newRow, run_newObj, Sem.run_pure]
       rfl)
def Src (P : Program) (ρ : Ren) (w : World) (x : Value) (sz m : Nat) (ys : List SV) : Prop :=
 ∃ vs, (∀ d, (Builtin.lenOf x).run P { w with drawn := d } = .ok m { w with drawn := d }) ∧ (∀ d, (Builtin.firstCells sz m x).run P { w with drawn := d } = .ok ⟨vs⟩ { w with drawn := d }) ∧ Rels ρ ys vs ∧ atoms ys = true ∧ ys.length = m * sz ∧
  ∀ k, k ≤ m → ∀ d, (Builtin.firstCells sz k x).run P { w with drawn := d } = .ok ⟨vs.take (k * sz)⟩ { w with drawn := d }
theorem src_str {l : List UInt8} : Src P ρ w (.string ⟨⟨l⟩⟩) 1 l.length (l.map .u8) := by
 have key : ∀ k, k ≤ l.length → ∀ d : Nat, (Builtin.firstCells 1 k (.string ⟨⟨l⟩⟩)).run P { w with drawn := d } = .ok ⟨(l.map fun b => Value.int .u8 (b.toNat : Int)).take k⟩ { w with drawn := d } := fun k _ d => by
  simp only [Builtin.firstCells, Sem.run_pure]
  congr 1
  apply Array.toList_inj.1
  rw [Array.toList_map, Lib.extract_data]
  simp
 refine ⟨l.map fun b => Value.int .u8 (b.toNat : Int), fun _ => rfl, fun d => ?_, ?_, ?_, by simp, fun k hk d => by rw [key k hk d, Nat.mul_one]⟩
 ·
  rw [key _ (Nat.le_refl _) d]
  congr 2
  rw [List.take_of_length_le (by simp)]
 ·
  induction l with
  | nil => exact Rels.nil_iff.2 rfl
  | cons b l ih => exact Rels.cons (by simp only [Rel]) (ih (fun k hk d => by
    simp only [Builtin.firstCells, Sem.run_pure]
    congr 1
    apply Array.toList_inj.1
    rw [Array.toList_map, Lib.extract_data]
    simp))
 ·
  simp [atoms, SV.atom]
theorem src_sl {id o m sz : Nat} {full : Bool} {v : Value} {b : SB} {rb : RB} (hx : Rel ρ (.sl id o m sz full) v) (hr : ρ id = some rb) (hb : BRel ρ w rb b) (hin : o + m * sz ≤ b.cells.length) :
  Src P ρ w v sz m ((b.cells.drop o).take (m * sz)) := by
 by_cases hm : m * sz = 0
 ·
  simp only [Rel] at hx
  obtain ⟨rb', a, c, hr', rfl, hmc, _, _⟩ := hx
  refine ⟨[], fun _ => rfl, fun d => ?_, by rw [hm]; simp [Rels], by rw [hm]; simp [atoms], by simp [hm], fun k hk d => ?_⟩
  ·
   cases a <;> simp [Builtin.firstCells, loadCells, loadCellsFrom, hm]
  ·
   have : k * sz = 0 := by
    have h2 : k * sz ≤ m * sz := Nat.mul_le_mul_right _ hk
    omega
   cases a <;> simp [Builtin.firstCells, loadCells, loadCellsFrom, this]
 ·
  have hm0 : 0 < m := Nat.pos_of_ne_zero (fun e => hm (by rw [e]; simp))
  obtain ⟨rb', c, hr', rfl, hmc, _, _, _⟩ := slice_addr hx hm0
  rw [hr] at hr'; cases hr'
  obtain ⟨⟨ca, t, fz, hca, ha, hrl, _, hsz⟩, _⟩ := hb.cellsAt (by omega)
  have hll := hrl.length
  simp only [List.length_take, List.length_drop, Array.length_toList] at hll
  have key : ∀ k, k ≤ m → ∀ d : Nat, (Builtin.firstCells sz k (.slice (some ⟨rb.blk, rb.off + o, none⟩) m c)).run P { w with drawn := d } = .ok ⟨(ca.toList.drop (rb.off + o)).take (k * sz)⟩ { w with drawn := d } := fun k hk d => by
   have h2 : k * sz ≤ m * sz := Nat.mul_le_mul_right _ hk
   simp only [Builtin.firstCells]
   exact run_cells (w := { w with drawn := d }) hca (by omega)
  refine ⟨(ca.toList.drop (rb.off + o)).take (m * sz), fun _ => rfl, fun d => key m (Nat.le_refl _) d, ?_, ?_, by simp; omega, fun k hk d => ?_⟩
  ·
   have := (hrl.drop o).take (m * sz)
   rw [List.drop_take, List.drop_drop, List.take_take, Nat.min_eq_left (by omega)] at this
   exact this
  ·
   simp only [atoms, List.all_eq_true] at ha ⊢
   exact fun y hy => ha y (List.mem_of_mem_drop (List.mem_of_mem_take hy))
  ·
   rw [key k hk d, List.take_take, Nat.min_eq_left (Nat.mul_le_mul_right _ hk)]
theorem grown_row {nid el sz n m c : Nat} {xs ys : List SV} {olds news : List Value} {z : Value} (hxs : Rels ρ xs olds) (hxa : atoms xs = true) (hys : Rels ρ ys news) (hya : atoms ys = true) (hxl : xs.length = n * sz) (hyl : ys.length = m * sz) (hzs : z.cells.size = sz) (hnc : n + m ≤ c) :
  BRel ρ (w.drew.alloc (.cells ((⟨olds⟩ : Array Value) ++ ⟨news⟩ ++ Builtin.zeroCells z.cells (c - (n + m))) el)) ⟨w.heap.size, 0, c * sz, false⟩ (.row el (xs ++ ys)) ∧
  Rel (setR ρ nid ⟨w.heap.size, 0, c * sz, false⟩) (.sl nid 0 (n + m) sz false) (.slice (some ⟨w.heap.size, 0, none⟩) (n + m) c) := by
 have h1 := hxs.length
 have h2 := hys.length
 have hsize : ((⟨olds⟩ : Array Value) ++ ⟨news⟩ ++ Builtin.zeroCells z.cells (c - (n + m))).size = c * sz := by
  simp only [Array.size_append, List.size_toArray, size_zeroCells, hzs]
  rw [h1, h2, hxl, hyl, ← Nat.add_mul, ← Nat.add_mul]
  congr 1; omega
 have hle : (n + m) * sz ≤ c * sz := Nat.mul_le_mul_right _ hnc
 rw [Nat.add_mul] at hle
 refine ⟨.inr ⟨rfl, _, (0, 0), alloc_heap_new w.drew _, .inl rfl, by rw [hsize]; simp, ?_, ?_, by simp only [List.length_append]; omega⟩, ?_⟩
 ·
  simp [atoms] at hxa hya ⊢; exact ⟨hxa, hya⟩
 ·
  rw [List.drop_zero, Array.toList_append, Array.toList_append]
  have : (olds ++ news).length = (xs ++ ys).length := by simp [h1, h2]
  rw [← this, List.take_left]
  exact hxs.append hys
 ·
  simp only [Rel]
  exact ⟨_, _, c, setR_same _ _ _, rfl, hnc, fun h => (by cases h), .inr ⟨rfl, by simp, by simp⟩⟩
structure AppTy (P : Program) (t xT el sz by_ : Nat) (z : SV) : Prop where
 hT : P.underlying t = some (.slice el)
 hX : (∃ e, P.underlying xT = some (.slice e)) ∨ P.underlying xT = some .string
 hz : pzero P el = some z
 hs : psz P el = some sz
 hzs : z.cells.length = sz
 hb : pbytes P el = some by_
 hb0 : 0 < by_
theorem AppTy.facts {t xT el sz by_ : Nat} {z : SV} (h : AppTy P t xT el sz by_ z) : ∃ i v dx, P.info? el = some i ∧ i.zero = some v ∧ v.cells.size = sz ∧ i.size = sz ∧ i.bytes = by_ ∧ P.underlying xT = some dx ∧ ∀ k, dx ≠ .int k := by
 obtain ⟨hT, hX, hz, hs, hzs, hb, hb0⟩ := h
 obtain ⟨i, v, hi, hv, hr, ht⟩ := zero_of hz
 have hl := ((hr (fun _ => none)).cells_rel ht).1.length
 simp only [Array.length_toList] at hl
 unfold psz at hs
 unfold pbytes at hb
 rw [hi] at hs hb
 simp only [Option.map_some, Option.some.injEq] at hs hb
 rcases hX with ⟨e, he⟩ | he
 ·
  exact ⟨i, v, _, hi, hv, by omega, hs, hb, he, fun k => by simp⟩
 ·
  exact ⟨i, v, _, hi, hv, by omega, hs, hb, he, fun k => by simp⟩
theorem app_run {o : Oper} {x y : Operand} {t xT : Nat} {e : Operand → Value} {v : Value} (ho : o.op = .call { callee := .builtin .append, args := #[x, y], argTypes := #[t, xT] })
  (h : (Builtin.append_ #[t, xT] o.type #[e x, e y]).run P w = .ok v w') : (execOp e o).run P w = .ok (.value v) w' := by
 simp only [execOp, ho, resolve, invoke, builtin, Sem.run_bind, Sem.run_pure, Result.andThen_ok, List.map_toArray, List.map_cons, List.map_nil, h]
theorem app_nil {o : Oper} {x y : Operand} {t xT el sz by_ nid m : Nat} {z : SV} {ys : List SV} {e : Operand → Value} (ho : o.op = .call { callee := .builtin .append, args := #[x, y], argTypes := #[t, xT] })
  (hty : AppTy P t xT el sz by_ z) (hx : e x = .slice none 0 0) (hsrc : Src P ρ w (e y) sz m ys) (hm : m * by_ ≤ 140737488355328) (hn : ρ nid = none) :
  ∃ v w' ρ', (execOp e o).run P w = .ok (.value v) w' ∧ Chg ρ H w [(nid, some (.row el ys))] ρ' w' ∧ Rel ρ' (.sl nid 0 m sz false) v := by
 obtain ⟨i, v, dx, hi, hv, hvs, his, hib, hdx, hdx2⟩ := hty.facts
 obtain ⟨news, hl, hf, hr, ha, hlen, _⟩ := hsrc
 have hl0 := hl w.drawn
 have hf0 := hf w.drawn
 have hf1 := hf (w.drawn + 1)
 by_cases hm0 : m = 0
 ·
  subst hm0
  have : ys = [] := List.eq_nil_of_length_eq_zero (by rw [hlen]; simp)
  subst this
  rw [Rels.nil_iff] at hr; subst hr
  refine ⟨.slice none 0 0, w, _, app_run ho ?_, Chg.virtual hn, ?_⟩
  ·
   rw [hx, app_room hty.hT hdx hdx2 hty.hs hl0 hf0 (Nat.le_refl _)]
   rfl
  ·
   simp only [Rel]
   exact ⟨_, none, 0, setR_same _ _ _, rfl, Nat.le_refl _, fun h => (by cases h), .inl rfl⟩
 ·
  have hg := app_grow (ty := o.type) (a := none) (n := 0) (c := 0) (olds := []) hty.hT hdx hdx2 hi hv his hl0 hf1 (by rfl) (by omega) (by rw [hib]; exact hty.hb0) (by
   rw [Nat.zero_add, nextslicecap_zero (by omega), hib]; omega)
  have hge := grownCap_ge w (0 + m) 0 el
  obtain ⟨g1, g2⟩ := grown_row (ρ := ρ) (w := w) (nid := nid) (el := el) (n := 0) (xs := []) (olds := []) (Rels.nil_iff.2 rfl) rfl hr ha (by simp) hlen hvs hge
  simp only [Nat.zero_add, List.nil_append] at g1 g2 hg
  refine ⟨_, _, _, app_run ho (by rw [hx]; exact hg), Chg.new (w.drawn + 1) hn rfl g1, g2⟩
theorem lt_append_nil_sl {o : Oper} {R : Env} {x y : Operand} {t xT el sz by_ nid m id o2 : Nat} {full : Bool} {z : SV} {b : SB} (ho : o.op = .call { callee := .builtin .append, args := #[x, y], argTypes := #[t, xT] })
  (hty : AppTy P t xT el sz by_ z) (hx : evO R x = some .slnil) (hy : evO R y = some (.sl id o2 m sz full)) (hb : H id = some b) (hin : o2 + m * sz ≤ b.cells.length) (hm : m * by_ ≤ 140737488355328) (hne : nid ≠ id) :
  LT P o R H [id] [(nid, some (.row el ((b.cells.drop o2).take (m * sz))))] (some (.sl nid 0 m sz false)) := by
 refine LT.of_run (by simp [ho]) fun e w ρ h1 h2 _ hfresh => ?_
 have hx2 := h1 x (by simp [ho, Op.operands, Call.operands]) _ hx
 have hy2 := h1 y (by simp [ho, Op.operands, Call.operands]) _ hy
 simp only [Rel] at hx2
 obtain ⟨rb, hr, hbr⟩ := h2 id (by simp) b hb
 obtain ⟨v, w', ρ', a1, a2, a3⟩ := app_nil (w := w) (H := H) (nid := nid) ho hty hx2 (src_sl hy2 hr hbr hin) hm (hfresh nid (some (.row el ((b.cells.drop o2).take (m * sz)))) (by simp) (by simpa using hne))
 exact ⟨_, w', ρ', a1, a2, .inl ⟨v, rfl, fun u hu => by cases hu; exact a3⟩⟩
theorem lt_append_nil_str {o : Oper} {R : Env} {x y : Operand} {t xT el by_ nid : Nat} {l : List UInt8} {z : SV} (ho : o.op = .call { callee := .builtin .append, args := #[x, y], argTypes := #[t, xT] })
  (hty : AppTy P t xT el 1 by_ z) (hx : evO R x = some .slnil) (hy : evO R y = some (.s l)) (hm : l.length * by_ ≤ 140737488355328) :
  LT P o R H [] [(nid, some (.row el (l.map .u8)))] (some (.sl nid 0 l.length 1 false)) := by
 refine LT.of_run (by simp [ho]) fun e w ρ h1 _ _ hfresh => ?_
 have hx2 := h1 x (by simp [ho, Op.operands, Call.operands]) _ hx
 have hy2 := h1 y (by simp [ho, Op.operands, Call.operands]) _ hy
 simp only [Rel] at hx2 hy2
 obtain ⟨v, w', ρ', a1, a2, a3⟩ := app_nil (w := w) (H := H) (nid := nid) ho hty hx2 (by rw [hy2]; exact src_str) hm (hfresh nid (some (.row el (l.map .u8))) (by simp) (by simp))
 exact ⟨_, w', ρ', a1, a2, .inl ⟨v, rfl, fun u hu => by cases hu; exact a3⟩⟩
theorem lt_append_none {o : Oper} {R : Env} {x y : Operand} {t xT el sz by_ : Nat} {s z : SV} (ho : o.op = .call { callee := .builtin .append, args := #[x, y], argTypes := #[t, xT] })
  (hty : AppTy P t xT el sz by_ z) (hx : evO R x = some s) (hs : s = .slnil ∨ ∃ id k n sz full, s = .sl id k n sz full) (hy : evO R y = some .slnil) : LT P o R H [] [] (some s) := by
 refine LT.pure (by simp [ho]) fun e w ρ h1 _ => ?_
 have hx2 := h1 x (by simp [ho, Op.operands, Call.operands]) _ hx
 have hy2 := h1 y (by simp [ho, Op.operands, Call.operands]) _ hy
 obtain ⟨i, v, dx, hi, hv, hvs, his, hib, hdx, hdx2⟩ := hty.facts
 simp only [Rel] at hy2
 have key : ∀ a n c, e x = .slice a n c → n ≤ c → (execOp e o).run P w = .ok (.value (e x)) w := fun a n c he hnc => by
  refine app_run ho ?_
  rw [he, hy2, app_room (w := w) (m := 0) (news := []) hty.hT hdx hdx2 hty.hs rfl rfl hnc]
  cases a <;> rfl
 rcases hs with rfl | ⟨id, k, n, sz', full, rfl⟩
 ·
  have hx3 := hx2
  simp only [Rel] at hx3
  exact ⟨_, key _ _ _ hx3 (Nat.le_refl _), hx2⟩
 ·
  have hx3 := hx2
  simp only [Rel] at hx3
  obtain ⟨rb, a, c, hr, he, hnc, _⟩ := hx3
  exact ⟨_, key _ _ _ he hnc, hx2⟩
theorem app_row {o : Oper} {x y : Operand} {t xT el sz by_ id nid k n m : Nat} {full : Bool} {z : SV} {l ys : List SV} {rb : RB} {e : Operand → Value} (ho : o.op = .call { callee := .builtin .append, args := #[x, y], argTypes := #[t, xT] })
  (hty : AppTy P t xT el sz by_ z) (hx : Rel ρ (.sl id k n sz full) (e x)) (hid : H id = some (.row el l)) (hr : ρ id = some rb) (hb : BRel ρ w rb (.row el l)) (hin : k + n * sz ≤ l.length) (hsrc : Src P ρ w (e y) sz m ys)
  (hm : (n + m) * by_ ≤ 140737488355328) (hne : id ≠ nid) (hn : ρ nid = none) :
  ∃ v w' ρ', (execOp e o).run P w = .ok (.value v) w' ∧ Chg ρ H w [(id, none), (nid, some (.row el ((l.drop k).take (n * sz) ++ ys)))] ρ' w' ∧ Rel ρ' (.sl nid 0 (n + m) sz false) v := by
 obtain ⟨i, v, dx, hi, hv, hvs, his, hib, hdx, hdx2⟩ := hty.facts
 have hsrcx : Src P ρ w (e x) sz n ((l.drop k).take (n * sz)) := src_sl hx hr hb hin
 obtain ⟨news, hl, hf, hrn, ha, hlen, _⟩ := hsrc
 obtain ⟨olds, _, hfo, hro, hao, hleno, _⟩ := hsrcx
 have hl0 := hl w.drawn
 have hf0 := hf w.drawn
 have hf1 := hf (w.drawn + 1)
 have hfo1 := hfo (w.drawn + 1)
 have hnl := hrn.length
 have hx0 := hx
 simp only [Rel] at hx
 obtain ⟨rb', a, c, hr', he, hnc, hfull, hdis⟩ := hx
 rw [hr] at hr'; cases hr'
 by_cases hroom : n + m ≤ c
 ·
  by_cases hc0 : c = 0
  ·
   subst hc0
   obtain rfl : n = 0 := by omega
   obtain rfl : m = 0 := by omega
   have hy0 : ys = [] := List.eq_nil_of_length_eq_zero (by rw [hlen]; simp)
   subst hy0
   rw [Rels.nil_iff] at hrn; subst hrn
   refine ⟨.slice a 0 0, w, setR ρ nid ⟨0, 0, 0, true⟩, app_run ho ?_, ?_, ?_⟩
   ·
    rw [he, app_room hty.hT hdx hdx2 hty.hs hl0 hf0 hroom]
    cases a <;> rfl
   ·
    exact Chg.move hne hid hr rfl hn (fun i o hh => by simp [foot] at hh) (.inl ⟨rfl, by simp⟩) (Fr.refl _ _)
   ·
    simp only [Rel]
    exact ⟨_, a, 0, setR_same _ _ _, rfl, by omega, fun h => (by cases h), .inl rfl⟩
  ·
   obtain ⟨hvirt, ha2, hcap⟩ := hdis.resolve_left hc0
   rcases hb with ⟨hv1, _⟩ | ⟨_, ca, fz, hca, hz, hcs, hla, hlr, hll⟩
   ·
    rw [hvirt] at hv1; cases hv1
   have hcm : (n + m) * sz ≤ c * sz := Nat.mul_le_mul_right _ hroom
   rw [Nat.add_mul] at hcm
   have hst := run_puts (P := P) (o := rb.off + k + n * sz) news 0 hca hz (by omega) (hrn.oneCell ha)
   have hps : (putAt ca (rb.off + k + n * sz) news).size = ca.size := putAt_size _ _ _ (by omega)
   refine ⟨.slice a (n + m) c, World.putCells w rb.blk (rb.off + k + n * sz) news, setR ρ nid ⟨rb.blk, rb.off + k, rb.cap - k, false⟩, app_run ho ?_, ?_, ?_⟩
   ·
    rw [he, app_room hty.hT hdx hdx2 hty.hs hl0 hf0 hroom, ha2]
    simp only [add_addr, hst, Nat.add_zero]
    rfl
   ·
    refine Chg.move hne hid hr rfl hn ?_ (.inr ⟨rfl, _, fz, World.putCells_heap w rb.blk _ news hca, hz.put _ _ (by omega), ?_, ?_, ?_, ?_⟩) ?_
    ·
     rintro i o2 ⟨h1, h2, h3⟩
     exact .inl ⟨hvirt, h2, by simp only at h3; omega⟩
    ·
     rw [hps]; simp only; omega
    ·
     simp [atoms] at hao ha ⊢; exact ⟨hao, ha⟩
    ·
     have e1 : ((putAt ca (rb.off + k + n * sz) news).toList.drop (rb.off + k)).take (((l.drop k).take (n * sz) ++ ys)).length = List.take (n * sz) (List.drop k ((ca.toList.drop rb.off).take l.length)) ++ news := by
      have h1 : ((l.drop k).take (n * sz) ++ ys).length = n * sz + news.length := by rw [List.length_append, hleno, hnl]
      rw [h1]
      apply List.ext_getElem?
      intro j
      by_cases hj : j < n * sz + news.length
      ·
       rw [drop_take_get hj, Array.getElem?_toList, putAt_getElem? _ _ _ (by omega)]
       by_cases h2 : j < n * sz
       ·
        rw [if_neg (by omega)]
        rw [List.getElem?_append_left (by simp; omega), List.getElem?_take_of_lt h2, List.getElem?_drop, drop_take_get (by omega), Array.getElem?_toList, Nat.add_assoc]
       ·
        rw [if_pos (by omega)]
        rw [List.getElem?_append_right (by simp; omega)]
        congr 1
        simp; omega
      ·
       rw [List.getElem?_eq_none (by simp; omega)]
       rw [List.getElem?_eq_none (by simp; omega)]
     rw [e1]
     exact ((hlr.drop k).take (n * sz)).append hrn
    ·
     simp only [List.length_append, hleno, hlen]; omega
    ·
     exact Fr.putCells _ _ _ _ _ hca (by omega) (fun o2 h1 h2 => ⟨hvirt, rfl, by omega⟩)
   ·
    simp only [Rel]
    refine ⟨_, a, c, setR_same _ _ _, rfl, hroom, fun h => (by cases h), .inr ⟨rfl, by rw [ha2]; simp, by simp only; omega⟩⟩
 ·
  rw [he] at hfo1
  have hg := app_grow (ty := o.type) (a := a) (n := n) (c := c) hty.hT hdx hdx2 hi hv his hl0 hf1 hfo1 (by omega) (by rw [hib]; exact hty.hb0) (by rw [hib]; exact growslice_fits (by omega) hm)
  have hge := grownCap_ge w (n + m) c el
  obtain ⟨g1, g2⟩ := grown_row (ρ := ρ) (w := w) (nid := nid) (el := el) hro hao hrn ha hleno hlen hvs hge
  refine ⟨_, _, _, app_run ho (by rw [he]; exact hg), Chg.move hne hid hr rfl hn (fun i o2 hh => .inr (by rw [hh.2.1]; exact Nat.le_refl _)) g1 ?_, g2⟩
  exact (Fr.refl _ w).drew.trans (Fr.alloc (fun i o2 => foot rb (.row el l) i o2) w.drew _) (fun _ _ _ h => h)
theorem lt_append_row_sl {o : Oper} {R : Env} {x y : Operand} {t xT el sz by_ nid n m id id2 k o2 : Nat} {full full2 : Bool} {z : SV} {b : SB} {l : List SV} (ho : o.op = .call { callee := .builtin .append, args := #[x, y], argTypes := #[t, xT] })
  (hty : AppTy P t xT el sz by_ z) (hx : evO R x = some (.sl id k n sz full)) (hid : H id = some (.row el l)) (hin1 : k + n * sz ≤ l.length) (hy : evO R y = some (.sl id2 o2 m sz full2)) (hb : H id2 = some b) (hin : o2 + m * sz ≤ b.cells.length)
  (hm : (n + m) * by_ ≤ 140737488355328) (hne : nid ≠ id ∧ nid ≠ id2) :
  LT P o R H [id, id2] [(id, none), (nid, some (.row el ((l.drop k).take (n * sz) ++ (b.cells.drop o2).take (m * sz))))] (some (.sl nid 0 (n + m) sz false)) := by
 refine LT.of_run (by simp [ho]) fun e w ρ h1 h2 _ hfresh => ?_
 have hx2 := h1 x (by simp [ho, Op.operands, Call.operands]) _ hx
 have hy2 := h1 y (by simp [ho, Op.operands, Call.operands]) _ hy
 obtain ⟨rb, hr, hbr⟩ := h2 id (by simp) _ hid
 obtain ⟨rb2, hr2, hbr2⟩ := h2 id2 (by simp) b hb
 obtain ⟨v, w', ρ', a1, a2, a3⟩ := app_row (w := w) (H := H) (nid := nid) ho hty hx2 hid hr hbr hin1 (src_sl hy2 hr2 hbr2 hin) hm (fun e => hne.1 e.symm) (hfresh nid (some (.row el ((l.drop k).take (n * sz) ++ (b.cells.drop o2).take (m * sz)))) (by simp) (by simpa using hne))
 exact ⟨_, w', ρ', a1, a2, .inl ⟨v, rfl, fun u hu => by cases hu; exact a3⟩⟩
theorem lt_append_slc {o : Oper} {R : Env} {x y : Operand} {t xT el sz by_ n m c c2 id id2 k o2 : Nat} {z : SV} {b b2 : SB} (ho : o.op = .call { callee := .builtin .append, args := #[x, y], argTypes := #[t, xT] })
  (hty : AppTy P t xT el sz by_ z) (hx : evO R x = some (.slc id k n c sz)) (hid : H id = some b) (hown : b.own = true) (hin1 : k + (n + m) * sz ≤ b.cells.length) (hy : evO R y = some (.slc id2 o2 m c2 sz)) (hb2 : H id2 = some b2) (hin : o2 + m * sz ≤ b2.cells.length)
  (hroom : n + m ≤ c) (h0 : 0 < b.cells.length) :
  LT P o R H [id, id2] [(id, some (b.with (sput b.cells (k + n * sz) (.agg ((b2.cells.drop o2).take (m * sz))))))] (some (.slc id k (n + m) c sz)) := by
 refine LT.of_run (by simp [ho]) fun e w ρ h1 h2 _ hfresh => ?_
 have hx2 := h1 x (by simp [ho, Op.operands, Call.operands]) _ hx
 have hy2 := h1 y (by simp [ho, Op.operands, Call.operands]) _ hy
 obtain ⟨rb, hr, hb⟩ := h2 id (by simp) _ hid
 obtain ⟨rb2, hr2, hbr2⟩ := h2 id2 (by simp) b2 hb2
 obtain ⟨i, v, dx, hi, hv, hvs, his, hib, hdx, hdx2⟩ := hty.facts
 obtain ⟨news, hl, hf, hrn, ha, hlen, _⟩ := src_sl hy2.slc_sl hr2 hbr2 hin
 have hl0 := hl w.drawn
 have hf0 := hf w.drawn
 have hnl := hrn.length
 rw [Nat.add_mul] at hin1
 have hrel : Rel ρ (.agg ((b2.cells.drop o2).take (m * sz))) (.agg ⟨news⟩) := by simp only [Rel]; exact ⟨_, rfl, ha, hrn⟩
 obtain ⟨p1, p2, p3⟩ := hb.put (k := k + n * sz) hown hrel (by simp) (by simp only [SV.cells]; rw [hlen]; omega) h0
 simp only [Rel] at hx2
 obtain ⟨rb', a, cap, hr', he, hnc, hcc, hdis⟩ := hx2
 rw [hr] at hr'; cases hr'
 have hroom2 : n + m ≤ cap := by omega
 have hcells : (Value.cells (.agg ⟨news⟩)).toList = news := rfl
 rw [hcells] at p1 p2
 by_cases hc0 : cap = 0
 ·
  obtain rfl : n = 0 := by omega
  obtain rfl : m = 0 := by omega
  obtain rfl : news = [] := List.eq_nil_of_length_eq_zero (by rw [hnl, hlen]; simp)
  have : World.putCells w rb.blk (rb.off + (k + 0 * sz)) [] = w := putCells_nil w _ _
  rw [this] at p1 p2
  refine ⟨_, w, ρ, app_run ho ?_, Chg.put hid hr hown p3 p1 p2, .inl ⟨.slice a (0 + 0) cap, rfl, fun u hu => ?_⟩⟩
  ·
   rw [he, app_room hty.hT hdx hdx2 hty.hs hl0 hf0 hroom2]
   cases a <;> rfl
  ·
   cases hu
   simp only [Rel]
   exact ⟨rb, a, cap, hr, rfl, by omega, hcc, hdis⟩
 ·
  obtain ⟨hvirt, ha2, hcap⟩ := hdis.resolve_left hc0
  obtain ⟨⟨ca, ty, fz, hca, _, hrl, hzz, hsz⟩, _⟩ := hb.cellsAt h0
  rw [hown] at hzz
  have hst := run_puts (P := P) (o := rb.off + (k + n * sz)) news 0 hca (hzz rfl) (by rw [hnl, hlen]; omega) (hrn.oneCell ha)
  refine ⟨_, World.putCells w rb.blk (rb.off + (k + n * sz)) news, ρ, app_run ho ?_, Chg.put hid hr hown p3 p1 p2, .inl ⟨.slice a (n + m) cap, rfl, fun u hu => ?_⟩⟩
  ·
   rw [he, app_room hty.hT hdx hdx2 hty.hs hl0 hf0 hroom2, ha2]
   simp only [add_addr, Nat.add_zero, Nat.add_assoc] at hst ⊢
   simp only [hst]
   rfl
  ·
   cases hu
   simp only [Rel]
   exact ⟨rb, a, cap, hr, rfl, hroom, hcc, .inr ⟨hvirt, ha2, hcap⟩⟩
theorem lt_append_row_str {o : Oper} {R : Env} {x y : Operand} {t xT el by_ nid n id k : Nat} {full : Bool} {z : SV} {l : List SV} {s : List UInt8} (ho : o.op = .call { callee := .builtin .append, args := #[x, y], argTypes := #[t, xT] })
  (hty : AppTy P t xT el 1 by_ z) (hx : evO R x = some (.sl id k n 1 full)) (hid : H id = some (.row el l)) (hin1 : k + n * 1 ≤ l.length) (hy : evO R y = some (.s s))
  (hm : (n + s.length) * by_ ≤ 140737488355328) (hne : nid ≠ id) :
  LT P o R H [id] [(id, none), (nid, some (.row el ((l.drop k).take (n * 1) ++ s.map .u8)))] (some (.sl nid 0 (n + s.length) 1 false)) := by
 refine LT.of_run (by simp [ho]) fun e w ρ h1 h2 _ hfresh => ?_
 have hx2 := h1 x (by simp [ho, Op.operands, Call.operands]) _ hx
 have hy2 := h1 y (by simp [ho, Op.operands, Call.operands]) _ hy
 simp only [Rel] at hy2
 obtain ⟨rb, hr, hbr⟩ := h2 id (by simp) _ hid
 obtain ⟨v, w', ρ', a1, a2, a3⟩ := app_row (w := w) (H := H) (nid := nid) ho hty hx2 hid hr hbr hin1 (by rw [hy2]; exact src_str) hm (fun e => hne e.symm) (hfresh nid (some (.row el ((l.drop k).take (n * 1) ++ s.map .u8))) (by simp) (by simpa using hne))
 exact ⟨_, w', ρ', a1, a2, .inl ⟨v, rfl, fun u hu => by cases hu; exact a3⟩⟩
end
end Go.Sh
namespace Go.Sh
def kd : SV → Option Nat
 | .i _ => some 0
 | .u8 _ => some 1
 | .u16 _ => some 2
 | .u32 _ => some 3
 | .u64 _ => some 4
 | .b _ => some 5
 | .s _ => some 6
 | _ => none
def kdT : TypeDesc → Option Nat
 | .int .i64 => some 0
 | .int .u8 => some 1
 | .int .u16 => some 2
 | .int .u32 => some 3
 | .int .u64 => some 4
 | .bool => some 5
 | .string => some 6
 | _ => none
def eqc : SV → SV → Bool
 | .i a, .i c => a == c
 | .u8 a, .u8 c => a == c
 | .u16 a, .u16 c => a == c
 | .u32 a, .u32 c => a == c
 | .u64 a, .u64 c => a == c
 | .b a, .b c => a == c
 | .s a, .s c => a == c
 | _, _ => false
def eqcs : List SV → List SV → Bool
 | [], [] => true
 | x :: xs, y :: ys => eqc x y && eqcs xs ys
 | _, _ => false
mutual
def kinds (P : Program) : Nat → TypeId → Option (List Nat)
 | 0, _ => none
 | d + 1, t =>
  match P.underlying t with
  | some (.struct fs) => if P.stoodInHeld t then none else (kindsF P d 0 fs.toList).bind fun ks => if psz P t = some ks.length then some ks else none
  | some (.array n e) => (kinds P d e).bind fun ks => if psz P t = some (n * ks.length) then some (List.replicate n ks).flatten else none
  | some ds => (kdT ds).bind fun k => if psz P t = some 1 then some [k] else none
  | none => none
def kindsF (P : Program) : Nat → Nat → List Field → Option (List Nat)
 | _, _, [] => some []
 | 0, _, _ :: _ => none
 | d + 1, off, f :: fs =>
  if f.name ≠ "_" ∧ f.offset = off then (kinds P d f.type).bind fun ks => (kindsF P d (off + ks.length) fs).map (ks ++ ·) else none
end
def isRow (P : Program) (t : TypeId) : Bool := match P.underlying t with | some (.struct _) => true | some (.array _ _) => true | _ => false
def wrapV (P : Program) (t : TypeId) (vs : List Value) : Value := if isRow P t then .agg ⟨vs⟩ else vs.headD undef
section
variable {P : Program} {ρ ρ' : Ren} {H : Heap} {w w' : World}
theorem kinds_size {d : Nat} {t : TypeId} {ks : List Nat} (h : kinds P d t = some ks) : psz P t = some ks.length := by
 cases d with
 | zero => simp [kinds] at h
 | succ d =>
  simp only [kinds] at h
  split at h
  ·
   split at h
   ·
    cases h
   ·
    obtain ⟨ks', _, h2⟩ := Option.bind_eq_some_iff.1 h
    split at h2
    ·
     cases h2; assumption
    ·
     cases h2
  ·
   obtain ⟨ks', _, h2⟩ := Option.bind_eq_some_iff.1 h
   split at h2
   ·
    cases h2; simpa using ‹_›
   ·
    cases h2
  ·
   obtain ⟨k, _, h2⟩ := Option.bind_eq_some_iff.1 h
   split at h2
   ·
    cases h2; simpa using ‹_›
   ·
    cases h2
  ·
   cases h
theorem kinds_agg {d : Nat} {t : TypeId} {ks : List Nat} (h : kinds P d t = some ks) : pagg P t = some (isRow P t) := by
 cases d with
 | zero => simp [kinds] at h
 | succ d =>
  simp only [kinds] at h
  unfold pagg isRow
  cases hu : P.underlying t with
  | none => rw [hu] at h; cases h
  | some ds => cases ds <;> rfl
theorem run_part {d off : Nat} {t : TypeId} {ks : List Nat} {vs : List Value} (h : kinds P d t = some ks) (hk : 0 < ks.length ∨ isRow P t = true) (hin : off + ks.length ≤ vs.length) :
  (part t ⟨vs⟩ off).run P w = .ok (wrapV P t ((vs.drop off).take ks.length)) w := by
 unfold part wrapV
 rw [Sem.run_bind, run_agg (kinds_agg h), Result.andThen_ok]
 by_cases hr : isRow P t = true
 ·
  simp only [hr, if_true, Sem.run_bind, run_size (kinds_size h), Result.andThen_ok, Sem.run_pure]
  congr 2
  apply Array.toList_inj.1
  simp [List.extract_eq_take_drop]
 ·
  have h0 : 0 < ks.length := hk.resolve_right hr
  simp only [hr, Bool.false_eq_true, if_false]
  have hl : off < vs.length := by omega
  have : (⟨vs⟩ : Array Value)[off]? = some vs[off] := by simp [hl]
  rw [this]
  have e : ((vs.drop off).take ks.length).headD undef = vs[off] := by
   rw [List.headD_eq_head?_getD, List.head?_take, if_neg (by omega), List.head?_drop, List.getElem?_eq_getElem hl]; rfl
  rw [e]; rfl
theorem kd_atom {x : SV} {k : Nat} (h : kd x = some k) : x.atom = true := by cases x <;> first | rfl | (simp [kd] at h)
theorem run_eq_atom {d k : Nat} {t : TypeId} {ds : TypeDesc} {x y : SV} {v u : Value} (hu : P.underlying t = some ds) (hk : kdT ds = some k) (hx : kd x = some k) (hy : kd y = some k) (hv : Rel ρ x v) (huv : Rel ρ y u) :
  (Op.equalIn (d + 1) t v u).run P w = .ok (eqc x y) w := by
 cases ds <;> simp only [kdT] at hk <;> (try (cases hk; done))
 ·
  cases hk
  cases x <;> simp only [kd] at hx <;> (try (cases hx; done))
  cases y <;> simp only [kd] at hy <;> (try (cases hy; done))
  simp only [Rel] at hv huv; subst hv; subst huv
  rw [run_equalIn_bool' w d t _ _ hu]; rfl
 ·
  rename_i ik
  cases ik <;> simp only at hk <;> (try (cases hk; done)) <;> cases hk <;>
   (cases x <;> simp only [kd] at hx <;> (try (cases hx; done))) <;> (cases y <;> simp only [kd] at hy <;> (try (cases hy; done))) <;>
   simp only [Rel] at hv huv <;> subst hv <;> subst huv <;> rw [run_equalIn_int w d t _ _ _ _ hu] <;> congr 1 <;> simp only [eqc]
  ·
   rename_i a c; rw [Bool.eq_iff_iff]; simp [← UInt8.toNat_inj]; omega
  ·
   rename_i a c; rw [Bool.eq_iff_iff]; simp [← UInt16.toNat_inj]; omega
  ·
   rename_i a c; rw [Bool.eq_iff_iff]; simp [← UInt32.toNat_inj]; omega
  ·
   rename_i a c; rw [Bool.eq_iff_iff]; simp [← UInt64.toNat_inj]; omega
 ·
  cases hk
  cases x <;> simp only [kd] at hx <;> (try (cases hx; done))
  cases y <;> simp only [kd] at hy <;> (try (cases hy; done))
  simp only [Rel] at hv huv; subst hv; subst huv
  rw [run_equalIn_string w d t _ _ hu, byteArray_toList, byteArray_toList]; rfl
theorem eqcs_append : ∀ {a b c d : List SV}, a.length = c.length → eqcs (a ++ b) (c ++ d) = (eqcs a c && eqcs b d)
 | [], b, [], d, _ => by simp [eqcs]
 | x :: a, b, y :: c, d, h => by
  simp only [List.cons_append, eqcs]
  rw [eqcs_append (by simpa using h), Bool.and_assoc]
 | [], _, _ :: _, _, h => by simp at h
 | _ :: _, _, [], _, h => by simp at h
def EqOk (P : Program) (ρ : Ren) (d : Nat) (t : TypeId) : Prop :=
 ∀ (w : World) (ks : List Nat) (xs ys : List SV) (vs us : List Value), kinds P d t = some ks → xs.map kd = ks.map some → ys.map kd = ks.map some → Rels ρ xs vs → Rels ρ ys us → ∀ m, d ≤ m →
  (Op.equalIn m t (wrapV P t vs) (wrapV P t us)).run P w = .ok (eqcs xs ys) w
theorem map_len {xs : List SV} {ks : List Nat} (h : xs.map kd = ks.map some) : xs.length = ks.length := by
 have := congrArg List.length h; simpa using this
theorem split_kinds {xs : List SV} {a b : List Nat} (h : xs.map kd = (a ++ b).map some) : (xs.take a.length).map kd = a.map some ∧ (xs.drop a.length).map kd = b.map some := by
 rw [List.map_append] at h
 constructor
 ·
  rw [List.map_take, h]
  exact List.take_left' (by simp)
 ·
  rw [List.map_drop, h]
  exact List.drop_left' (by simp)
theorem eq_fields (m : Nat) (vs us : List Value) : ∀ (fs : List Field) (d off : Nat) (ks : List Nat) (xs ys : List SV), (∀ e < d, ∀ t, EqOk P ρ e t) → d ≤ m → kindsF P d off fs = some ks → xs.map kd = ks.map some → ys.map kd = ks.map some →
  off + ks.length ≤ vs.length → off + ks.length ≤ us.length → Rels ρ xs ((vs.drop off).take ks.length) → Rels ρ ys ((us.drop off).take ks.length) →
  (Op.eqFields m ⟨vs⟩ ⟨us⟩ fs).run P w = .ok (eqcs xs ys) w
 | [], d, off, ks, xs, ys, _, _, h, hx, hy, _, _, _, _ => by
  cases d <;> simp only [kindsF, Option.some.injEq] at h <;> subst h <;> simp at hx hy <;> subst hx <;> subst hy <;> rfl
 | f :: fs, 0, off, ks, xs, ys, _, _, h, hx, hy, _, _, _, _ => by simp [kindsF] at h
 | f :: fs, d + 1, off, ks, xs, ys, ih, hd, h, hx, hy, hv, hu, hrx, hry => by
  simp only [kindsF] at h
  split at h
  ·
   rename_i hf
   obtain ⟨k1, hk1, h2⟩ := Option.bind_eq_some_iff.1 h
   obtain ⟨k2, hk2, rfl⟩ := Option.map_eq_some_iff.1 h2
   obtain ⟨hx1, hx2⟩ := split_kinds hx
   obtain ⟨hy1, hy2⟩ := split_kinds hy
   simp only [List.length_append] at hv hu hrx hry
   have hlx := map_len hx
   have hly := map_len hy
   simp only [List.length_append] at hlx hly
   have r1 := hrx.take k1.length
   have r2 := hrx.drop k1.length
   have r3 := hry.take k1.length
   have r4 := hry.drop k1.length
   rw [List.take_take, Nat.min_eq_left (by omega)] at r1 r3
   rw [List.drop_take, List.drop_drop, Nat.add_sub_cancel_left] at r2 r4
   have hpos : 0 < k1.length ∨ isRow P f.type = true := by
    by_cases h0 : 0 < k1.length
    ·
     exact .inl h0
    ·
     right
     cases d with
     | zero => simp [kinds] at hk1
     | succ d =>
      simp only [kinds] at hk1
      unfold isRow
      split at hk1 <;> rename_i hue
      ·
       rw [hue]
      ·
       rw [hue]
      ·
       obtain ⟨k, _, h3⟩ := Option.bind_eq_some_iff.1 hk1
       split at h3
       ·
        cases h3; simp at h0
       ·
        cases h3
      ·
       cases hk1
   have e1 := run_part (P := P) (w := w) (off := off) (vs := vs) hk1 hpos (by omega)
   have e2 := run_part (P := P) (w := w) (off := off) (vs := us) hk1 hpos (by omega)
   have e3 := ih d (by omega) f.type w k1 (xs.take k1.length) (ys.take k1.length) _ _ hk1 hx1 hy1 r1 r3 m (by omega)
   have e4 := eq_fields m vs us fs d (off + k1.length) k2 (xs.drop k1.length) (ys.drop k1.length) (fun e he => ih e (by omega)) (by omega) hk2 hx2 hy2 (by omega) (by omega) r2 r4
   simp only [Op.eqFields, hf.1, ne_eq, not_false_eq_true, if_true, hf.2, Sem.run_bind, e1, e2, e3, Result.andThen_ok]
   have hsplit : eqcs xs ys = (eqcs (xs.take k1.length) (ys.take k1.length) && eqcs (xs.drop k1.length) (ys.drop k1.length)) := by
    rw [← eqcs_append (by simp; omega), List.take_append_drop, List.take_append_drop]
   rw [hsplit]
   cases hb : eqcs (xs.take k1.length) (ys.take k1.length)
   ·
    simp
   ·
    simp only [Bool.not_true, Bool.false_eq_true, if_false, Bool.true_and, e4]
  ·
   cases h
theorem eq_loop (m : Nat) (e : TypeId) (vs us : List Value) (d : Nat) (ks : List Nat) (ih : EqOk P ρ d e) (hd : d ≤ m) (hk : kinds P d e = some ks) (hpos : 0 < ks.length ∨ isRow P e = true) :
  ∀ (n s : Nat) (xs ys : List SV), xs.map kd = ((List.replicate n ks).flatten).map some → ys.map kd = ((List.replicate n ks).flatten).map some →
   (s + n) * ks.length ≤ vs.length → (s + n) * ks.length ≤ us.length → Rels ρ xs ((vs.drop (s * ks.length)).take (n * ks.length)) → Rels ρ ys ((us.drop (s * ks.length)).take (n * ks.length)) →
   ((forIn (List.range' s n) (none, ()) fun i (_ : Option Bool × Unit) => do
     if (!(← Op.equalIn m e (← part e ⟨vs⟩ (i * ks.length)) (← part e ⟨us⟩ (i * ks.length)))) = true then pure (ForInStep.done (some false, ())) else pure (ForInStep.yield (none, ())) : Sem (Option Bool × Unit)).run P w
    = .ok (if eqcs xs ys then (none, ()) else (some false, ())) w)
 | 0, s, xs, ys, hx, hy, _, _, _, _ => by
  simp at hx hy; subst hx; subst hy; rfl
 | n + 1, s, xs, ys, hx, hy, hv, hu, hrx, hry => by
  rw [List.replicate_succ, List.flatten_cons] at hx hy
  obtain ⟨hx1, hx2⟩ := split_kinds hx
  obtain ⟨hy1, hy2⟩ := split_kinds hy
  have hlx := map_len hx
  have hly := map_len hy
  simp only [List.length_append] at hlx hly
  have hm1 : (s + (n + 1)) * ks.length = s * ks.length + ks.length + n * ks.length := by rw [Nat.add_mul, Nat.add_mul]; omega
  have hm2 : (n + 1) * ks.length = ks.length + n * ks.length := by rw [Nat.add_mul]; omega
  have hm3 : (s + 1) * ks.length = s * ks.length + ks.length := by rw [Nat.add_mul]; omega
  rw [hm1] at hv hu
  rw [hm2] at hrx hry
  have r1 := hrx.take ks.length
  have r2 := hrx.drop ks.length
  have r3 := hry.take ks.length
  have r4 := hry.drop ks.length
  rw [List.take_take, Nat.min_eq_left (by omega)] at r1 r3
  rw [List.drop_take, List.drop_drop, Nat.add_sub_cancel_left] at r2 r4
  have e1 := run_part (P := P) (w := w) (off := s * ks.length) (vs := vs) hk hpos (by omega)
  have e2 := run_part (P := P) (w := w) (off := s * ks.length) (vs := us) hk hpos (by omega)
  have e3 := ih w ks (xs.take ks.length) (ys.take ks.length) _ _ hk hx1 hy1 r1 r3 m hd
  have e4 := eq_loop m e vs us d ks ih hd hk hpos n (s + 1) (xs.drop ks.length) (ys.drop ks.length) hx2 hy2 (by rw [Nat.add_mul, hm3]; omega) (by rw [Nat.add_mul, hm3]; omega) (by rw [hm3]; exact r2) (by rw [hm3]; exact r4)
  have hsplit : eqcs xs ys = (eqcs (xs.take ks.length) (ys.take ks.length) && eqcs (xs.drop ks.length) (ys.drop ks.length)) := by
   rw [← eqcs_append (by simp; omega), List.take_append_drop, List.take_append_drop]
  simp only [List.range'_succ, List.forIn_cons, Sem.run_bind, e1, e2, e3, Result.andThen_ok]
  rw [hsplit]
  cases hb : eqcs (xs.take ks.length) (ys.take ks.length)
  ·
   simp
  ·
   simp only [Bool.not_true, Bool.false_eq_true, if_false, Bool.true_and, Sem.run_pure, Result.andThen_ok]
   exact e4
theorem eq_ok : ∀ (d : Nat) (t : TypeId), EqOk P ρ d t := by
 intro d
 induction d using Nat.strongRecOn with
 | _ d ih =>
  intro t w ks xs ys vs us hk hx hy hrx hry m hm
  cases d with
  | zero => simp [kinds] at hk
  | succ d =>
   obtain ⟨m, rfl⟩ : ∃ m', m = m' + 1 := ⟨m - 1, by omega⟩
   have hsz := kinds_size hk
   have hlx := map_len hx
   have hly := map_len hy
   have hvl := hrx.length
   have hul := hry.length
   simp only [kinds] at hk
   split at hk
   ·
    rename_i fs hu
    split at hk
    ·
     cases hk
    ·
     rename_i hst
     obtain ⟨ks', hks, h2⟩ := Option.bind_eq_some_iff.1 hk
     split at h2
     ·
      cases h2
      have hrow : isRow P t = true := by unfold isRow; rw [hu]
      have hfo : P.fieldsOf t = fs := by unfold Program.fieldsOf; rw [hu]
      simp only [wrapV, hrow, if_true]
      rw [run_equalIn_struct w m t _ _ (by rw [hfo]; exact hu) (by simpa using hst), hfo]
      exact eq_fields m vs us fs.toList d 0 ks xs ys (fun e he t => ih e (by omega) t) (by omega) hks hx hy (by omega) (by omega) (by simpa [← hlx, ← hvl] using hrx) (by simpa [← hly, ← hul] using hry)
     ·
      cases h2
   ·
    rename_i n e hu
    obtain ⟨ks', hks, h2⟩ := Option.bind_eq_some_iff.1 hk
    split at h2
    ·
     cases h2
     have hrow : isRow P t = true := by unfold isRow; rw [hu]
     simp only [wrapV, hrow, if_true]
     have hfl : ((List.replicate n ks').flatten).length = n * ks'.length := by simp
     have hpos : 0 < ks'.length ∨ isRow P e = true := by
      by_cases h0 : 0 < ks'.length
      ·
       exact .inl h0
      ·
       right
       cases d with
       | zero => simp [kinds] at hks
       | succ d =>
        simp only [kinds] at hks
        unfold isRow
        split at hks <;> rename_i hue
        ·
         rw [hue]
        ·
         rw [hue]
        ·
         obtain ⟨k, _, h3⟩ := Option.bind_eq_some_iff.1 hks
         split at h3
         ·
          cases h3; simp at h0
         ·
          cases h3
        ·
         cases hks
     have key := eq_loop (P := P) (ρ := ρ) (w := w) m e vs us d ks' (ih d (by omega) e) (by omega) hks hpos n 0 xs ys hx hy (by rw [Nat.zero_add]; omega) (by rw [Nat.zero_add]; omega)
      (by rw [Nat.zero_mul, List.drop_zero, List.take_of_length_le (by omega)]; exact hrx) (by rw [Nat.zero_mul, List.drop_zero, List.take_of_length_le (by omega)]; exact hry)
     unfold Op.equalIn
     simp only [Sem.run_bind, run_und hu, Result.andThen_ok, run_size (kinds_size hks), Std.Legacy.Range.forIn_eq_forIn_range', Std.Legacy.Range.size, Nat.sub_zero, Nat.add_sub_cancel, Nat.div_one]
     rw [key]
     cases eqcs xs ys <;> simp
    ·
     cases h2
   ·
    rename_i ds hns hna hu
    obtain ⟨k, hkd, h2⟩ := Option.bind_eq_some_iff.1 hk
    split at h2
    ·
     cases h2
     have hrow : isRow P t = false := by
      unfold isRow; rw [hu]
      cases ds <;> first | rfl | exact (hns _ rfl).elim | exact (hna _ _ rfl).elim
     match xs, ys, vs, us, hlx, hly, hvl, hul with
     | [x], [y], [v], [u], _, _, _, _ =>
      simp only [wrapV, hrow, Bool.false_eq_true, if_false, List.headD_cons]
      rw [run_eq_atom hu hkd (by simpa using hx) (by simpa using hy) (Rels.cons_iff.1 hrx).1 (Rels.cons_iff.1 hry).1]
      simp [eqcs]
    ·
     cases h2
   ·
    cases hk
theorem lt_eq_agg {o : Oper} {R : Env} {t t2 : TypeId} {x y : Operand} {xs ys : List SV} {ks : List Nat} {ne : Bool} (d : Nat) (ho : o.op = .binOp (if ne then .neq else .eql) t x y t2) (hx : evO R x = some (.agg xs)) (hy : evO R y = some (.agg ys))
  (hk : kinds P d t = some ks) (hd : d ≤ 10000) (hr : isRow P t = true) (hg : P.eqGuardType P.depth t = false) (h1 : xs.map kd = ks.map some) (h2 : ys.map kd = ks.map some) :
  LT P o R H [] [] (some (.b (ne ^^ eqcs xs ys))) := by
 refine LT.pure (by simp [ho]) fun e w ρ hh _ => ?_
 have hx2 := hh x (by simp [ho, Op.operands]) _ hx
 have hy2 := hh y (by simp [ho, Op.operands]) _ hy
 simp only [Rel] at hx2 hy2
 obtain ⟨vs, ev, _, hvs⟩ := hx2
 obtain ⟨us, eu, _, hus⟩ := hy2
 have key := eq_ok (P := P) (ρ := ρ) d t w ks xs ys vs us hk h1 h2 hvs hus 10000 hd
 simp only [wrapV, hr, if_true] at key
 refine ⟨.bool (ne ^^ eqcs xs ys), ?_, by simp only [Rel]⟩
 have hgd := fun op => run_eqGuard_agg (P := P) w op t x y ⟨vs⟩ ⟨us⟩ hg
 cases ne
 ·
  simp only [Bool.false_eq_true, if_false] at ho
  simp only [execOp, ho, ev, eu, Sem.run_bind, hgd, Result.andThen_ok, run_eql_struct, key, Sem.run_pure, Bool.false_xor]
 ·
  simp only [if_true] at ho
  simp only [execOp, ho, ev, eu, Sem.run_bind, hgd, Result.andThen_ok, run_neq_struct, key, Sem.run_pure, Bool.true_xor]
def seq : SV → SV → Option Bool
 | .b a, .b c => some (a == c)
 | .p _ _, .pnil => some false
 | .pnil, .p _ _ => some false
 | .pnil, .pnil => some true
 | .fn _ _, .fnil => some false
 | .fnil, .fnil => some true
 | .slnil, .slnil => some true
 | _, _ => none
def seqT : SV → Option Nat
 | .b _ => some 0
 | .p _ _ => some 1
 | .pnil => some 1
 | .fn _ _ => some 2
 | .fnil => some 2
 | .slnil => some 3
 | _ => none
def seqD : TypeDesc → Option Nat
 | .bool => some 0
 | .pointer _ => some 1
 | .func _ _ _ => some 2
 | .slice _ => some 3
 | _ => none
theorem run_seq {t : TypeId} {ds : TypeDesc} {x y : SV} {r : Bool} {v u : Value} (hu : P.underlying t = some ds) (hd : seqD ds = seqT x) (h : seq x y = some r) (hx : Rel ρ x v) (hy : Rel ρ y u) : (Op.equal t v u).run P w = .ok r w := by
 unfold Op.equal
 have e : Op.maxDepth = 9999 + 1 := rfl
 rw [e]
 unfold Op.equalIn
 rw [Sem.run_bind, run_und hu, Result.andThen_ok]
 cases x <;> cases y <;> simp only [seq] at h <;> (try (cases h; done)) <;> simp only [Rel] at hx hy <;> simp only [seqT] at hd <;> cases ds <;> simp only [seqD] at hd <;> (try (cases hd; done)) <;> cases h
 ·
  subst hx; subst hy; rfl
 ·
  obtain ⟨rb, _, rfl⟩ := hx; subst hy; rfl
 ·
  obtain ⟨rb, _, rfl⟩ := hy; subst hx; rfl
 ·
  subst hx; subst hy; rfl
 ·
  subst hx; subst hy; rfl
 ·
  subst hx; subst hy; rfl
 ·
  obtain ⟨cs, rfl, _⟩ := hx; subst hy; rfl
theorem run_eq_plain {ne : Bool} {t : TypeId} {x y : SV} {r : Bool} {v u : Value} (h : seq x y = some r) (hx : Rel ρ x v) (hy : Rel ρ y u) (he : (Op.equal t v u).run P w = .ok r w) :
  (binOp (if ne then .neq else .eql) t v u).run P w = .ok (.bool (ne ^^ r)) w := by
 cases x <;> cases y <;> simp only [seq] at h <;> (try (cases h; done)) <;> simp only [Rel] at hx hy <;>
  first
   | (subst hx; subst hy)
   | (obtain ⟨rb, _, rfl⟩ := hx; subst hy)
   | (obtain ⟨rb, _, rfl⟩ := hy; subst hx)
   | (obtain ⟨cs, rfl, _⟩ := hx; subst hy)
 all_goals (cases ne <;> simp only [binOp, Bool.false_eq_true, if_false, if_true, Sem.run_bind, he, Result.andThen_ok, Sem.run_pure, Bool.false_xor, Bool.true_xor])
theorem lt_eq {o : Oper} {R : Env} {t t2 : TypeId} {x y : Operand} {a b : SV} {ds : TypeDesc} {r ne : Bool} (ho : o.op = .binOp (if ne then .neq else .eql) t x y t2) (hx : evO R x = some a) (hy : evO R y = some b)
  (hu : P.underlying t = some ds) (hd : seqD ds = seqT a) (h : seq a b = some r) : LT P o R H [] [] (some (.b (ne ^^ r))) := by
 refine LT.pure (by simp [ho]) fun e w ρ hh _ => ?_
 have hx2 := hh x (by simp [ho, Op.operands]) _ hx
 have hy2 := hh y (by simp [ho, Op.operands]) _ hy
 obtain ⟨g1, g2⟩ := Rel.plain (by intro l el; subst el; simp [seq] at h) hx2
 exact ⟨.bool (ne ^^ r), by simp only [execOp, ho, Sem.run_bind, run_eqGuard g1 g2, Result.andThen_ok, run_eq_plain h hx2 hy2 (run_seq hu hd h hx2 hy2), Sem.run_pure], by simp only [Rel]⟩
theorem lt_eq_slnil {o : Oper} {R : Env} {t t2 : TypeId} {x y : Operand} {id k n sz : Nat} {full : Bool} {ds : TypeDesc} {ne : Bool} (ho : o.op = .binOp (if ne then .neq else .eql) t x y t2) (hx : evO R x = some (.sl id k n sz full)) (hy : evO R y = some .slnil)
  (hu : P.underlying t = some ds) (hd : seqD ds = some 3) (hn : 0 < n) : LT P o R H [] [] (some (.b ne)) := by
 refine LT.pure (by simp [ho]) fun e w ρ hh _ => ?_
 have hx2 := hh x (by simp [ho, Op.operands]) _ hx
 have hy2 := hh y (by simp [ho, Op.operands]) _ hy
 obtain ⟨g1, g2⟩ := Rel.plain (by intro l el; cases el) hx2
 simp only [Rel] at hx2 hy2
 obtain ⟨rb, a, c, hr, he, hnc, _, hdis⟩ := hx2
 obtain ⟨hv, ha, _⟩ := hdis.resolve_left (by omega)
 have hq : (Op.equal t (e x) (e y)).run P w = .ok false w := by
  rw [he, hy2, ha]
  unfold Op.equal
  have e : Op.maxDepth = 9999 + 1 := rfl
  rw [e]
  unfold Op.equalIn
  rw [Sem.run_bind, run_und hu, Result.andThen_ok]
  cases ds <;> simp only [seqD] at hd <;> first | (cases hd; done) | rfl
 refine ⟨.bool ne, ?_, by simp only [Rel]⟩
 simp only [execOp, ho, Sem.run_bind, run_eqGuard g1 g2, Result.andThen_ok]
 rw [he, hy2] at hq ⊢
 cases ne <;> simp only [binOp, Bool.false_eq_true, if_false, if_true, Sem.run_bind, hq, Result.andThen_ok, Sem.run_pure, Bool.not_false]
theorem app_full {o : Oper} {x y : Operand} {t xT el sz by_ id nid k n m : Nat} {z : SV} {b : SB} {ys : List SV} {rb : RB} {e : Operand → Value} (ho : o.op = .call { callee := .builtin .append, args := #[x, y], argTypes := #[t, xT] })
  (hty : AppTy P t xT el sz by_ z) (hx : Rel ρ (.sl id k n sz true) (e x)) (hr : ρ id = some rb) (hb : BRel ρ w rb b) (hin : k + n * sz ≤ b.cells.length) (hsrc : Src P ρ w (e y) sz m ys)
  (hm : (n + m) * by_ ≤ 140737488355328) (hm0 : 0 < m) (hn : ρ nid = none) :
  ∃ v w' ρ', (execOp e o).run P w = .ok (.value v) w' ∧ Chg ρ H w [(nid, some (.row el ((b.cells.drop k).take (n * sz) ++ ys)))] ρ' w' ∧ Rel ρ' (.sl nid 0 (n + m) sz false) v := by
 obtain ⟨i, v, dx, hi, hv, hvs, his, hib, hdx, hdx2⟩ := hty.facts
 have hsrcx : Src P ρ w (e x) sz n ((b.cells.drop k).take (n * sz)) := src_sl hx hr hb hin
 obtain ⟨news, hl, hf, hrn, ha, hlen, _⟩ := hsrc
 obtain ⟨olds, _, hfo, hro, hao, hleno, _⟩ := hsrcx
 have hl0 := hl w.drawn
 have hf1 := hf (w.drawn + 1)
 have hfo1 := hfo (w.drawn + 1)
 simp only [Rel] at hx
 obtain ⟨rb', a, c, hr', he, hnc, hfull, hdis⟩ := hx
 have hc := hfull trivial
 subst hc
 rw [he] at hfo1
 have hg := app_grow (ty := o.type) (a := a) (n := c) (c := c) hty.hT hdx hdx2 hi hv his hl0 hf1 hfo1 (by omega) (by rw [hib]; exact hty.hb0) (by rw [hib]; exact growslice_fits (by omega) hm)
 have hge := grownCap_ge w (c + m) c el
 obtain ⟨g1, g2⟩ := grown_row (ρ := ρ) (w := w) (nid := nid) (el := el) hro hao hrn ha hleno hlen hvs hge
 exact ⟨_, _, _, app_run ho (by rw [he]; exact hg), Chg.new (w.drawn + 1) hn rfl g1, g2⟩
theorem lt_append_full_sl {o : Oper} {R : Env} {x y : Operand} {t xT el sz by_ nid n m id id2 k o2 : Nat} {full2 : Bool} {z : SV} {b b2 : SB} (ho : o.op = .call { callee := .builtin .append, args := #[x, y], argTypes := #[t, xT] })
  (hty : AppTy P t xT el sz by_ z) (hx : evO R x = some (.sl id k n sz true)) (hid : H id = some b) (hin1 : k + n * sz ≤ b.cells.length) (hy : evO R y = some (.sl id2 o2 m sz full2)) (hb : H id2 = some b2) (hin : o2 + m * sz ≤ b2.cells.length)
  (hm : (n + m) * by_ ≤ 140737488355328) (hm0 : 0 < m) (hne : nid ≠ id ∧ nid ≠ id2) :
  LT P o R H [id, id2] [(nid, some (.row el ((b.cells.drop k).take (n * sz) ++ (b2.cells.drop o2).take (m * sz))))] (some (.sl nid 0 (n + m) sz false)) := by
 refine LT.of_run (by simp [ho]) fun e w ρ h1 h2 _ hfresh => ?_
 have hx2 := h1 x (by simp [ho, Op.operands, Call.operands]) _ hx
 have hy2 := h1 y (by simp [ho, Op.operands, Call.operands]) _ hy
 obtain ⟨rb, hr, hbr⟩ := h2 id (by simp) _ hid
 obtain ⟨rb2, hr2, hbr2⟩ := h2 id2 (by simp) b2 hb
 obtain ⟨v, w', ρ', a1, a2, a3⟩ := app_full (w := w) (H := H) (nid := nid) ho hty hx2 hr hbr hin1 (src_sl hy2 hr2 hbr2 hin) hm hm0 (hfresh nid (some (.row el ((b.cells.drop k).take (n * sz) ++ (b2.cells.drop o2).take (m * sz)))) (by simp) (by simpa using hne))
 exact ⟨_, w', ρ', a1, a2, .inl ⟨v, rfl, fun u hu => by cases hu; exact a3⟩⟩
theorem nat_min (a b : Nat) : Nat.min a b = min a b := rfl
theorem copy_ok {o : Oper} {x y : Operand} {t xT el sz id k n m c : Nat} {full : Bool} {b : SB} {ys : List SV} {rb : RB} {e : Operand → Value} (ho : o.op = .call { callee := .builtin .copy, args := #[x, y], argTypes := #[t, xT] })
  (hT : P.underlying t = some (.slice el)) (hs : psz P el = some sz) (hx : Rel ρ (.sl id k n sz full) (e x)) (hid : H id = some b) (hr : ρ id = some rb) (hb : BRel ρ w rb b) (hown : b.own = true) (hin : k + n * sz ≤ b.cells.length)
  (hsrc : Src P ρ w (e y) sz m ys) (hc : c = min m n) (h0 : 0 < b.cells.length) :
  ∃ w', (execOp e o).run P w = .ok (.value (.int .i64 (c : Int))) w' ∧ Chg ρ H w [(id, some (b.with (sput b.cells k (.agg (ys.take (c * sz))))))] ρ w' := by
 obtain ⟨vs, hl, _, hrv, ha, hlen, hf⟩ := hsrc
 have hf0 := hf c (by omega) w.drawn
 have hl0 := hl w.drawn
 have hcm : c * sz ≤ m * sz := Nat.mul_le_mul_right _ (by omega)
 have hcn : c * sz ≤ n * sz := Nat.mul_le_mul_right _ (by omega)
 have hrel : Rel ρ (.agg (ys.take (c * sz))) (.agg ⟨vs.take (c * sz)⟩) := by
  simp only [Rel]
  refine ⟨_, rfl, ?_, hrv.take _⟩
  simp only [atoms, List.all_eq_true] at ha ⊢
  exact fun y hy => ha y (List.mem_of_mem_take hy)
 have hcl : (SV.agg (ys.take (c * sz))).cells.length = c * sz := by simp [SV.cells]; omega
 obtain ⟨p1, p2, p3⟩ := hb.put (k := k) hown hrel (by simp) (by rw [hcl]; omega) h0
 have hvl := (hrv.take (c * sz)).length
 simp only [Rel] at hx
 obtain ⟨rb', a, cap, hr', he, hnc, hfull, hdis⟩ := hx
 rw [hr] at hr'; cases hr'
 have hcopy : ∀ w', (match a with | some a => (storeCells a (vs.take (c * sz))).run P w | none => Result.ok () w) = .ok () w' → (execOp e o).run P w = .ok (.value (.int .i64 (c : Int))) w' := fun w' hst => by
  simp only [execOp, ho, resolve, invoke, builtin, Sem.run_bind, Sem.run_pure, Result.andThen_ok, List.map_toArray, List.map_cons, List.map_nil, Builtin.copy_, List.getElem?_toArray, List.getElem?_cons_zero, List.getElem?_cons_succ, run_und hT, he, hl0, nat_min, ← hc, run_size hs, hf0]
  cases a with
  | none => simp only at hst; cases hst; rfl
  | some a => simp only at hst; simp only [hst, Result.andThen_ok, Sem.run_bind, Sem.run_pure]; rfl
 by_cases hz : c * sz = 0
 ·
  have hnil : vs.take (c * sz) = [] := by rw [hz]; rfl
  refine ⟨w, hcopy w ?_, ?_⟩
  ·
   rw [hnil]; cases a <;> rfl
  ·
   have : World.putCells w rb.blk (rb.off + k) (Value.cells (.agg ⟨vs.take (c * sz)⟩)).toList = w := by
    show World.putCells w rb.blk (rb.off + k) (vs.take (c * sz)) = w
    rw [hnil, putCells_nil]
   rw [this] at p1 p2
   exact Chg.put hid hr hown p3 p1 p2
 ·
  have hcap : cap ≠ 0 := by
   intro e0
   have : c = 0 := by omega
   exact hz (by rw [this]; simp)
  obtain ⟨hv, ha2, hcapb⟩ := hdis.resolve_left hcap
  obtain ⟨⟨ca, ty, fz, hca, _, hrl, hzz, hsz⟩, _⟩ := hb.cellsAt h0
  rw [hown] at hzz
  have hst := run_puts (P := P) (o := rb.off + k) (vs.take (c * sz)) 0 hca (hzz rfl) (by have := hrl.length; simp at this hvl ⊢; omega) ((hrv.take _).oneCell (by
   simp only [atoms, List.all_eq_true] at ha ⊢
   exact fun y hy => ha y (List.mem_of_mem_take hy)))
  exact ⟨_, hcopy _ (by rw [ha2]; exact hst), Chg.put hid hr hown p3 p1 p2⟩
theorem lt_copy_sl {o : Oper} {R : Env} {x y : Operand} {t xT el sz n m id id2 k o2 c : Nat} {full full2 : Bool} {b b2 : SB} (ho : o.op = .call { callee := .builtin .copy, args := #[x, y], argTypes := #[t, xT] })
  (hT : P.underlying t = some (.slice el)) (hs : psz P el = some sz) (hx : evO R x = some (.sl id k n sz full)) (hid : H id = some b) (hown : b.own = true) (hin1 : k + n * sz ≤ b.cells.length)
  (hy : evO R y = some (.sl id2 o2 m sz full2)) (hb : H id2 = some b2) (hin : o2 + m * sz ≤ b2.cells.length) (hc : c = min m n) (h0 : 0 < b.cells.length) :
  LT P o R H [id, id2] [(id, some (b.with (sput b.cells k (.agg (((b2.cells.drop o2).take (m * sz)).take (c * sz))))))] (some (.i (c : Int))) := by
 refine LT.of_run (by simp [ho]) fun e w ρ h1 h2 _ hfresh => ?_
 have hx2 := h1 x (by simp [ho, Op.operands, Call.operands]) _ hx
 have hy2 := h1 y (by simp [ho, Op.operands, Call.operands]) _ hy
 obtain ⟨rb, hr, hbr⟩ := h2 id (by simp) _ hid
 obtain ⟨rb2, hr2, hbr2⟩ := h2 id2 (by simp) b2 hb
 obtain ⟨w', a1, a2⟩ := copy_ok (w := w) (H := H) ho hT hs hx2 hid hr hbr hown hin1 (src_sl hy2 hr2 hbr2 hin) hc h0
 exact ⟨_, w', ρ, a1, a2, .inl ⟨_, rfl, fun u hu => by cases hu; simp only [Rel]⟩⟩
def bytesOf : List SV → Option (List UInt8)
 | [] => some []
 | .u8 x :: xs => (bytesOf xs).map (x :: ·)
 | _ :: _ => none
theorem bytesOf_eq {xs : List SV} {l : List UInt8} (h : bytesOf xs = some l) : xs = l.map .u8 := by
 induction xs generalizing l with
 | nil => simp [bytesOf] at h; subst h; rfl
 | cons x xs ih =>
  cases x <;> simp only [bytesOf] at h <;> (try (cases h; done))
  obtain ⟨l', hl, rfl⟩ := Option.map_eq_some_iff.1 h
  rw [ih hl]; rfl
theorem rels_bytes {l : List UInt8} {vs : List Value} (h : Rels ρ (l.map .u8) vs) : vs = (l.map fun b => (b.toNat : Int)).map (Value.int .u8) := by
 induction l generalizing vs with
 | nil => rw [List.map_nil, Rels.nil_iff] at h; subst h; rfl
 | cons x l ih =>
  simp only [List.map_cons, Rels] at h
  obtain ⟨y, ys, rfl, hy, hys⟩ := h
  simp only [Rel] at hy
  subst hy
  rw [ih hys]; rfl
theorem rels_map_u8 (l : List UInt8) : Rels ρ (l.map .u8) ((l.map fun b => (b.toNat : Int)).map (Value.int .u8)) := by
 induction l with
 | nil => exact Rels.nil_iff.2 rfl
 | cons b l ih => exact Rels.cons (by simp only [Rel]) ih
theorem fold_bytes (l : List UInt8) : ∀ s : ByteArray, (l.map fun b => (b.toNat : Int)).foldl (fun r n => r.push (UInt8.ofNat n.toNat)) s = ⟨s.data ++ ⟨l⟩⟩ := by
 induction l with
 | nil => intro s; apply WideShapes.bytes_inj; simp
 | cons x l ih =>
  intro s
  simp only [List.map_cons, List.foldl_cons]
  rw [ih]
  apply WideShapes.bytes_inj
  simp [ByteArray.push]
theorem run_conv_row {t el : TypeId} {b off n c : Nat} {cs : Array Value} {e : TypeId} {fz : Nat × Nat} (hu : P.underlying t = some (.slice el)) (he : P.underlying el = some (.int .u8)) (w : World) (hb : w.heap[b]? = some (.cells cs e fz)) :
  (convert t t (.slice (some ⟨b, off, none⟩) n c)).run P w = .ok (.slice (some ⟨b, off, none⟩) n c) (w.freeze ⟨b, cs.size, none⟩ 1) := by
 have hsh : w.shape? b = some (e, cs.size) := by simp only [World.shape?]; rw [hb]
 have hmark : (markStringish ⟨b, off, none⟩).run P w = .ok () (w.freeze ⟨b, cs.size, none⟩ 1) := by
  simp only [markStringish, Sem.run_bind, run_shape, hsh, Result.andThen_ok, run_freeze]
 have hbe : (t == t) = true := by simp
 simp only [convert, Sem.run_bind, run_und hu, run_und he, Result.andThen_ok, hbe, hmark, Sem.run_pure]
theorem lt_conv_row {o : Oper} {R : Env} {t el id k n sz e : Nat} {full : Bool} {x : Operand} {l : List SV} (ho : o.op = .convert t t x) (hu : P.underlying t = some (.slice el)) (he : P.underlying el = some (.int .u8))
  (hx : evO R x = some (.sl id k n sz full)) (hb : H id = some (.row e l)) (hn : 0 < n) : LT P o R H [id] [(id, some (.row e l))] (some (.sl id k n sz full)) := by
 refine LT.of_run (by simp [ho]) fun ev w ρ h1 h2 _ _ => ?_
 have h3 := h1 x (by simp [ho, Op.operands]) _ hx
 have h3' := h3
 simp only [Rel] at h3
 obtain ⟨rb, a, c, hr, hv, hnc, hfl, hc⟩ := h3
 obtain ⟨rb', hr', hbr⟩ := h2 id (by simp) _ hb
 rw [hr] at hr'; cases hr'
 rcases hc with hc | ⟨hvirt, rfl, hcap⟩
 ·
  omega
 ·
  rcases hbr with ⟨hv1, _⟩ | ⟨_, cs, fz, hca, hz, hs, ha, hrl, hl⟩
  ·
   rw [hvirt] at hv1; cases hv1
  ·
   obtain ⟨fz', m1, m2, m3⟩ := fr_mark (l := l) hvirt hca hz
   refine ⟨.value (.slice (some ⟨rb.blk, rb.off + k, none⟩) n c), _, ρ, ?_, Chg.put hb hr rfl (fun _ _ h => h) (.inr ⟨hvirt, cs, fz', m1, m2, hs, ha, hrl, hl⟩) m3, .inl ⟨_, rfl, fun v hv2 => by cases hv2; rw [hv] at h3'; exact h3'⟩⟩
   simp only [execOp, ho, hv, Sem.run_bind, run_conv_row hu he w hca, Result.andThen_ok, Sem.run_pure]
theorem lt_b2s {o : Oper} {R : Env} {s d el id k n : Nat} {full : Bool} {x : Operand} {b : SB} {l : List UInt8} (ho : o.op = .convert s d x) (hs : P.underlying s = some (.slice el)) (he : P.underlying el = some (.int .u8)) (hd : P.underlying d = some .string)
  (hx : evO R x = some (.sl id k n 1 full)) (hb : H id = some b) (hin : k + n ≤ b.cells.length) (hl : bytesOf ((b.cells.drop k).take n) = some l) : LT P o R H [id] [] (some (.s l)) := by
 refine LT.pure (by simp [ho]) fun e w ρ h1 h2 => ?_
 have hx2 := h1 x (by simp [ho, Op.operands]) _ hx
 obtain ⟨rb, hr, hbr⟩ := h2 id (by simp) b hb
 have hsrc : Src P ρ w (e x) 1 n ((b.cells.drop k).take (n * 1)) := src_sl hx2 hr hbr (by omega)
 obtain ⟨vs, _, hf, hrel, _, hlen, _⟩ := hsrc
 rw [Nat.mul_one, bytesOf_eq hl] at hrel
 have hvs := rels_bytes hrel
 have hf0 := hf w.drawn
 refine ⟨.string ⟨⟨l⟩⟩, ?_, by simp only [Rel]⟩
 simp only [Rel] at hx2
 obtain ⟨rb', a, c, hr', hv, _⟩ := hx2
 rw [hv] at hf0
 have hconv : (convert s d (.slice a n c)).run P w = .ok (.string ⟨⟨l⟩⟩) w := by
  rw [run_convert_bytes_string w s d el a n c hs he hd]
  cases a with
  | none =>
   simp only [Builtin.firstCells, Sem.run_pure] at hf0
   injection hf0 with h3 h4
   have : vs = [] := by have := congrArg Array.toList h3; simpa using this.symm
   subst this
   cases l with
   | nil => rfl
   | cons x l => simp at hvs
  | some a =>
   simp only [Builtin.firstCells, Nat.mul_one] at hf0
   rw [run_bytesToString w a n c (l.map fun b => (b.toNat : Int)) (by rw [hf0, hvs]), fold_bytes]
   congr 2
   apply WideShapes.bytes_inj
   simp
 simp only [execOp, ho, hv, Sem.run_bind, hconv, Result.andThen_ok, Sem.run_pure]
theorem lt_b2s_nil {o : Oper} {R : Env} {s d el : Nat} {x : Operand} (ho : o.op = .convert s d x) (hs : P.underlying s = some (.slice el)) (he : P.underlying el = some (.int .u8)) (hd : P.underlying d = some .string)
  (hx : evO R x = some .slnil) : LT P o R H [] [] (some (.s [])) := by
 refine LT.pure (by simp [ho]) fun e w ρ h1 h2 => ?_
 have hx2 := h1 x (by simp [ho, Op.operands]) _ hx
 simp only [Rel] at hx2
 refine ⟨.string ⟨⟨[]⟩⟩, ?_, by simp only [Rel]⟩
 simp only [execOp, ho, hx2, Sem.run_bind, run_convert_bytes_string w s d el none 0 0 hs he hd, Result.andThen_ok, Sem.run_pure, Conv.bytesToString]
 rfl
theorem lt_s2b {o : Oper} {R : Env} {s d el nid : Nat} {x : Operand} {l : List UInt8} (ho : o.op = .convert s d x) (hs : P.underlying s = some .string) (he : P.underlying el = some (.int .u8)) (hd : P.underlying d = some (.slice el))
  (hx : evO R x = some (.s l)) : LT P o R H [] [(nid, some (.row el (l.map .u8)))] (some (.sl nid 0 l.length 1 false)) := by
 refine LT.of_run (by simp [ho]) fun e w ρ h1 _ _ hfresh => ?_
 have hx2 := h1 x (by simp [ho, Op.operands]) _ hx
 simp only [Rel] at hx2
 obtain ⟨cap, hcap⟩ : ∃ c, grownCap w l.length 0 el = c := ⟨_, rfl⟩
 have hge : l.length ≤ cap := by rw [← hcap]; exact grownCap_ge w l.length 0 el
 let arr : Array Value := (⟨l⟩ : Array UInt8).map (fun b => Value.int .u8 (b.toNat : Int)) ++ Array.replicate (cap - l.length) (.int .u8 0)
 have hsz : arr.size = cap := by simp only [arr, Array.size_append, Array.size_map, List.size_toArray, Array.size_replicate]; omega
 have hch : (choose (.appendCap l.length 0 el)).run P w = .ok cap w.drew := by
  rw [run_choose, ← hcap]; rfl
 have hfrz : (w.drew.alloc (.cells arr el)).freeze ⟨w.heap.size, arr.size, none⟩ 1 = w.drew.alloc (.cells arr el (arr.size, arr.size + 1)) := by
  have hh : ((w.drew.alloc (.cells arr el)).freeze ⟨w.heap.size, arr.size, none⟩ 1).heap = (w.drew.alloc (.cells arr el (arr.size, arr.size + 1))).heap := by
   simp only [World.freeze, World.alloc, World.drew, Nat.one_ne_zero, if_false]
   apply Array.ext_getElem?
   intro j
   rw [Array.getElem?_modify]
   by_cases hj : w.heap.size = j
   ·
    subst hj; simp
   ·
    rw [if_neg hj, Array.getElem?_push, Array.getElem?_push, if_neg (fun e => hj e.symm), if_neg (fun e => hj e.symm)]
  simp only [World.freeze, World.alloc, World.drew, Nat.one_ne_zero, if_false] at hh ⊢
  rw [hh]
 refine ⟨.value (.slice (some ⟨w.heap.size, 0, none⟩) l.length cap), w.drew.alloc (.cells arr el (arr.size, arr.size + 1)), _, ?_,
  Chg.row (w.drawn + 1) (hfresh nid (some (.row el (l.map .u8))) (by simp) (by simp)) (by simp [atoms, SV.atom]) ?_ (by simp only [List.length_map]; omega) (.inr (Nat.le_refl _)), .inl ⟨_, rfl, ?_⟩⟩
 ·
  have hu : (convert s d (.string ⟨⟨l⟩⟩)).run P w = (Conv.stringToBytes el ⟨⟨l⟩⟩).run P w := by
   simp only [convert, Sem.run_bind, run_und hs, run_und hd, run_und he, Result.andThen_ok]
  simp only [execOp, ho, hx2, Sem.run_bind, hu]
  have hss : (⟨⟨l⟩⟩ : ByteArray).size = l.length := rfl
  have hsh : (w.drew.alloc (.cells arr el)).shape? w.heap.size = some (el, arr.size) := by
   have hh := alloc_heap_new w.drew (.cells arr el)
   simp only [World.shape?]
   rw [show (w.drew.alloc (.cells arr el)).heap[w.heap.size]? = some (.cells arr el) from hh]
  have hmark : ∀ W : World, W.shape? w.heap.size = some (el, arr.size) → (markStringish ⟨w.heap.size, 0, none⟩).run P W = .ok () (W.freeze ⟨w.heap.size, arr.size, none⟩ 1) := fun W hW => by
   simp only [markStringish, Sem.run_bind, run_shape, hW, Result.andThen_ok, run_freeze]
  have hnew : (newRow el arr).run P w.drew = .ok ⟨w.heap.size, 0, none⟩ (w.drew.alloc (.cells arr el)) := rfl
  have e1 : (Conv.stringToBytes el ⟨⟨l⟩⟩).run P w = .ok (.slice (some ⟨w.heap.size, 0, none⟩) l.length cap) ((w.drew.alloc (.cells arr el)).freeze ⟨w.heap.size, arr.size, none⟩ 1) := by
   have e2 : Conv.stringToBytes el ⟨⟨l⟩⟩ = (do
    let cap ← choose (.appendCap l.length 0 el)
    let a ← newRow el ((⟨l⟩ : Array UInt8).map (fun b => Value.int .u8 (b.toNat : Int)) ++ Array.replicate (cap - l.length) (.int .u8 0))
    markStringish a
    pure (.slice (some a) l.length cap)) := rfl
   rw [e2]
   simp only [Sem.run_bind, hch, Result.andThen_ok]
   simp only [arr] at hnew hmark hsh ⊢
   simp only [hnew, Result.andThen_ok, hmark _ hsh, Sem.run_pure]
  rw [e1, hfrz]
  rfl
 ·
  rw [List.length_map]
  have : arr.toList.take l.length = (l.map fun b => (b.toNat : Int)).map (Value.int .u8) := by
   simp only [arr, Array.toList_append, Array.toList_map]
   rw [List.take_left' (by simp)]
   simp
  rw [this]
  exact rels_map_u8 l
 ·
  intro u hu2; cases hu2
  simp only [Rel]
  exact ⟨_, _, cap, setR_same _ _ _, rfl, hge, fun h => (by cases h), .inr ⟨rfl, rfl, by simp only; omega⟩⟩
end
end Go.Sh
namespace Go.Sh
abbrev RL := List (Nat × SV)
abbrev HL := List (Option SB)
def rg (R : RL) : Env := fun t => R.lookup t
def hg (H : HL) : Heap := fun i => (H[i]?).join
def rput (R : RL) : Option Nat → Option SV → RL
 | some d, some v => (d, v) :: R
 | some d, none => R.filter fun p => !(p.1 == d)
 | none, _ => R
def hset (H : HL) (id : Nat) (ob : Option SB) : HL := if id < H.length then H.set id ob else H ++ List.replicate (id - H.length) none ++ [ob]
def hupd (H : HL) : Upd → HL
 | [] => H
 | (id, ob) :: W => hset (hupd H W) id ob
def appL {β : Type} (f : Nat → Option β) (w : List (Nat × Option β)) : Nat → Option β := fun r => match w.lookup r with | some v => v | none => f r
theorem updW_app (H : Heap) (W : Upd) : updW H W = appL H W := by
 funext i; simp only [updW, appL]; cases W.lookup i <;> rfl
theorem lookup_filter (d t : Nat) : ∀ R : RL, (R.filter fun p => !(p.1 == d)).lookup t = if t = d then none else R.lookup t
 | [] => by simp
 | (a, b) :: R => by
  have ih := lookup_filter d t R
  simp only [List.filter_cons]
  by_cases ha : a = d
  ·
   subst ha
   simp only [beq_self_eq_true, Bool.not_true, Bool.false_eq_true, if_false, ih, List.lookup_cons]
   by_cases ht : t = a
   ·
    simp [ht]
   ·
    have : (t == a) = false := by simpa using ht
    simp [this, ht]
  ·
   have hb : (a == d) = false := by simpa using ha
   simp only [hb, Bool.not_false, if_true, List.lookup_cons, ih]
   by_cases ht : t = a
   ·
    subst ht; simp [ha]
   ·
    have : (t == a) = false := by simpa using ht
    simp [this]
theorem rg_rput (R : RL) (d : Nat) (out : Option SV) : rg (rput R (some d) out) = appL (rg R) [(d, out)] := by
 funext t
 cases out with
 | some v =>
  simp only [rg, rput, List.lookup_cons, appL]
  by_cases h : t = d
  ·
   subst h; simp
  ·
   have : (t == d) = false := by simpa using h
   simp [this]
 | none =>
  simp only [rg, rput, appL, List.lookup_cons, lookup_filter]
  by_cases h : t = d
  ·
   subst h; simp
  ·
   have hd : (t == d) = false := by simpa using h
   simp [hd, h]
theorem hg_hset (H : HL) (id : Nat) (ob : Option SB) : hg (hset H id ob) = fun i => if i = id then ob else hg H i := by
 funext i
 unfold hset hg
 split
 ·
  rename_i h
  rw [List.getElem?_set]
  by_cases e : id = i
  ·
   subst e; simp [h]
  ·
   rw [if_neg e, if_neg (fun x => e x.symm)]
 ·
  rename_i h
  by_cases e : i = id
  ·
   subst e
   rw [if_pos rfl, List.getElem?_append_right (by simp; omega)]
   simp
   have : i - (H.length + (i - H.length)) = 0 := by omega
   rw [this]; rfl
  ·
   rw [if_neg e]
   by_cases h2 : i < H.length
   ·
    rw [List.append_assoc, List.getElem?_append_left h2]
   ·
    have hn : H[i]? = none := List.getElem?_eq_none (by omega)
    rw [hn]
    by_cases h3 : i < id
    ·
     rw [List.getElem?_append_left (by simp; omega), List.getElem?_append_right (by omega), List.getElem?_replicate, if_pos (by omega)]; rfl
    ·
     rw [List.getElem?_eq_none (by simp; omega)]
theorem hg_hupd (H : HL) : ∀ W : Upd, hg (hupd H W) = updW (hg H) W
 | [] => by funext i; simp [hupd, updW]
 | (id, ob) :: W => by
  rw [hupd, hg_hset, hg_hupd H W]
  funext i
  simp only [updW, List.lookup_cons]
  by_cases e : i = id
  ·
   subst e; simp
  ·
   have : (i == id) = false := by simpa using e
   rw [if_neg e]; simp [this]
section fold
variable {β : Type}
def foldS (S : Nat → Bool) : Nat → List (List (Nat × Option β)) → (Nat → Option β) → (Nat → Option β)
 | _, [], f => f
 | k, w :: ws, f => foldS S (k + 1) ws (if S k then appL f w else f)
theorem foldS_congr {S S' : Nat → Bool} (r : Nat) : ∀ (ws : List (List (Nat × Option β))) (k : Nat) (f f' : Nat → Option β), f r = f' r →
  (∀ j w, ws[j]? = some w → (∃ x, w.lookup r = some x) → S (k + j) = S' (k + j)) → foldS S k ws f r = foldS S' k ws f' r
 | [], k, f, f', h, _ => h
 | w :: ws, k, f, f', h, hw => by
  simp only [foldS]
  refine foldS_congr r ws (k + 1) _ _ ?_ (fun j u hu hx => by have := hw (j + 1) u (by simpa using hu) hx; rw [show k + 1 + j = k + (j + 1) from by omega]; exact this)
  cases hl : w.lookup r with
  | none =>
   have e1 : appL f w r = f r := by simp [appL, hl]
   have e2 : appL f' w r = f' r := by simp [appL, hl]
   split <;> split <;> simp_all
  | some x =>
   have := hw 0 w (by simp) ⟨x, hl⟩
   simp only [Nat.add_zero] at this
   rw [this]
   split
   ·
    simp [appL, hl]
   ·
    exact h
theorem foldS_prefix (ws : List (List (Nat × Option β))) : ∀ (k i : Nat) (f : Nat → Option β), foldS (fun j => decide (j < k + i)) k ws f = (ws.take i).foldl appL f := by
 induction ws with
 | nil => intro k i f; simp [foldS]
 | cons w ws ih =>
  intro k i f
  cases i with
  | zero =>
   simp only [foldS, Nat.add_zero, Nat.lt_irrefl, decide_false, Bool.false_eq_true, if_false, List.take_zero, List.foldl_nil]
   have e : (fun j => decide (j < k)) = (fun j => decide (j < k)) := rfl
   have key : ∀ (ws : List (List (Nat × Option β))) (m : Nat) (f : Nat → Option β), k ≤ m → foldS (fun j => decide (j < k)) m ws f = f := by
    intro ws
    induction ws with
    | nil => intro m f _; rfl
    | cons w ws ih2 =>
     intro m f hm
     simp only [foldS]
     rw [if_neg (by simp; omega), ih2 _ _ (by omega)]
   exact key ws (k + 1) f (by omega)
  | succ i =>
   simp only [foldS, List.take_succ_cons, List.foldl_cons]
   rw [if_pos (by simp), ← ih (k + 1) i]
   rw [show k + 1 + i = k + (i + 1) from by omega]
end fold
theorem before_spec (ops : Array Oper) : ∀ j i, ((Region.before ops).getD j 0).testBit i = true → ∀ S : Nat → Bool,
  (∀ k o, ops[k]? = some o → S k = true → ∀ e ∈ o.after, Region.binds .any e = true → S e.on = true) → S j = true → S i = true := by
 have inner : ∀ (acc : Array Nat) (S : Nat → Bool), (∀ j i, (acc.getD j 0).testBit i = true → S j = true → S i = true) → ∀ (es : List Edge) (s : Nat),
   (∀ i, s.testBit i = true → S i = true) → (∀ e ∈ es, Region.binds .any e = true → S e.on = true) →
   ∀ i, (es.foldl (fun s e => if Region.binds .any e then s ||| 2 ^ e.on ||| acc.getD e.on 0 else s) s).testBit i = true → S i = true := by
  intro acc S hacc es
  induction es with
  | nil => intro s hs _ i hi; exact hs i hi
  | cons e es ih =>
   intro s hs he i hi
   simp only [List.foldl_cons] at hi
   refine ih _ ?_ (fun e' he' => he e' (by simp [he'])) i hi
   intro i hi
   split at hi
   ·
    rename_i hb
    have hon := he e (by simp) hb
    rw [Nat.testBit_or, Nat.testBit_or, Bool.or_eq_true, Bool.or_eq_true] at hi
    rcases hi with (hi | hi) | hi
    ·
     exact hs i hi
    ·
     rw [Nat.testBit_two_pow] at hi; simp at hi; subst hi; exact hon
    ·
     exact hacc _ _ hi hon
   ·
    exact hs i hi
 have outer : ∀ (l : List Oper) (acc : Array Nat) (S : Nat → Bool), (∀ j i, (acc.getD j 0).testBit i = true → S j = true → S i = true) →
   (∀ k o, l[k]? = some o → S (acc.size + k) = true → ∀ e ∈ o.after, Region.binds .any e = true → S e.on = true) →
   ∀ j i, ((l.foldl (fun acc o => acc.push (o.after.foldl (fun s e => if Region.binds .any e then s ||| 2 ^ e.on ||| acc.getD e.on 0 else s) 0)) acc).getD j 0).testBit i = true → S j = true → S i = true := by
  intro l
  induction l with
  | nil => intro acc S h1 _ j i hi hj; exact h1 j i hi hj
  | cons o l ih =>
   intro acc S h1 h2 j i hi hj
   simp only [List.foldl_cons] at hi
   refine ih _ S ?_ (fun k o' ho' => by
    intro hk
    refine h2 (k + 1) o' (by simpa using ho') ?_
    rw [Array.size_push] at hk
    rw [show acc.size + (k + 1) = acc.size + 1 + k from by omega]; exact hk) j i hi hj
   intro j i hi hj
   by_cases hs : j < acc.size
   ·
    rw [Array.getD_eq_getD_getElem?, Array.getElem?_push_lt hs, ← Array.getElem?_eq_getElem hs, ← Array.getD_eq_getD_getElem?] at hi
    exact h1 j i hi hj
   ·
    by_cases he : j = acc.size
    ·
     subst he
     rw [Array.getD_eq_getD_getElem?, Array.getElem?_push_size, Option.getD_some, ← Array.foldl_toList] at hi
     exact inner acc S h1 o.after.toList 0 (by simp) (fun e hem hb => h2 0 o (by simp) (by simpa using hj) e (by simpa using hem) hb) i hi
    ·
     rw [Array.getD_eq_getD_getElem?, Array.getElem?_eq_none (by simp; omega)] at hi
     simp at hi
 intro j i hi S hS hj
 refine outer ops.toList #[] S (by simp) (fun k o ho hk => hS k o (by simpa using ho) (by simpa using hk)) j i ?_ hj
 rw [Region.before, ← Array.foldl_toList] at hi
 exact hi
structure Lg where
 dst : Option Nat
 rd : List Nat
 F : List Nat
 Wi : List Nat
 deriving DecidableEq
def clash (e f : Lg) : Bool :=
 (match e.dst with | some d => f.rd.contains d || f.dst == some d | none => false) || (match f.dst with | some d => e.rd.contains d | none => false) ||
 e.Wi.any (fun i => f.F.contains i || f.Wi.contains i) || f.Wi.any (fun i => e.F.contains i)
def chk (ops : Array Oper) (lg : List Lg) : Bool :=
 let b := Region.before ops
 (List.range lg.length).all fun j => (List.range j).all fun i =>
  match lg[i]?, lg[j]? with
  | some e, some f => !clash e f || (b.getD j 0).testBit i
  | _, _ => false
def gslot (ops : Array Oper) (o : Oper) : List Nat :=
 match o.guard with
 | none => []
 | some (j, _) => ((ops[j]?).bind (·.dst)).toList
def gpass (ops : Array Oper) (o : Oper) (R : Env) : Option Bool :=
 match o.guard with
 | none => some true
 | some (j, want) => match ((ops[j]?).bind (·.dst)).bind R with
  | some (.b t) => some (t == want)
  | some (.tup []) => some false
  | _ => none
structure En where
 lg : Lg
 out : Option SV
 W : Upd
def wr (e : En) : List (Nat × Option SV) := match e.lg.dst with | some d => [(d, e.out)] | none => []
def Good (P : Program) (ops : Array Oper) (o : Oper) (R : Env) (H : Heap) (e : En) : Prop :=
  e.lg.dst = o.dst ∧ e.lg.Wi = e.W.map (·.1) ∧
    ((gpass ops o R = some true ∧ e.lg.rd = gslot ops o ++ readsOf o ∧ LT P o R H e.lg.F e.W e.out) ∨
     (gpass ops o R = some false ∧ e.lg.rd = gslot ops o ∧ e.lg.F = [] ∧ e.W = [] ∧ e.out = some (.tup [])))
def RunT (P : Program) (ops : Array Oper) : List Oper → Env → Heap → Nat → List En → Env → Heap → Nat → Prop
 | [], R, H, L, es, R', H', Lf => es = [] ∧ R = R' ∧ H = H' ∧ L = Lf
 | o :: os, R, H, L, es, R', H', Lf => ∃ e es' L', es = e :: es' ∧ Good P ops o R H e ∧ L ≤ L' ∧ (∀ id ob, (id, ob) ∈ e.W → id < L' ∧ (id ∉ e.lg.F → L ≤ id)) ∧
   RunT P ops os (appL R (wr e)) (appL H e.W) L' es' R' H' Lf
theorem RunT.at {P : Program} {ops : Array Oper} : ∀ {os : List Oper} {R : Env} {H : Heap} {L : Nat} {es : List En} {R' : Env} {H' : Heap} {Lf : Nat}, RunT P ops os R H L es R' H' Lf →
  es.length = os.length ∧ R' = (es.map wr).foldl appL R ∧ H' = (es.map (·.W)).foldl appL H ∧ L ≤ Lf ∧ (∀ e ∈ es, ∀ id ob, (id, ob) ∈ e.W → id < Lf) ∧
  ∀ i o, os[i]? = some o → ∃ e Li, es[i]? = some e ∧ L ≤ Li ∧ Good P ops o (((es.take i).map wr).foldl appL R) (((es.take i).map (·.W)).foldl appL H) e ∧
   (∀ id ob, (id, ob) ∈ e.W → id ∉ e.lg.F → Li ≤ id) ∧ (∀ j f, j < i → es[j]? = some f → ∀ id ob, (id, ob) ∈ f.W → id < Li)
 | [], R, H, L, es, R', H', Lf, h => by
  obtain ⟨rfl, rfl, rfl, rfl⟩ := h
  exact ⟨rfl, rfl, rfl, Nat.le_refl _, by simp, fun i o ho => by simp at ho⟩
 | o :: os, R, H, L, es, R', H', Lf, h => by
  obtain ⟨e, es', L', rfl, hg, hL, hW, hr⟩ := h
  obtain ⟨h1, h2, h3, h5, h6, h4⟩ := RunT.at hr
  refine ⟨by simp [h1], by simpa using h2, by simpa using h3, by omega, fun x hx id ob hm => ?_, fun i o' ho => ?_⟩
  ·
   rcases List.mem_cons.1 hx with rfl | hx
   ·
    have := (hW id ob hm).1; omega
   ·
    exact h6 x hx id ob hm
  cases i with
  | zero =>
   simp at ho; subst ho
   exact ⟨e, L, rfl, Nat.le_refl _, by simpa using hg, fun id ob hm hF => (hW id ob hm).2 hF, fun j f hj => by omega⟩
  | succ i =>
   obtain ⟨e', Li, a1, a2, a3, a4, a5⟩ := h4 i o' (by simpa using ho)
   refine ⟨e', Li, by simpa using a1, by omega, by simpa using a3, a4, fun j f hj hf id ob hm => ?_⟩
   cases j with
   | zero => simp at hf; subst hf; have := (hW id ob hm).1; omega
   | succ j => exact a5 j f (by omega) (by simpa using hf) id ob hm
end Go.Sh
namespace Go.Sh
def DfrOk (B : Nat) (ds : List Deferred) (w : World) : Prop :=
 (ds.map (·.target)).Pairwise (fun a b => ∀ r, a = .collected r → b ≠ .collected r) ∧ (∀ d ∈ ds, (∃ r, d = { target := .collected r, args := #[] } ∧ B ≤ r ∧ w.heap[r]? = some (.deferred (some [])))) ∧ B ≤ w.heap.size
structure Sim (N B L : Nat) (ρ : Ren) (R : Env) (H : Heap) (a : Act) (w : World) : Prop where
 size : a.tmps.size = N
 regs : ∀ t v, R t = some v → Rel ρ v (a.tmps.getD t undef)
 heap : HRel ρ H w
 sep : Sep ρ H
 fresh : ∀ id, L ≤ id → ρ id = none
 dfr : DfrOk B a.defers w
structure Ev (ρ : Ren) (H : Heap) (w : World) (ρ' : Ren) (H' : Heap) (w' : World) : Prop where
 ext : Ext ρ ρ'
 fr : Fr (Owned ρ H) w w'
 own : ∀ k o, Owned ρ' H' k o → Owned ρ H k o ∨ w.heap.size ≤ k
theorem Ev.refl (ρ : Ren) (H : Heap) (w : World) : Ev ρ H w ρ H w := ⟨Ext.refl _, Fr.refl _ _, fun _ _ h => .inl h⟩
theorem Ev.trans {ρ1 ρ2 ρ3 : Ren} {H1 H2 H3 : Heap} {w1 w2 w3 : World} (h : Ev ρ1 H1 w1 ρ2 H2 w2) (k : Ev ρ2 H2 w2 ρ3 H3 w3) : Ev ρ1 H1 w1 ρ3 H3 w3 :=
  ⟨h.ext.trans k.ext, h.fr.trans k.fr (fun x o hx ho => (h.own x o ho).resolve_right (by omega)),
   fun x o ho => (k.own x o ho).elim (fun h2 => h.own x o h2) (fun h2 => .inr (Nat.le_trans h.fr.size h2))⟩
theorem Evo.ev {ρ ρ' : Ren} {H H' : Heap} {w w' : World} (h : Evo ρ H w ρ' H' w') : Ev ρ H w ρ' H' w' := ⟨h.ext, h.fr, h.own⟩
theorem DfrOk.fr {B : Nat} {ds : List Deferred} {w w' : World} {S : Nat → Nat → Prop} (h : DfrOk B ds w) (hf : Fr S w w') : DfrOk B ds w' :=
 ⟨h.1, fun d hd => by
  obtain ⟨r, e, hb, hr⟩ := h.2.1 d hd
  exact ⟨r, e, hb, (hf.blk _ _ hr).fixed rfl (fun _ _ _ h => by cases h)⟩, Nat.le_trans h.2.2 hf.size⟩
section
variable {P : Program} {ops : Array Oper} {N B : Nat}
theorem good_step {o : Oper} {i : Nat} {R Ri : Env} {H Hi : Heap} {e : En} {L L' n : Nat} {r : Option Nat} {ρ : Ren} {a : Act} {w : World} {K : Act → World → Prop} {Q : Exit → Act → World → Prop}
  (hi : ops[i]? = some o) (hg : Good P ops o Ri Hi e) (hN : ∀ d, o.dst = some d → d < N)
  (hR : ∀ t, t ∈ e.lg.rd → R t = Ri t) (hH : ∀ id, (id ∈ e.lg.F ∨ id ∈ e.lg.Wi) → H id = Hi id) (hs : Sim N B L ρ R H a w)
  (hfresh : ∀ id ob, (id, ob) ∈ e.W → id ∉ e.lg.F → ρ id = none) (hL : L ≤ L') (hW : ∀ id ob, (id, ob) ∈ e.W → id < L')
  (hk : ∀ a' w' ρ', Sim N B L' ρ' (appL R (wr e)) (appL H e.W) a' w' → Ev ρ H w ρ' (appL H e.W) w' → (∀ id rb, ρ' id = some rb → ρ id = some rb ∨ ∃ ob, (id, ob) ∈ e.W) → K a' w') :
  wpOpIn (Fw r) n P ops Q i K a w := by
 obtain ⟨hd, hWi, hcase⟩ := hg
 have put : ∀ (rv : Value) (w' : World) (ρ' : Ren), Chg ρ Hi w e.W ρ' w' → (∀ v, e.out = some v → Rel ρ' v rv) → K (a.put o.dst rv) w' := by
  intro rv w' ρ' hc hv
  have hev := hc.evo (H := H) (fun id ob hm => (hH id (.inr (by rw [hWi]; exact List.mem_map.2 ⟨_, hm, rfl⟩))).symm) hs.heap hs.sep
  rw [updW_app] at hev
  refine hk _ _ ρ' ⟨?_, ?_, hev.heap, hev.sep, ?_, ?_⟩ hev.ev hc.dom
  ·
   cases hdst : o.dst <;> simp [Act.put, hdst, hs.size]
  ·
   intro t v ht
   cases hdst : o.dst with
   | none =>
    rw [hdst] at hd
    simp only [wr, hd, appL, List.lookup_nil] at ht
    simp only [Act.put]
    exact (hs.regs t v ht).ext hev.ext
   | some d =>
    rw [hdst] at hd
    have hdN : d < a.tmps.size := by rw [hs.size]; exact hN d hdst
    simp only [wr, hd, appL, List.lookup_cons, List.lookup_nil] at ht
    simp only [Act.put]
    by_cases htd : t = d
    ·
     subst htd
     simp at ht
     rw [Array.getD_eq_getD_getElem?, Array.getElem?_setIfInBounds_self_of_lt hdN]
     exact hv v ht
    ·
     have : (t == d) = false := by simpa using htd
     simp only [this] at ht
     rw [Array.getD_eq_getD_getElem?, Array.getElem?_setIfInBounds_ne (fun e => htd e.symm), ← Array.getD_eq_getD_getElem?]
     exact (hs.regs t v ht).ext hev.ext
  ·
   intro id hid
   cases hr : ρ' id with
   | none => rfl
   | some rb =>
    rcases hc.dom id rb hr with h | ⟨ob, hm⟩
    ·
     rw [hs.fresh id (by omega)] at h; cases h
    ·
     have := hW id ob hm; omega
  ·
   have : (a.put o.dst rv).defers = a.defers := by cases hdst : o.dst <;> simp [Act.put]
   rw [this]
   exact hs.dfr.fr hev.fr
 have hguard : ∀ t, gpass ops o Ri = some t → e.lg.rd = (gslot ops o ++ e.lg.rd.drop (gslot ops o).length) → Region.wanted o (yielded ops a.tmps) = t := by
  intro t ht hrd
  unfold gpass at ht
  unfold Region.wanted
  unfold gslot at hrd
  split at ht
  ·
   rename_i hgd; simp only [hgd]; cases ht; rfl
  ·
   rename_i j want hgd
   simp only [hgd] at hrd ⊢
   cases hsl : (ops[j]?).bind (·.dst) with
   | none => rw [hsl] at ht; cases ht
   | some s =>
    rw [hsl] at ht hrd
    have hmem : s ∈ e.lg.rd := by rw [hrd]; simp
    simp only [Option.bind_some] at ht
    cases hRs : Ri s with
    | none => rw [hRs] at ht; cases ht
    | some v =>
     rw [hRs] at ht
     cases v with
     | b b =>
      have hrel := hs.regs s _ ((hR s hmem).trans hRs)
      simp only [Rel] at hrel
      have hyi : yielded ops a.tmps j = some b := by
       unfold yielded
       rw [hsl, Option.bind_some]
       have hsz : s < a.tmps.size := by
        refine Nat.lt_of_not_le fun hlt => ?_
        rw [Array.getD_eq_getD_getElem?, Array.getElem?_eq_none hlt] at hrel
        cases hrel
       have : a.tmps[s]? = some (.bool b) := by
        rw [Array.getD_eq_getD_getElem?, Array.getElem?_eq_getElem hsz] at hrel
        rw [Array.getElem?_eq_getElem hsz]; exact congrArg some hrel
       rw [this]
      rw [hyi]
      cases ht
      cases b <;> cases want <;> rfl
     | tup l =>
      cases l with
      | cons _ _ => cases ht
      | nil =>
       cases ht
       have hrel := hs.regs s _ ((hR s hmem).trans hRs)
       simp only [Rel, Rels] at hrel
       obtain ⟨cs, e, rfl⟩ := hrel
       have hyi : yielded ops a.tmps j = none := by
        unfold yielded
        rw [hsl, Option.bind_some]
        cases hg : a.tmps[s]? with
        | none => rfl
        | some x => rw [Array.getD_eq_getD_getElem?, hg] at e; simp only [Option.getD_some] at e; subst e; rfl
       rw [hyi]
       cases want <;> rfl
     | _ => cases ht
 unfold wpOpIn
 simp only [hi]
 rcases hcase with ⟨hp, hrd, hlt⟩ | ⟨hp, hrd, hF, hW0, hout⟩
 ·
  have hw := hguard true hp (by rw [hrd]; simp)
  simp only [hw, if_true]
  refine hlt r n a w ρ K Q (fun t ht v hv => hs.regs t v ((hR t (by rw [hrd]; simp [ht])).trans hv)) (fun id hid b hb => ?_) (fun i hi j hj bi bj ri rj hne hbi hbj => ?_) hfresh put
  ·
   exact hs.heap id b ((hH id (.inl hid)).trans hb)
  ·
   exact hs.sep i j bi bj ri rj hne ((hH i (.inl hi)).trans hbi) ((hH j (.inl hj)).trans hbj)
 ·
  have hw := hguard false hp (by rw [hrd]; simp)
  simp only [hw, Bool.false_eq_true, if_false]
  refine ⟨fun _ _ => trivial, put undef w ρ ?_ (fun v hv => by rw [hout] at hv; cases hv; exact ⟨[], rfl, by simp only [Rels]⟩)⟩
  rw [hW0]; exact Chg.zero _ _ _
theorem region_text {r : Option Nat} {n : Nat} {Q : Exit → Act → World → Prop} {R' : Env} {H' : Heap} {Lf : Nat} (hN : ∀ (i : Nat) (o : Oper) (d : Nat), ops[i]? = some o → o.dst = some d → d < N) :
  ∀ (os : List Oper) (k : Nat) (R : Env) (H : Heap) (L : Nat) (es : List En) (ρ : Ren) (a : Act) (w : World), (∀ j, os[j]? = ops[k + j]?) → RunT P ops os R H L es R' H' Lf → Sim N B L ρ R H a w →
   (∀ a' w' ρ', Sim N B Lf ρ' R' H' a' w' → Ev ρ H w ρ' H' w' → Q .normal a' w') → wpOpsIn (Fw r) n P ops Q (List.range' k os.length) a w
 | [], k, R, H, L, es, ρ, a, w, _, hr, hs, hk => by
  obtain ⟨rfl, rfl, rfl, rfl⟩ := hr
  exact hk a w ρ hs (Ev.refl _ _ _)
 | o :: os, k, R, H, L, es, ρ, a, w, hos, hr, hs, hk => by
  obtain ⟨e, es', L', rfl, hg, hL, hW, hr'⟩ := hr
  have h0 : ops[k]? = some o := by have := hos 0; simpa using this.symm
  rw [List.length_cons, List.range'_succ, wpOpsIn_cons]
  refine good_step (L' := L') h0 hg (fun d hd => hN k o d h0 hd) (fun _ _ => rfl) (fun _ _ => rfl) hs (fun id ob hm hF => hs.fresh id ((hW id ob hm).2 hF)) hL (fun id ob hm => (hW id ob hm).1) ?_
  intro a' w' ρ' hs' hev _
  refine region_text hN os (k + 1) _ _ L' es' ρ' a' w' (fun j => by have := hos (j + 1); simp only [List.getElem?_cons_succ] at this; rw [this]; congr 1; omega) hr' hs' ?_
  intro a2 w2 ρ2 hs2 hev2
  exact hk a2 w2 ρ2 hs2 (hev.trans hev2)
def edgesDown (ops : Array Oper) : Bool := (List.range ops.size).all fun i => match ops[i]? with | some o => o.after.all fun e => !Region.binds .any e || decide (e.on < i) | none => true
theorem lookup_wr {e : En} {t : Nat} (h : ∃ x, (wr e).lookup t = some x) : e.lg.dst = some t := by
 unfold wr at h
 cases hd : e.lg.dst with
 | none => rw [hd] at h; simp at h
 | some d =>
  rw [hd] at h
  obtain ⟨x, hx⟩ := h
  simp only [List.lookup_cons, List.lookup_nil] at hx
  split at hx
  ·
   rename_i e1; simp at e1; rw [e1]
  ·
   cases hx
theorem lookup_W {e : En} (hWi : e.lg.Wi = e.W.map (·.1)) {id : Nat} (h : ∃ x, e.W.lookup id = some x) : id ∈ e.lg.Wi := by
 obtain ⟨x, hx⟩ := h
 rw [hWi]
 exact List.mem_map.2 ⟨_, mem_of_lookup hx, rfl⟩
theorem region_any {r : Option Nat} {n : Nat} {Q : Exit → Act → World → Prop} {R R' : Env} {H H' : Heap} {L L' : Nat} {es : List En} {ρ : Ren} {a : Act} {w : World} {id0 : Nat} (hm : P.follows .mixedOrders = true)
  (hN : ∀ (i : Nat) (o : Oper) (d : Nat), ops[i]? = some o → o.dst = some d → d < N) (hr : RunT P ops ops.toList R H L es R' H' L') (hchk : chk ops (es.map (·.lg)) = true) (hdown : edgesDown ops = true) (hs : Sim N B L ρ R H a w)
  (hk : ∀ a' w' ρ', Sim N B L' ρ' R' H' a' w' → Ev ρ H w ρ' H' w' → Q .normal a' w') : (Code.region id0 ops true).wpIn (Fw r) n P Q a w := by
 obtain ⟨hlen, hR', hH', hLL, hLW, hat⟩ := hr.at
 have hlen' : es.length = ops.size := by rw [hlen]; simp
 let RS := fun S : Nat → Bool => foldS S 0 (es.map wr) R
 let HS := fun S : Nat → Bool => foldS S 0 (es.map (·.W)) H
 let DC := fun S : Nat → Bool => ∀ k o, ops[k]? = some o → S k = true → ∀ e ∈ o.after, Region.binds .any e = true → S e.on = true
 have hpair : ∀ i j e f, i < j → es[i]? = some e → es[j]? = some f → clash e.lg f.lg = true → ((Region.before ops).getD j 0).testBit i = true := by
  intro i j e f hij he hf hc
  unfold chk at hchk
  simp only [List.all_eq_true, List.mem_range, List.length_map] at hchk
  have hj : j < es.length := (List.getElem?_eq_some_iff.1 hf).1
  have h1 := hchk j hj i hij
  rw [List.getElem?_map, List.getElem?_map, he, hf] at h1
  simp only [Option.map_some] at h1
  rw [hc] at h1
  simpa using h1
 have agreeR : ∀ (S : Nat → Bool) i o e, DC S → S i = false → ops[i]? = some o → (∀ ed ∈ o.after, Region.binds .any ed = true → S ed.on = true) → es[i]? = some e →
   ∀ t, (t ∈ e.lg.rd ∨ e.lg.dst = some t) → ∀ j f, es[j]? = some f → f.lg.dst = some t → S j = decide (j < i) := by
  intro S i o e hS hi ho hpre he t ht j f hf hfd
  by_cases hji : j < i
  ·
   rw [decide_eq_true hji]
   have hc : clash f.lg e.lg = true := by
    unfold clash
    rw [hfd]
    rcases ht with ht | ht
    ·
     simp [ht]
    ·
     simp [ht]
   have hb := hpair j i f e hji hf he hc
   have h2 := before_spec ops i j hb (fun k => S k || k == i) (fun k o' hk hSk ed hed hbd => by
    simp only [Bool.or_eq_true, beq_iff_eq] at hSk ⊢
    rcases hSk with hSk | hSk
    ·
     exact .inl (hS k o' hk hSk ed hed hbd)
    ·
     subst hSk; rw [ho] at hk; cases hk; exact .inl (hpre ed hed hbd)) (by simp)
   simp only [Bool.or_eq_true, beq_iff_eq] at h2
   exact h2.resolve_right (by omega)
  ·
   rw [decide_eq_false hji]
   by_cases hj : j = i
   ·
    subst hj; exact hi
   ·
    have hij : i < j := by omega
    have hc : clash e.lg f.lg = true := by
     unfold clash
     rw [hfd]
     rcases ht with ht | ht
     ·
      simp [ht]
     ·
      simp [ht]
    have hb := hpair i j e f hij he hf hc
    cases hSj : S j with
    | false => rfl
    | true => have := before_spec ops j i hb S hS hSj; rw [hi] at this; cases this
 have agreeH : ∀ (S : Nat → Bool) i o e, DC S → S i = false → ops[i]? = some o → (∀ ed ∈ o.after, Region.binds .any ed = true → S ed.on = true) → es[i]? = some e →
   ∀ t, (t ∈ e.lg.F ∨ t ∈ e.lg.Wi) → ∀ j f, es[j]? = some f → t ∈ f.lg.Wi → S j = decide (j < i) := by
  intro S i o e hS hi ho hpre he t ht j f hf hfd
  by_cases hji : j < i
  ·
   rw [decide_eq_true hji]
   have hc : clash f.lg e.lg = true := by
    unfold clash
    rw [Bool.or_eq_true]; left; rw [Bool.or_eq_true]; right
    rw [List.any_eq_true]
    exact ⟨t, hfd, by rcases ht with ht | ht <;> simp [ht]⟩
   have hb := hpair j i f e hji hf he hc
   have h2 := before_spec ops i j hb (fun k => S k || k == i) (fun k o' hk hSk ed hed hbd => by
    simp only [Bool.or_eq_true, beq_iff_eq] at hSk ⊢
    rcases hSk with hSk | hSk
    ·
     exact .inl (hS k o' hk hSk ed hed hbd)
    ·
     subst hSk; rw [ho] at hk; cases hk; exact .inl (hpre ed hed hbd)) (by simp)
   simp only [Bool.or_eq_true, beq_iff_eq] at h2
   exact h2.resolve_right (by omega)
  ·
   rw [decide_eq_false hji]
   by_cases hj : j = i
   ·
    subst hj; exact hi
   ·
    have hij : i < j := by omega
    have hc : clash e.lg f.lg = true := by
     unfold clash
     rcases ht with ht | ht
     ·
      rw [Bool.or_eq_true]; right
      rw [List.any_eq_true]
      exact ⟨t, hfd, by simp [ht]⟩
     ·
      rw [Bool.or_eq_true]; left; rw [Bool.or_eq_true]; right
      rw [List.any_eq_true]
      exact ⟨t, ht, by simp [hfd]⟩
    have hb := hpair i j e f hij he hf hc
    cases hSj : S j with
    | false => rfl
    | true => have := before_spec ops j i hb S hS hSj; rw [hi] at this; cases this
 have hgoodWi : ∀ (j : Nat) (f : En), es[j]? = some f → f.lg.Wi = f.W.map (·.1) := by
  intro j f hf
  have hj : j < es.length := (List.getElem?_eq_some_iff.1 hf).1
  obtain ⟨o, ho⟩ : ∃ o, ops.toList[j]? = some o := ⟨_, List.getElem?_eq_getElem (by rw [← hlen]; exact hj)⟩
  obtain ⟨e, Li, h1, _, h3, _⟩ := hat j o ho
  rw [hf] at h1; cases h1
  exact h3.2.1
 have pre : ∀ i, (es.map wr).take i = (es.take i).map wr := fun i => by rw [List.map_take]
 have preH : ∀ i, (es.map (·.W)).take i = (es.take i).map (·.W) := fun i => by rw [List.map_take]
 have main : ∀ (fuel : Nat) (listed : Array Bool) (ρ1 : Ren) (a1 : Act) (w1 : World), listed.size = ops.size → ((List.range ops.size).filter fun i => !listed.getD i true).length ≤ fuel → DC (fun i => listed.getD i false) →
   Sim N B L' ρ1 (RS fun i => listed.getD i false) (HS fun i => listed.getD i false) a1 w1 → Ev ρ H w ρ1 (HS fun i => listed.getD i false) w1 →
   (∀ id rb, ρ1 id = some rb → ρ id = some rb ∨ ∃ j f ob, listed.getD j false = true ∧ es[j]? = some f ∧ (id, ob) ∈ f.W) →
   wpAnyIn (Fw r) n P .any ops Q fuel listed a1 w1 := by
  intro fuel
  have hready : ∀ listed : Array Bool, listed.size = ops.size → Region.ready .any ops listed = [] → ∀ i, i < ops.size → listed.getD i false = true := by
   intro listed hsz hnil i
   induction i using Nat.strongRecOn with
   | _ i ih =>
    intro hi
    cases hl : listed.getD i false with
    | true => rfl
    | false =>
     exfalso
     have hmem : i ∈ Region.ready .any ops listed := by
      rw [mem_ready]
      refine ⟨?_, ops[i], Array.getElem?_eq_getElem hi, ?_⟩
      ·
       rw [Array.getD_eq_getD_getElem?, Array.getElem?_eq_getElem (by omega)] at hl ⊢
       simpa using hl
      ·
       intro e he
       unfold edgesDown at hdown
       simp only [List.all_eq_true, List.mem_range] at hdown
       have h1 := hdown i hi
       rw [Array.getElem?_eq_getElem hi] at h1
       simp only at h1
       rw [Array.all_eq_true_iff_forall_mem] at h1
       have h2 := h1 e he
       cases hb : Region.binds .any e with
       | false => simp
       | true =>
        rw [hb] at h2
        simp at h2
        simp [ih e.on h2 (by omega)]
     rw [hnil] at hmem; cases hmem
  have hfin : ∀ (listed : Array Bool) (ρ1 : Ren) (a1 : Act) (w1 : World), (∀ i, i < ops.size → listed.getD i false = true) → Sim N B L' ρ1 (RS fun i => listed.getD i false) (HS fun i => listed.getD i false) a1 w1 →
    Ev ρ H w ρ1 (HS fun i => listed.getD i false) w1 → Q .normal a1 w1 := by
   intro listed ρ1 a1 w1 hall hs1 hev1
   have e1 : (RS fun i => listed.getD i false) = R' := by
    rw [hR']
    funext t
    have : (es.map wr).foldl appL R = foldS (fun j => decide (j < 0 + (es.map wr).length)) 0 (es.map wr) R := by rw [foldS_prefix, List.take_length]
    rw [this]
    refine foldS_congr t _ 0 R R rfl (fun j u hu _ => ?_)
    have hj : j < (es.map wr).length := (List.getElem?_eq_some_iff.1 hu).1
    rw [Nat.zero_add, hall j (by simp at hj; omega)]; simp at hj ⊢; exact hj
   have e2 : (HS fun i => listed.getD i false) = H' := by
    rw [hH']
    funext t
    have : (es.map (·.W)).foldl appL H = foldS (fun j => decide (j < 0 + (es.map (·.W)).length)) 0 (es.map (·.W)) H := by rw [foldS_prefix, List.take_length]
    rw [this]
    refine foldS_congr t _ 0 H H rfl (fun j u hu _ => ?_)
    have hj : j < (es.map (·.W)).length := (List.getElem?_eq_some_iff.1 hu).1
    rw [Nat.zero_add, hall j (by simp at hj; omega)]; simp at hj ⊢; exact hj
   rw [e1, e2] at hs1
   rw [e2] at hev1
   exact hk a1 w1 ρ1 hs1 hev1
  induction fuel with
  | zero =>
   intro listed ρ1 a1 w1 hsz hcnt hdc hs1 hev1 _
   have hall : ∀ i, i < ops.size → listed.getD i false = true := by
    intro i hi
    cases hl : listed.getD i false with
    | true => rfl
    | false =>
     exfalso
     have : i ∈ (List.range ops.size).filter fun i => !listed.getD i true := by
      rw [List.mem_filter]
      refine ⟨List.mem_range.2 hi, ?_⟩
      rw [Array.getD_eq_getD_getElem?, Array.getElem?_eq_getElem (by omega)] at hl ⊢
      simpa using hl
     have := List.length_pos_of_mem this
     omega
   refine ⟨?_, hfin listed ρ1 a1 w1 hall hs1 hev1⟩
   rw [List.eq_nil_iff_forall_not_mem]
   intro i hi
   obtain ⟨h1, o, ho, _⟩ := mem_ready.1 hi
   have hio : i < ops.size := (Array.getElem?_eq_some_iff.1 ho).1
   have h2 := hall i hio
   rw [Array.getD_eq_getD_getElem?, Array.getElem?_eq_getElem (by omega)] at h1 h2
   simp only [Option.getD_some] at h1 h2
   rw [h1] at h2; cases h2
  | succ fuel ih =>
   intro listed ρ1 a1 w1 hsz hcnt hdc hs1 hev1 hdom
   refine ⟨fun hnil => hfin listed ρ1 a1 w1 (hready listed hsz hnil) hs1 hev1, fun i hi => ?_⟩
   obtain ⟨hun, o, ho, hpre⟩ := mem_ready.1 hi
   have hio : i < ops.size := (Array.getElem?_eq_some_iff.1 ho).1
   have hSi : listed.getD i false = false := by
    rw [Array.getD_eq_getD_getElem?, Array.getElem?_eq_getElem (by omega)] at hun ⊢
    exact hun
   have hpre' : ∀ ed ∈ o.after, Region.binds .any ed = true → listed.getD ed.on false = true := by
    intro ed hed hb
    have := hpre ed hed
    rw [hb] at this
    simpa using this
   obtain ⟨e, Li, he, hLi, hgood, hfr1, hfr2⟩ := hat i o (by simpa using ho)
   have aR := agreeR (fun i => listed.getD i false) i o e hdc hSi ho hpre' he
   have aH := agreeH (fun i => listed.getD i false) i o e hdc hSi ho hpre' he
   have prefR : ∀ t, (t ∈ e.lg.rd ∨ e.lg.dst = some t) → RS (fun i => listed.getD i false) t = (((es.take i).map wr).foldl appL R) t := by
    intro t ht
    have h1 := foldS_prefix (es.map wr) 0 i R
    rw [pre] at h1
    rw [← h1]
    refine foldS_congr t _ 0 R R rfl (fun j u hu hx => ?_)
    rw [List.getElem?_map] at hu
    obtain ⟨f, hf, rfl⟩ := Option.map_eq_some_iff.1 hu
    simpa using aR t ht j f hf (lookup_wr hx)
   have prefH : ∀ t, (t ∈ e.lg.F ∨ t ∈ e.lg.Wi) → HS (fun i => listed.getD i false) t = (((es.take i).map (·.W)).foldl appL H) t := by
    intro t ht
    have h1 := foldS_prefix (es.map (·.W)) 0 i H
    rw [preH] at h1
    rw [← h1]
    refine foldS_congr t _ 0 H H rfl (fun j u hu hx => ?_)
    rw [List.getElem?_map] at hu
    obtain ⟨f, hf, rfl⟩ := Option.map_eq_some_iff.1 hu
    simpa using aH t ht j f hf (lookup_W (hgoodWi j f hf) hx)
   have hSn : ∀ j, (listed.setIfInBounds i true).getD j false = (listed.getD j false || j == i) := by
    intro j
    rw [Array.getD_eq_getD_getElem?, Array.getD_eq_getD_getElem?]
    by_cases hj : j = i
    ·
     subst hj; rw [Array.getElem?_setIfInBounds_self_of_lt (by omega)]; simp
    ·
     rw [Array.getElem?_setIfInBounds_ne (fun e => hj e.symm)]
     have : (j == i) = false := by simpa using hj
     simp [this]
   have hstep : ∀ {β : Type} (ws : List (List (Nat × Option β))) (f : Nat → Option β) (wi : List (Nat × Option β)), ws[i]? = some wi →
     (∀ t, (∃ x, wi.lookup t = some x) → ∀ j u, ws[j]? = some u → (∃ x, u.lookup t = some x) → listed.getD j false = decide (j < i)) →
     foldS (fun j => (listed.setIfInBounds i true).getD j false) 0 ws f = appL (foldS (fun j => listed.getD j false) 0 ws f) wi := by
    intro β ws f wi hwi hag
    funext t
    cases hl : wi.lookup t with
    | none =>
     have e1 : appL (foldS (fun j => listed.getD j false) 0 ws f) wi t = foldS (fun j => listed.getD j false) 0 ws f t := by simp [appL, hl]
     rw [e1]
     refine foldS_congr t _ 0 f f rfl (fun j u hu hx => ?_)
     rw [Nat.zero_add, hSn]
     by_cases hj : j = i
     ·
      subst hj; rw [hwi] at hu; cases hu; obtain ⟨x, hx⟩ := hx; rw [hl] at hx; cases hx
     ·
      have : (j == i) = false := by simpa using hj
      simp [this]
    | some x =>
     have e1 : appL (foldS (fun j => listed.getD j false) 0 ws f) wi t = x := by simp [appL, hl]
     rw [e1]
     have e2 : foldS (fun j => (listed.setIfInBounds i true).getD j false) 0 ws f t = foldS (fun j => decide (j < 0 + (i + 1))) 0 ws f t := by
      refine foldS_congr t _ 0 f f rfl (fun j u hu hx => ?_)
      rw [Nat.zero_add, hSn, hag t ⟨x, hl⟩ j u hu hx]
      by_cases hj : j = i
      ·
       subst hj; simp
      ·
       have : (j == i) = false := by simpa using hj
       rw [this, Bool.or_false]
       congr 1
       apply propext
       omega
     rw [e2, foldS_prefix]
     have hil : i < ws.length := (List.getElem?_eq_some_iff.1 hwi).1
     rw [List.take_succ_eq_append_getElem hil, List.foldl_append]
     have : ws[i] = wi := by rw [List.getElem?_eq_getElem hil] at hwi; exact Option.some.inj hwi
     simp only [List.foldl_cons, List.foldl_nil, this, appL, hl]
   have eR : RS (fun j => (listed.setIfInBounds i true).getD j false) = appL (RS fun j => listed.getD j false) (wr e) :=
    hstep (es.map wr) R (wr e) (by rw [List.getElem?_map, he]; rfl) (fun t ht j u hu hx => by
     rw [List.getElem?_map] at hu
     obtain ⟨f, hf, rfl⟩ := Option.map_eq_some_iff.1 hu
     exact aR t (.inr (lookup_wr ht)) j f hf (lookup_wr hx))
   have eH : HS (fun j => (listed.setIfInBounds i true).getD j false) = appL (HS fun j => listed.getD j false) e.W :=
    hstep (es.map (·.W)) H e.W (by rw [List.getElem?_map, he]; rfl) (fun t ht j u hu hx => by
     rw [List.getElem?_map] at hu
     obtain ⟨f, hf, rfl⟩ := Option.map_eq_some_iff.1 hu
     exact aH t (.inr (lookup_W (hgoodWi i e he) ht)) j f hf (lookup_W (hgoodWi j f hf) hx))
   refine good_step (L := L') (L' := L') ho hgood (fun d hd => hN i o d ho hd) (fun t ht => prefR t (.inl ht)) (fun t ht => prefH t ht) hs1 ?_ (Nat.le_refl _) (fun id ob hm => hLW e (List.mem_of_getElem? he) id ob hm) ?_
   ·
    intro id ob hmem hF
    cases hρ : ρ1 id with
    | none => rfl
    | some rb =>
     exfalso
     have hidLi := hfr1 id ob hmem hF
     have hidWi : id ∈ e.lg.Wi := by rw [hgood.2.1]; exact List.mem_map.2 ⟨_, hmem, rfl⟩
     rcases hdom id rb hρ with h | ⟨j, f, ob', hj, hf, hm2⟩
     ·
      rw [hs.fresh id (by omega)] at h; cases h
     ·
      have hfWi : id ∈ f.lg.Wi := by rw [hgoodWi j f hf]; exact List.mem_map.2 ⟨_, hm2, rfl⟩
      have h3 := aH id (.inr hidWi) j f hf hfWi
      rw [hj] at h3
      have hji : j < i := by simpa using h3.symm
      have := hfr2 j f hji hf id ob' hm2
      omega
   ·
    intro a2 w2 ρ2 hs2 hev2 hdom2
    refine ih (listed.setIfInBounds i true) ρ2 a2 w2 (by simp [hsz]) ?_ ?_ (by rw [eR, eH]; exact hs2) (by rw [eH]; exact hev1.trans hev2) ?_
    ·
     have hsub : ∀ l : List Nat, l.Nodup → i ∈ l → (l.filter fun k => !(listed.setIfInBounds i true).getD k true).length + 1 ≤ (l.filter fun k => !listed.getD k true).length := by
      intro l
      have hne : ∀ k, k ≠ i → (listed.setIfInBounds i true).getD k true = listed.getD k true := fun k hk => by
       rw [Array.getD_eq_getD_getElem?, Array.getD_eq_getD_getElem?, Array.getElem?_setIfInBounds_ne (fun e => hk e.symm)]
      have hii : (listed.setIfInBounds i true).getD i true = true := by
       rw [Array.getD_eq_getD_getElem?, Array.getElem?_setIfInBounds_self_of_lt (by omega)]; rfl
      induction l with
      | nil => intro _ h; cases h
      | cons x l ihl =>
       intro hnd hmem
       rw [List.nodup_cons] at hnd
       simp only [List.filter_cons]
       by_cases hx : x = i
       ·
        subst hx
        have heq : (l.filter fun k => !(listed.setIfInBounds x true).getD k true) = l.filter fun k => !listed.getD k true :=
         List.filter_congr (fun k hk => by rw [hne k (fun e => hnd.1 (e ▸ hk))])
        rw [hii, heq]
        simp [hun]
       ·
        rw [hne x hx]
        have := ihl hnd.2 ((List.mem_cons.1 hmem).resolve_left (fun e => hx e.symm))
        split
        ·
         simp only [List.length_cons]; omega
        ·
         omega
     have := hsub (List.range ops.size) List.nodup_range (List.mem_range.2 hio)
     omega
    ·
     intro k o' hk hSk ed hed hb
     have hSk : (listed.setIfInBounds i true).getD k false = true := hSk
     show (listed.setIfInBounds i true).getD ed.on false = true
     rw [hSn] at hSk ⊢
     simp only [Bool.or_eq_true, beq_iff_eq] at hSk ⊢
     rcases hSk with hSk | hSk
     ·
      exact .inl (hdc k o' hk hSk ed hed hb)
     ·
      subst hSk; rw [ho] at hk; cases hk; exact .inl (hpre' ed hed hb)
    ·
     intro id rb hid
     rcases hdom2 id rb hid with h | ⟨ob, hm2⟩
     ·
      rcases hdom id rb h with h | ⟨j, f, ob', hj, hf, hm3⟩
      ·
       exact .inl h
      ·
       exact .inr ⟨j, f, ob', by rw [hSn, hj]; rfl, hf, hm3⟩
     ·
      exact .inr ⟨i, e, ob, by rw [hSn]; simp, he, hm2⟩
 refine wpIn_region_any hm (main ops.size (Array.replicate ops.size false) ρ a { w with drawn := w.drawn + 1 } (by simp) ?_ ?_ ?_ ?_ (fun id rb h => .inl h))
 ·
  refine Nat.le_trans (List.length_filter_le _ _) (by simp)
 ·
  intro k o hk hSk
  have hSk : (Array.replicate ops.size false).getD k false = true := hSk
  rw [Array.getD_eq_getD_getElem?, Array.getElem?_replicate] at hSk
  split at hSk <;> cases hSk
 ·
  have e0 : (fun i => (Array.replicate ops.size false).getD i false) = fun _ => false := by
   funext i
   rw [Array.getD_eq_getD_getElem?, Array.getElem?_replicate]
   split <;> rfl
  have nof : ∀ {β : Type} (ws : List (List (Nat × Option β))) (k : Nat) (f : Nat → Option β), foldS (fun _ => false) k ws f = f := by
   intro β ws
   induction ws with
   | nil => intro k f; rfl
   | cons x ws ihw => intro k f; simp only [foldS, Bool.false_eq_true, if_false]; exact ihw _ _
  simp only [RS, HS, e0, nof]
  exact ⟨hs.size, hs.regs, hs.heap, hs.sep, fun id hid => hs.fresh id (by omega), hs.dfr⟩
 ·
  have e0 : (fun i => (Array.replicate ops.size false).getD i false) = fun _ => false := by
   funext i
   rw [Array.getD_eq_getD_getElem?, Array.getElem?_replicate]
   split <;> rfl
  have nof : ∀ {β : Type} (ws : List (List (Nat × Option β))) (k : Nat) (f : Nat → Option β), foldS (fun _ => false) k ws f = f := by
   intro β ws
   induction ws with
   | nil => intro k f; rfl
   | cons x ws ihw => intro k f; simp only [foldS, Bool.false_eq_true, if_false]; exact ihw _ _
  simp only [HS, e0, nof]
  exact ⟨Ext.refl _, (Fr.refl _ _).drew, fun _ _ h => .inl h⟩
end
end Go.Sh
