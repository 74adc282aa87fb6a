/- A shadow of Go's memory: values whose addresses are names of blocks; how they stand to the model's values; frames. -/
import Derived.WalkKit
import Derived.RangeFuncNested
import Derived.RangeFuncCalls
import Derived.RangeFuncLeaves
import Derived.OrdersIn
import Derived.TacticsIn
namespace Go.Sh

/-- Where a shadow block lies: block, first cell, how many cells from there on; or nowhere (a nil slice's row). -/
structure RB where
  blk : Nat
  off : Nat
  cap : Nat
  virt : Bool

inductive SV where
  | i (n : Int)
  | u8 (x : UInt8)
  | u16 (x : UInt16)
  | u32 (x : UInt32)
  | u64 (x : UInt64)
  | b (x : Bool)
  | s (l : List UInt8)
  | p (id off : Nat)
  | pnil
  | sl (id o n sz : Nat) (full : Bool)
  | slnil
  | fnil
  | fn (f : Nat) (cap : List SV)
  | yld (id : Nat)
  | mp (id : Nat)
  | mnil
  | agg (l : List SV)
  | tup (l : List SV)
  deriving Inhabited

/-- A value of one cell. -/
def SV.atom : SV → Bool
  | .agg _ => false
  | .tup _ => false
  | _ => true

def atoms (l : List SV) : Bool := l.all SV.atom

abbrev Ren := Nat → Option RB

mutual
def Rel (ρ : Ren) : SV → Value → Prop
  | .i n, v => v = .int .i64 n
  | .u8 x, v => v = .int .u8 (x.toNat : Int)
  | .u16 x, v => v = .int .u16 (x.toNat : Int)
  | .u32 x, v => v = .int .u32 (x.toNat : Int)
  | .u64 x, v => v = .int .u64 (x.toNat : Int)
  | .b x, v => v = .bool x
  | .s l, v => v = .string ⟨⟨l⟩⟩
  | .p id off, v => ∃ rb, ρ id = some rb ∧ v = .pointer (some ⟨rb.blk, rb.off + off, none⟩)
  | .pnil, v => v = .pointer none
  | .sl id o n sz full, v => ∃ rb a c, ρ id = some rb ∧ v = .slice a n c ∧ n ≤ c ∧ (full = true → c = n) ∧
      (c = 0 ∨ (rb.virt = false ∧ a = some ⟨rb.blk, rb.off + o, none⟩ ∧ o + c * sz ≤ rb.cap))
  | .slnil, v => v = .slice none 0 0
  | .fnil, v => v = .nilFunc
  | .fn f cap, v => ∃ cs, v = .func (.func f) #[] ⟨cs⟩ ∧ Rels ρ cap cs
  | .yld id, v => ∃ rb, ρ id = some rb ∧ v = .func (.yield rb.blk) #[] #[]
  | .mp id, v => ∃ rb, ρ id = some rb ∧ v = .map (some rb.blk)
  | .mnil, v => v = .map none
  | .agg l, v => ∃ cs, v = .agg ⟨cs⟩ ∧ atoms l = true ∧ Rels ρ l cs
  | .tup l, v => ∃ cs, v = .tuple ⟨cs⟩ ∧ Rels ρ l cs
def Rels (ρ : Ren) : List SV → List Value → Prop
  | [], vs => vs = []
  | x :: xs, vs => ∃ y ys, vs = y :: ys ∧ Rel ρ x y ∧ Rels ρ xs ys
end

def Ext (ρ ρ' : Ren) : Prop := ∀ id rb, ρ id = some rb → ρ' id = some rb
theorem Ext.refl (ρ : Ren) : Ext ρ ρ := fun _ _ h => h
theorem Ext.trans {a b c : Ren} (h : Ext a b) (k : Ext b c) : Ext a c := fun i r e => k i r (h i r e)

mutual
theorem Rel.ext {ρ ρ' : Ren} (h : Ext ρ ρ') : ∀ (x : SV) {v : Value}, Rel ρ x v → Rel ρ' x v
  | .i _, _, k => by simpa only [Rel] using k
  | .u8 _, _, k => by simpa only [Rel] using k
  | .u16 _, _, k => by simpa only [Rel] using k
  | .u32 _, _, k => by simpa only [Rel] using k
  | .u64 _, _, k => by simpa only [Rel] using k
  | .b _, _, k => by simpa only [Rel] using k
  | .s _, _, k => by simpa only [Rel] using k
  | .pnil, _, k => by simpa only [Rel] using k
  | .slnil, _, k => by simpa only [Rel] using k
  | .fnil, _, k => by simpa only [Rel] using k
  | .mnil, _, k => by simpa only [Rel] using k
  | .p id off, v, k => by
    simp only [Rel] at k ⊢; obtain ⟨rb, hr, e⟩ := k; exact ⟨rb, h _ _ hr, e⟩
  | .sl id o n sz full, v, k => by
    simp only [Rel] at k ⊢; obtain ⟨rb, a, c, hr, e⟩ := k; exact ⟨rb, a, c, h _ _ hr, e⟩
  | .yld id, v, k => by
    simp only [Rel] at k ⊢; obtain ⟨rb, hr, e⟩ := k; exact ⟨rb, h _ _ hr, e⟩
  | .mp id, v, k => by
    simp only [Rel] at k ⊢; obtain ⟨rb, hr, e⟩ := k; exact ⟨rb, h _ _ hr, e⟩
  | .fn f cap, v, k => by
    simp only [Rel] at k ⊢; obtain ⟨cs, e, hr⟩ := k; exact ⟨cs, e, Rels.ext h cap hr⟩
  | .agg l, v, k => by
    simp only [Rel] at k ⊢; obtain ⟨cs, e, ha, hr⟩ := k; exact ⟨cs, e, ha, Rels.ext h l hr⟩
  | .tup l, v, k => by
    simp only [Rel] at k ⊢; obtain ⟨cs, e, hr⟩ := k; exact ⟨cs, e, Rels.ext h l hr⟩
theorem Rels.ext {ρ ρ' : Ren} (h : Ext ρ ρ') : ∀ (xs : List SV) {vs : List Value}, Rels ρ xs vs → Rels ρ' xs vs
  | [], _, k => by simpa only [Rels] using k
  | x :: xs, vs, k => by
    simp only [Rels] at k ⊢
    obtain ⟨y, ys, e, hy, hys⟩ := k
    exact ⟨y, ys, e, Rel.ext h x hy, Rels.ext h xs hys⟩
end

theorem Rels.nil_iff {ρ : Ren} {vs : List Value} : Rels ρ [] vs ↔ vs = [] := by simp only [Rels]
theorem Rels.cons_iff {ρ : Ren} {x : SV} {xs : List SV} {v : Value} {vs : List Value} : Rels ρ (x :: xs) (v :: vs) ↔ Rel ρ x v ∧ Rels ρ xs vs := by
  simp only [Rels]
  constructor
  · rintro ⟨y, ys, e, hy, hys⟩; cases e; exact ⟨hy, hys⟩
  · rintro ⟨hy, hys⟩; exact ⟨v, vs, rfl, hy, hys⟩
theorem Rels.cons {ρ : Ren} {x : SV} {xs : List SV} {v : Value} {vs : List Value} (h : Rel ρ x v) (k : Rels ρ xs vs) : Rels ρ (x :: xs) (v :: vs) := Rels.cons_iff.2 ⟨h, k⟩

theorem Rels.length {ρ : Ren} : ∀ {xs : List SV} {vs : List Value}, Rels ρ xs vs → vs.length = xs.length
  | [], vs, h => by rw [Rels.nil_iff] at h; subst h; rfl
  | x :: xs, vs, h => by
    simp only [Rels] at h
    obtain ⟨y, ys, rfl, _, hys⟩ := h
    simp [Rels.length hys]

theorem Rels.get {ρ : Ren} : ∀ {xs : List SV} {vs : List Value}, Rels ρ xs vs → ∀ {k : Nat} {x : SV}, xs[k]? = some x → ∃ v, vs[k]? = some v ∧ Rel ρ x v
  | [], _, _, k, x, hx => by simp at hx
  | y :: ys, vs, h, k, x, hx => by
    simp only [Rels] at h
    obtain ⟨v, vs', rfl, hy, hys⟩ := h
    cases k with
    | zero => simp at hx; subst hx; exact ⟨v, rfl, hy⟩
    | succ k => simp at hx; obtain ⟨u, hu, hr⟩ := Rels.get hys hx; exact ⟨u, by simpa using hu, hr⟩

theorem Rels.append {ρ : Ren} : ∀ {xs ys : List SV} {vs us : List Value}, Rels ρ xs vs → Rels ρ ys us → Rels ρ (xs ++ ys) (vs ++ us)
  | [], ys, vs, us, h, k => by rw [Rels.nil_iff] at h; subst h; simpa using k
  | x :: xs, ys, vs, us, h, k => by
    simp only [Rels] at h
    obtain ⟨v, vs', rfl, hy, hys⟩ := h
    exact Rels.cons hy (Rels.append hys k)

theorem Rels.take {ρ : Ren} : ∀ {xs : List SV} {vs : List Value} (n : Nat), Rels ρ xs vs → Rels ρ (xs.take n) (vs.take n)
  | [], vs, n, h => by rw [Rels.nil_iff] at h; subst h; simp [Rels]
  | x :: xs, vs, n, h => by
    simp only [Rels] at h
    obtain ⟨v, vs', rfl, hy, hys⟩ := h
    cases n with
    | zero => simp [Rels]
    | succ n => exact Rels.cons hy (Rels.take n hys)

theorem Rels.drop {ρ : Ren} : ∀ {xs : List SV} {vs : List Value} (n : Nat), Rels ρ xs vs → Rels ρ (xs.drop n) (vs.drop n)
  | [], vs, n, h => by rw [Rels.nil_iff] at h; subst h; simp [Rels]
  | x :: xs, vs, n, h => by
    have h0 := h
    simp only [Rels] at h
    obtain ⟨v, vs', rfl, hy, hys⟩ := h
    cases n with
    | zero => simpa using h0
    | succ n => simpa using Rels.drop n hys

theorem Rels.set {ρ : Ren} : ∀ {xs : List SV} {vs : List Value} {k : Nat} {x : SV} {v : Value}, Rels ρ xs vs → Rel ρ x v → Rels ρ (xs.set k x) (vs.set k v)
  | [], vs, k, x, v, h, _ => by rw [Rels.nil_iff] at h; subst h; simp [Rels]
  | y :: ys, vs, k, x, v, h, hx => by
    simp only [Rels] at h
    obtain ⟨u, us, rfl, hy, hys⟩ := h
    cases k with
    | zero => exact Rels.cons hx hys
    | succ k => exact Rels.cons hy (Rels.set hys hx)

theorem Rels.replicate {ρ : Ren} {x : SV} {v : Value} (h : Rel ρ x v) : ∀ n, Rels ρ (List.replicate n x) (List.replicate n v)
  | 0 => by simp [Rels]
  | n + 1 => Rels.cons h (Rels.replicate h n)

theorem Rel.oneCell {ρ : Ren} {x : SV} {v : Value} (h : Rel ρ x v) (ha : x.atom = true) : v.oneCell' = true := by
  cases x <;> simp only [Rel, SV.atom] at h ha <;> first | (subst h; rfl) | (obtain ⟨_, _, rfl⟩ := h; rfl) | (obtain ⟨_, rfl, _⟩ := h; rfl) | (obtain ⟨_, _, _, _, rfl, _⟩ := h; rfl) | exact absurd ha (by decide)

theorem Rel.cells {ρ : Ren} {x : SV} {v : Value} (h : Rel ρ x v) (ha : x.atom = true) : v.cells = #[v] := by
  cases x <;> simp only [Rel, SV.atom] at h ha <;> first | (subst h; rfl) | (obtain ⟨_, _, rfl⟩ := h; rfl) | (obtain ⟨_, rfl, _⟩ := h; rfl) | (obtain ⟨_, _, _, _, rfl, _⟩ := h; rfl) | exact absurd ha (by decide)

theorem Rels.oneCell {ρ : Ren} : ∀ {xs : List SV} {vs : List Value}, Rels ρ xs vs → atoms xs = true → ∀ v ∈ vs, v.oneCell' = true
  | [], vs, h, _, v, hv => by rw [Rels.nil_iff] at h; subst h; simp at hv
  | x :: xs, vs, h, ha, v, hv => by
    simp only [Rels] at h
    obtain ⟨u, us, rfl, hy, hys⟩ := h
    simp [atoms] at ha
    rcases List.mem_cons.1 hv with rfl | hv
    · exact hy.oneCell ha.1
    · exact Rels.oneCell hys (by simpa [atoms] using ha.2) v hv

/-- The cells of a shadow value. -/
def SV.cells : SV → List SV
  | .agg l => l
  | v => [v]

theorem Rel.cells_rel {ρ : Ren} {x : SV} {v : Value} (h : Rel ρ x v) (ht : ∀ l, x ≠ .tup l) : Rels ρ x.cells v.cells.toList ∧ atoms x.cells = true := by
  by_cases ha : x.atom = true
  · rw [h.cells ha]
    have : x.cells = [x] := by cases x <;> first | rfl | (simp [SV.atom] at ha)
    rw [this]
    exact ⟨Rels.cons h (Rels.nil_iff.2 rfl), by simpa [atoms] using ha⟩
  · cases x <;> simp only [SV.atom, not_true_eq_false] at ha
    · simp only [Rel] at h
      obtain ⟨cs, rfl, hl, hr⟩ := h
      exact ⟨hr, hl⟩
    · exact absurd rfl (ht _)

/-! ### Blocks -/

/-- What is no block of cells: a loop over an iterator, ready for a round (the registers that a round begins with, how many there are, the parameters, the code); one that a jump has left. -/
inductive OB where
  | loop (R : List (Nat × SV)) (N : Nat) (ps : List Nat) (assign body : Code)
  | pend (c : Code)

inductive SB where
  | row (t : Nat) (cells : List SV)
  | box (cells : List SV)
  | ro (cells : List SV)
  | obj (y : OB)

def SB.own : SB → Bool
  | .ro _ => false
  | _ => true

abbrev Heap := Nat → Option SB

/-- The cells that a block covers. -/
def foot (rb : RB) : SB → Nat → Nat → Prop
  | .row _ _, k, o => rb.virt = false ∧ k = rb.blk ∧ rb.off ≤ o
  | .box l, k, o => k = rb.blk ∧ rb.off ≤ o ∧ o < rb.off + l.length
  | .ro l, k, o => k = rb.blk ∧ rb.off ≤ o ∧ o < rb.off + l.length
  | .obj _, k, _ => k = rb.blk

/-- None of a block's cells is frozen. -/
def Unfz (c : Array Value) (fz : Nat × Nat) : Prop := fz = (0, 0) ∨ c.size ≤ fz.1

def CellsAt (ρ : Ren) (w : World) (blk off : Nat) (cells : List SV) (free : Bool) : Prop :=
  ∃ c t fz, w.heap[blk]? = some (.cells c t fz) ∧ atoms cells = true ∧ Rels ρ cells ((c.toList.drop off).take cells.length) ∧ (free = true → Unfz c fz) ∧ off + cells.length ≤ c.size

def RelR (ρ : Ren) (R : List (Nat × SV)) (tmps : Array Value) : Prop := ∀ t v, R.lookup t = some v → Rel ρ v (tmps.getD t undef)

def ORel (ρ : Ren) (w : World) (blk : Nat) : OB → Prop
  | .loop R N ps assign body => ∃ r : Loop, w.heap[blk]? = some (.loop r) ∧ r.state = .ready ∧ r.pending = none ∧ r.params = ⟨ps⟩ ∧ r.assign = assign ∧ r.body = body ∧ r.tmps.size = N ∧ RelR ρ R r.tmps
  | .pend c => ∃ r : Loop, w.heap[blk]? = some (.loop r) ∧ r.state = .done ∧ r.pending = some c

def BRel (ρ : Ren) (w : World) (rb : RB) : SB → Prop
  | .obj y => ORel ρ w rb.blk y
  | .ro l => l = [] ∨ (CellsAt ρ w rb.blk rb.off l false ∧ l.length ≤ rb.cap ∧ rb.virt = false)
  | .box l => CellsAt ρ w rb.blk rb.off l true ∧ l.length ≤ rb.cap ∧ rb.virt = false
  | .row t l => (rb.virt = true ∧ l = []) ∨ (rb.virt = false ∧ ∃ c fz, w.heap[rb.blk]? = some (.cells c t fz) ∧ Unfz c fz ∧ c.size = rb.off + rb.cap ∧ atoms l = true ∧
      Rels ρ l ((c.toList.drop rb.off).take l.length) ∧ l.length ≤ rb.cap)

def HRel (ρ : Ren) (H : Heap) (w : World) : Prop := ∀ id b, H id = some b → ∃ rb, ρ id = some rb ∧ BRel ρ w rb b

def Sep (ρ : Ren) (H : Heap) : Prop := ∀ i j bi bj ri rj, i ≠ j → H i = some bi → H j = some bj → ρ i = some ri → ρ j = some rj → bi.own = true →
  ∀ k o, ¬ (foot ri bi k o ∧ foot rj bj k o)

/-- What is owned. -/
def Owned (ρ : Ren) (H : Heap) (k o : Nat) : Prop := ∃ id b rb, H id = some b ∧ ρ id = some rb ∧ b.own = true ∧ foot rb b k o

/-- What may turn, and stays of its kind. -/
def mutK : Obj → Nat
  | .loop _ => 1
  | .map .. => 2
  | .mapIter .. => 3
  | _ => 0

def FrO (S : Nat → Prop) : Obj → Option Obj → Prop
  | .cells c t fz, o => ∃ c' : Array Value, o = some (.cells c' t fz) ∧ c'.size = c.size ∧ ∀ j, ¬ S j → c'[j]? = c[j]?
  | x, o => o = some x ∨ ((∃ j, S j) ∧ mutK x ≠ 0 ∧ ∃ y, o = some y ∧ mutK y = mutK x)

/-- Nothing outside S has turned. -/
structure Fr (S : Nat → Nat → Prop) (w w' : World) : Prop where
  os : w'.os = w.os
  tape : w'.tape = w.tape
  output : w'.output = w.output
  size : w.heap.size ≤ w'.heap.size
  blk : ∀ k o, w.heap[k]? = some o → FrO (S k) o w'.heap[k]?

theorem FrO.refl (S : Nat → Prop) (x : Obj) : FrO S x (some x) := by
  cases x <;> first | exact ⟨_, rfl, rfl, fun _ _ => rfl⟩ | exact .inl rfl

theorem FrO.same {S : Nat → Prop} {x : Obj} {o : Option Obj} (h : FrO S x o) (hS : ∀ j, ¬ S j) : o = some x := by
  cases x with
  | cells cc t fz =>
    obtain ⟨c1, e1, s1, g1⟩ := h
    have : c1 = cc := Array.ext_getElem? (fun j => g1 j (hS j))
    rw [e1, this]
  | _ =>
    rcases h with h | ⟨⟨j, hj⟩, _⟩
    · exact h
    · exact absurd hj (hS j)

theorem FrO.fixed {S : Nat → Prop} {x : Obj} {o : Option Obj} (h : FrO S x o) (hm : mutK x = 0) (hc : ∀ c t fz, x ≠ .cells c t fz) : o = some x := by
  cases x with
  | cells cc t fz => exact absurd rfl (hc _ _ _)
  | _ =>
    rcases h with h | ⟨_, h2, _⟩
    · exact h
    · exact absurd hm h2

theorem Fr.refl (S : Nat → Nat → Prop) (w : World) : Fr S w w := ⟨rfl, rfl, rfl, Nat.le_refl _, fun k o h => by rw [h]; exact FrO.refl _ _⟩

theorem FrO.trans {S T : Nat → Prop} {x : Obj} {o1 o2 : Option Obj} (h : FrO S x o1) (k : ∀ y, o1 = some y → FrO T y o2) (hT : ∀ j, T j → S j) : FrO S x o2 := by
  cases x with
  | cells cc t fz =>
    obtain ⟨c1, e1, s1, g1⟩ := h
    obtain ⟨c2, e2, s2, g2⟩ := k _ e1
    exact ⟨c2, e2, s2.trans s1, fun j hj => (g2 j (fun ht => hj (hT j ht))).trans (g1 j hj)⟩
  | _ =>
    rcases h with h | ⟨hj, hm, y, hy, he⟩
    · rcases k _ h with h2 | ⟨⟨j, hj⟩, hm, y, hy, he⟩
      · exact .inl h2
      · exact .inr ⟨⟨j, hT j hj⟩, hm, y, hy, he⟩
    · have h2 := k _ hy
      refine .inr ⟨hj, hm, ?_⟩
      cases y with
      | cells cc t fz => exact absurd he.symm hm
      | _ =>
        rcases h2 with h2 | ⟨_, hm2, z, hz, he2⟩
        · exact ⟨_, h2, he⟩
        · exact ⟨z, hz, he2.trans he⟩

theorem Fr.trans {S T : Nat → Nat → Prop} {a b c : World} (h : Fr S a b) (k : Fr T b c) (hT : ∀ x o, x < a.heap.size → T x o → S x o) : Fr S a c := by
  refine ⟨k.os.trans h.os, k.tape.trans h.tape, k.output.trans h.output, Nat.le_trans h.size k.size, fun x o ho => ?_⟩
  have hx : x < a.heap.size := (Array.getElem?_eq_some_iff.1 ho).1
  exact (h.blk x o ho).trans (fun y hy => k.blk x y hy) (fun j hj => hT x j hx hj)

theorem Fr.mono {S T : Nat → Nat → Prop} {a b : World} (h : Fr S a b) (hT : ∀ x o, x < a.heap.size → S x o → T x o) : Fr T a b := by
  refine ⟨h.os, h.tape, h.output, h.size, fun x o ho => ?_⟩
  have hx : x < a.heap.size := (Array.getElem?_eq_some_iff.1 ho).1
  exact (FrO.refl (T x) o).trans (fun y hy => by cases hy; exact h.blk x o ho) (fun j hj => hT x j hx hj)

/-- A frame with nothing in it: what was there is as it was. -/
theorem Fr.below {S : Nat → Nat → Prop} {a b : World} (h : Fr S a b) (hS : ∀ x o, x < a.heap.size → ¬ S x o) : RowKit.Below a.heap.size a b := by
  refine ⟨h.os, h.tape, h.output, h.size, fun k hk => ?_⟩
  obtain ⟨o, ho⟩ : ∃ o, a.heap[k]? = some o := ⟨_, Array.getElem?_eq_getElem hk⟩
  rw [ho]
  exact (h.blk k o ho).same (fun j => hS k j hk)

theorem Fr.drew {S : Nat → Nat → Prop} {a b : World} (h : Fr S a b) : Fr S a { b with drawn := b.drawn + 1 } := ⟨h.os, h.tape, h.output, h.size, h.blk⟩

theorem Fr.alloc (S : Nat → Nat → Prop) (w : World) (o : Obj) : Fr S w (w.alloc o) := by
  refine ⟨rfl, rfl, rfl, by simp, fun k x hx => ?_⟩
  have hk : k < w.heap.size := (Array.getElem?_eq_some_iff.1 hx).1
  rw [RowKit.Below.heap_alloc w o k hk, hx]
  exact FrO.refl _ _

/-- The cells of a block from 'off' on are written over. -/
def putAt (c : Array Value) (off : Nat) (vs : List Value) : Array Value := ⟨c.toList.take off ++ vs ++ c.toList.drop (off + vs.length)⟩

theorem putAt_size (c : Array Value) (off : Nat) (vs : List Value) (h : off + vs.length ≤ c.size) : (putAt c off vs).size = c.size := by
  simp [putAt]; omega

def World.putCells (w : World) (blk off : Nat) (vs : List Value) : World :=
  { w with heap := w.heap.modify blk fun
      | .cells c t fz => .cells (putAt c off vs) t fz
      | o => o }

theorem putAt_getElem? (c : Array Value) (off : Nat) (vs : List Value) (h : off + vs.length ≤ c.size) (j : Nat) :
    (putAt c off vs)[j]? = if off ≤ j ∧ j < off + vs.length then vs[j - off]? else c[j]? := by
  have hl : c.toList.length = c.size := by simp
  simp only [putAt, List.getElem?_toArray]
  by_cases h1 : j < off
  · rw [if_neg (by omega), List.getElem?_append_left (by simp; omega), List.getElem?_append_left (by simp; omega), List.getElem?_take_of_lt h1]; simp
  · by_cases h2 : j < off + vs.length
    · rw [if_pos (by omega), List.getElem?_append_left (by simp; omega), List.getElem?_append_right (by simp; omega)]
      congr 1; simp; omega
    · rw [if_neg (by omega), List.getElem?_append_right (by simp; omega), List.getElem?_drop]
      rw [← Array.getElem?_toList]
      congr 1; simp; omega

theorem World.putCells_heap (w : World) (blk off : Nat) (vs : List Value) {c : Array Value} {t : TypeId} {fz : Nat × Nat} (h : w.heap[blk]? = some (.cells c t fz)) :
    (World.putCells w blk off vs).heap[blk]? = some (.cells (putAt c off vs) t fz) := by
  simp [World.putCells, Array.getElem?_modify, h]

theorem World.putCells_other (w : World) (blk off : Nat) (vs : List Value) {k : Nat} (h : k ≠ blk) : (World.putCells w blk off vs).heap[k]? = w.heap[k]? := by
  simp only [World.putCells, Array.getElem?_modify]
  rw [if_neg (fun e => h e.symm)]

theorem Unfz.put {c : Array Value} {fz : Nat × Nat} (h : Unfz c fz) (off : Nat) (vs : List Value) (hs : off + vs.length ≤ c.size) : Unfz (putAt c off vs) fz := by
  unfold Unfz; rw [putAt_size _ _ _ hs]; exact h

theorem World.putCells_size (w : World) (blk off : Nat) (vs : List Value) : (World.putCells w blk off vs).heap.size = w.heap.size := by simp [World.putCells]

theorem Fr.putCells (S : Nat → Nat → Prop) (w : World) (blk off : Nat) (vs : List Value) {c : Array Value} {t : TypeId} {fz : Nat × Nat} (h : w.heap[blk]? = some (.cells c t fz))
    (hb : off + vs.length ≤ c.size) (hS : ∀ o, off ≤ o → o < off + vs.length → S blk o) : Fr S w (World.putCells w blk off vs) := by
  refine ⟨rfl, rfl, rfl, by rw [World.putCells_size]; exact Nat.le_refl _, fun k o ho => ?_⟩
  by_cases hk : k = blk
  · subst hk
    rw [World.putCells_heap w k off vs h]
    rw [h] at ho; cases ho
    exact ⟨_, rfl, putAt_size _ _ _ hb, fun j hj => by rw [putAt_getElem? _ _ _ hb, if_neg (fun hh => hj (hS j hh.1 hh.2))]⟩
  · rw [World.putCells_other w blk off vs hk, ho]
    exact FrO.refl _ _

end Go.Sh
