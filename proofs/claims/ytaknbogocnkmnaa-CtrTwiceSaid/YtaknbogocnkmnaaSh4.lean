/- What one operation does to the shadow: its footprint; that the rest stands. -/
import Derived.Test.YtaknbogocnkmnaaSh3
namespace Go.Sh

abbrev Env := Nat → Option SV
abbrev Upd := List (Nat × Option SB)

def updW (H : Heap) (W : Upd) : Heap := fun id => match W.lookup id with | some ob => ob | none => H id

/-- What the named blocks own. -/
def OwnW (ρ : Ren) (H : Heap) (W : Upd) (k o : Nat) : Prop := ∃ id ob b rb, (id, ob) ∈ W ∧ H id = some b ∧ ρ id = some rb ∧ b.own = true ∧ foot rb b k o

structure Chg (ρ : Ren) (H : Heap) (w : World) (W : Upd) (ρ' : Ren) (w' : World) : Prop where
  ext : Ext ρ ρ'
  dom : ∀ id rb, ρ' id = some rb → ρ id = some rb ∨ ∃ ob, (id, ob) ∈ W
  blks : ∀ id b, (id, some b) ∈ W → ∃ rb, ρ' id = some rb ∧ BRel ρ' w' rb b
  fr : Fr (OwnW ρ H W) w w'
  feet : ∀ id b rb k o, (id, some b) ∈ W → ρ' id = some rb → foot rb b k o → OwnW ρ H W k o ∨ w.heap.size ≤ k
  sep : ∀ i j bi bj ri rj, i ≠ j → (i, some bi) ∈ W → (j, some bj) ∈ W → ρ' i = some ri → ρ' j = some rj → bi.own = true → ∀ k o, ¬ (foot ri bi k o ∧ foot rj bj k o)

theorem mem_of_lookup {W : Upd} {id : Nat} {ob : Option SB} (h : W.lookup id = some ob) : (id, ob) ∈ W := by
  induction W with
  | nil => simp at h
  | cons x xs ih =>
    obtain ⟨i, b⟩ := x
    simp only [List.lookup_cons] at h
    split at h
    · rename_i e; cases h; simp at e; subst e; simp
    · exact List.mem_cons_of_mem _ (ih h)

theorem lookup_none {W : Upd} {id : Nat} (h : W.lookup id = none) (ob : Option SB) : (id, ob) ∉ W := by
  induction W with
  | nil => simp
  | cons x xs ih =>
    obtain ⟨i, b⟩ := x
    simp only [List.lookup_cons] at h
    split at h
    · cases h
    · rename_i e
      intro hm
      rcases List.mem_cons.1 hm with hm | hm
      · cases hm; simp at e
      · exact ih h hm

section
variable {P : Program} {ρ ρ' : Ren} {H : Heap} {w w' : World} {W : Upd}

theorem CellsAt.ext {blk off : Nat} {l : List SV} {f : Bool} (h : CellsAt ρ w blk off l f) (he : Ext ρ ρ') : CellsAt ρ' w blk off l f := by
  obtain ⟨c, t, fz, hb, ha, hr, hf, hs⟩ := h
  exact ⟨c, t, fz, hb, ha, hr.ext he, hf, hs⟩

theorem RelR.ext {R : List (Nat × SV)} {tmps : Array Value} (h : RelR ρ R tmps) (he : Ext ρ ρ') : RelR ρ' R tmps := fun t v hv => (h t v hv).ext he

theorem ORel.ext {blk : Nat} {y : OB} (h : ORel ρ w blk y) (he : Ext ρ ρ') : ORel ρ' w blk y := by
  cases y with
  | loop R N ps as_ bd => obtain ⟨r, h1, h2, h3, h4, h5, h6, h7, h8⟩ := h; exact ⟨r, h1, h2, h3, h4, h5, h6, h7, h8.ext he⟩
  | pend c => exact h

theorem ORel.frame {blk : Nat} {y : OB} {S : Nat → Nat → Prop} (h : ORel ρ w blk y) (hf : Fr S w w') (hd : ∀ o, ¬ S blk o) : ORel ρ w' blk y := by
  cases y with
  | loop R N ps as_ bd => obtain ⟨r, h1, h2, h3, h4, h5, h6, h7, h8⟩ := h; exact ⟨r, (hf.blk _ _ h1).same hd, h2, h3, h4, h5, h6, h7, h8⟩
  | pend c => obtain ⟨r, h1, h2, h3⟩ := h; exact ⟨r, (hf.blk _ _ h1).same hd, h2, h3⟩

theorem ORel.lt {blk : Nat} {y : OB} (h : ORel ρ w blk y) : blk < w.heap.size := by
  cases y with
  | loop R N ps as_ bd => obtain ⟨r, h1, _⟩ := h; exact (Array.getElem?_eq_some_iff.1 h1).1
  | pend c => obtain ⟨r, h1, _⟩ := h; exact (Array.getElem?_eq_some_iff.1 h1).1

theorem BRel.ext {rb : RB} {b : SB} (h : BRel ρ w rb b) (he : Ext ρ ρ') : BRel ρ' w rb b := by
  cases b with
  | obj y => exact ORel.ext h he
  | ro l => exact h.imp id fun h => ⟨h.1.ext he, h.2⟩
  | box l => exact ⟨h.1.ext he, h.2⟩
  | row t l =>
    rcases h with h | ⟨hv, c, fz, hb, hz, hs, ha, hr, hl⟩
    · exact .inl h
    · exact .inr ⟨hv, c, fz, hb, hz, hs, ha, hr.ext he, hl⟩

theorem take_drop_eq {c c' : Array Value} {off n : Nat} (_hs : c'.size = c.size) (h : ∀ j, off ≤ j → j < off + n → c'[j]? = c[j]?) : (c'.toList.drop off).take n = (c.toList.drop off).take n := by
  apply List.ext_getElem?
  intro j
  by_cases hj : j < n
  · rw [drop_take_get hj, drop_take_get hj, Array.getElem?_toList, Array.getElem?_toList, h _ (by omega) (by omega)]
  · rw [List.getElem?_eq_none (by simp; omega), List.getElem?_eq_none (by simp; omega)]

theorem CellsAt.frame {blk off : Nat} {l : List SV} {f : Bool} {S : Nat → Nat → Prop} (h : CellsAt ρ w blk off l f) (hf : Fr S w w') (hd : ∀ o, off ≤ o → o < off + l.length → ¬ S blk o) : CellsAt ρ w' blk off l f := by
  obtain ⟨c, t, fz, hb, ha, hr, hz, hs⟩ := h
  obtain ⟨c', hb', hs', hg⟩ := hf.blk _ _ hb
  refine ⟨c', t, fz, hb', ha, ?_, fun e => by have := hz e; unfold Unfz at *; rw [hs']; exact this, by rw [hs']; exact hs⟩
  rw [take_drop_eq hs' (fun j h1 h2 => hg j (hd j h1 h2))]
  exact hr

theorem BRel.frame {rb : RB} {b : SB} {S : Nat → Nat → Prop} (h : BRel ρ w rb b) (hf : Fr S w w') (hd : ∀ k o, foot rb b k o → ¬ S k o) : BRel ρ w' rb b := by
  cases b with
  | obj y => exact ORel.frame h hf (fun o => hd _ o rfl)
  | ro l => exact h.imp id fun h => ⟨h.1.frame hf fun o h1 h2 => hd _ _ ⟨rfl, h1, h2⟩, h.2⟩
  | box l => exact ⟨h.1.frame hf fun o h1 h2 => hd _ _ ⟨rfl, h1, h2⟩, h.2⟩
  | row t l =>
    rcases h with h | ⟨hv, c, fz, hb, hz, hs, ha, hr, hl⟩
    · exact .inl h
    · obtain ⟨c', hb', hs', hg⟩ := hf.blk _ _ hb
      refine .inr ⟨hv, c', fz, hb', by unfold Unfz at *; rw [hs']; exact hz, by rw [hs']; exact hs, ha, ?_, hl⟩
      rw [take_drop_eq hs' (fun j h1 h2 => hg j (hd _ _ ⟨hv, rfl, h1⟩))]
      exact hr

theorem BRel.foot_lt {rb : RB} {b : SB} (h : BRel ρ w rb b) {k o : Nat} (hk : foot rb b k o) : k < w.heap.size := by
  cases b with
  | obj y => rw [hk]; exact ORel.lt h
  | ro l =>
    rcases h with rfl | ⟨⟨c, t, fz, hb, _⟩, _⟩
    · have := hk.2; simp at this; omega
    · rw [hk.1]; exact (Array.getElem?_eq_some_iff.1 hb).1
  | box l => obtain ⟨⟨c, t, fz, hb, _⟩, _⟩ := h; rw [hk.1]; exact (Array.getElem?_eq_some_iff.1 hb).1
  | row t l =>
    rcases h with h | ⟨hv, c, fz, hb, _⟩
    · rw [hk.1] at h; cases h.1
    · rw [hk.2.1]; exact (Array.getElem?_eq_some_iff.1 hb).1

/-- What an operation has done, in a greater heap. -/
structure Evo (ρ : Ren) (H : Heap) (w : World) (ρ' : Ren) (H' : Heap) (w' : World) : Prop where
  ext : Ext ρ ρ'
  heap : HRel ρ' H' w'
  sep : Sep ρ' H'
  fr : Fr (Owned ρ H) w w'
  own : ∀ k o, Owned ρ' H' k o → Owned ρ H k o ∨ w.heap.size ≤ k

theorem Evo.refl (hh : HRel ρ H w) (hs : Sep ρ H) : Evo ρ H w ρ H w := ⟨Ext.refl _, hh, hs, Fr.refl _ _, fun _ _ h => .inl h⟩

theorem Evo.trans {ρ1 ρ2 ρ3 : Ren} {H1 H2 H3 : Heap} {w1 w2 w3 : World} (h : Evo ρ1 H1 w1 ρ2 H2 w2) (k : Evo ρ2 H2 w2 ρ3 H3 w3) : Evo ρ1 H1 w1 ρ3 H3 w3 :=
  ⟨h.ext.trans k.ext, k.heap, k.sep, h.fr.trans k.fr (fun x o hx ho => (h.own x o ho).resolve_right (by omega)),
   fun x o ho => (k.own x o ho).elim (fun h2 => h.own x o h2) (fun h2 => .inr (Nat.le_trans h.fr.size h2))⟩

theorem OwnW.owned {k o : Nat} (h : OwnW ρ H W k o) : Owned ρ H k o := by
  obtain ⟨id, ob, b, rb, _, h1, h2, h3, h4⟩ := h
  exact ⟨id, b, rb, h1, h2, h3, h4⟩

theorem Chg.evo {H0 : Heap} (h : Chg ρ H0 w W ρ' w') (hagree : ∀ id ob, (id, ob) ∈ W → H0 id = H id) (hh : HRel ρ H w) (hs : Sep ρ H) : Evo ρ H w ρ' (updW H W) w' := by
  have hO : ∀ k o, OwnW ρ H0 W k o → OwnW ρ H W k o := by
    rintro k o ⟨id, ob, b, rb, h1, h2, h3⟩
    exact ⟨id, ob, b, rb, h1, (hagree _ _ h1) ▸ h2, h3⟩
  have out : ∀ id b rb, W.lookup id = none → H id = some b → ρ id = some rb → ∀ k o, foot rb b k o → ¬ OwnW ρ H0 W k o := by
    rintro id b rb hl hb hr k o hf ho
    obtain ⟨id2, ob, b2, rb2, hm, h2, h3, h4, h5⟩ := hO k o ho
    have hne : id2 ≠ id := fun e => lookup_none hl ob (e ▸ hm)
    exact hs id2 id b2 b rb2 rb hne h2 hb h3 hr h4 k o ⟨h5, hf⟩
  refine ⟨h.ext, ?_, ?_, h.fr.mono (fun k o _ ho => (hO k o ho).owned), ?_⟩
  · intro id b hb
    simp only [updW] at hb
    split at hb
    · rename_i ob hl
      subst hb
      exact h.blks id b (mem_of_lookup hl)
    · rename_i hl
      obtain ⟨rb, hr, hbr⟩ := hh id b hb
      exact ⟨rb, h.ext _ _ hr, (hbr.frame h.fr (fun k o hf => out id b rb hl hb hr k o hf)).ext h.ext⟩
  · intro i j bi bj ri rj hne hi hj hri hrj hown k o ⟨hfi, hfj⟩
    simp only [updW] at hi hj
    split at hi
    · rename_i obi hli
      subst hi
      split at hj
      · rename_i obj hlj
        subst hj
        exact h.sep i j bi bj ri rj hne (mem_of_lookup hli) (mem_of_lookup hlj) hri hrj hown k o ⟨hfi, hfj⟩
      · rename_i hlj
        obtain ⟨rb, hr, hbr⟩ := hh j bj hj
        have e := h.ext _ _ hr
        rw [hrj] at e; cases e
        rcases h.feet i bi ri k o (mem_of_lookup hli) hri hfi with ho | ho
        · exact out j bj rj hlj hj hr k o hfj ho
        · exact absurd (hbr.foot_lt hfj) (by omega)
    · rename_i hli
      obtain ⟨rbi, hr, hbr⟩ := hh i bi hi
      have e := h.ext _ _ hr
      rw [hri] at e; cases e
      split at hj
      · rename_i obj hlj
        subst hj
        rcases h.feet j bj rj k o (mem_of_lookup hlj) hrj hfj with ho | ho
        · exact out i bi ri hli hi hr k o hfi ho
        · exact absurd (hbr.foot_lt hfi) (by omega)
      · obtain ⟨rbj, hr2, _⟩ := hh j bj hj
        have e2 := h.ext _ _ hr2
        rw [hrj] at e2; cases e2
        exact hs i j bi bj ri rj hne hi hj hr hr2 hown k o ⟨hfi, hfj⟩
  · rintro k o ⟨id, b, rb, hb, hr, hown, hf⟩
    simp only [updW] at hb
    split at hb
    · rename_i ob hl
      subst hb
      rcases h.feet id b rb k o (mem_of_lookup hl) hr hf with ho | ho
      · exact .inl (hO k o ho).owned
      · exact .inr ho
    · obtain ⟨rb2, hr2, _⟩ := hh id b hb
      have e2 := h.ext _ _ hr2
      rw [hr] at e2; cases e2
      exact .inl ⟨id, b, rb, hb, hr2, hown, hf⟩

/-! ### The kinds of changes -/

theorem Chg.zero (ρ : Ren) (H : Heap) (w : World) : Chg ρ H w [] ρ w :=
  ⟨Ext.refl _, fun _ _ h => .inl h, fun _ _ h => by simp at h, Fr.refl _ _, fun _ _ _ _ _ h => by simp at h, fun _ _ _ _ _ _ _ h => by simp at h⟩

theorem Chg.zero_drew (ρ : Ren) (H : Heap) (w : World) : Chg ρ H w [] ρ { w with drawn := w.drawn + 1 } :=
  ⟨Ext.refl _, fun _ _ h => .inl h, fun _ _ h => by simp at h, (Fr.refl _ _).drew, fun _ _ _ _ _ h => by simp at h, fun _ _ _ _ _ _ _ h => by simp at h⟩

def setR (ρ : Ren) (id : Nat) (rb : RB) : Ren := fun i => if i = id then some rb else ρ i
theorem setR_same (ρ : Ren) (id : Nat) (rb : RB) : setR ρ id rb id = some rb := by simp [setR]
theorem setR_other (ρ : Ren) {id i : Nat} (rb : RB) (h : i ≠ id) : setR ρ id rb i = ρ i := by simp [setR, h]
theorem Ext.setR {id : Nat} (rb : RB) (h : ρ id = none) : Ext ρ (setR ρ id rb) := fun i r hr => by
  rw [setR_other ρ rb (fun e => by rw [e, h] at hr; cases hr)]; exact hr

theorem alloc_heap_new (w : World) (o : Obj) : (w.alloc o).heap[w.heap.size]? = some o := by
  show (w.heap.push o)[w.heap.size]? = some o
  simp

/-- A new block (behind some draws: the worlds agree but for their count). -/
theorem Chg.new {nid : Nat} {b : SB} {rb : RB} {c : Array Value} {t : TypeId} {fz : Nat × Nat} (d : Nat) (hn : ρ nid = none) (hblk : rb.blk = w.heap.size)
    (hb : BRel ρ ({ (w.alloc (.cells c t fz)) with drawn := d }) rb b) : Chg ρ H w [(nid, some b)] (setR ρ nid rb) { (w.alloc (.cells c t fz)) with drawn := d } := by
  have he : Ext ρ (setR ρ nid rb) := Ext.setR rb hn
  refine ⟨he, ?_, ?_, ?_, ?_, ?_⟩
  · intro id r hr
    by_cases e : id = nid
    · subst e; exact .inr ⟨_, List.mem_singleton.2 rfl⟩
    · rw [setR_other ρ rb e] at hr; exact .inl hr
  · intro id x hx
    simp at hx
    obtain ⟨rfl, rfl⟩ := hx
    exact ⟨rb, setR_same _ _ _, hb.ext he⟩
  · have := Fr.alloc (OwnW ρ H [(nid, some b)]) w (.cells c t fz)
    exact ⟨this.os, this.tape, this.output, this.size, this.blk⟩
  · intro id x r k o hx hr hf
    simp at hx
    obtain ⟨rfl, rfl⟩ := hx
    rw [setR_same] at hr; cases hr
    right
    cases x <;> simp only [foot] at hf <;> omega
  · intro i j bi bj ri rj hne hi hj
    simp at hi hj
    exact absurd (hi.1.trans hj.1.symm) hne

/-- A block whose cells are written over, in place. -/
theorem Chg.put {id : Nat} {b b' : SB} {rb : RB} (hid : H id = some b) (hr : ρ id = some rb) (hown : b.own = true) (hfoot : ∀ k o, foot rb b' k o → foot rb b k o)
    (hb : BRel ρ w' rb b') (hf : Fr (fun k o => foot rb b k o) w w') : Chg ρ H w [(id, some b')] ρ w' := by
  have ho : ∀ k o, foot rb b k o → OwnW ρ H [(id, some b')] k o := fun k o h => ⟨id, _, b, rb, List.mem_singleton.2 rfl, hid, hr, hown, h⟩
  refine ⟨Ext.refl _, fun _ _ h => .inl h, ?_, hf.mono (fun k o _ h => ho k o h), ?_, ?_⟩
  · intro i x hx
    simp at hx
    obtain ⟨rfl, rfl⟩ := hx
    exact ⟨rb, hr, hb⟩
  · intro i x r k o hx hrr hff
    simp at hx
    obtain ⟨rfl, rfl⟩ := hx
    rw [hr] at hrr; cases hrr
    exact .inl (ho k o (hfoot k o hff))
  · intro i j bi bj ri rj hne hi hj
    simp at hi hj
    exact absurd (hi.1.trans hj.1.symm) hne

/-- A block goes over into another one, with what it owned (an append). -/
theorem Chg.move {id nid : Nat} {b b' : SB} {rb rb' : RB} (hne : id ≠ nid) (hid : H id = some b) (hr : ρ id = some rb) (hown : b.own = true) (hn : ρ nid = none)
    (hfoot : ∀ k o, foot rb' b' k o → foot rb b k o ∨ w.heap.size ≤ k) (hb : BRel ρ w' rb' b') (hf : Fr (fun k o => foot rb b k o) w w') :
    Chg ρ H w [(id, none), (nid, some b')] (setR ρ nid rb') w' := by
  have ho : ∀ k o, foot rb b k o → OwnW ρ H [(id, none), (nid, some b')] k o := fun k o h => ⟨id, none, b, rb, by simp, hid, hr, hown, h⟩
  have he : Ext ρ (setR ρ nid rb') := Ext.setR rb' hn
  refine ⟨he, ?_, ?_, hf.mono (fun k o _ h => ho k o h), ?_, ?_⟩
  · intro i r hrr
    by_cases e : i = nid
    · subst e; exact .inr ⟨some b', by simp⟩
    · rw [setR_other ρ rb' e] at hrr; exact .inl hrr
  · intro i x hx
    simp at hx
    obtain ⟨rfl, rfl⟩ := hx
    exact ⟨rb', setR_same _ _ _, hb.ext he⟩
  · intro i x r k o hx hrr hff
    simp at hx
    obtain ⟨rfl, rfl⟩ := hx
    rw [setR_same] at hrr; cases hrr
    exact (hfoot k o hff).imp (ho k o) (fun h => h)
  · intro i j bi bj ri rj hne hi hj
    simp at hi hj
    exact absurd (hi.1.trans hj.1.symm) hne

/-! ### An operation -/

def Fw (r : Option Nat) : Fence := { Fence.wide with round := r }

def evO (R : Env) : Operand → Option SV
  | .tmp t => R t
  | .const v => ofVal v
  | .func f => some (.fn f [])
  | .global _ => none

/-- The temporaries that an operation reads. -/
def readsOf (o : Oper) : List Nat := o.op.operands.toList.filterMap fun | .tmp t => some t | _ => none

def SepF (ρ : Ren) (H : Heap) (F : List Nat) : Prop := ∀ i ∈ F, ∀ j ∈ F, ∀ bi bj ri rj, i ≠ j → H i = some bi → H j = some bj → ρ i = some ri → ρ j = some rj → bi.own = true →
  ∀ k o, ¬ (foot ri bi k o ∧ foot rj bj k o)

def LT (P : Program) (o : Oper) (R : Env) (H : Heap) (F : List Nat) (W : Upd) (out : Option SV) : Prop :=
  ∀ (r : Option Nat) (n : Nat) (a : Act) (w : World) (ρ : Ren) (next : Act → World → Prop) (Q : Exit → Act → World → Prop),
    (∀ t ∈ readsOf o, ∀ v, R t = some v → Rel ρ v (a.tmps.getD t undef)) →
    (∀ id ∈ F, ∀ b, H id = some b → ∃ rb, ρ id = some rb ∧ BRel ρ w rb b) → SepF ρ H F →
    (∀ id ob, (id, ob) ∈ W → id ∉ F → ρ id = none) →
    (∀ rv w' ρ', Chg ρ H w W ρ' w' → (∀ v, out = some v → Rel ρ' v rv) → next (a.put o.dst rv) w') → o.wpIn (Fw r) n P a w next Q

theorem LT.of_run {o : Oper} {R : Env} {F : List Nat} {out : Option SV} (hd : ∀ c, o.op ≠ .defer c)
    (h : ∀ (e : Operand → Value) (w : World) (ρ : Ren), (∀ x ∈ o.op.operands, ∀ v, evO R x = some v → Rel ρ v (e x)) →
      (∀ id ∈ F, ∀ b, H id = some b → ∃ rb, ρ id = some rb ∧ BRel ρ w rb b) → SepF ρ H F → (∀ id ob, (id, ob) ∈ W → id ∉ F → ρ id = none) →
      ∃ x w' ρ', (execOp e o).run P w = .ok x w' ∧ Chg ρ H w W ρ' w' ∧ ((∃ rv, x = .value rv ∧ ∀ v, out = some v → Rel ρ' v rv) ∨ (x = .skip ∧ out = none))) :
    LT P o R H F W out := by
  intro r n a w ρ next Q hR hF hS hn hk
  refine ⟨fun _ _ => trivial, ?_⟩
  rw [Oper.semAt_eq _ _ _ hd]
  obtain ⟨x, w', ρ', hrun, hc, ho⟩ := h a.eval w ρ (fun x hx v hv => by
    cases x with
    | tmp t => exact hR t (by simp only [readsOf, List.mem_filterMap]; exact ⟨.tmp t, by simpa using hx, rfl⟩) v hv
    | const u => exact (ofVal_rel hv).1
    | func f => simp only [evO, Option.some.injEq] at hv; subst hv; simp only [Rel]; exact ⟨[], rfl, Rels.nil_iff.2 rfl⟩
    | global g => cases hv) hF hS hn
  rw [hrun]
  rcases ho with ⟨rv, rfl, hv⟩ | ⟨rfl, ho⟩
  · exact hk rv w' ρ' hc hv
  · exact hk undef w' ρ' hc (fun v hv => by rw [ho] at hv; cases hv)

/-- An operation that only reckons. -/
theorem LT.pure {o : Oper} {R : Env} {F : List Nat} {z : SV} (hd : ∀ c, o.op ≠ .defer c)
    (h : ∀ (e : Operand → Value) (w : World) (ρ : Ren), (∀ x ∈ o.op.operands, ∀ v, evO R x = some v → Rel ρ v (e x)) →
      (∀ id ∈ F, ∀ b, H id = some b → ∃ rb, ρ id = some rb ∧ BRel ρ w rb b) → ∃ rv, (execOp e o).run P w = .ok (.value rv) w ∧ Rel ρ z rv) :
    LT P o R H F [] (some z) :=
  LT.of_run hd fun e w ρ h1 h2 _ _ => by
    obtain ⟨rv, hr, hz⟩ := h e w ρ h1 h2
    exact ⟨_, w, ρ, hr, Chg.zero _ _ _, .inl ⟨rv, rfl, fun v hv => by cases hv; exact hz⟩⟩

end
end Go.Sh
