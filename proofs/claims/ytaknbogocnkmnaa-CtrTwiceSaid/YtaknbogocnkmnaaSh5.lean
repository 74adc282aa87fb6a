/- The operations, one by one: what each does to the shadow, and that the model's does so. -/
import Derived.Test.YtaknbogocnkmnaaSh4
import Derived.WalkLawsBesides
namespace Go.Sh
set_option linter.unusedSimpArgs false

def SB.cells : SB → List SV
  | .row _ l => l
  | .box l => l
  | .ro l => l
  | .obj _ => []

def SB.with (b : SB) (l : List SV) : SB :=
  match b with
  | .row t _ => .row t l
  | .box _ => .box l
  | .ro _ => .ro l
  | .obj y => .obj y

def SV.isTup : SV → Bool
  | .tup _ => true
  | _ => false
theorem SV.not_tup {x : SV} (h : x.isTup = false) : ∀ l, x ≠ .tup l := fun l e => by subst e; cases h

section
variable {P : Program} {ρ ρ' : Ren} {H : Heap} {w w' : World}

theorem BRel.cellsAt {rb : RB} {b : SB} (h : BRel ρ w rb b) (hne : 0 < b.cells.length) : CellsAt ρ w rb.blk rb.off b.cells b.own ∧ rb.virt = false := by
  cases b with
  | obj y => simp [SB.cells] at hne
  | ro l =>
    rcases h with rfl | h
    · simp [SB.cells] at hne
    · exact ⟨h.1, h.2.2⟩
  | box l => exact ⟨h.1, h.2.2⟩
  | row t l =>
    rcases h with ⟨_, rfl⟩ | ⟨hv, c, fz, hb, hz, hs, ha, hr, hl⟩
    · simp [SB.cells] at hne
    · exact ⟨⟨c, t, fz, hb, ha, hr, fun _ => hz, by simp only [SB.cells]; omega⟩, hv⟩

/-- A store into a block, cell by cell. -/
theorem BRel.put {rb : RB} {b : SB} {k : Nat} {x : SV} {v : Value} (h : BRel ρ w rb b) (hown : b.own = true) (hx : Rel ρ x v) (ht : ∀ l, x ≠ .tup l) (hk : k + x.cells.length ≤ b.cells.length) (hne : 0 < b.cells.length) :
    BRel ρ (World.putCells w rb.blk (rb.off + k) v.cells.toList) rb (b.with (sput b.cells k x)) ∧
      Fr (fun i o => foot rb b i o) w (World.putCells w rb.blk (rb.off + k) v.cells.toList) ∧ (∀ i o, foot rb (b.with (sput b.cells k x)) i o → foot rb b i o) := by
  have hvl : v.cells.toList.length = x.cells.length := (hx.cells_rel ht).1.length
  cases b with
  | obj y => simp [SB.cells] at hne
  | ro l => cases hown
  | box l =>
    obtain ⟨hc, hl, hv⟩ := h
    obtain ⟨h1, h2⟩ := hc.put hx ht hk
    refine ⟨⟨h1, by simp only [SB.cells]; omega, hv⟩, ?_, ?_⟩
    · obtain ⟨c, t, fz, hb, ha, hr, hz, hs⟩ := hc
      exact Fr.putCells _ _ _ _ _ hb (by simp [SB.cells] at hk; omega) (fun o h3 h4 => ⟨rfl, by simp [SB.cells] at hk; omega, by simp [SB.cells] at hk; omega⟩)
    · rintro i o ⟨h3, h4, h5⟩
      simp only [SB.with, SB.cells] at h5
      exact ⟨h3, h4, by rw [h2] at h5; exact h5⟩
  | row t l =>
    rcases h with ⟨_, rfl⟩ | ⟨hv, c, fz, hb, hz, hs, ha, hr, hl⟩
    · simp [SB.cells] at hne
    · have hc : CellsAt ρ w rb.blk rb.off l true := ⟨c, t, fz, hb, ha, hr, fun _ => hz, by omega⟩
      obtain ⟨⟨c', t', fz', hb', ha', hr', hz', hs'⟩, h2⟩ := hc.put hx ht hk
      have hb2 := World.putCells_heap w rb.blk (rb.off + k) v.cells.toList hb
      rw [hb2] at hb'; cases hb'
      simp only [SB.cells] at hk
      have hps : (putAt c (rb.off + k) v.cells.toList).size = c.size := putAt_size _ _ _ (by omega)
      refine ⟨.inr ⟨hv, _, _, hb2, hz' rfl, by rw [hps]; exact hs, ha', hr', by simp only [SB.cells]; omega⟩, ?_, fun i o h => h⟩
      exact Fr.putCells _ _ _ _ _ hb (by omega) (fun o h3 h4 => ⟨hv, rfl, by omega⟩)

/-! ### Loads, stores, new variables -/

theorem lt_move {o : Oper} {R : Env} {x : Operand} {z : SV} (ho : o.op = .move x ∨ o.op = .assign x) (hx : evO R x = some z) : LT P o R H [] [] (some z) := by
  refine LT.pure (by rcases ho with h | h <;> simp [h]) fun e w ρ h1 _ => ⟨e x, ?_, h1 x (by rcases ho with h | h <;> simp [h, Op.operands]) z hx⟩
  rcases ho with h | h <;> simp [execOp, h]

theorem lt_pick {o : Oper} {R : Env} {c x y : Operand} {t : Bool} {z : SV} (ho : o.op = .pick c x y) (hc : evO R c = some (.b t)) (hx : (if t then evO R x else evO R y) = some z) : LT P o R H [] [] (some z) := by
  refine LT.pure (by simp [ho]) fun e w ρ h1 _ => ?_
  have h2 := h1 c (by simp [ho, Op.operands]) _ hc
  simp only [Rel] at h2
  cases t
  · exact ⟨e y, by simp [execOp, ho, h2, asBool], h1 y (by simp [ho, Op.operands]) z (by simpa using hx)⟩
  · exact ⟨e x, by simp [execOp, ho, h2, asBool], h1 x (by simp [ho, Op.operands]) z (by simpa using hx)⟩

theorem run_newVar {t : TypeId} {v : Value} : (newVar t v).run P w = .ok ⟨w.heap.size, 0, none⟩ (w.alloc (.cells v.cells t)) := rfl

theorem alloc_drawn (w : World) (o : Obj) : ({ (w.alloc o) with drawn := w.drawn } : World) = w.alloc o := rfl

/-- A new variable. -/
theorem Chg.box {nid : Nat} {x : SV} {v : Value} {t : TypeId} (hn : ρ nid = none) (hx : Rel ρ x v) (ht : ∀ l, x ≠ .tup l) :
    Chg ρ H w [(nid, some (.box x.cells))] (setR ρ nid ⟨w.heap.size, 0, x.cells.length, false⟩) (w.alloc (.cells v.cells t)) := by
  obtain ⟨h1, h2⟩ := hx.cells_rel ht
  have hl := h1.length
  have := Chg.new (ρ := ρ) (H := H) (w := w) (nid := nid) (b := .box x.cells) (rb := ⟨w.heap.size, 0, x.cells.length, false⟩) (c := v.cells) (t := t) (fz := (0, 0)) w.drawn hn rfl
    ⟨⟨v.cells, t, (0, 0), alloc_heap_new w _, h2, by simp only [List.drop_zero]; rw [List.take_of_length_le (by omega)]; exact h1, fun _ => .inl rfl, by simp only [Array.length_toList] at hl; simp only; omega⟩, Nat.le_refl _, rfl⟩
  exact this

theorem lt_box {o : Oper} {R : Env} {x : Operand} {t nid : Nat} {z : SV} (ho : o.op = .box t x) (hx : evO R x = some z) (ht : z.isTup = false) : LT P o R H [] [(nid, some (.box z.cells))] (some (.p nid 0)) := by
  refine LT.of_run (by simp [ho]) fun e w ρ h1 _ _ hn => ?_
  have h2 := h1 x (by simp [ho, Op.operands]) _ hx
  refine ⟨.value (.pointer (some ⟨w.heap.size, 0, none⟩)), w.alloc (.cells (e x).cells t), _, by simp only [execOp, ho, Instr.box, Sem.run_bind, run_newVar, Result.andThen_ok, Sem.run_pure], Chg.box (hn nid (some (.box z.cells)) (by simp) (by simp)) h2 (SV.not_tup ht), .inl ⟨_, rfl, ?_⟩⟩
  intro v hv; cases hv
  simp only [Rel]
  exact ⟨_, setR_same _ _ _, rfl⟩

theorem lt_alloc {o : Oper} {R : Env} {t nid : Nat} {z : SV} (ho : o.op = .alloc t) (hz : pzero P t = some z) : LT P o R H [] [(nid, some (.box z.cells))] (some (.p nid 0)) := by
  refine LT.of_run (by simp [ho]) fun e w ρ _ _ _ hn => ?_
  obtain ⟨v, hv, hr, ht⟩ := run_zero (P := P) (w := w) hz
  refine ⟨.value (.pointer (some ⟨w.heap.size, 0, none⟩)), w.alloc (.cells v.cells t), _, by simp only [execOp, ho, Instr.alloc, Sem.run_bind, hv, run_newVar, Result.andThen_ok, Sem.run_pure], Chg.box (hn nid (some (.box z.cells)) (by simp) (by simp)) (hr ρ) ht, .inl ⟨_, rfl, ?_⟩⟩
  intro v hv; cases hv
  simp only [Rel]
  exact ⟨_, setR_same _ _ _, rfl⟩

theorem sload_pos {g : Bool} {sz : Nat} {l : List SV} {k : Nat} {x : SV} (h : sload g sz l k = some x) (hsz : 0 < sz) : 0 < l.length := by
  unfold sload at h
  split at h
  · split at h
    · omega
    · cases h
  · have := (List.getElem?_eq_some_iff.1 h).1; omega

theorem lt_load {o : Oper} {R : Env} {x : Operand} {t id k sz : Nat} {g : Bool} {b : SB} {z : SV} (ho : o.op = .load t x) (hx : evO R x = some (.p id k)) (hb : H id = some b)
    (hg : pagg P t = some g) (hs : psz P t = some sz) (hsz : 0 < sz) (hz : sload g sz b.cells k = some z) : LT P o R H [id] [] (some z) := by
  refine LT.pure (by simp [ho]) fun e w ρ h1 h2 => ?_
  have h3 := h1 x (by simp [ho, Op.operands]) _ hx
  simp only [Rel] at h3
  obtain ⟨rb, hr, he⟩ := h3
  obtain ⟨rb', hr', hbr⟩ := h2 id (by simp) b hb
  rw [hr] at hr'; cases hr'
  obtain ⟨v, hv, hzv⟩ := load_ok hg hs (hbr.cellsAt (sload_pos hz hsz)).1 hz
  exact ⟨v, by simp only [execOp, ho, he, Instr.loadAt, Instr.sureAddr, Sem.run_bind, Sem.run_pure, Result.andThen_ok, hv], hzv⟩

theorem lt_store {o : Oper} {R : Env} {x y : Operand} {t id k sz : Nat} {b : SB} {z : SV} (ho : o.op = .store t x y) (hx : evO R x = some (.p id k)) (hy : evO R y = some z) (hb : H id = some b)
    (hown : b.own = true) (hs : psz P t = some sz) (hsz : 0 < sz) (ht : z.isTup = false) (hzs : z.cells.length = sz) (hk : k + sz ≤ b.cells.length) :
    LT P o R H [id] [(id, some (b.with (sput b.cells k z)))] none := by
  refine LT.of_run (by simp [ho]) fun e w ρ h1 h2 _ _ => ?_
  have h3 := h1 x (by simp [ho, Op.operands]) _ hx
  have h4 := h1 y (by simp [ho, Op.operands]) _ hy
  simp only [Rel] at h3
  obtain ⟨rb, hr, he⟩ := h3
  obtain ⟨rb', hr', hbr⟩ := h2 id (by simp) b hb
  rw [hr] at hr'; cases hr'
  obtain ⟨hc, _⟩ := hbr.cellsAt (by omega)
  rw [hown] at hc
  have hrun := store_ok (P := P) hs hc h4 (SV.not_tup ht) hzs hk
  obtain ⟨p1, p2, p3⟩ := hbr.put (k := k) hown h4 (SV.not_tup ht) (by omega) (by omega)
  exact ⟨.skip, _, ρ, by simp only [execOp, ho, he, Instr.storeAt, Instr.sureAddr, Sem.run_bind, Sem.run_pure, Result.andThen_ok, hrun], Chg.put hb hr hown p3 p1 p2, .inr ⟨rfl, rfl⟩⟩

/-! ### Numbers -/

theorem run_eqGuard {op : BinOp} {t : TypeId} {x y : Operand} {a b : Value} (ha : ∀ c, a ≠ .agg c) (hi : a ≠ .nilIface) : (eqGuard op t x y a b).run P w = .ok () w := by
  cases a <;> first
    | exact absurd rfl (ha _)
    | exact absurd rfl hi
    | (cases op <;> simp [eqGuard])

theorem Rel.plain {x : SV} {v : Value} (h : ∀ l, x ≠ .agg l) (hx : Rel ρ x v) : (∀ c, v ≠ .agg c) ∧ v ≠ .nilIface := by
  cases x <;> simp only [Rel] at hx <;> first
    | exact absurd rfl (h _)
    | (subst hx; exact ⟨fun c => by simp, by simp⟩)
    | (obtain ⟨_, _, rfl⟩ := hx; exact ⟨fun c => by simp, by simp⟩)
    | (obtain ⟨_, rfl, _⟩ := hx; exact ⟨fun c => by simp, by simp⟩)
    | (obtain ⟨_, _, _, _, rfl, _⟩ := hx; exact ⟨fun c => by simp, by simp⟩)

theorem snum_plain {op : BinOp} {x y z : SV} (h : snum op x y = some z) : ∀ l, x ≠ .agg l := by
  intro l e
  subst e
  cases op <;> simp only [snum] at h <;> first
    | (obtain ⟨n, _, hs⟩ := Option.bind_eq_some_iff.1 h; simp only [sshl, sshr] at hs; cases hs; done)
    | (cases y <;> simp only [sarith] at h <;> cases h)

theorem sarith_num {op : BinOp} {x y z : SV} {v : Value} (h : snum op x y = some z) (hx : Rel ρ x v) : (∀ c, v ≠ .agg c) ∧ v ≠ .nilIface := Rel.plain (snum_plain h) hx

theorem lt_num {o : Oper} {R : Env} {op : BinOp} {t t2 : TypeId} {x y : Operand} {a b z : SV} (ho : o.op = .binOp op t x y t2) (hx : evO R x = some a) (hy : evO R y = some b) (hz : snum op a b = some z) :
    LT P o R H [] [] (some z) := by
  refine LT.pure (by simp [ho]) fun e w ρ h1 _ => ?_
  have h2 := h1 x (by simp [ho, Op.operands]) _ hx
  have h3 := h1 y (by simp [ho, Op.operands]) _ hy
  obtain ⟨r, hr, hrel⟩ := snum_ok (P := P) (w := w) t hz h2 h3
  obtain ⟨g1, g2⟩ := sarith_num hz h2
  exact ⟨r, by simp only [execOp, ho, Sem.run_bind, run_eqGuard g1 g2, Result.andThen_ok, hr, Sem.run_pure], hrel⟩

theorem lt_un {o : Oper} {R : Env} {op : UnOp} {t : TypeId} {x : Operand} {a z : SV} (ho : o.op = .unOp op t x) (hx : evO R x = some a) (hz : sun op a = some z) : LT P o R H [] [] (some z) := by
  refine LT.pure (by simp [ho]) fun e w ρ h1 _ => ?_
  have h2 := h1 x (by simp [ho, Op.operands]) _ hx
  obtain ⟨r, hr, hrel⟩ := sun_ok (P := P) (w := w) hz h2
  exact ⟨r, by simp only [execOp, ho, Sem.run_bind, Result.andThen_ok, hr, Sem.run_pure], hrel⟩

theorem lt_conv {o : Oper} {R : Env} {s d : TypeId} {k : IntKind} {x : Operand} {a z : SV} {ds : TypeDesc} (ho : o.op = .convert s d x) (hs : P.underlying s = some ds) (hd : P.underlying d = some (.int k))
    (hx : evO R x = some a) (hz : sconv k a = some z) : LT P o R H [] [] (some z) := by
  refine LT.pure (by simp [ho]) fun e w ρ h1 _ => ?_
  have h2 := h1 x (by simp [ho, Op.operands]) _ hx
  obtain ⟨k', n, he, hrel⟩ := sconv_num hz h2
  exact ⟨_, by simp only [execOp, ho, he, convert, Sem.run_bind, run_und hs, run_und hd, Result.andThen_ok, Conv.intToInt, Sem.run_pure], hrel⟩

/-- A string of one kind as one of another. -/
theorem lt_conv_str {o : Oper} {R : Env} {s d : TypeId} {x : Operand} {l : List UInt8} {ds : TypeDesc} (ho : o.op = .convert s d x) (hs : P.underlying s = some ds) (hd : P.underlying d = some .string)
    (hx : evO R x = some (.s l)) : LT P o R H [] [] (some (.s l)) := by
  refine LT.pure (by simp [ho]) fun e w ρ h1 _ => ?_
  have h2 := h1 x (by simp [ho, Op.operands]) _ hx
  simp only [Rel] at h2
  refine ⟨_, ?_, by simp only [Rel]; rfl⟩
  simp only [execOp, ho, h2, convert, Sem.run_bind, run_und hs, run_und hd, Result.andThen_ok]
  cases ds <;> rfl

/-! ### Addresses -/

def pfield (P : Program) (t f : Nat) : Option (Nat × Nat) :=
  match P.underlying t with
  | some (.struct fs) => (fs[f]?).map fun x => (x.offset, x.type)
  | _ => none

theorem lt_fieldAddr {o : Oper} {R : Env} {x : Operand} {t f id k off ft sz : Nat} (ho : o.op = .fieldAddr t x f) (hx : evO R x = some (.p id k)) (hf : pfield P t f = some (off, ft)) (hs : psz P ft = some sz) (hsz : 0 < sz) :
    LT P o R H [] [] (some (.p id (k + off))) := by
  refine LT.pure (by simp [ho]) fun e w ρ h1 _ => ?_
  have h3 := h1 x (by simp [ho, Op.operands]) _ hx
  simp only [Rel] at h3
  obtain ⟨rb, hr, he⟩ := h3
  unfold pfield at hf
  split at hf
  · rename_i fs hu
    obtain ⟨fd, hfd, e2⟩ := Option.map_eq_some_iff.1 hf
    cases e2
    refine ⟨.pointer (some ⟨rb.blk, rb.off + k + fd.offset, none⟩), ?_, by simp only [Rel]; exact ⟨rb, hr, by rw [Nat.add_assoc]⟩⟩
    simp only [execOp, ho, he, Instr.fieldAt, Sem.run_bind, run_und hu, Result.andThen_ok, hfd, Instr.sureAddr, Sem.run_pure, fieldPlace, run_size hs]
    rw [if_neg (by omega), Sem.run_pure, Result.andThen_ok, add_addr, Result.andThen_ok]
  · cases hf

theorem lt_index_arr {o : Oper} {R : Env} {x y : Operand} {t id k len el sz : Nat} {i : Int} (ho : o.op = .indexAddr t x y) (hx : evO R x = some (.p id k)) (hy : evO R y = some (.i i)) (hu : P.underlying t = some (.array len el))
    (hs : psz P el = some sz) (h0 : 0 ≤ i) (hlt : i < len) : LT P o R H [] [] (some (.p id (k + i.toNat * sz))) := by
  refine LT.pure (by simp [ho]) fun e w ρ h1 _ => ?_
  have h3 := h1 x (by simp [ho, Op.operands]) _ hx
  have h4 := h1 y (by simp [ho, Op.operands]) _ hy
  simp only [Rel] at h3 h4
  obtain ⟨rb, hr, he⟩ := h3
  refine ⟨.pointer (some ⟨rb.blk, rb.off + k + i.toNat * sz, none⟩), ?_, by simp only [Rel]; exact ⟨rb, hr, by rw [Nat.add_assoc]⟩⟩
  simp only [execOp, ho, he, h4, Instr.indexAt, asIntOf, Sem.run_bind, run_und hu, Result.andThen_ok, Instr.sureAddr, Sem.run_pure, h0, hlt, and_self, if_true, run_size hs, add_addr]

theorem lt_index_arr8 {o : Oper} {R : Env} {x y : Operand} {t id k len el sz : Nat} {i : UInt8} (ho : o.op = .indexAddr t x y) (hx : evO R x = some (.p id k)) (hy : evO R y = some (.u8 i)) (hu : P.underlying t = some (.array len el))
    (hs : psz P el = some sz) (hlt : i.toNat < len) : LT P o R H [] [] (some (.p id (k + i.toNat * sz))) := by
  refine LT.pure (by simp [ho]) fun e w ρ h1 _ => ?_
  have h3 := h1 x (by simp [ho, Op.operands]) _ hx
  have h4 := h1 y (by simp [ho, Op.operands]) _ hy
  simp only [Rel] at h3 h4
  obtain ⟨rb, hr, he⟩ := h3
  have h0 : (0 : Int) ≤ (i.toNat : Int) := Int.natCast_nonneg _
  have hlt' : ((i.toNat : Nat) : Int) < (len : Int) := by omega
  refine ⟨.pointer (some ⟨rb.blk, rb.off + k + i.toNat * sz, none⟩), ?_, by simp only [Rel]; exact ⟨rb, hr, by rw [Nat.add_assoc]⟩⟩
  simp only [execOp, ho, he, h4, Instr.indexAt, asIntOf, Sem.run_bind, run_und hu, Result.andThen_ok, Instr.sureAddr, Sem.run_pure, h0, hlt', and_self, if_true, run_size hs, add_addr, Int.toNat_natCast]

theorem slice_addr {id o n sz : Nat} {full : Bool} {v : Value} (h : Rel ρ (.sl id o n sz full) v) (hn : 0 < n) : ∃ rb c, ρ id = some rb ∧ v = .slice (some ⟨rb.blk, rb.off + o, none⟩) n c ∧ n ≤ c ∧ (full = true → c = n) ∧ rb.virt = false ∧ o + c * sz ≤ rb.cap := by
  simp only [Rel] at h
  obtain ⟨rb, a, c, hr, rfl, hc, hf, h0 | ⟨hv, rfl, hcap⟩⟩ := h
  · omega
  · exact ⟨rb, c, hr, rfl, hc, hf, hv, hcap⟩

def idxOf : SV → Option Nat
  | .i n => if 0 ≤ n then some n.toNat else none
  | .u8 x => some x.toNat
  | .u64 x => some x.toNat
  | .u32 x => some x.toNat
  | _ => none
theorem idxOf_spec {x : SV} {n : Nat} {v : Value} (h : idxOf x = some n) (hx : Rel ρ x v) : ∃ k, v = .int k (n : Int) := by
  cases x <;> simp only [idxOf, Rel] at h hx <;> try (cases h; done)
  · split at h
    · cases h; exact ⟨_, by rw [hx]; congr 1; omega⟩
    · cases h
  all_goals (cases h; exact ⟨_, hx⟩)

theorem lt_index_arrU {o : Oper} {R : Env} {x y : Operand} {t id k len el sz i : Nat} {z : SV} (ho : o.op = .indexAddr t x y) (hx : evO R x = some (.p id k)) (hy : evO R y = some z) (hi : idxOf z = some i) (hu : P.underlying t = some (.array len el))
    (hs : psz P el = some sz) (hlt : i < len) : LT P o R H [] [] (some (.p id (k + i * sz))) := by
  refine LT.pure (by simp [ho]) fun e w ρ h1 _ => ?_
  have h3 := h1 x (by simp [ho, Op.operands]) _ hx
  obtain ⟨kk, h4⟩ := idxOf_spec hi (h1 y (by simp [ho, Op.operands]) _ hy)
  simp only [Rel] at h3
  obtain ⟨rb, hr, he⟩ := h3
  have h0 : (0 : Int) ≤ (i : Int) := Int.natCast_nonneg _
  have hlt' : (i : Int) < (len : Int) := by omega
  refine ⟨.pointer (some ⟨rb.blk, rb.off + k + i * sz, none⟩), ?_, by simp only [Rel]; exact ⟨rb, hr, by rw [Nat.add_assoc]⟩⟩
  simp only [execOp, ho, he, h4, Instr.indexAt, asIntOf, Sem.run_bind, run_und hu, Result.andThen_ok, Instr.sureAddr, Sem.run_pure, h0, hlt', and_self, if_true, run_size hs, add_addr, Int.toNat_natCast]

theorem lt_index_sl {o : Oper} {R : Env} {x y : Operand} {t id k n sz el i : Nat} {full : Bool} {z : SV} (ho : o.op = .indexAddr t x y) (hx : evO R x = some (.sl id k n sz full)) (hy : evO R y = some z) (hi : idxOf z = some i)
    (hu : P.underlying t = some (.slice el)) (hs : psz P el = some sz) (hlt : i < n) : LT P o R H [] [] (some (.p id (k + i * sz))) := by
  refine LT.pure (by simp [ho]) fun e w ρ h1 _ => ?_
  obtain ⟨rb, c, hr, he, _⟩ := slice_addr (h1 x (by simp [ho, Op.operands]) _ hx) (by omega)
  obtain ⟨kk, h4⟩ := idxOf_spec hi (h1 y (by simp [ho, Op.operands]) _ hy)
  have h0 : (0 : Int) ≤ (i : Int) := Int.natCast_nonneg _
  have hlt' : (i : Int) < (n : Int) := by omega
  refine ⟨.pointer (some ⟨rb.blk, rb.off + k + i * sz, none⟩), ?_, by simp only [Rel]; exact ⟨rb, hr, by rw [Nat.add_assoc]⟩⟩
  simp only [execOp, ho, he, h4, Instr.indexAt, asIntOf, Sem.run_bind, run_und hu, Result.andThen_ok, Sem.run_pure, h0, hlt', and_self, if_true, run_size hs, add_addr, Int.toNat_natCast]

/-- An element of an array by value. -/
theorem lt_index_agg {o : Oper} {R : Env} {x y : Operand} {t len el sz i : Nat} {g : Bool} {l : List SV} {z r : SV} (ho : o.op = .index t x y) (hx : evO R x = some (.agg l)) (hy : evO R y = some z) (hi : idxOf z = some i)
    (hu : P.underlying t = some (.array len el)) (hg : pagg P el = some g) (hs : psz P el = some sz) (hlt : i < len) (hz : sload g sz l (i * sz) = some r) : LT P o R H [] [] (some r) := by
  refine LT.pure (by simp [ho]) fun e w ρ h1 _ => ?_
  have h3 := h1 x (by simp [ho, Op.operands]) _ hx
  simp only [Rel] at h3
  obtain ⟨cs, he, ha, hr⟩ := h3
  obtain ⟨kk, h4⟩ := idxOf_spec hi (h1 y (by simp [ho, Op.operands]) _ hy)
  have h0 : (0 : Int) ≤ (i : Int) := Int.natCast_nonneg _
  have hlt' : (i : Int) < (len : Int) := by omega
  have key : ∃ v, (part el ⟨cs⟩ (i * sz)).run P w = .ok v w ∧ Rel ρ r v := by
    unfold sload at hz
    unfold part
    rw [Sem.run_bind, run_agg hg, Result.andThen_ok]
    cases g with
    | true =>
      simp only [if_true] at hz ⊢
      split at hz
      · cases hz
        refine ⟨_, by rw [Sem.run_bind, run_size hs, Result.andThen_ok, Sem.run_pure], ?_⟩
        simp only [Rel]
        refine ⟨(cs.drop (i * sz)).take sz, ?_, ?_, (hr.drop _).take _⟩
        · congr 1
          apply Array.toList_inj.1
          simp [List.extract_eq_take_drop]
        · simp only [atoms, List.all_eq_true] at ha ⊢
          exact fun y hy => ha y (List.mem_of_mem_drop (List.mem_of_mem_take hy))
      · cases hz
    | false =>
      simp only [Bool.false_eq_true, if_false] at hz ⊢
      obtain ⟨v, hv, hxv⟩ := hr.get hz
      refine ⟨v, ?_, hxv⟩
      have : (⟨cs⟩ : Array Value)[i * sz]? = some v := by simpa using hv
      rw [this]; rfl
  obtain ⟨v, hv, hrv⟩ := key
  refine ⟨v, ?_, hrv⟩
  simp only [execOp, ho, he, h4, Instr.index, asIntOf, Sem.run_bind, run_und hu, Result.andThen_ok, Sem.run_pure, h0, hlt', and_self, if_true, run_size hs, Int.toNat_natCast, hv]

theorem lt_index_str {o : Oper} {R : Env} {x y : Operand} {t i : Nat} {l : List UInt8} {z : SV} {c : UInt8} (ho : o.op = .index t x y) (hx : evO R x = some (.s l)) (hy : evO R y = some z) (hi : idxOf z = some i)
    (hu : P.underlying t = some .string) (hz : l[i]? = some c) : LT P o R H [] [] (some (.u8 c)) := by
  refine LT.pure (by simp [ho]) fun e w ρ h1 _ => ?_
  have h3 := h1 x (by simp [ho, Op.operands]) _ hx
  simp only [Rel] at h3
  obtain ⟨kk, h4⟩ := idxOf_spec hi (h1 y (by simp [ho, Op.operands]) _ hy)
  have h0 : (0 : Int) ≤ (i : Int) := Int.natCast_nonneg _
  have hb : (⟨⟨l⟩⟩ : ByteArray)[i]? = some c := by
    have hlt : i < l.length := (List.getElem?_eq_some_iff.1 hz).1
    have hg := (List.getElem?_eq_some_iff.1 hz).2
    rw [getElem?_pos (⟨⟨l⟩⟩ : ByteArray) i hlt]
    exact congrArg some hg
  refine ⟨_, ?_, by simp only [Rel]; rfl⟩
  simp only [execOp, ho, h3, h4, Instr.index, asIntOf, Sem.run_bind, run_und hu, Result.andThen_ok, Sem.run_pure, h0, if_true, Int.toNat_natCast, hb]

theorem lt_extract {o : Oper} {R : Env} {x : Operand} {i : Nat} {l : List SV} {z : SV} (ho : o.op = .extract x i) (hx : evO R x = some (.tup l)) (hz : l[i]? = some z) : LT P o R H [] [] (some z) := by
  refine LT.pure (by simp [ho]) fun e w ρ h1 _ => ?_
  have h3 := h1 x (by simp [ho, Op.operands]) _ hx
  simp only [Rel] at h3
  obtain ⟨cs, he, hr⟩ := h3
  obtain ⟨v, hv, hzv⟩ := hr.get hz
  have : (⟨cs⟩ : Array Value)[i]? = some v := by simpa using hv
  exact ⟨v, by simp only [execOp, ho, he, Instr.extract, this, Sem.run_bind, Sem.run_pure, Result.andThen_ok], hzv⟩

theorem lt_nilCheck {o : Oper} {R : Env} {x : Operand} {id k : Nat} (ho : o.op = .nilCheck x) (hx : evO R x = some (.p id k)) : LT P o R H [] [] (some (.p id k)) := by
  refine LT.pure (by simp [ho]) fun e w ρ h1 _ => ?_
  have h3 := h1 x (by simp [ho, Op.operands]) _ hx
  have h4 := h3
  simp only [Rel] at h3
  obtain ⟨rb, hr, he⟩ := h3
  exact ⟨e x, by simp only [execOp, ho, he, Sem.run_pure], h4⟩

theorem lt_makeFunc {o : Oper} {R : Env} {f : Nat} {xs : Array Operand} {zs : List SV} (ho : o.op = .makeFunc (.func f) #[] xs) (hx : xs.toList.map (evO R) = zs.map some) : LT P o R H [] [] (some (.fn f zs)) := by
  refine LT.pure (by simp [ho]) fun e w ρ h1 _ => ?_
  refine ⟨.func (.func f) #[] (xs.map e), by simp only [execOp, ho, Instr.makeFunc, Array.map_empty, Sem.run_bind, Sem.run_pure, Result.andThen_ok], ?_⟩
  simp only [Rel]
  refine ⟨(xs.map e).toList, rfl, ?_⟩
  rw [Array.toList_map]
  have h2 : ∀ x ∈ xs.toList, ∀ v, evO R x = some v → Rel ρ v (e x) := fun x hx => h1 x (by simpa [ho, Op.operands] using hx)
  clear h1 ho
  generalize xs.toList = ys at hx h2
  induction ys generalizing zs with
  | nil => cases zs <;> simp at hx; exact Rels.nil_iff.2 rfl
  | cons y ys ih =>
    cases zs with
    | nil => simp at hx
    | cons z zs =>
      simp at hx
      exact Rels.cons (h2 y (by simp) z hx.1) (ih hx.2 (fun x hx => h2 x (by simp [hx])))

theorem lt_arrayAt {o : Oper} {R : Env} {x : Operand} {t id k n sz len el : Nat} {full : Bool} (ho : o.op = .sliceToArrayPointer t x) (hx : evO R x = some (.sl id k n sz full)) (hu : P.underlying t = some (.array len el)) (h0 : 0 < len) (hn : len ≤ n) :
    LT P o R H [] [] (some (.p id k)) := by
  refine LT.pure (by simp [ho]) fun e w ρ h1 _ => ?_
  obtain ⟨rb, c, hr, he, _⟩ := slice_addr (h1 x (by simp [ho, Op.operands]) _ hx) (by omega)
  refine ⟨.pointer (some ⟨rb.blk, rb.off + k, none⟩), ?_, by simp only [Rel]; exact ⟨rb, hr, rfl⟩⟩
  simp only [execOp, ho, he, Instr.arrayAt, Sem.run_bind, run_und hu, Result.andThen_ok]
  rw [if_neg (by omega), Sem.run_pure, Result.andThen_ok, Sem.run_pure]

/-! ### Lengths -/

theorem lt_len_sl {o : Oper} {R : Env} {x : Operand} {t id k n sz el : Nat} {full : Bool} (ho : o.op = .call { callee := .builtin .len, args := #[x], argTypes := #[t] }) (hx : evO R x = some (.sl id k n sz full)) (hu : P.underlying t = some (.slice el)) :
    LT P o R H [] [] (some (.i (n : Int))) := by
  refine LT.pure (by simp [ho]) fun e w ρ h1 _ => ?_
  have h3 := h1 x (by simp [ho, Op.operands, Call.operands]) _ hx
  simp only [Rel] at h3
  obtain ⟨rb, a, c, hr, he, _⟩ := h3
  exact ⟨_, by simp [execOp, ho, resolve, invoke, builtin, Builtin.len_, he, run_und hu, goInt]; rfl, by simp only [Rel]⟩

theorem lt_len_nil {o : Oper} {R : Env} {x : Operand} {t el : Nat} (ho : o.op = .call { callee := .builtin .len, args := #[x], argTypes := #[t] }) (hx : evO R x = some .slnil) (hu : P.underlying t = some (.slice el)) :
    LT P o R H [] [] (some (.i 0)) := by
  refine LT.pure (by simp [ho]) fun e w ρ h1 _ => ?_
  have h3 := h1 x (by simp [ho, Op.operands, Call.operands]) _ hx
  simp only [Rel] at h3
  exact ⟨_, by simp [execOp, ho, resolve, invoke, builtin, Builtin.len_, h3, run_und hu, goInt]; rfl, by simp only [Rel]⟩

theorem lt_len_str {o : Oper} {R : Env} {x : Operand} {t : Nat} {l : List UInt8} (ho : o.op = .call { callee := .builtin .len, args := #[x], argTypes := #[t] }) (hx : evO R x = some (.s l)) (hu : P.underlying t = some .string) :
    LT P o R H [] [] (some (.i (l.length : Int))) := by
  refine LT.pure (by simp [ho]) fun e w ρ h1 _ => ?_
  have h3 := h1 x (by simp [ho, Op.operands, Call.operands]) _ hx
  simp only [Rel] at h3
  exact ⟨_, by simp [execOp, ho, resolve, invoke, builtin, Builtin.len_, h3, run_und hu, goInt]; rfl, by simp only [Rel]; rfl⟩

theorem lt_len_arr {o : Oper} {R : Env} {x : Operand} {t n el : Nat} (ho : o.op = .call { callee := .builtin .len, args := #[x], argTypes := #[t] }) (hu : P.underlying t = some (.array n el)) :
    LT P o R H [] [] (some (.i (n : Int))) := by
  refine LT.pure (by simp [ho]) fun e w ρ h1 _ => ?_
  refine ⟨.int .i64 n, ?_, by simp only [Rel]⟩
  simp [execOp, ho, resolve, invoke, builtin, Builtin.len_, run_und hu, goInt]

theorem lt_min {o : Oper} {R : Env} {x y : Operand} {t1 t2 : Nat} {a b : Int} (ho : o.op = .call { callee := .builtin .min, args := #[x, y], argTypes := #[t1, t2] }) (hx : evO R x = some (.i a)) (hy : evO R y = some (.i b)) :
    LT P o R H [] [] (some (.i (if b < a then b else a))) := by
  refine LT.pure (by simp [ho]) fun e w ρ h1 _ => ?_
  have h3 := h1 x (by simp [ho, Op.operands, Call.operands]) _ hx
  have h4 := h1 y (by simp [ho, Op.operands, Call.operands]) _ hy
  simp only [Rel] at h3 h4
  refine ⟨_, ?_, by simp only [Rel]; rfl⟩
  simp [execOp, ho, resolve, invoke, builtin, Builtin.min_, Builtin.min2, h3, h4]

theorem lt_max {o : Oper} {R : Env} {x y : Operand} {t1 t2 : Nat} {a b : Int} (ho : o.op = .call { callee := .builtin .max, args := #[x, y], argTypes := #[t1, t2] }) (hx : evO R x = some (.i a)) (hy : evO R y = some (.i b)) :
    LT P o R H [] [] (some (.i (if b > a then b else a))) := by
  refine LT.pure (by simp [ho]) fun e w ρ h1 _ => ?_
  have h3 := h1 x (by simp [ho, Op.operands, Call.operands]) _ hx
  have h4 := h1 y (by simp [ho, Op.operands, Call.operands]) _ hy
  simp only [Rel] at h3 h4
  refine ⟨_, ?_, by simp only [Rel]; rfl⟩
  simp [execOp, ho, resolve, invoke, builtin, Builtin.max_, Builtin.max2, h3, h4]
end
end Go.Sh
