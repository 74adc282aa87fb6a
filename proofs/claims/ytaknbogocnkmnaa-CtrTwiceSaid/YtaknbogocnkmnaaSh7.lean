/- append, copy, clear; bytes to strings and back. -/
import Derived.Test.YtaknbogocnkmnaaSh6
namespace Go.Sh
set_option linter.unusedSimpArgs false

section
variable {P : Program} {ρ ρ' : Ren} {H : Heap} {w w' : World}

theorem Chg.virtual {nid : Nat} {t : TypeId} (hn : ρ nid = none) : Chg ρ H w [(nid, some (.row t []))] (setR ρ nid ⟨0, 0, 0, true⟩) w := by
  have he : Ext ρ (setR ρ nid ⟨0, 0, 0, true⟩) := Ext.setR _ hn
  refine ⟨he, ?_, ?_, Fr.refl _ _, ?_, ?_⟩
  · intro id r hr
    by_cases e : id = nid
    · subst e; exact .inr ⟨_, List.mem_singleton.2 rfl⟩
    · rw [setR_other ρ _ e] at hr; exact .inl hr
  · intro id x hx
    simp at hx
    obtain ⟨rfl, rfl⟩ := hx
    exact ⟨_, setR_same _ _ _, .inl ⟨rfl, rfl⟩⟩
  · intro id x r k o hx hr hf
    simp at hx
    obtain ⟨rfl, rfl⟩ := hx
    rw [setR_same] at hr; cases hr
    simp [foot] at hf
  · intro i j bi bj ri rj hne hi hj
    simp at hi hj
    exact absurd (hi.1.trans hj.1.symm) hne

theorem run_len_slice {a : Option Addr} {n c : Nat} : (Builtin.lenOf (.slice a n c)).run P w = .ok n w := rfl
theorem run_len_string {s : ByteArray} : (Builtin.lenOf (.string s)).run P w = .ok s.size w := rfl

theorem app_room {t xT ty el sz n m c : Nat} {a : Option Addr} {x : Value} {news : List Value} {dx : TypeDesc} (hT : P.underlying t = some (.slice el)) (hX : P.underlying xT = some dx) (hdx : ∀ k, dx ≠ .int k)
    (hs : psz P el = some sz) (hl : (Builtin.lenOf x).run P w = .ok m w) (hf : (Builtin.firstCells sz m x).run P w = .ok ⟨news⟩ w) (hroom : n + m ≤ c) :
    (Builtin.append_ #[t, xT] ty #[.slice a n c, x]).run P w = (match a with | some a => (storeCells (a.add (n * sz)) news).run P w | none => .ok () w).andThen fun _ w' => .ok (.slice a (n + m) c) w' := by
  have hm : (dx matches .int _) = false := by cases dx <;> first | rfl | exact absurd rfl (hdx _)
  have e1 : (underlying xT).run P w = .ok dx w := run_und hX
  unfold Builtin.append_
  simp only [List.getElem?_toArray, List.getElem?_cons_zero, List.getElem?_cons_succ, Sem.run_bind, run_und hT, Result.andThen_ok, run_size hs, e1, Sem.run_pure]
  cases dx <;> first
    | exact absurd rfl (hdx _)
    | (simp only [Bool.false_eq_true, if_false, Bool.not_false, if_true, hl, Result.andThen_ok, hroom, Sem.run_bind, hf]
       cases a <;> simp [Sem.run_pure, Result.andThen])

theorem app_grow {t xT ty el sz n m c : Nat} {a : Option Addr} {x z : Value} {olds news : List Value} {dx : TypeDesc} {i : TypeInfo} (hT : P.underlying t = some (.slice el)) (hX : P.underlying xT = some dx) (hdx : ∀ k, dx ≠ .int k)
    (hi : P.info? el = some i) (hz : i.zero = some z) (hsz : i.size = sz) (hl : (Builtin.lenOf x).run P w = .ok m w) (hf : (Builtin.firstCells sz m x).run P w.drew = .ok ⟨news⟩ w.drew)
    (ho : (Builtin.firstCells sz n (.slice a n c)).run P w.drew = .ok ⟨olds⟩ w.drew) (hg : c < n + m) (hby : 0 < i.bytes) (h48 : Builtin.nextslicecap (n + m) c * i.bytes ≤ 281474976710656) :
    (Builtin.append_ #[t, xT] ty #[.slice a n c, x]).run P w = .ok (.slice (some ⟨w.heap.size, 0, none⟩) (n + m) (grownCap w (n + m) c el))
      (w.drew.alloc (.cells ((⟨olds⟩ : Array Value) ++ ⟨news⟩ ++ Builtin.zeroCells z.cells (grownCap w (n + m) c el - (n + m))) el)) := by
  have hn : ¬ (n + m ≤ c) := by omega
  have h48' : ¬ (281474976710656 < Builtin.nextslicecap (n + m) c * i.bytes) := by omega
  have hb0 : ¬ (i.bytes = 0) := by omega
  have e1 : (underlying xT).run P w = .ok dx w := run_und hX
  have e2 : ∀ w : World, (typeInfo el).run P w = .ok i w := fun w => by simp [typeInfo, hi]
  have e3 : ∀ w : World, (zeroValue el).run P w = .ok z w := fun w => by simp [zeroValue, typeInfo, hi, hz]
  have e4 : (sizeOf el).run P w = .ok sz w := by simp [sizeOf, typeInfo, hi, hsz]
  have hch : (choose (.appendCap (n + m) c el)).run P w = .ok (grownCap w (n + m) c el) w.drew := by
    rw [run_choose]; rfl
  have hbig : (2 : Nat) ^ 48 = 281474976710656 := by decide
  unfold Builtin.append_
  simp only [List.getElem?_toArray, List.getElem?_cons_zero, List.getElem?_cons_succ, Sem.run_bind, run_und hT, Result.andThen_ok, e4, e1, Sem.run_pure]
  cases dx <;> first
    | exact absurd rfl (hdx _)
    | (simp only [Bool.false_eq_true, if_false, Bool.not_false, if_true, hl, Result.andThen_ok, hn, Sem.run_bind, e2, hb0, false_or, or_false, and_false, gt_iff_lt, hbig, h48', hch, run_askRoom, ho, hf, e3, newRow, run_newObj, Sem.run_pure]
       rfl)

/-- What is appended or copied: so many elements, these cells. -/
def Src (P : Program) (ρ : Ren) (w : World) (x : Value) (sz m : Nat) (ys : List SV) : Prop :=
  ∃ vs, (∀ d, (Builtin.lenOf x).run P { w with drawn := d } = .ok m { w with drawn := d }) ∧ (∀ d, (Builtin.firstCells sz m x).run P { w with drawn := d } = .ok ⟨vs⟩ { w with drawn := d }) ∧ Rels ρ ys vs ∧ atoms ys = true ∧ ys.length = m * sz ∧
    ∀ k, k ≤ m → ∀ d, (Builtin.firstCells sz k x).run P { w with drawn := d } = .ok ⟨vs.take (k * sz)⟩ { w with drawn := d }

theorem src_nil {sz : Nat} : Src P ρ w (.slice none 0 0) sz 0 [] :=
  ⟨[], fun _ => rfl, fun _ => rfl, Rels.nil_iff.2 rfl, rfl, by simp, fun k hk d => by
    have h0 : k = 0 := by omega
    subst h0
    simp [Builtin.firstCells]⟩

theorem src_str {l : List UInt8} : Src P ρ w (.string ⟨⟨l⟩⟩) 1 l.length (l.map .u8) := by
  have key : ∀ k, k ≤ l.length → ∀ d : Nat, (Builtin.firstCells 1 k (.string ⟨⟨l⟩⟩)).run P { w with drawn := d } = .ok ⟨(l.map fun b => Value.int .u8 (b.toNat : Int)).take k⟩ { w with drawn := d } := fun k _ d => by
    simp only [Builtin.firstCells, Sem.run_pure]
    congr 1
    apply Array.toList_inj.1
    rw [Array.toList_map, Lib.extract_data]
    simp
  refine ⟨l.map fun b => Value.int .u8 (b.toNat : Int), fun _ => rfl, fun d => ?_, ?_, ?_, by simp, fun k hk d => by rw [key k hk d, Nat.mul_one]⟩
  · rw [key _ (Nat.le_refl _) d]
    congr 2
    rw [List.take_of_length_le (by simp)]
  · induction l with
    | nil => exact Rels.nil_iff.2 rfl
    | cons b l ih => exact Rels.cons (by simp only [Rel]) (ih (fun k hk d => by
        simp only [Builtin.firstCells, Sem.run_pure]
        congr 1
        apply Array.toList_inj.1
        rw [Array.toList_map, Lib.extract_data]
        simp))
  · simp [atoms, SV.atom]

theorem src_sl {id o m sz : Nat} {full : Bool} {v : Value} {b : SB} {rb : RB} (hx : Rel ρ (.sl id o m sz full) v) (hr : ρ id = some rb) (hb : BRel ρ w rb b) (hin : o + m * sz ≤ b.cells.length) :
    Src P ρ w v sz m ((b.cells.drop o).take (m * sz)) := by
  by_cases hm : m * sz = 0
  · simp only [Rel] at hx
    obtain ⟨rb', a, c, hr', rfl, hmc, _, _⟩ := hx
    refine ⟨[], fun _ => rfl, fun d => ?_, by rw [hm]; simp [Rels], by rw [hm]; simp [atoms], by simp [hm], fun k hk d => ?_⟩
    · cases a <;> simp [Builtin.firstCells, loadCells, loadCellsFrom, hm]
    · have : k * sz = 0 := by
        have h2 : k * sz ≤ m * sz := Nat.mul_le_mul_right _ hk
        omega
      cases a <;> simp [Builtin.firstCells, loadCells, loadCellsFrom, this]
  · have hm0 : 0 < m := Nat.pos_of_ne_zero (fun e => hm (by rw [e]; simp))
    obtain ⟨rb', c, hr', rfl, hmc, _, _, _⟩ := slice_addr hx hm0
    rw [hr] at hr'; cases hr'
    obtain ⟨⟨ca, t, fz, hca, ha, hrl, _, hsz⟩, _⟩ := hb.cellsAt (by omega)
    have hll := hrl.length
    simp only [List.length_take, List.length_drop, Array.length_toList] at hll
    have key : ∀ k, k ≤ m → ∀ d : Nat, (Builtin.firstCells sz k (.slice (some ⟨rb.blk, rb.off + o, none⟩) m c)).run P { w with drawn := d } = .ok ⟨(ca.toList.drop (rb.off + o)).take (k * sz)⟩ { w with drawn := d } := fun k hk d => by
      have h2 : k * sz ≤ m * sz := Nat.mul_le_mul_right _ hk
      simp only [Builtin.firstCells]
      exact run_cells (w := { w with drawn := d }) hca (by omega)
    refine ⟨(ca.toList.drop (rb.off + o)).take (m * sz), fun _ => rfl, fun d => key m (Nat.le_refl _) d, ?_, ?_, by simp; omega, fun k hk d => ?_⟩
    · have := (hrl.drop o).take (m * sz)
      rw [List.drop_take, List.drop_drop, List.take_take, Nat.min_eq_left (by omega)] at this
      exact this
    · simp only [atoms, List.all_eq_true] at ha ⊢
      exact fun y hy => ha y (List.mem_of_mem_drop (List.mem_of_mem_take hy))
    · rw [key k hk d, List.take_take, Nat.min_eq_left (Nat.mul_le_mul_right _ hk)]

/-- The grown row. -/
theorem grown_row {nid el sz n m c : Nat} {xs ys : List SV} {olds news : List Value} {z : Value} (hxs : Rels ρ xs olds) (hxa : atoms xs = true) (hys : Rels ρ ys news) (hya : atoms ys = true) (hxl : xs.length = n * sz) (hyl : ys.length = m * sz) (hzs : z.cells.size = sz) (hnc : n + m ≤ c) :
    BRel ρ (w.drew.alloc (.cells ((⟨olds⟩ : Array Value) ++ ⟨news⟩ ++ Builtin.zeroCells z.cells (c - (n + m))) el)) ⟨w.heap.size, 0, c * sz, false⟩ (.row el (xs ++ ys)) ∧
    Rel (setR ρ nid ⟨w.heap.size, 0, c * sz, false⟩) (.sl nid 0 (n + m) sz false) (.slice (some ⟨w.heap.size, 0, none⟩) (n + m) c) := by
  have h1 := hxs.length
  have h2 := hys.length
  have hsize : ((⟨olds⟩ : Array Value) ++ ⟨news⟩ ++ Builtin.zeroCells z.cells (c - (n + m))).size = c * sz := by
    simp only [Array.size_append, List.size_toArray, size_zeroCells, hzs]
    rw [h1, h2, hxl, hyl, ← Nat.add_mul, ← Nat.add_mul]
    congr 1; omega
  have hle : (n + m) * sz ≤ c * sz := Nat.mul_le_mul_right _ hnc
  rw [Nat.add_mul] at hle
  refine ⟨.inr ⟨rfl, _, (0, 0), alloc_heap_new w.drew _, .inl rfl, by rw [hsize]; simp, ?_, ?_, by simp only [List.length_append]; omega⟩, ?_⟩
  · simp [atoms] at hxa hya ⊢; exact ⟨hxa, hya⟩
  · rw [List.drop_zero, Array.toList_append, Array.toList_append]
    have : (olds ++ news).length = (xs ++ ys).length := by simp [h1, h2]
    rw [← this, List.take_left]
    exact hxs.append hys
  · simp only [Rel]
    exact ⟨_, _, c, setR_same _ _ _, rfl, hnc, fun h => (by cases h), .inr ⟨rfl, by simp, by simp⟩⟩

theorem drew_draw (w : World) : w.drew = { w with drawn := w.drawn + 1 } := rfl

structure AppTy (P : Program) (t xT el sz by_ : Nat) (z : SV) : Prop where
  hT : P.underlying t = some (.slice el)
  hX : (∃ e, P.underlying xT = some (.slice e)) ∨ P.underlying xT = some .string
  hz : pzero P el = some z
  hs : psz P el = some sz
  hzs : z.cells.length = sz
  hb : pbytes P el = some by_
  hb0 : 0 < by_

theorem AppTy.facts {t xT el sz by_ : Nat} {z : SV} (h : AppTy P t xT el sz by_ z) : ∃ i v dx, P.info? el = some i ∧ i.zero = some v ∧ v.cells.size = sz ∧ i.size = sz ∧ i.bytes = by_ ∧ P.underlying xT = some dx ∧ ∀ k, dx ≠ .int k := by
  obtain ⟨hT, hX, hz, hs, hzs, hb, hb0⟩ := h
  obtain ⟨i, v, hi, hv, hr, ht⟩ := zero_of hz
  have hl := ((hr (fun _ => none)).cells_rel ht).1.length
  simp only [Array.length_toList] at hl
  unfold psz at hs
  unfold pbytes at hb
  rw [hi] at hs hb
  simp only [Option.map_some, Option.some.injEq] at hs hb
  rcases hX with ⟨e, he⟩ | he
  · exact ⟨i, v, _, hi, hv, by omega, hs, hb, he, fun k => by simp⟩
  · exact ⟨i, v, _, hi, hv, by omega, hs, hb, he, fun k => by simp⟩

theorem app_run {o : Oper} {x y : Operand} {t xT : Nat} {e : Operand → Value} {v : Value} (ho : o.op = .call { callee := .builtin .append, args := #[x, y], argTypes := #[t, xT] })
    (h : (Builtin.append_ #[t, xT] o.type #[e x, e y]).run P w = .ok v w') : (execOp e o).run P w = .ok (.value v) w' := by
  simp only [execOp, ho, resolve, invoke, builtin, Sem.run_bind, Sem.run_pure, Result.andThen_ok, List.map_toArray, List.map_cons, List.map_nil, h]

/-- append onto nothing. -/
theorem app_nil {o : Oper} {x y : Operand} {t xT el sz by_ nid m : Nat} {z : SV} {ys : List SV} {e : Operand → Value} (ho : o.op = .call { callee := .builtin .append, args := #[x, y], argTypes := #[t, xT] })
    (hty : AppTy P t xT el sz by_ z) (hx : e x = .slice none 0 0) (hsrc : Src P ρ w (e y) sz m ys) (hm : m * by_ ≤ 140737488355328) (hn : ρ nid = none) :
    ∃ v w' ρ', (execOp e o).run P w = .ok (.value v) w' ∧ Chg ρ H w [(nid, some (.row el ys))] ρ' w' ∧ Rel ρ' (.sl nid 0 m sz false) v := by
  obtain ⟨i, v, dx, hi, hv, hvs, his, hib, hdx, hdx2⟩ := hty.facts
  obtain ⟨news, hl, hf, hr, ha, hlen, _⟩ := hsrc
  have hl0 := hl w.drawn
  have hf0 := hf w.drawn
  have hf1 := hf (w.drawn + 1)
  by_cases hm0 : m = 0
  · subst hm0
    have : ys = [] := List.eq_nil_of_length_eq_zero (by rw [hlen]; simp)
    subst this
    rw [Rels.nil_iff] at hr; subst hr
    refine ⟨.slice none 0 0, w, _, app_run ho ?_, Chg.virtual hn, ?_⟩
    · rw [hx, app_room hty.hT hdx hdx2 hty.hs hl0 hf0 (Nat.le_refl _)]
      rfl
    · simp only [Rel]
      exact ⟨_, none, 0, setR_same _ _ _, rfl, Nat.le_refl _, fun h => (by cases h), .inl rfl⟩
  · have hg := app_grow (ty := o.type) (a := none) (n := 0) (c := 0) (olds := []) hty.hT hdx hdx2 hi hv his hl0 hf1 (by rfl) (by omega) (by rw [hib]; exact hty.hb0) (by
      rw [Nat.zero_add, nextslicecap_zero (by omega), hib]; omega)
    have hge := grownCap_ge w (0 + m) 0 el
    obtain ⟨g1, g2⟩ := grown_row (ρ := ρ) (w := w) (nid := nid) (el := el) (n := 0) (xs := []) (olds := []) (Rels.nil_iff.2 rfl) rfl hr ha (by simp) hlen hvs hge
    simp only [Nat.zero_add, List.nil_append] at g1 g2 hg
    refine ⟨_, _, _, app_run ho (by rw [hx]; exact hg), Chg.new (w.drawn + 1) hn rfl g1, g2⟩

theorem lt_append_nil_sl {o : Oper} {R : Env} {x y : Operand} {t xT el sz by_ nid m id o2 : Nat} {full : Bool} {z : SV} {b : SB} (ho : o.op = .call { callee := .builtin .append, args := #[x, y], argTypes := #[t, xT] })
    (hty : AppTy P t xT el sz by_ z) (hx : evO R x = some .slnil) (hy : evO R y = some (.sl id o2 m sz full)) (hb : H id = some b) (hin : o2 + m * sz ≤ b.cells.length) (hm : m * by_ ≤ 140737488355328) (hne : nid ≠ id) :
    LT P o R H [id] [(nid, some (.row el ((b.cells.drop o2).take (m * sz))))] (some (.sl nid 0 m sz false)) := by
  refine LT.of_run (by simp [ho]) fun e w ρ h1 h2 _ hfresh => ?_
  have hx2 := h1 x (by simp [ho, Op.operands, Call.operands]) _ hx
  have hy2 := h1 y (by simp [ho, Op.operands, Call.operands]) _ hy
  simp only [Rel] at hx2
  obtain ⟨rb, hr, hbr⟩ := h2 id (by simp) b hb
  obtain ⟨v, w', ρ', a1, a2, a3⟩ := app_nil (w := w) (H := H) (nid := nid) ho hty hx2 (src_sl hy2 hr hbr hin) hm (hfresh nid (some (.row el ((b.cells.drop o2).take (m * sz)))) (by simp) (by simpa using hne))
  exact ⟨_, w', ρ', a1, a2, .inl ⟨v, rfl, fun u hu => by cases hu; exact a3⟩⟩

theorem lt_append_nil_str {o : Oper} {R : Env} {x y : Operand} {t xT el by_ nid : Nat} {l : List UInt8} {z : SV} (ho : o.op = .call { callee := .builtin .append, args := #[x, y], argTypes := #[t, xT] })
    (hty : AppTy P t xT el 1 by_ z) (hx : evO R x = some .slnil) (hy : evO R y = some (.s l)) (hm : l.length * by_ ≤ 140737488355328) :
    LT P o R H [] [(nid, some (.row el (l.map .u8)))] (some (.sl nid 0 l.length 1 false)) := by
  refine LT.of_run (by simp [ho]) fun e w ρ h1 _ _ hfresh => ?_
  have hx2 := h1 x (by simp [ho, Op.operands, Call.operands]) _ hx
  have hy2 := h1 y (by simp [ho, Op.operands, Call.operands]) _ hy
  simp only [Rel] at hx2 hy2
  obtain ⟨v, w', ρ', a1, a2, a3⟩ := app_nil (w := w) (H := H) (nid := nid) ho hty hx2 (by rw [hy2]; exact src_str) hm (hfresh nid (some (.row el (l.map .u8))) (by simp) (by simp))
  exact ⟨_, w', ρ', a1, a2, .inl ⟨v, rfl, fun u hu => by cases hu; exact a3⟩⟩

/-- Nothing appended. -/
theorem lt_append_none {o : Oper} {R : Env} {x y : Operand} {t xT el sz by_ : Nat} {s z : SV} (ho : o.op = .call { callee := .builtin .append, args := #[x, y], argTypes := #[t, xT] })
    (hty : AppTy P t xT el sz by_ z) (hx : evO R x = some s) (hs : s = .slnil ∨ ∃ id k n sz full, s = .sl id k n sz full) (hy : evO R y = some .slnil) : LT P o R H [] [] (some s) := by
  refine LT.pure (by simp [ho]) fun e w ρ h1 _ => ?_
  have hx2 := h1 x (by simp [ho, Op.operands, Call.operands]) _ hx
  have hy2 := h1 y (by simp [ho, Op.operands, Call.operands]) _ hy
  obtain ⟨i, v, dx, hi, hv, hvs, his, hib, hdx, hdx2⟩ := hty.facts
  simp only [Rel] at hy2
  have key : ∀ a n c, e x = .slice a n c → n ≤ c → (execOp e o).run P w = .ok (.value (e x)) w := fun a n c he hnc => by
    refine app_run ho ?_
    rw [he, hy2, app_room (w := w) (m := 0) (news := []) hty.hT hdx hdx2 hty.hs rfl rfl hnc]
    cases a <;> rfl
  rcases hs with rfl | ⟨id, k, n, sz', full, rfl⟩
  · have hx3 := hx2
    simp only [Rel] at hx3
    exact ⟨_, key _ _ _ hx3 (Nat.le_refl _), hx2⟩
  · have hx3 := hx2
    simp only [Rel] at hx3
    obtain ⟨rb, a, c, hr, he, hnc, _⟩ := hx3
    exact ⟨_, key _ _ _ he hnc, hx2⟩

/-- append onto a row of one's own: it goes over into the new one. -/
theorem app_row {o : Oper} {x y : Operand} {t xT el sz by_ id nid k n m : Nat} {full : Bool} {z : SV} {l ys : List SV} {rb : RB} {e : Operand → Value} (ho : o.op = .call { callee := .builtin .append, args := #[x, y], argTypes := #[t, xT] })
    (hty : AppTy P t xT el sz by_ z) (hx : Rel ρ (.sl id k n sz full) (e x)) (hid : H id = some (.row el l)) (hr : ρ id = some rb) (hb : BRel ρ w rb (.row el l)) (hin : k + n * sz ≤ l.length) (hsrc : Src P ρ w (e y) sz m ys)
    (hm : (n + m) * by_ ≤ 140737488355328) (hne : id ≠ nid) (hn : ρ nid = none) :
    ∃ v w' ρ', (execOp e o).run P w = .ok (.value v) w' ∧ Chg ρ H w [(id, none), (nid, some (.row el ((l.drop k).take (n * sz) ++ ys)))] ρ' w' ∧ Rel ρ' (.sl nid 0 (n + m) sz false) v := by
  obtain ⟨i, v, dx, hi, hv, hvs, his, hib, hdx, hdx2⟩ := hty.facts
  have hsrcx : Src P ρ w (e x) sz n ((l.drop k).take (n * sz)) := src_sl hx hr hb hin
  obtain ⟨news, hl, hf, hrn, ha, hlen, _⟩ := hsrc
  obtain ⟨olds, _, hfo, hro, hao, hleno, _⟩ := hsrcx
  have hl0 := hl w.drawn
  have hf0 := hf w.drawn
  have hf1 := hf (w.drawn + 1)
  have hfo1 := hfo (w.drawn + 1)
  have hnl := hrn.length
  have hx0 := hx
  simp only [Rel] at hx
  obtain ⟨rb', a, c, hr', he, hnc, hfull, hdis⟩ := hx
  rw [hr] at hr'; cases hr'
  by_cases hroom : n + m ≤ c
  · by_cases hc0 : c = 0
    · -- nothing there, nothing comes
      subst hc0
      obtain rfl : n = 0 := by omega
      obtain rfl : m = 0 := by omega
      have hy0 : ys = [] := List.eq_nil_of_length_eq_zero (by rw [hlen]; simp)
      subst hy0
      rw [Rels.nil_iff] at hrn; subst hrn
      refine ⟨.slice a 0 0, w, setR ρ nid ⟨0, 0, 0, true⟩, app_run ho ?_, ?_, ?_⟩
      · rw [he, app_room hty.hT hdx hdx2 hty.hs hl0 hf0 hroom]
        cases a <;> rfl
      · exact Chg.move hne hid hr rfl hn (fun i o hh => by simp [foot] at hh) (.inl ⟨rfl, by simp⟩) (Fr.refl _ _)
      · simp only [Rel]
        exact ⟨_, a, 0, setR_same _ _ _, rfl, by omega, fun h => (by cases h), .inl rfl⟩
    · obtain ⟨hvirt, ha2, hcap⟩ := hdis.resolve_left hc0
      rcases hb with ⟨hv1, _⟩ | ⟨_, ca, fz, hca, hz, hcs, hla, hlr, hll⟩
      · rw [hvirt] at hv1; cases hv1
      have hcm : (n + m) * sz ≤ c * sz := Nat.mul_le_mul_right _ hroom
      rw [Nat.add_mul] at hcm
      have hst := run_puts (P := P) (o := rb.off + k + n * sz) news 0 hca hz (by omega) (hrn.oneCell ha)
      have hps : (putAt ca (rb.off + k + n * sz) news).size = ca.size := putAt_size _ _ _ (by omega)
      refine ⟨.slice a (n + m) c, World.putCells w rb.blk (rb.off + k + n * sz) news, setR ρ nid ⟨rb.blk, rb.off + k, rb.cap - k, false⟩, app_run ho ?_, ?_, ?_⟩
      · rw [he, app_room hty.hT hdx hdx2 hty.hs hl0 hf0 hroom, ha2]
        simp only [add_addr, hst, Nat.add_zero]
        rfl
      · refine Chg.move hne hid hr rfl hn ?_ (.inr ⟨rfl, _, fz, World.putCells_heap w rb.blk _ news hca, hz.put _ _ (by omega), ?_, ?_, ?_, ?_⟩) ?_
        · rintro i o2 ⟨h1, h2, h3⟩
          exact .inl ⟨hvirt, h2, by simp only at h3; omega⟩
        · rw [hps]; simp only; omega
        · simp [atoms] at hao ha ⊢; exact ⟨hao, ha⟩
        · have e1 : ((putAt ca (rb.off + k + n * sz) news).toList.drop (rb.off + k)).take (((l.drop k).take (n * sz) ++ ys)).length = List.take (n * sz) (List.drop k ((ca.toList.drop rb.off).take l.length)) ++ news := by
            have h1 : ((l.drop k).take (n * sz) ++ ys).length = n * sz + news.length := by rw [List.length_append, hleno, hnl]
            rw [h1]
            apply List.ext_getElem?
            intro j
            by_cases hj : j < n * sz + news.length
            · rw [drop_take_get hj, Array.getElem?_toList, putAt_getElem? _ _ _ (by omega)]
              by_cases h2 : j < n * sz
              · rw [if_neg (by omega)]
                rw [List.getElem?_append_left (by simp; omega), List.getElem?_take_of_lt h2, List.getElem?_drop, drop_take_get (by omega), Array.getElem?_toList, Nat.add_assoc]
              · rw [if_pos (by omega)]
                rw [List.getElem?_append_right (by simp; omega)]
                congr 1
                simp; omega
            · rw [List.getElem?_eq_none (by simp; omega)]
              rw [List.getElem?_eq_none (by simp; omega)]
          rw [e1]
          exact ((hlr.drop k).take (n * sz)).append hrn
        · simp only [List.length_append, hleno, hlen]; omega
        · exact Fr.putCells _ _ _ _ _ hca (by omega) (fun o2 h1 h2 => ⟨hvirt, rfl, by omega⟩)
      · simp only [Rel]
        refine ⟨_, a, c, setR_same _ _ _, rfl, hroom, fun h => (by cases h), .inr ⟨rfl, by rw [ha2]; simp, by simp only; omega⟩⟩
  · rw [he] at hfo1
    have hg := app_grow (ty := o.type) (a := a) (n := n) (c := c) hty.hT hdx hdx2 hi hv his hl0 hf1 hfo1 (by omega) (by rw [hib]; exact hty.hb0) (by rw [hib]; exact growslice_fits (by omega) hm)
    have hge := grownCap_ge w (n + m) c el
    obtain ⟨g1, g2⟩ := grown_row (ρ := ρ) (w := w) (nid := nid) (el := el) hro hao hrn ha hleno hlen hvs hge
    refine ⟨_, _, _, app_run ho (by rw [he]; exact hg), Chg.move hne hid hr rfl hn (fun i o2 hh => .inr (by rw [hh.2.1]; exact Nat.le_refl _)) g1 ?_, g2⟩
    exact (Fr.refl _ w).drew.trans (Fr.alloc (fun i o2 => foot rb (.row el l) i o2) w.drew _) (fun _ _ _ h => h)

theorem lt_append_row_sl {o : Oper} {R : Env} {x y : Operand} {t xT el sz by_ nid n m id id2 k o2 : Nat} {full full2 : Bool} {z : SV} {b : SB} {l : List SV} (ho : o.op = .call { callee := .builtin .append, args := #[x, y], argTypes := #[t, xT] })
    (hty : AppTy P t xT el sz by_ z) (hx : evO R x = some (.sl id k n sz full)) (hid : H id = some (.row el l)) (hin1 : k + n * sz ≤ l.length) (hy : evO R y = some (.sl id2 o2 m sz full2)) (hb : H id2 = some b) (hin : o2 + m * sz ≤ b.cells.length)
    (hm : (n + m) * by_ ≤ 140737488355328) (hne : nid ≠ id ∧ nid ≠ id2) :
    LT P o R H [id, id2] [(id, none), (nid, some (.row el ((l.drop k).take (n * sz) ++ (b.cells.drop o2).take (m * sz))))] (some (.sl nid 0 (n + m) sz false)) := by
  refine LT.of_run (by simp [ho]) fun e w ρ h1 h2 _ hfresh => ?_
  have hx2 := h1 x (by simp [ho, Op.operands, Call.operands]) _ hx
  have hy2 := h1 y (by simp [ho, Op.operands, Call.operands]) _ hy
  obtain ⟨rb, hr, hbr⟩ := h2 id (by simp) _ hid
  obtain ⟨rb2, hr2, hbr2⟩ := h2 id2 (by simp) b hb
  obtain ⟨v, w', ρ', a1, a2, a3⟩ := app_row (w := w) (H := H) (nid := nid) ho hty hx2 hid hr hbr hin1 (src_sl hy2 hr2 hbr2 hin) hm (fun e => hne.1 e.symm) (hfresh nid (some (.row el ((l.drop k).take (n * sz) ++ (b.cells.drop o2).take (m * sz)))) (by simp) (by simpa using hne))
  exact ⟨_, w', ρ', a1, a2, .inl ⟨v, rfl, fun u hu => by cases hu; exact a3⟩⟩

theorem lt_append_row_str {o : Oper} {R : Env} {x y : Operand} {t xT el by_ nid n id k : Nat} {full : Bool} {z : SV} {l : List SV} {s : List UInt8} (ho : o.op = .call { callee := .builtin .append, args := #[x, y], argTypes := #[t, xT] })
    (hty : AppTy P t xT el 1 by_ z) (hx : evO R x = some (.sl id k n 1 full)) (hid : H id = some (.row el l)) (hin1 : k + n * 1 ≤ l.length) (hy : evO R y = some (.s s))
    (hm : (n + s.length) * by_ ≤ 140737488355328) (hne : nid ≠ id) :
    LT P o R H [id] [(id, none), (nid, some (.row el ((l.drop k).take (n * 1) ++ s.map .u8)))] (some (.sl nid 0 (n + s.length) 1 false)) := by
  refine LT.of_run (by simp [ho]) fun e w ρ h1 h2 _ hfresh => ?_
  have hx2 := h1 x (by simp [ho, Op.operands, Call.operands]) _ hx
  have hy2 := h1 y (by simp [ho, Op.operands, Call.operands]) _ hy
  simp only [Rel] at hy2
  obtain ⟨rb, hr, hbr⟩ := h2 id (by simp) _ hid
  obtain ⟨v, w', ρ', a1, a2, a3⟩ := app_row (w := w) (H := H) (nid := nid) ho hty hx2 hid hr hbr hin1 (by rw [hy2]; exact src_str) hm (fun e => hne e.symm) (hfresh nid (some (.row el ((l.drop k).take (n * 1) ++ s.map .u8))) (by simp) (by simpa using hne))
  exact ⟨_, w', ρ', a1, a2, .inl ⟨v, rfl, fun u hu => by cases hu; exact a3⟩⟩
end
end Go.Sh
