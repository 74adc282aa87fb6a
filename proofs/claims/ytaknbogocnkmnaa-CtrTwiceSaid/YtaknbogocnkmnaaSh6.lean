/- The operations that build: arrays, structs, slices; slice expressions; strings. -/
import Derived.Test.YtaknbogocnkmnaaSh5
import Derived.Lib.Strings
namespace Go.Sh
set_option linter.unusedSimpArgs false

/-- So many zero elements. -/
def reps (n : Nat) : List SV → List SV
  | [z] => List.replicate n z
  | zs => (List.replicate n zs).flatten
theorem reps_one (n : Nat) (z : SV) : reps n [z] = List.replicate n z := rfl
theorem reps_eq (n : Nat) (zs : List SV) : reps n zs = (List.replicate n zs).flatten := by
  cases zs with
  | nil => rfl
  | cons z zs =>
    cases zs with
    | nil =>
      simp only [reps]
      induction n with
      | zero => rfl
      | succ n ih => simp [List.replicate_succ, ← ih]
    | cons y ys => rfl

/-- Parts laid into cells. -/
def sfill (place : Nat → Option (Nat × Nat)) : List SV → List (Nat × SV) → Option (List SV)
  | l, [] => some l
  | l, (i, x) :: rest =>
    match place i with
    | none => none
    | some (off, sz) =>
      if x.isTup = false ∧ x.cells.length = sz ∧ off + sz ≤ l.length then sfill place (sput l off x) rest else none

def pplaces (P : Program) (t : TypeId) : Option (List (Nat × Nat)) :=
  match P.underlying t with
  | some (.struct fields) => fields.toList.mapM (fun f => (P.info? f.type).map fun i => (f.offset, i.size))
  | _ => none

def relParts (ρ : Ren) : List (Nat × SV) → List (Nat × Value) → Prop
  | [], vs => vs = []
  | (i, x) :: xs, vs => ∃ v vs', vs = (i, v) :: vs' ∧ Rel ρ x v ∧ relParts ρ xs vs'

section
variable {P : Program} {ρ ρ' : Ren} {H : Heap} {w w' : World}

theorem fold_put (off : Nat) : ∀ (vs : List Value) (k : Nat) (cs : Array Value), off + k + vs.length ≤ cs.size →
    (vs.zipIdx k).foldl (fun (cs : Array Value) (p : Value × Nat) => cs.setIfInBounds (off + p.2) p.1) cs = putAt cs (off + k) vs
  | [], k, cs, _ => by
    simp only [List.zipIdx_nil, List.foldl_nil]
    apply Array.ext_getElem?
    intro j
    rw [putAt_getElem? _ _ _ (by simpa using ‹_›), if_neg (by simp)]
  | v :: vs, k, cs, h => by
    simp at h
    simp only [List.zipIdx_cons, List.foldl_cons]
    rw [fold_put off vs (k + 1) _ (by simp; omega)]
    apply Array.ext_getElem?
    intro j
    rw [putAt_getElem? _ _ _ (by simp; omega), putAt_getElem? _ _ _ (by simp; omega)]
    by_cases h1 : j = off + k
    · subst h1
      rw [if_neg (by omega), if_pos (by simp)]
      rw [Array.getElem?_setIfInBounds_self_of_lt (by omega)]; simp
    · by_cases h2 : off + (k + 1) ≤ j ∧ j < off + (k + 1) + vs.length
      · rw [if_pos h2, if_pos (by simp; omega), show j - (off + k) = (j - (off + (k + 1))) + 1 from by omega]; simp
      · rw [if_neg h2, if_neg (by simp; omega), Array.getElem?_setIfInBounds_ne (by omega)]

theorem fill_ok {place : Nat → Option (Nat × Nat)} : ∀ {xs : List (Nat × SV)} {vs : List (Nat × Value)} {l l' : List SV} {cs : Array Value}, relParts ρ xs vs → Rels ρ l cs.toList → atoms l = true → sfill place l xs = some l' →
    ∃ cs', Instr.fill place cs vs = some cs' ∧ Rels ρ l' cs'.toList ∧ atoms l' = true
  | [], vs, l, l', cs, hp, hr, ha, h => by
    simp only [relParts] at hp; subst hp
    simp only [sfill, Option.some.injEq] at h; subst h
    exact ⟨cs, rfl, hr, ha⟩
  | (i, x) :: xs, vs, l, l', cs, hp, hr, ha, h => by
    simp only [relParts] at hp
    obtain ⟨v, vs', rfl, hx, hxs⟩ := hp
    simp only [sfill] at h
    cases hpl : place i with
    | none => rw [hpl] at h; cases h
    | some q =>
      obtain ⟨off, sz⟩ := q
      rw [hpl] at h
      simp only at h
      split at h
      · rename_i hc
        obtain ⟨h1, h2, h3⟩ := hc
        obtain ⟨hxr, hxa⟩ := hx.cells_rel (SV.not_tup h1)
        have hlen := hxr.length
        have hll := hr.length
        simp only [Array.length_toList] at hlen hll
        have hput : v.cells.zipIdx.foldl (fun (cs : Array Value) (p : Value × Nat) => cs.setIfInBounds (off + p.2) p.1) cs = putAt cs off v.cells.toList := by
          have := fold_put off v.cells.toList 0 cs (by simp; omega)
          rw [Nat.add_zero] at this
          rw [← this, ← Array.foldl_toList, Array.toList_zipIdx]
        have hr2 : Rels ρ (sput l off x) (putAt cs off v.cells.toList).toList := by
          rw [sput_eq l off x (by omega)]
          have e : (putAt cs off v.cells.toList).toList = cs.toList.take off ++ v.cells.toList ++ cs.toList.drop (off + x.cells.length) := by
            simp only [putAt, Array.length_toList, hlen]
          rw [e]
          exact ((hr.take _).append hxr).append (hr.drop _)
        have ha2 : atoms (sput l off x) = true := by
          rw [sput_eq l off x (by omega)]
          simp only [atoms, List.all_eq_true, List.mem_append] at ha hxa ⊢
          rintro y ((hy | hy) | hy)
          · exact ha y (List.mem_of_mem_take hy)
          · exact hxa y hy
          · exact ha y (List.mem_of_mem_drop hy)
        obtain ⟨cs', g1, g2, g3⟩ := fill_ok (cs := putAt cs off v.cells.toList) hxs hr2 ha2 h
        refine ⟨cs', ?_, g2, g3⟩
        simp only [Instr.fill, hpl]
        rw [if_neg (by simp; omega)]
        rw [← hput] at g1
        exact g1
      · cases h

theorem relParts_map {e : Operand → Value} {R : Env} : ∀ {parts : List (Nat × Operand)} {xs : List (Nat × SV)}, (∀ p ∈ parts, ∀ v, evO R p.2 = some v → Rel ρ v (e p.2)) →
    parts.map (fun p => (p.1, evO R p.2)) = xs.map (fun p => (p.1, some p.2)) → relParts ρ xs (parts.map fun p => (p.1, e p.2))
  | [], xs, _, h => by cases xs <;> simp at h; simp [relParts]
  | p :: ps, xs, hp, h => by
    cases xs with
    | nil => simp at h
    | cons x xs =>
      obtain ⟨i, x⟩ := x
      simp at h
      obtain ⟨⟨h1, h2⟩, h3⟩ := h
      simp only [relParts, List.map_cons]
      exact ⟨e p.2, ps.map (fun p => (p.1, e p.2)), by rw [h1], hp p (by simp) x h2, relParts_map (fun q hq => hp q (by simp [hq])) (by simpa using h3)⟩

theorem zero_of {t : TypeId} {z : SV} (h : pzero P t = some z) : ∃ i v, P.info? t = some i ∧ i.zero = some v ∧ (∀ ρ, Rel ρ z v) ∧ ∀ l, z ≠ .tup l := by
  unfold pzero at h
  obtain ⟨i, hi, h2⟩ := Option.bind_eq_some_iff.1 h
  obtain ⟨v, hv, h3⟩ := Option.bind_eq_some_iff.1 h2
  exact ⟨i, v, hi, hv, fun ρ => (ofVal_rel h3).1, (ofVal_rel (ρ := fun _ => none) h3).2⟩

theorem parts_ops {o : Oper} {parts : Array (Nat × Operand)} {e : Operand → Value} {R : Env} (hop : ∀ x, (∃ p ∈ parts.toList, p.2 = x) → x ∈ o.op.operands) (h1 : ∀ x ∈ o.op.operands, ∀ v, evO R x = some v → Rel ρ v (e x)) :
    ∀ p ∈ parts.toList, ∀ v, evO R p.2 = some v → Rel ρ v (e p.2) := fun p hp v hv => h1 p.2 (hop _ ⟨p, hp, rfl⟩) v hv

theorem map_parts (parts : Array (Nat × Operand)) (e : Operand → Value) : (parts.map fun (i, x) => (i, e x)).toList = parts.toList.map fun p => (p.1, e p.2) := by
  rw [Array.toList_map]

/-- A struct out of its parts. -/
theorem lt_build_struct {o : Oper} {R : Env} {t : TypeId} {parts : Array (Nat × Operand)} {xs : List (Nat × SV)} {z : SV} {pl : List (Nat × Nat)} {l : List SV} (ho : o.op = .build t parts)
    (hx : parts.toList.map (fun p => (p.1, evO R p.2)) = xs.map (fun p => (p.1, some p.2))) (hz : pzero P t = some z) (hp : pplaces P t = some pl) (hf : sfill (fun i => pl[i]?) z.cells xs = some l) : LT P o R H [] [] (some (.agg l)) := by
  refine LT.pure (by simp [ho]) fun e w ρ h1 _ => ?_
  obtain ⟨i, v, hi, hv, hr, ht⟩ := zero_of hz
  obtain ⟨zr, za⟩ := (hr ρ).cells_rel ht
  obtain ⟨cs, g1, g2, g3⟩ := fill_ok (relParts_map (parts_ops (fun x hx => by obtain ⟨p, hp, rfl⟩ := hx; simp [ho, Op.operands]; exact ⟨p.1, by simpa using hp⟩) h1) hx) zr za hf
  refine ⟨.agg cs, ?_, by simp only [Rel]; exact ⟨cs.toList, rfl, g3, g2⟩⟩
  have hb : P.built t (parts.map fun (i, x) => (i, e x)).toList = some cs := by
    rw [map_parts]
    unfold pplaces at hp
    unfold Program.built
    split at hp
    · rename_i fs hu
      simp only [hi, hu, hv, hp]
      simpa using g1
    · cases hp
  simp only [execOp, ho, Sem.run_bind, run_build w t _ cs hb, Result.andThen_ok, Sem.run_pure]

/-- An array out of its parts. -/
theorem lt_build_array {o : Oper} {R : Env} {t n el sz : Nat} {parts : Array (Nat × Operand)} {xs : List (Nat × SV)} {z : SV} {l : List SV} (ho : o.op = .build t parts)
    (hx : parts.toList.map (fun p => (p.1, evO R p.2)) = xs.map (fun p => (p.1, some p.2))) (hu : P.underlying t = some (.array n el)) (hz : pzero P t = some z) (hs : psz P el = some sz)
    (hf : sfill (fun i => some (i * sz, sz)) z.cells xs = some l) : LT P o R H [] [] (some (.agg l)) := by
  refine LT.pure (by simp [ho]) fun e w ρ h1 _ => ?_
  obtain ⟨i, v, hi, hv, hr, ht⟩ := zero_of hz
  obtain ⟨zr, za⟩ := (hr ρ).cells_rel ht
  obtain ⟨cs, g1, g2, g3⟩ := fill_ok (relParts_map (parts_ops (fun x hx => by obtain ⟨p, hp, rfl⟩ := hx; simp [ho, Op.operands]; exact ⟨p.1, by simpa using hp⟩) h1) hx) zr za hf
  refine ⟨.agg cs, ?_, by simp only [Rel]; exact ⟨cs.toList, rfl, g3, g2⟩⟩
  have hb : P.built t (parts.map fun (i, x) => (i, e x)).toList = some cs := by
    rw [map_parts]
    unfold psz at hs
    obtain ⟨ie, hie, rfl⟩ := Option.map_eq_some_iff.1 hs
    unfold Program.built
    simp only [hi, hu, hv, hie]
    exact g1
  simp only [execOp, ho, Sem.run_bind, run_build w t _ cs hb, Result.andThen_ok, Sem.run_pure]

theorem made_succ (zero : Array Value) (n : Nat) : (madeCells zero ((n + 1) * zero.size)).toList = (madeCells zero (n * zero.size)).toList ++ zero.toList := by
  by_cases hz : zero.size = 0
  · have : zero = #[] := Array.eq_empty_of_size_eq_zero hz
    subst this
    simp [madeCells]
  · simp only [madeCells, Array.toList_map, Array.toList_range]
    rw [Nat.add_mul, Nat.one_mul, List.range_add, List.map_append]
    congr 1
    apply List.ext_getElem?
    intro j
    by_cases hj : j < zero.size
    · simp [hj, Nat.mul_add_mod_self_right, Nat.mod_eq_of_lt hj]
    · rw [List.getElem?_eq_none (by simp; omega), List.getElem?_eq_none (by simp; omega)]

theorem made_rel {zs : List SV} {zero : Array Value} (h : Rels ρ zs zero.toList) (ha : atoms zs = true) : ∀ n, Rels ρ (reps n zs) (madeCells zero (n * zero.size)).toList ∧ atoms (reps n zs) = true
  | 0 => by simp [reps_eq, madeCells, Rels, atoms]
  | n + 1 => by
    obtain ⟨h1, h2⟩ := made_rel h ha n
    rw [reps_eq] at h1 h2 ⊢
    rw [List.replicate_succ', List.flatten_append, made_succ]
    refine ⟨h1.append (by simpa using h), ?_⟩
    simp [atoms] at h2 ha ⊢
    exact ⟨h2, ha⟩

theorem reps_length (n : Nat) (zs : List SV) : (reps n zs).length = n * zs.length := by
  rw [reps_eq]; simp

/-- A new row, behind so many draws. -/
theorem Chg.row {nid : Nat} {l : List SV} {vs : Array Value} {t : TypeId} {fz : Nat × Nat} (d : Nat) (hn : ρ nid = none) (ha : atoms l = true) (hr : Rels ρ l (vs.toList.take l.length)) (hl : l.length ≤ vs.size) (hz : Unfz vs fz) :
    Chg ρ H w [(nid, some (.row t l))] (setR ρ nid ⟨w.heap.size, 0, vs.size, false⟩) { (w.alloc (.cells vs t fz)) with drawn := d } :=
  Chg.new (b := .row t l) (rb := ⟨w.heap.size, 0, vs.size, false⟩) d hn rfl
    (.inr ⟨rfl, vs, fz, alloc_heap_new w _, hz, by simp, ha, by simpa using hr, hl⟩)

theorem run_buildSlice' {t n el sz : Nat} {v : Value} {i : TypeInfo} {parts : Array (Nat × Value)} {cs : Array Value} (hu : P.underlying t = some (.slice el)) (hs : psz P el = some sz) (hi : P.info? el = some i) (hv : i.zero = some v)
    (hn : n * sz ≤ 16777216) (hf : Instr.fill (fun i => some (i * sz, sz)) (madeCells v.cells (n * sz)) parts.toList = some cs) :
    (Instr.buildSlice t n parts).run P w = .ok (.slice (some ⟨w.heap.size, 0, none⟩) n n) (w.alloc (.cells cs el)) := by
  have hnn : ¬ (16777216 < n * sz) := by omega
  have hbig : (2 : Nat) ^ 24 = 16777216 := by decide
  have hz0 : (zeroValue el).run P w = .ok v w := by simp [zeroValue, typeInfo, hi, hv]
  unfold madeCells at hf
  unfold Instr.buildSlice
  simp only [Sem.run_bind, run_und hu, run_size hs, Result.andThen_ok, hbig, gt_iff_lt, hnn, if_false]
  by_cases h0 : n * sz = 0
  · rw [h0, Array.range_zero'] at hf
    simp only [h0, if_true, Sem.run_pure, Sem.run_bind, Result.andThen_ok, Array.range_zero']
    rw [show Array.map (fun x => (#[] : Array Value)[x % (#[] : Array Value).size]!) #[] = Array.map (fun x => v.cells[x % v.cells.size]!) #[] from by simp, hf]
    rfl
  · simp only [h0, if_false, Sem.run_pure, Sem.run_bind, Result.andThen_ok, hz0, hf]
    rfl

theorem lt_buildSlice {o : Oper} {R : Env} {t n el sz nid : Nat} {parts : Array (Nat × Operand)} {xs : List (Nat × SV)} {z : SV} {l : List SV} (ho : o.op = .buildSlice t n parts)
    (hx : parts.toList.map (fun p => (p.1, evO R p.2)) = xs.map (fun p => (p.1, some p.2))) (hu : P.underlying t = some (.slice el)) (hz : pzero P el = some z) (hs : psz P el = some sz) (hzs : z.cells.length = sz)
    (hn : n * sz ≤ 16777216) (hf : sfill (fun i => some (i * sz, sz)) (reps n z.cells) xs = some l) : LT P o R H [] [(nid, some (.row el l))] (some (.sl nid 0 n sz true)) := by
  refine LT.of_run (by simp [ho]) fun e w ρ h1 _ _ hfresh => ?_
  obtain ⟨i, v, hi, hv, hr, ht⟩ := zero_of hz
  obtain ⟨zr, za⟩ := (hr ρ).cells_rel ht
  have hzl := zr.length
  simp only [Array.length_toList] at hzl
  obtain ⟨mr, ma⟩ := made_rel zr za n
  rw [hzl, hzs] at mr
  obtain ⟨cs, g1, g2, g3⟩ := fill_ok (relParts_map (parts_ops (fun x hx => by obtain ⟨p, hp, rfl⟩ := hx; simp [ho, Op.operands]; exact ⟨p.1, by simpa using hp⟩) h1) hx) mr ma hf
  have hcl := g2.length
  simp only [Array.length_toList] at hcl
  have hlen : l.length = n * sz := by
    have : ∀ (ys : List (Nat × SV)) (l l' : List SV), sfill (fun i => some (i * sz, sz)) l ys = some l' → l'.length = l.length := by
      intro ys
      induction ys with
      | nil => intro l l' h; simp only [sfill, Option.some.injEq] at h; rw [h]
      | cons y ys ih =>
        intro l l' h
        obtain ⟨i, y⟩ := y
        simp only [sfill] at h
        split at h
        · rename_i hc
          rw [ih _ _ h, sput_eq _ _ _ (by omega)]
          simp; omega
        · cases h
    rw [this _ _ _ hf, reps_length, hzs]
  refine ⟨.value (.slice (some ⟨w.heap.size, 0, none⟩) n n), w.alloc (.cells cs el), _, ?_, Chg.row w.drawn (hfresh nid (some (.row el l)) (by simp) (by simp)) g3 (by rw [List.take_of_length_le (by simp; omega)]; exact g2) (by omega) (.inl rfl), .inl ⟨_, rfl, ?_⟩⟩
  · rw [← map_parts] at g1
    simp only [execOp, ho, Sem.run_bind, run_buildSlice' hu hs hi hv hn g1, Result.andThen_ok, Sem.run_pure]
  · intro u hu2; cases hu2
    simp only [Rel]
    exact ⟨_, _, n, setR_same _ _ _, rfl, Nat.le_refl _, fun _ => rfl, .inr ⟨rfl, rfl, by simp only; omega⟩⟩

def pbytes (P : Program) (t : TypeId) : Option Nat := (P.info? t).map (·.bytes)

theorem lt_makeSlice {o : Oper} {R : Env} {t el sz nid by_ : Nat} {x y : Operand} {n m : Int} {z : SV} (ho : o.op = .makeSlice t x y) (hx : evO R x = some (.i n)) (hy : evO R y = some (.i m)) (hu : P.underlying t = some (.slice el))
    (hz : pzero P el = some z) (hs : psz P el = some sz) (hzs : z.cells.length = sz) (hb : pbytes P el = some by_) (h0 : 0 ≤ n) (hnm : n ≤ m) (hm : (by_ : Int) * m ≤ 281474976710656) (h63 : m ≤ 9223372036854775807) :
    LT P o R H [] [(nid, some (.row el (reps n.toNat z.cells)))] (some (.sl nid 0 n.toNat sz (decide (n = m)))) := by
  refine LT.of_run (by simp [ho]) fun e w ρ h1 _ _ hfresh => ?_
  have hx2 := h1 x (by simp [ho, Op.operands]) _ hx
  have hy2 := h1 y (by simp [ho, Op.operands]) _ hy
  simp only [Rel] at hx2 hy2
  obtain ⟨i, v, hi, hv, hr, ht⟩ := zero_of hz
  obtain ⟨zr, za⟩ := (hr ρ).cells_rel ht
  have hzl := zr.length
  simp only [Array.length_toList] at hzl
  obtain ⟨mr, ma⟩ := made_rel zr za n.toNat
  obtain ⟨mr2, _⟩ := made_rel zr za m.toNat
  unfold pbytes at hb
  unfold psz at hs
  rw [hi] at hb hs
  simp only [Option.map_some, Option.some.injEq] at hb hs
  have hrun := run_make (P := P) w t el i v hu hi hv .i64 .i64 n m h0 hnm (by rw [hb]; exact hm) h63
  have hsz : v.cells.size = i.size := by omega
  rw [hsz] at mr mr2
  have l1 := mr.length
  have l2 := mr2.length
  rw [reps_length] at l1 l2
  simp only [Array.length_toList] at l1 l2
  have hmul : n.toNat * z.cells.length ≤ m.toNat * z.cells.length := Nat.mul_le_mul_right _ (by omega)
  have htake : (madeCells v.cells (m.toNat * i.size)).toList.take (n.toNat * z.cells.length) = (madeCells v.cells (n.toNat * i.size)).toList := by
    rw [hzs, ← hs]
    simp only [madeCells, Array.toList_map, Array.toList_range, ← List.map_take, List.take_range]
    congr 2
    have : n.toNat * i.size ≤ m.toNat * i.size := Nat.mul_le_mul_right _ (by omega)
    omega
  refine ⟨.value (.slice (some ⟨w.heap.size, 0, none⟩) n.toNat m.toNat), w.alloc (.cells (madeCells v.cells (m.toNat * i.size)) el), _, ?_,
    Chg.row w.drawn (hfresh nid (some (.row el (reps n.toNat z.cells))) (by simp) (by simp)) ma (by rw [reps_length, htake]; exact mr) (by rw [reps_length]; omega) (.inl rfl), .inl ⟨_, rfl, ?_⟩⟩
  · simp only [execOp, ho, hx2, hy2, Sem.run_bind, hrun, Result.andThen_ok, Sem.run_pure]
  · intro u hu2; cases hu2
    simp only [Rel]
    refine ⟨_, _, m.toNat, setR_same _ _ _, rfl, by omega, fun hd => by simp at hd; omega, .inr ⟨rfl, rfl, ?_⟩⟩
    simp only [Nat.zero_add]; rw [l2, hzs]; exact Nat.le_refl _

/-! ### Slice expressions -/

/-- A bound: what stands there, or what is taken where nothing stands. -/
def bound (R : Env) (d : Nat) : Option Operand → Option Nat
  | none => some d
  | some x => (evO R x).bind idxOf

theorem bound_some {R : Env} {d k : Nat} {x : Operand} {e : Operand → Value} (h : bound R d (some x) = some k) (h1 : ∀ v, evO R x = some v → Rel ρ v (e x)) : ∃ kk, e x = .int kk (k : Int) := by
  simp only [bound] at h
  obtain ⟨v, hv, h2⟩ := Option.bind_eq_some_iff.1 h
  exact idxOf_spec h2 (h1 v hv)


theorem run_sb {x : Value} {k : IntKind} {n y : Nat} {c : BoundsCode} (h : x = .int k (n : Int)) (hn : n ≤ y) : (Instr.sliceBound x y c).run P w = .ok n w := by
  subst h
  have h0 : (0 : Int) ≤ (n : Int) := Int.natCast_nonneg _
  have h1 : (n : Int) ≤ (y : Int) := by omega
  simp only [Instr.sliceBound, asIntOf, Sem.run_bind, Sem.run_pure, Result.andThen_ok, h0, h1, and_self, if_true, Int.toNat_natCast]

/-- The bounds of a slice expression. -/
theorem run_bounds {s : Bool} {len cap l h m : Nat} {lo hi mx : Option Value} (hm : m ≤ cap) (hh : h ≤ m) (hl : l ≤ h)
    (e1 : (lo = none ∧ l = 0) ∨ ∃ v k, lo = some v ∧ v = .int k (l : Int)) (e2 : (hi = none ∧ h = len ∧ mx = none) ∨ ∃ v k, hi = some v ∧ v = .int k (h : Int))
    (e3 : (mx = none ∧ m = cap) ∨ ∃ v k, mx = some v ∧ v = .int k (m : Int)) :
    (Instr.sliceBounds s len cap lo hi mx).run P w = .ok (l, h, m) w := by
  unfold Instr.sliceBounds
  rcases e3 with ⟨rfl, rfl⟩ | ⟨vm, km, rfl, em⟩
  · rcases e2 with ⟨rfl, rfl, _⟩ | ⟨vh, kh, rfl, eh⟩
    · rcases e1 with ⟨rfl, rfl⟩ | ⟨vl, kl, rfl, el⟩
      · simp only [Sem.run_bind, Sem.run_pure, Result.andThen_ok]
      · simp only [Sem.run_bind, Sem.run_pure, Result.andThen_ok, run_sb el hl]
    · rcases e1 with ⟨rfl, rfl⟩ | ⟨vl, kl, rfl, el⟩
      · simp only [Sem.run_bind, Sem.run_pure, Result.andThen_ok, run_sb eh hh]
      · simp only [Sem.run_bind, Sem.run_pure, Result.andThen_ok, run_sb eh hh, run_sb el hl]
  · rcases e2 with ⟨rfl, rfl, hbad⟩ | ⟨vh, kh, rfl, eh⟩
    · cases hbad
    · rcases e1 with ⟨rfl, rfl⟩ | ⟨vl, kl, rfl, el⟩
      · simp only [Sem.run_bind, Sem.run_pure, Result.andThen_ok, run_sb eh hh, run_sb em hm]
      · simp only [Sem.run_bind, Sem.run_pure, Result.andThen_ok, run_sb eh hh, run_sb el hl, run_sb em hm]

theorem bound_low {R : Env} {l : Nat} {lo : Option Operand} {e : Operand → Value} (h : bound R 0 lo = some l) (h1 : ∀ x, lo = some x → ∀ v, evO R x = some v → Rel ρ v (e x)) :
    (lo.map e = none ∧ l = 0) ∨ ∃ v k, lo.map e = some v ∧ v = .int k (l : Int) := by
  cases lo with
  | none => simp only [bound, Option.some.injEq] at h; exact .inl ⟨rfl, h.symm⟩
  | some x => obtain ⟨k, hk⟩ := bound_some h (h1 x rfl); exact .inr ⟨_, k, rfl, hk⟩

/-- A slice of a slice, no capacity given. -/
theorem lt_slice_sl {o : Oper} {R : Env} {t el id k n sz l h : Nat} {full : Bool} {x : Operand} {lo hi : Option Operand} (ho : o.op = .slice t x lo hi none) (hx : evO R x = some (.sl id k n sz full)) (hu : P.underlying t = some (.slice el))
    (hs : psz P el = some sz) (hlo : bound R 0 lo = some l) (hhi : bound R n hi = some h) (hlh : l ≤ h) (hn : h ≤ n) : LT P o R H [] [] (some (.sl id (k + l * sz) (h - l) sz (full && decide (h = n)))) := by
  refine LT.pure (by simp [ho]) fun e w ρ h1 _ => ?_
  have hx2 := h1 x (by simp [ho, Op.operands]) _ hx
  simp only [Rel] at hx2
  obtain ⟨rb, a, c, hr, he, hnc, hfull, hdis⟩ := hx2
  have b1 := bound_low hlo (fun y hy => h1 y (by simp [ho, Op.operands, hy]))
  have b2 : (hi.map e = none ∧ h = n ∧ (none : Option Value) = none) ∨ ∃ v k, hi.map e = some v ∧ v = .int k (h : Int) := by
    cases hi with
    | none => simp only [bound, Option.some.injEq] at hhi; exact .inl ⟨rfl, hhi.symm, rfl⟩
    | some y => obtain ⟨kk, hk⟩ := bound_some hhi (h1 y (by simp [ho, Op.operands])); exact .inr ⟨_, kk, rfl, hk⟩
  have hb := run_bounds (P := P) (w := w) (s := true) (len := n) (cap := c) (l := l) (h := h) (m := c) (mx := none) (Nat.le_refl _) (by omega) hlh b1 b2 (.inl ⟨rfl, rfl⟩)
  refine ⟨.slice (if c = l then a else a.map (·.add (l * sz))) (h - l) (c - l), ?_, ?_⟩
  · simp only [execOp, ho, he, Instr.sliceAt, Instr.slice, Option.map_none, Sem.run_bind, run_und hu, Result.andThen_ok, hb, run_size hs, Sem.run_pure]
  · simp only [Rel]
    refine ⟨rb, _, c - l, hr, rfl, by omega, fun hf => ?_, ?_⟩
    · simp at hf
      have := hfull hf.1
      omega
    · rcases hdis with h0 | ⟨hv, ha, hcap⟩
      · left; omega
      · by_cases hc : c = l
        · left; omega
        · right
          refine ⟨hv, ?_, ?_⟩
          · rw [if_neg hc, ha, Option.map_some, add_addr, Nat.add_assoc]
          · rw [Nat.sub_mul]; have : l * sz ≤ c * sz := Nat.mul_le_mul_right _ (by omega); omega

/-- A slice of a slice, its capacity given. -/
theorem lt_slice_sl3 {o : Oper} {R : Env} {t el id k n sz l h m : Nat} {full : Bool} {x y z : Operand} {lo : Option Operand} (ho : o.op = .slice t x lo (some y) (some z)) (hx : evO R x = some (.sl id k n sz full)) (hu : P.underlying t = some (.slice el))
    (hs : psz P el = some sz) (hlo : bound R 0 lo = some l) (hhi : bound R n (some y) = some h) (hmx : bound R n (some z) = some m) (hlh : l ≤ h) (hhm : h ≤ m) (hn : m ≤ n) :
    LT P o R H [] [] (some (.sl id (k + l * sz) (h - l) sz (decide (h = m)))) := by
  refine LT.pure (by simp [ho]) fun e w ρ h1 _ => ?_
  have hx2 := h1 x (by simp [ho, Op.operands]) _ hx
  simp only [Rel] at hx2
  obtain ⟨rb, a, c, hr, he, hnc, hfull, hdis⟩ := hx2
  have b1 := bound_low hlo (fun y hy => h1 y (by simp [ho, Op.operands, hy]))
  obtain ⟨k2, hk2⟩ := bound_some hhi (h1 y (by simp [ho, Op.operands]))
  obtain ⟨k3, hk3⟩ := bound_some hmx (h1 z (by simp [ho, Op.operands]))
  have hb := run_bounds (P := P) (w := w) (s := true) (len := n) (cap := c) (l := l) (h := h) (m := m) (hi := some (e y)) (mx := some (e z)) (by omega) hhm hlh b1 (.inr ⟨_, k2, rfl, hk2⟩) (.inr ⟨_, k3, rfl, hk3⟩)
  refine ⟨.slice (if m = l then a else a.map (·.add (l * sz))) (h - l) (m - l), ?_, ?_⟩
  · simp only [execOp, ho, he, Instr.sliceAt, Instr.slice, Option.map_some, Sem.run_bind, run_und hu, Result.andThen_ok, hb, run_size hs, Sem.run_pure]
  · simp only [Rel]
    refine ⟨rb, _, m - l, hr, rfl, by omega, fun hf => by simp at hf; omega, ?_⟩
    · rcases hdis with h0 | ⟨hv, ha, hcap⟩
      · left; omega
      · by_cases hc : m = l
        · left; omega
        · right
          refine ⟨hv, ?_, ?_⟩
          · rw [if_neg hc, ha, Option.map_some, add_addr, Nat.add_assoc]
          · rw [Nat.sub_mul]
            have h2 : l * sz ≤ m * sz := Nat.mul_le_mul_right _ (by omega)
            have h3 : m * sz ≤ c * sz := Nat.mul_le_mul_right _ (by omega)
            omega

/-- A slice of an array in memory. -/
theorem lt_slice_arr {o : Oper} {R : Env} {t el len id k sz l h : Nat} {x : Operand} {lo hi : Option Operand} {b : SB} (ho : o.op = .slice t x lo hi none) (hx : evO R x = some (.p id k)) (hb : H id = some b) (hu : P.underlying t = some (.array len el))
    (hs : psz P el = some sz) (hlo : bound R 0 lo = some l) (hhi : bound R len hi = some h) (hlh : l ≤ h) (hn : h ≤ len) (hsz : 0 < len * sz) (hin : k + len * sz ≤ b.cells.length) :
    LT P o R H [id] [] (some (.sl id (k + l * sz) (h - l) sz (decide (h = len)))) := by
  refine LT.pure (by simp [ho]) fun e w ρ h1 h2 => ?_
  have hx2 := h1 x (by simp [ho, Op.operands]) _ hx
  simp only [Rel] at hx2
  obtain ⟨rb, hr, he⟩ := hx2
  obtain ⟨rb', hr', hbr⟩ := h2 id (by simp) b hb
  rw [hr] at hr'; cases hr'
  have hv := (hbr.cellsAt (by omega)).2
  have hcapl : b.cells.length ≤ rb.cap := by
    cases b with
    | obj y => simp [SB.cells]
    | ro l => rcases hbr with rfl | hbr; (simp [SB.cells]); exact hbr.2.1
    | box l => exact hbr.2.1
    | row t l => rcases hbr with ⟨_, rfl⟩ | ⟨_, c, fz, _, _, _, _, _, hl⟩; (simp [SB.cells]); exact hl
  have b1 := bound_low hlo (fun y hy => h1 y (by simp [ho, Op.operands, hy]))
  have b2 : (hi.map e = none ∧ h = len ∧ (none : Option Value) = none) ∨ ∃ v k, hi.map e = some v ∧ v = .int k (h : Int) := by
    cases hi with
    | none => simp only [bound, Option.some.injEq] at hhi; exact .inl ⟨rfl, hhi.symm, rfl⟩
    | some y => obtain ⟨kk, hk⟩ := bound_some hhi (h1 y (by simp [ho, Op.operands])); exact .inr ⟨_, kk, rfl, hk⟩
  have hb2 := run_bounds (P := P) (w := w) (s := false) (len := len) (cap := len) (l := l) (h := h) (m := len) (mx := none) (Nat.le_refl _) (by omega) hlh b1 b2 (.inl ⟨rfl, rfl⟩)
  refine ⟨.slice (some (if len = l then ⟨rb.blk, rb.off + k, none⟩ else (⟨rb.blk, rb.off + k, none⟩ : Addr).add (l * sz))) (h - l) (len - l), ?_, ?_⟩
  · simp only [execOp, ho, he, Instr.sliceAt, Instr.sureAddr, Option.map_none, Sem.run_bind, run_und hu, Result.andThen_ok, hb2, run_size hs, Sem.run_pure]
  · simp only [Rel]
    refine ⟨rb, _, len - l, hr, rfl, by omega, fun hf => by simp at hf; omega, ?_⟩
    by_cases hc : len = l
    · left; omega
    · right
      refine ⟨hv, ?_, ?_⟩
      · rw [if_neg hc, add_addr, Nat.add_assoc]
      · rw [Nat.sub_mul]; have : l * sz ≤ len * sz := Nat.mul_le_mul_right _ (by omega); omega

/-- A slice of nothing. -/
theorem lt_slice_nil {o : Oper} {R : Env} {t el sz : Nat} {x : Operand} {lo hi : Option Operand} (ho : o.op = .slice t x lo hi none) (hx : evO R x = some .slnil) (hu : P.underlying t = some (.slice el))
    (hs : psz P el = some sz) (hlo : bound R 0 lo = some 0) (hhi : bound R 0 hi = some 0) : LT P o R H [] [] (some .slnil) := by
  refine LT.pure (by simp [ho]) fun e w ρ h1 _ => ?_
  have hx2 := h1 x (by simp [ho, Op.operands]) _ hx
  simp only [Rel] at hx2
  have b1 := bound_low hlo (fun y hy => h1 y (by simp [ho, Op.operands, hy]))
  have b2 : (hi.map e = none ∧ 0 = 0 ∧ (none : Option Value) = none) ∨ ∃ v k, hi.map e = some v ∧ v = .int k ((0 : Nat) : Int) := by
    cases hi with
    | none => exact .inl ⟨rfl, rfl, rfl⟩
    | some y => obtain ⟨kk, hk⟩ := bound_some hhi (h1 y (by simp [ho, Op.operands])); exact .inr ⟨_, kk, rfl, hk⟩
  have hb := run_bounds (P := P) (w := w) (s := true) (len := 0) (cap := 0) (l := 0) (h := 0) (m := 0) (mx := none) (Nat.le_refl _) (by omega) (Nat.le_refl _) b1 b2 (.inl ⟨rfl, rfl⟩)
  refine ⟨.slice none 0 0, ?_, by simp only [Rel]⟩
  simp only [execOp, ho, hx2, Instr.sliceAt, Instr.slice, Option.map_none, Sem.run_bind, run_und hu, Result.andThen_ok, hb, run_size hs, Sem.run_pure, if_true, Nat.sub_self]

/-- A piece of a string. -/
theorem lt_slice_str {o : Oper} {R : Env} {t l h : Nat} {bs : List UInt8} {x : Operand} {lo hi : Option Operand} (ho : o.op = .slice t x lo hi none) (hx : evO R x = some (.s bs)) (hu : P.underlying t = some .string)
    (hlo : bound R 0 lo = some l) (hhi : bound R bs.length hi = some h) (hlh : l ≤ h) (hn : h ≤ bs.length) : LT P o R H [] [] (some (.s ((bs.take h).drop l))) := by
  refine LT.pure (by simp [ho]) fun e w ρ h1 _ => ?_
  have hx2 := h1 x (by simp [ho, Op.operands]) _ hx
  simp only [Rel] at hx2
  have b1 := bound_low hlo (fun y hy => h1 y (by simp [ho, Op.operands, hy]))
  have b2 : (hi.map e = none ∧ h = bs.length ∧ (none : Option Value) = none) ∨ ∃ v k, hi.map e = some v ∧ v = .int k (h : Int) := by
    cases hi with
    | none => simp only [bound, Option.some.injEq] at hhi; exact .inl ⟨rfl, hhi.symm, rfl⟩
    | some y => obtain ⟨kk, hk⟩ := bound_some hhi (h1 y (by simp [ho, Op.operands])); exact .inr ⟨_, kk, rfl, hk⟩
  have hsz : (⟨⟨bs⟩⟩ : ByteArray).size = bs.length := rfl
  have hb := run_bounds (P := P) (w := w) (s := false) (len := bs.length) (cap := bs.length) (l := l) (h := h) (m := bs.length) (mx := none) (Nat.le_refl _) hn hlh b1 b2 (.inl ⟨rfl, rfl⟩)
  refine ⟨.string ((⟨⟨bs⟩⟩ : ByteArray).extract l h), ?_, ?_⟩
  · simp only [execOp, ho, hx2, Instr.sliceAt, Instr.slice, Option.map_none, Option.isSome_none, Bool.false_eq_true, if_false, Sem.run_bind, run_und hu, Result.andThen_ok, hsz, hb, Sem.run_pure]
  · simp only [Rel]
    congr 1
    apply WideShapes.bytes_inj
    rw [Lib.extract_data]
    simp [List.drop_take]

end
end Go.Sh
