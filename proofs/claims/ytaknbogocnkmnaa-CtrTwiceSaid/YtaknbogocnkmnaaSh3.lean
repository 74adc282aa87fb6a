/- Reading and writing the cells of shadow blocks: the model's loads and stores. -/
import Derived.Test.YtaknbogocnkmnaaSh2
namespace Go.Sh

section
variable {P : Program} {ρ ρ' : Ren} {w w' : World}

theorem add_addr (b o j : Nat) : (⟨b, o, none⟩ : Addr).add j = ⟨b, o + j, none⟩ := by unfold Addr.add; split <;> simp_all

theorem cell?_cells {b o : Nat} {c : Array Value} {t : TypeId} {fz : Nat × Nat} (h : w.heap[b]? = some (.cells c t fz)) : w.cell? ⟨b, o, none⟩ = c[o]? := by
  simp [World.cell?, h]

theorem frozen?_cells {b o : Nat} {c : Array Value} {t : TypeId} {fz : Nat × Nat} (h : w.heap[b]? = some (.cells c t fz)) (hz : Unfz c fz) (ho : o < c.size) : w.frozen? ⟨b, o, none⟩ = false := by
  obtain ⟨lo, hi⟩ := fz
  simp only [World.frozen?, h]
  rcases hz with hz | hz
  · cases hz; simp
  · simp only at hz; simp; omega

/-- Some cells are read. -/
theorem run_cells {b o n : Nat} {c : Array Value} {t : TypeId} {fz : Nat × Nat} (h : w.heap[b]? = some (.cells c t fz)) (hn : o + n ≤ c.size) :
    (loadCells ⟨b, o, none⟩ n).run P w = .ok ⟨(c.toList.drop o).take n⟩ w := by
  have hl : ((c.toList.drop o).take n).length = n := by simp; omega
  have := run_loadCells_list (P := P) w ⟨b, o, none⟩ ((c.toList.drop o).take n) (fun j v hv => by
    rw [add_addr, cell?_cells h, ← Array.getElem?_toList]
    have hj : j < ((c.toList.drop o).take n).length := (List.getElem?_eq_some_iff.1 hv).1
    rw [List.getElem?_take_of_lt (by omega), List.getElem?_drop] at hv
    exact hv)
  rw [hl] at this
  simpa using this

theorem run_cell {b o : Nat} {c : Array Value} {t : TypeId} {fz : Nat × Nat} {v : Value} (h : w.heap[b]? = some (.cells c t fz)) (hv : c[o]? = some v) :
    (load ⟨b, o, none⟩).run P w = .ok v w := by
  rw [run_load, cell?_cells h, hv]

theorem setCell_put {b o : Nat} {c : Array Value} {t : TypeId} {fz : Nat × Nat} {v : Value} (h : w.heap[b]? = some (.cells c t fz)) (ho : o < c.size) :
    w.setCell ⟨b, o, none⟩ v = World.putCells w b o [v] := by
  have hh : (w.setCell ⟨b, o, none⟩ v).heap = (World.putCells w b o [v]).heap := by
    apply Array.ext_getElem?
    intro k
    by_cases hk : k = b
    · subst hk
      rw [World.putCells_heap w k o [v] h]
      simp only [World.setCell, Array.getElem?_modify, h, if_true, Option.map_some]
      simp
      apply Array.ext_getElem?
      intro j
      rw [putAt_getElem? _ _ _ (by simp; omega)]
      by_cases hj : j = o
      · subst hj; simp [ho]
      · rw [Array.getElem?_setIfInBounds_ne (fun e => hj e.symm), if_neg (by simp; omega)]
    · rw [World.putCells_other w b o [v] hk]
      simp only [World.setCell, Array.getElem?_modify]
      rw [if_neg (fun e => hk e.symm)]
  cases w; simp only [World.setCell, World.putCells] at hh ⊢; rw [hh]

theorem putCells_cons {b o : Nat} {c : Array Value} {t : TypeId} {fz : Nat × Nat} {v : Value} {vs : List Value} (h : w.heap[b]? = some (.cells c t fz)) (ho : o + (vs.length + 1) ≤ c.size) :
    World.putCells (World.putCells w b o [v]) b (o + 1) vs = World.putCells w b o (v :: vs) := by
  have h1 := World.putCells_heap w b o [v] h
  have s1 : (putAt c o [v]).size = c.size := putAt_size _ _ _ (by simp; omega)
  have hh : (World.putCells (World.putCells w b o [v]) b (o + 1) vs).heap = (World.putCells w b o (v :: vs)).heap := by
    apply Array.ext_getElem?
    intro k
    by_cases hk : k = b
    · subst hk
      rw [World.putCells_heap _ k (o + 1) vs h1, World.putCells_heap w k o (v :: vs) h]
      congr 2
      apply Array.ext_getElem?
      intro j
      rw [putAt_getElem? _ _ _ (by rw [s1]; omega), putAt_getElem? _ _ _ (by simp; omega), putAt_getElem? _ _ _ (by simp; omega)]
      by_cases h1 : j = o
      · subst h1
        rw [if_neg (by omega), if_pos (by simp), if_pos (by simp)]; simp
      · by_cases h2 : o + 1 ≤ j ∧ j < o + 1 + vs.length
        · rw [if_pos h2, if_pos (by simp; omega)]
          rw [show j - o = (j - (o + 1)) + 1 from by omega]; simp
        · rw [if_neg h2, if_neg (by simp; omega), if_neg (by simp; omega)]
    · rw [World.putCells_other _ b _ _ hk, World.putCells_other _ b _ _ hk, World.putCells_other _ b _ _ hk]
  simp only [World.putCells] at hh ⊢; rw [hh]

theorem putCells_nil (w : World) (b o : Nat) : World.putCells w b o [] = w := by
  have hh : (World.putCells w b o []).heap = w.heap := by
    apply Array.ext_getElem?
    intro k
    simp only [World.putCells, Array.getElem?_modify]
    split
    · rename_i e
      cases hk : w.heap[k]? with
      | none => rfl
      | some x => cases x <;> simp [putAt]
    · rfl
  cases w; simp only [World.putCells] at hh ⊢; rw [hh]

/-- Some cells are written. -/
theorem run_puts {b o : Nat} {t : TypeId} {fz : Nat × Nat} : ∀ (vs : List Value) (i : Nat) {w : World} {c : Array Value}, w.heap[b]? = some (.cells c t fz) → Unfz c fz → o + i + vs.length ≤ c.size → (∀ v ∈ vs, v.oneCell' = true) →
    (storeCells ⟨b, o, none⟩ vs i).run P w = .ok () (World.putCells w b (o + i) vs)
  | [], i, w, c, _, _, _, _ => by rw [putCells_nil]; rfl
  | v :: vs, i, w, c, h, hz, hn, h1 => by
    simp at hn
    have hs : w.cell? ⟨b, o + i, none⟩ = c[o + i]? := cell?_cells h
    have e : (store ((⟨b, o, none⟩ : Addr).add i) v).run P w = .ok () (World.putCells w b (o + i) [v]) := by
      rw [run_store P w _ v .plain (h1 v (by simp)), add_addr, hs, Array.getElem?_eq_getElem (by omega)]
      simp only [frozen?_cells h hz (show o + i < c.size by omega), Bool.false_eq_true, if_false]
      rw [setCell_put h (by omega)]
    have ih := run_puts (o := o) vs (i + 1) (w := World.putCells w b (o + i) [v]) (World.putCells_heap w b (o + i) [v] h) (hz.put _ _ (by simp; omega)) (by rw [putAt_size _ _ _ (by simp; omega)]; omega) (fun u hu => h1 u (by simp [hu]))
    simp only [storeCells, Sem.run_bind, e, Result.andThen_ok, ih]
    rw [show o + (i + 1) = o + i + 1 from by omega, putCells_cons h (by omega)]

/-! ### Types -/

def psz (P : Program) (t : TypeId) : Option Nat := (P.info? t).map (·.size)
def pagg (P : Program) (t : TypeId) : Option Bool := (P.underlying t).map fun | .struct _ => true | .array _ _ => true | _ => false

theorem run_size {t : TypeId} {n : Nat} (h : psz P t = some n) : (sizeOf t).run P w = .ok n w := by
  unfold psz at h
  cases hi : P.info? t with
  | none => simp [hi] at h
  | some i => simp [hi] at h; simp [sizeOf, typeInfo, hi, h]

theorem run_und {t : TypeId} {d : TypeDesc} (h : P.underlying t = some d) : (underlying t).run P w = .ok d w := by
  simp [underlying, h]

theorem run_agg {t : TypeId} {g : Bool} (h : pagg P t = some g) : (isAgg t).run P w = .ok g w := by
  unfold pagg at h
  cases hi : P.underlying t with
  | none => simp [hi] at h
  | some d => rw [hi] at h; unfold isAgg; rw [Sem.run_bind, run_und hi, Result.andThen_ok]; cases d <;> simp at h <;> subst h <;> rfl

/-! ### Values out of the model's -/

def ofAtom : Value → Option SV
  | .int .i64 n => some (.i n)
  | .int .u8 n => if 0 ≤ n ∧ n < 256 then some (.u8 (UInt8.ofNat n.toNat)) else none
  | .int .u16 n => if 0 ≤ n ∧ n < 65536 then some (.u16 (UInt16.ofNat n.toNat)) else none
  | .int .u32 n => if 0 ≤ n ∧ n < 4294967296 then some (.u32 (UInt32.ofNat n.toNat)) else none
  | .int .u64 n => if 0 ≤ n ∧ n < 18446744073709551616 then some (.u64 (UInt64.ofNat n.toNat)) else none
  | .bool b => some (.b b)
  | .string s => some (.s s.data.toList)
  | .pointer none => some .pnil
  | .slice none 0 0 => some .slnil
  | .nilFunc => some .fnil
  | .map none => some .mnil
  | _ => none

def ofAtoms : List Value → Option (List SV)
  | [] => some []
  | v :: vs => (ofAtom v).bind fun x => (ofAtoms vs).map (x :: ·)

def ofVal : Value → Option SV
  | .agg c => (ofAtoms c.toList).map .agg
  | v => ofAtom v

theorem ofAtom_rel {v : Value} {x : SV} (h : ofAtom v = some x) : Rel ρ x v ∧ x.atom = true := by
  unfold ofAtom at h
  split at h <;> (try (cases h; done)) <;> (try (split at h <;> (try (cases h; done)))) <;> cases h <;> refine ⟨?_, rfl⟩ <;> simp only [Rel]
  all_goals (rename_i hh; refine vint_eq ?_; simp only [UInt8.toNat_ofNat', UInt16.toNat_ofNat', UInt32.toNat_ofNat', UInt64.toNat_ofNat']; omega)

theorem ofAtoms_rel : ∀ {vs : List Value} {xs : List SV}, ofAtoms vs = some xs → Rels ρ xs vs ∧ atoms xs = true
  | [], xs, h => by cases h; exact ⟨Rels.nil_iff.2 rfl, rfl⟩
  | v :: vs, xs, h => by
    simp only [ofAtoms] at h
    obtain ⟨x, hx, h2⟩ := Option.bind_eq_some_iff.1 h
    obtain ⟨ys, hy, rfl⟩ := Option.map_eq_some_iff.1 h2
    obtain ⟨a, b⟩ := ofAtoms_rel hy
    obtain ⟨c, d⟩ := ofAtom_rel (ρ := ρ) hx
    exact ⟨Rels.cons c a, by simp [atoms] at b ⊢; exact ⟨d, b⟩⟩

theorem ofVal_rel {v : Value} {x : SV} (h : ofVal v = some x) : Rel ρ x v ∧ ∀ l, x ≠ .tup l := by
  unfold ofVal at h
  split at h
  · rename_i c
    obtain ⟨l, hl, rfl⟩ := Option.map_eq_some_iff.1 h
    obtain ⟨a, b⟩ := ofAtoms_rel (ρ := ρ) hl
    exact ⟨by simp only [Rel]; exact ⟨_, rfl, b, a⟩, fun l => by simp⟩
  · obtain ⟨a, b⟩ := ofAtom_rel (ρ := ρ) h
    exact ⟨a, fun l e => by subst e; simp [SV.atom] at b⟩

def pzero (P : Program) (t : TypeId) : Option SV := (P.info? t).bind fun i => i.zero.bind ofVal

theorem run_zero {t : TypeId} {x : SV} (h : pzero P t = some x) : ∃ v, (zeroValue t).run P w = .ok v w ∧ (∀ ρ, Rel ρ x v) ∧ ∀ l, x ≠ .tup l := by
  unfold pzero at h
  cases hi : P.info? t with
  | none => simp [hi] at h
  | some i =>
    rw [hi, Option.bind_some] at h
    obtain ⟨v, hv, hx⟩ := Option.bind_eq_some_iff.1 h
    exact ⟨v, by simp [zeroValue, typeInfo, hi, hv], fun ρ => (ofVal_rel hx).1, (ofVal_rel (ρ := fun _ => none) hx).2⟩

/-! ### Loads, stores -/

/-- What is read at a place of a block: so many cells, together or one. -/
def sload (agg : Bool) (sz : Nat) (l : List SV) (k : Nat) : Option SV :=
  if agg then (if k + sz ≤ l.length then some (.agg ((l.drop k).take sz)) else none) else l[k]?

/-- A block's cells behind a store. -/
def sput (l : List SV) (k : Nat) : SV → List SV
  | .agg xs => l.take k ++ xs ++ l.drop (k + xs.length)
  | x => l.set k x

theorem sput_eq (l : List SV) (k : Nat) (x : SV) (h : k + x.cells.length ≤ l.length) : sput l k x = l.take k ++ x.cells ++ l.drop (k + x.cells.length) := by
  have aux : ∀ y : SV, k < l.length → l.set k y = l.take k ++ [y] ++ l.drop (k + 1) := fun y hk => by
    rw [List.set_eq_take_append_cons_drop, if_pos hk]; simp
  cases x <;> first | rfl | exact aux _ (by simp [SV.cells] at h; omega)

theorem drop_take_get {l : List Value} {o n k : Nat} (hk : k < n) : ((l.drop o).take n)[k]? = l[o + k]? := by
  rw [List.getElem?_take_of_lt hk, List.getElem?_drop]

theorem load_ok {t : TypeId} {g : Bool} {sz blk off k : Nat} {l : List SV} {x : SV} {fr : Bool} (hg : pagg P t = some g) (hs : psz P t = some sz) (hc : CellsAt ρ w blk off l fr)
    (hx : sload g sz l k = some x) : ∃ v, (loadVar t ⟨blk, off + k, none⟩).run P w = .ok v w ∧ Rel ρ x v := by
  obtain ⟨c, ty, fz, hb, ha, hr, _, hsz⟩ := hc
  unfold sload at hx
  unfold loadVar
  rw [Sem.run_bind, run_agg hg, Result.andThen_ok]
  cases g with
  | true =>
    simp only [if_true] at hx ⊢
    split at hx
    · rename_i hk
      cases hx
      have hrl := hr.length
      simp only [List.length_take, List.length_drop, Array.length_toList] at hrl
      refine ⟨_, by rw [Sem.run_bind, run_size hs, Result.andThen_ok, Sem.run_bind, run_cells hb (by omega), Result.andThen_ok, Sem.run_pure], ?_⟩
      simp only [Rel]
      refine ⟨_, rfl, ?_, ?_⟩
      · simp only [atoms, List.all_eq_true] at ha ⊢
        exact fun y hy => ha y (List.mem_of_mem_drop (List.mem_of_mem_take hy))
      · have := (hr.drop k).take sz
        rw [List.drop_take, List.drop_drop, List.take_take, Nat.min_eq_left (by omega)] at this
        exact this
    · cases hx
  | false =>
    simp only [Bool.false_eq_true, if_false] at hx ⊢
    obtain ⟨v, hv, hxv⟩ := hr.get hx
    have hk : k < l.length := (List.getElem?_eq_some_iff.1 hx).1
    rw [drop_take_get hk, Array.getElem?_toList] at hv
    exact ⟨v, run_cell hb hv, hxv⟩

theorem CellsAt.put {blk off k : Nat} {l : List SV} {x : SV} {v : Value} (hc : CellsAt ρ w blk off l true) (hx : Rel ρ x v) (ht : ∀ l, x ≠ .tup l) (hk : k + x.cells.length ≤ l.length) :
    CellsAt ρ (World.putCells w blk (off + k) v.cells.toList) blk off (sput l k x) true ∧ (sput l k x).length = l.length := by
  obtain ⟨c, ty, fz, hb, ha, hr, hf, hsz⟩ := hc
  obtain ⟨h1, h2⟩ := hx.cells_rel ht
  have h1l := h1.length
  rw [sput_eq l k x hk]
  have hlen : (l.take k ++ x.cells ++ l.drop (k + x.cells.length)).length = l.length := by simp; omega
  refine ⟨⟨_, ty, fz, World.putCells_heap w blk _ _ hb, ?_, ?_, fun _ => (hf rfl).put _ _ (by omega), ?_⟩, hlen⟩
  · simp only [atoms, List.all_eq_true, List.mem_append] at ha h2 ⊢
    rintro y ((hy | hy) | hy)
    · exact ha y (List.mem_of_mem_take hy)
    · exact h2 y hy
    · exact ha y (List.mem_of_mem_drop hy)
  · rw [hlen]
    have e : ((putAt c (off + k) v.cells.toList).toList.drop off).take l.length = ((c.toList.drop off).take l.length).take k ++ v.cells.toList ++ ((c.toList.drop off).take l.length).drop (k + v.cells.toList.length) := by
      have hL : ((c.toList.drop off).take l.length).length = l.length := by simp; omega
      have hV : v.cells.toList.length = v.cells.size := by simp
      have hP : (putAt c (off + k) v.cells.toList).size = c.size := putAt_size _ _ _ (by omega)
      apply List.ext_getElem?
      intro j
      have hg : ∀ i, i < l.length → ((c.toList.drop off).take l.length)[i]? = c[off + i]? := fun i hi => by rw [drop_take_get hi, Array.getElem?_toList]
      have hout : l.length ≤ j → ((c.toList.drop off).take l.length)[j]? = none := fun hi => List.getElem?_eq_none (by omega)
      generalize (c.toList.drop off).take l.length = L at hL hg hout
      by_cases hj : j < l.length
      · rw [drop_take_get hj, Array.getElem?_toList, putAt_getElem? _ _ _ (by omega)]
        by_cases a1 : j < k
        · rw [if_neg (by omega), List.getElem?_append_left (by rw [List.length_append, List.length_take]; omega), List.getElem?_append_left (by rw [List.length_take]; omega), List.getElem?_take_of_lt a1, hg j hj]
        · by_cases a2 : j < k + v.cells.toList.length
          · rw [if_pos (by omega), List.getElem?_append_left (by rw [List.length_append, List.length_take]; omega), List.getElem?_append_right (by rw [List.length_take]; omega)]
            congr 1; rw [List.length_take]; omega
          · rw [if_neg (by omega), List.getElem?_append_right (by rw [List.length_append, List.length_take]; omega), List.getElem?_drop]
            rw [show k + v.cells.toList.length + (j - (L.take k ++ v.cells.toList).length) = j from by rw [List.length_append, List.length_take]; omega, hg j hj]
      · rw [List.getElem?_eq_none (by simp; omega), List.getElem?_eq_none (by simp only [List.length_append, List.length_take, List.length_drop]; omega)]
    rw [e, h1l]
    exact ((hr.take k).append h1).append (hr.drop _)
  · rw [hlen, putAt_size _ _ _ (by omega)]; exact hsz

theorem store_ok {t : TypeId} {sz blk off k : Nat} {l : List SV} {x : SV} {v : Value} (hs : psz P t = some sz) (hc : CellsAt ρ w blk off l true)
    (hx : Rel ρ x v) (ht : ∀ l, x ≠ .tup l) (hxs : x.cells.length = sz) (hk : k + sz ≤ l.length) :
    (storeVar t ⟨blk, off + k, none⟩ v).run P w = .ok () (World.putCells w blk (off + k) v.cells.toList) := by
  obtain ⟨c, ty, fz, hb, ha, hr, hf, hsz⟩ := hc
  obtain ⟨h1, h2⟩ := hx.cells_rel ht
  have h1l := h1.length
  have hfz := hf rfl
  unfold storeVar
  rw [Sem.run_bind, run_size hs, Result.andThen_ok]
  have hne : ¬ (v.cells.size ≠ sz) := by simp at h1l; omega
  simp only [hne, if_false]
  exact run_puts (P := P) v.cells.toList 0 hb hfz (by omega) (h1.oneCell h2)
end
end Go.Sh
