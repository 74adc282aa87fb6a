/- What comes in, opened: numbers, truths, texts, arrays and structs of such; rows of such. -/
import Derived.Test.YtaknbogocnkmnaaSh18
import Derived.Test.YtaknbogocnkmnaaSh19
namespace Go.Sh
open Go.ChangeShapes Go.WideShapes Go.ChangeAt Go.RowKit
set_option linter.unusedSimpArgs false

section
variable {H : Type} {enc : TypeId × Value → H} {P : Program} {w : World} {base : Nat} {spare : Nat → Bool} {held : Bool}

/-- It can be read. -/
def Rd (enc : TypeId × Value → H) (P : Program) (w : World) (base : Nat) (spare : Nat → Bool) (held : Bool) (t : TypeId) (cs : List Value) : Prop := ∃ fuel x, DataW.trod enc P w base spare held fuel t cs = some x

theorem psz_cells {t : TypeId} {n : Nat} (h : psz P t = some n) : P.cellsOf t = n := by
  unfold psz at h; unfold Program.cellsOf; rw [h]; rfl

/-- Pieces of one size, one behind the other. -/
theorem chunks {ks : List Nat} {R : List Value → Prop} (hR : ∀ c, R c → ∃ xs : List SV, xs.map kd = ks.map some ∧ ∀ ρ, Rels ρ xs c) (cs : List Value) : ∀ n : Nat, n * ks.length ≤ cs.length →
    (∀ i, i < n → R ((cs.drop (i * ks.length)).take ks.length)) → ∃ xs : List SV, xs.map kd = (List.replicate n ks).flatten.map some ∧ ∀ ρ, Rels ρ xs (cs.take (n * ks.length))
  | 0, _, _ => ⟨[], by simp, fun ρ => by simp [Rels]⟩
  | n + 1, hl, h => by
    have hn : (n + 1) * ks.length = n * ks.length + ks.length := by rw [Nat.add_mul]; omega
    obtain ⟨xs, hx, hxr⟩ := chunks hR cs n (by omega) (fun i hi => h i (by omega))
    obtain ⟨ys, hy, hyr⟩ := hR _ (h n (by omega))
    refine ⟨xs ++ ys, ?_, fun ρ => ?_⟩
    · rw [List.map_append, hx, hy, List.replicate_succ', List.flatten_concat, List.map_append]
    · rw [hn, List.take_add]
      exact Rels.append (hxr ρ) (hyr ρ)

theorem int_kd {k : IntKind} {q : Nat} {n : Int} (hk : kdT (.int k) = some q) (hw : (Lit.int k n).wf = true) : ∃ x : SV, kd x = some q ∧ ∀ ρ, Rel ρ x (.int k n) := by
  cases k <;> simp only [kdT] at hk <;> (try (cases hk; done)) <;> simp only [Option.some.injEq] at hk <;> subst hk
  · exact ⟨.i n, rfl, fun ρ => by simp only [Rel]⟩
  all_goals
    simp only [Lit.wf, Bool.and_eq_true, decide_eq_true_eq, IntKind.min, IntKind.max, IntKind.signed, IntKind.bits] at hw
    have h2 := hw.2
    simp at h2 hw
  · exact ⟨.u8 (UInt8.ofNat n.toNat), rfl, fun ρ => by simp only [Rel, UInt8.toNat_ofNat']; congr 1; omega⟩
  · exact ⟨.u16 (UInt16.ofNat n.toNat), rfl, fun ρ => by simp only [Rel, UInt16.toNat_ofNat']; congr 1; omega⟩
  · exact ⟨.u32 (UInt32.ofNat n.toNat), rfl, fun ρ => by simp only [Rel, UInt32.toNat_ofNat']; congr 1; omega⟩
  · exact ⟨.u64 (UInt64.ofNat n.toNat), rfl, fun ρ => by simp only [Rel, UInt64.toNat_ofNat']; congr 1; omega⟩

theorem open_kinds_both : ∀ d : Nat,
    (∀ {t : TypeId} {ks : List Nat}, kinds P d t = some ks → ∀ {cs : List Value}, Rd enc P w base spare held t cs → ∃ xs : List SV, xs.map kd = ks.map some ∧ ∀ ρ, Rels ρ xs cs) ∧
    (∀ {off : Nat} {fs : List Field} {ks : List Nat}, kindsF P d off fs = some ks → ∀ {cs : List Value}, (∀ f ∈ fs, Rd enc P w base spare held f.type ((cs.drop f.offset).take (P.cellsOf f.type))) → off + ks.length ≤ cs.length →
      ∃ xs : List SV, xs.map kd = ks.map some ∧ ∀ ρ, Rels ρ xs ((cs.drop off).take ks.length))
  | 0 => by
    refine ⟨fun h => by simp [kinds] at h, fun {off fs ks} h => ?_⟩
    cases fs with
    | nil => simp [kindsF] at h; subst h; intro cs _ _; exact ⟨[], rfl, fun ρ => by simp [Rels]⟩
    | cons f fs => simp [kindsF] at h
  | d + 1 => by
    obtain ⟨ihA, ihB⟩ := open_kinds_both d
    refine ⟨fun {t ks} h {cs} hr => ?_, fun {off fs ks} h {cs} hr hl => ?_⟩
    · obtain ⟨fuel, x, hx⟩ := hr
      have hsz := kinds_size h
      simp only [kinds] at h
      split at h
      · rename_i fs hu
        split at h
        · cases h
        · obtain ⟨ks', h1, h2⟩ := Option.bind_eq_some_iff.1 h
          split at h2
          · cases h2
            obtain ⟨xs, n, rfl, rfl, hcl, hxl, hf⟩ := DataW.trod_struct hu hx
            have hcs : cs.length = ks.length := by rw [hcl, psz_cells hsz]
            obtain ⟨ys, hy, hyr⟩ := ihB h1 (cs := cs) (fun f hfm => by
              obtain ⟨i, hi, hfi⟩ := List.getElem_of_mem hfm
              have hi' : i < fs.size := by simpa using hi
              have hget : fs[i]? = some f := by rw [Array.getElem?_eq_getElem hi']; simpa using hfi
              have := hf i f hget
              rw [List.getElem?_eq_getElem (by omega : i < xs.length)] at this
              exact ⟨n, _, this⟩) (by omega)
            refine ⟨ys, hy, fun ρ => ?_⟩
            have := hyr ρ
            rwa [List.drop_zero, List.take_of_length_le (by omega)] at this
          · cases h2
      · rename_i n e hu
        obtain ⟨ks', h1, h2⟩ := Option.bind_eq_some_iff.1 h
        split at h2
        · rename_i hps
          cases h2
          obtain ⟨xs, m, rfl, rfl, hcl, hxl, hf⟩ := DataW.trod_array hu hx
          have hcs : cs.length = n * ks'.length := by rw [hcl, psz_cells hps]
          have he : P.cellsOf e = ks'.length := psz_cells (kinds_size h1)
          obtain ⟨ys, hy, hyr⟩ := chunks (R := fun c => Rd enc P w base spare held e c) (fun c hc => ihA h1 hc) cs n (by omega) (fun i hi => by
            have := hf i hi
            rw [he, List.getElem?_eq_getElem (by omega : i < xs.length)] at this
            exact ⟨m, _, this⟩)
          refine ⟨ys, hy, fun ρ => ?_⟩
          have := hyr ρ
          rwa [List.take_of_length_le (by omega)] at this
        · cases h2
      · rename_i ds hns hna hu
        obtain ⟨k, h1, h2⟩ := Option.bind_eq_some_iff.1 h
        split at h2
        · cases h2
          cases ds with
          | int kk =>
            obtain ⟨n, rfl, _, hw⟩ := DataW.trod_int hu hx
            obtain ⟨y, hy, hyr⟩ := int_kd h1 hw
            exact ⟨[y], by simp [hy], fun ρ => Rels.cons (hyr ρ) (Rels.nil_iff.2 rfl)⟩
          | bool =>
            obtain ⟨b, rfl, _⟩ := DataW.trod_bool hu hx
            simp only [kdT, Option.some.injEq] at h1; subst h1
            exact ⟨[.b b], rfl, fun ρ => Rels.cons (by simp only [Rel]) (Rels.nil_iff.2 rfl)⟩
          | string =>
            obtain ⟨s, rfl, _, _⟩ := DataW.trod_string hu hx
            simp only [kdT, Option.some.injEq] at h1; subst h1
            exact ⟨[.s s.data.toList], rfl, fun ρ => Rels.cons (by simp only [Rel]) (Rels.nil_iff.2 rfl)⟩
          | _ => simp [kdT] at h1
        · cases h2
      · cases h
    · cases fs with
      | nil => simp [kindsF] at h; subst h; exact ⟨[], rfl, fun ρ => by simp [Rels]⟩
      | cons f fs =>
        simp only [kindsF] at h
        split at h
        · rename_i hf
          obtain ⟨k1, h1, h2⟩ := Option.bind_eq_some_iff.1 h
          obtain ⟨k2, h3, h4⟩ := Option.map_eq_some_iff.1 h2
          subst h4
          have he : P.cellsOf f.type = k1.length := psz_cells (kinds_size h1)
          have hr1 := hr f (List.mem_cons_self ..)
          rw [hf.2, he] at hr1
          simp only [List.length_append] at hl
          obtain ⟨xs, hx, hxr⟩ := ihA h1 hr1
          obtain ⟨ys, hy, hyr⟩ := ihB h3 (cs := cs) (fun g hg => hr g (List.mem_cons_of_mem _ hg)) (by omega)
          refine ⟨xs ++ ys, by simp [hx, hy], fun ρ => ?_⟩
          rw [List.length_append, List.take_add, List.drop_drop]
          exact Rels.append (hxr ρ) (hyr ρ)
        · cases h

theorem open_kinds {d : Nat} {t : TypeId} {ks : List Nat} (h : kinds P d t = some ks) {cs : List Value} (hr : Rd enc P w base spare held t cs) : ∃ xs : List SV, xs.map kd = ks.map some ∧ ∀ ρ, Rels ρ xs cs :=
  (open_kinds_both d).1 h hr

/-! ### Kinds, told -/
theorem kd_0 {x : SV} (h : kd x = some 0) : ∃ n, x = .i n := by cases x <;> simp [kd] at h; exact ⟨_, rfl⟩
theorem kd_1 {x : SV} (h : kd x = some 1) : ∃ n, x = .u8 n := by cases x <;> simp [kd] at h; exact ⟨_, rfl⟩
theorem kd_2 {x : SV} (h : kd x = some 2) : ∃ n, x = .u16 n := by cases x <;> simp [kd] at h; exact ⟨_, rfl⟩
theorem kd_3 {x : SV} (h : kd x = some 3) : ∃ n, x = .u32 n := by cases x <;> simp [kd] at h; exact ⟨_, rfl⟩
theorem kd_4 {x : SV} (h : kd x = some 4) : ∃ n, x = .u64 n := by cases x <;> simp [kd] at h; exact ⟨_, rfl⟩
theorem kd_5 {x : SV} (h : kd x = some 5) : ∃ n, x = .b n := by cases x <;> simp [kd] at h; exact ⟨_, rfl⟩
theorem kd_nil {xs : List SV} (h : xs.map kd = ([] : List Nat).map some) : xs = [] := by simpa using h
theorem kd_cons {xs : List SV} {k : Nat} {ks : List Nat} (h : xs.map kd = (k :: ks).map some) : ∃ x ys, xs = x :: ys ∧ kd x = some k ∧ ys.map kd = ks.map some := by
  cases xs with
  | nil => simp at h
  | cons x ys => simp at h; exact ⟨x, ys, rfl, h.1, h.2⟩
theorem kd_append {xs : List SV} {k1 k2 : List Nat} (h : xs.map kd = (k1 ++ k2).map some) : ∃ ys zs, xs = ys ++ zs ∧ ys.map kd = k1.map some ∧ zs.map kd = k2.map some := by
  refine ⟨xs.take k1.length, xs.drop k1.length, (List.take_append_drop ..).symm, ?_, ?_⟩
  · rw [List.map_take, h, List.map_append, List.take_left' (by simp)]
  · rw [List.map_drop, h, List.map_append, List.drop_left' (by simp)]
theorem kd_rep {α : Type} {f : α → SV} {k : Nat} (hf : ∀ x, kd x = some k → ∃ a, x = f a) : ∀ {n : Nat} {xs : List SV}, xs.map kd = (List.replicate n k).map some → ∃ l : List α, xs = l.map f ∧ l.length = n
  | 0, xs, h => by
    have : xs = [] := kd_nil h
    subst this; exact ⟨[], rfl, rfl⟩
  | n + 1, xs, h => by
    rw [List.replicate_succ] at h
    obtain ⟨x, ys, rfl, hx, hy⟩ := kd_cons h
    obtain ⟨a, rfl⟩ := hf x hx
    obtain ⟨l, rfl, hl⟩ := kd_rep hf hy
    exact ⟨a :: l, rfl, by simp [hl]⟩
theorem kd_atoms : ∀ {xs : List SV} {ks : List Nat}, xs.map kd = ks.map some → atoms xs = true
  | [], _, _ => rfl
  | x :: xs, [], h => by simp at h
  | x :: xs, k :: ks, h => by
    simp only [List.map_cons, List.cons.injEq] at h
    simp only [atoms, List.all_cons, kd_atom h.1, Bool.true_and]
    exact kd_atoms h.2

/-- An aggregate of numbers. -/
theorem open_agg_k {r : Reach} {b0 d : Nat} {t : TypeId} {ks : List Nat} {v : Value} {y : DataW H} {ps : List MemPlace} (hk : kinds P d t = some ks) (ha : isRow P t = true) (hval : Value.okWide P w r b0 t v) (hd : DataW.Trod enc P w base spare held t v y ps) :
    ∃ xs : List SV, xs.map kd = ks.map some ∧ ∀ ρ, Rel ρ (.agg xs) v := by
  have : ∃ cs, v = .agg cs := by
    unfold Value.okWide at hval
    unfold isRow at ha
    cases hu : P.underlying t with
    | none => rw [hu] at ha; cases ha
    | some ds =>
      rw [hu] at ha hval
      cases ds <;> first | (simp at ha; done) | (obtain ⟨cs, h, _⟩ := hval; exact ⟨cs, h⟩)
  obtain ⟨cs, rfl⟩ := this
  obtain ⟨fuel, hf⟩ := hd
  obtain ⟨xs, hx, hxr⟩ := open_kinds hk (cs := cs.toList) ⟨fuel, _, hf⟩
  refine ⟨xs, hx, fun ρ => ?_⟩
  simp only [Rel]
  exact ⟨cs.toList, rfl, kd_atoms hx, hxr ρ⟩

/-- A number, a truth, a text. -/
theorem open_one_k {r : Reach} {b0 k : Nat} {t : TypeId} {ds : TypeDesc} {v : Value} {y : DataW H} {ps : List MemPlace} (hu : P.underlying t = some ds) (hk : kdT ds = some k) (hk6 : k ≠ 6) (hval : Value.okWide P w r b0 t v) (hd : DataW.Trod enc P w base spare held t v y ps) :
    ∃ x : SV, kd x = some k ∧ ∀ ρ, Rel ρ x v := by
  cases ds with
  | int kk =>
    obtain ⟨n, rfl, _, _, hw⟩ := open_int hu hval hd
    exact int_kd hk hw
  | bool =>
    obtain ⟨b, rfl, _⟩ := open_bool hu hval hd
    simp only [kdT, Option.some.injEq] at hk; subst hk
    exact ⟨.b b, rfl, fun ρ => by simp only [Rel]⟩
  | string => simp only [kdT, Option.some.injEq] at hk; exact absurd hk.symm hk6
  | _ => simp [kdT] at hk

/-! ### Rows -/
theorem cells_get {a : Addr} {n : Nat} {l : List Value} (h : w.cells? base a n = some l) : l.length = n ∧ ∀ i, i < n → w.cell? (a.add i) = l[i]? := by
  unfold World.cells? at h
  split at h
  · refine ⟨by simpa using mapM_some_length h, fun i hi => ?_⟩
    simpa using mapM_some_get h i i (by simp [hi])
  · cases h

theorem addr_add (a : Addr) (i : Nat) (h : a.spot = none) : a.add i = ⟨a.block, a.off + i, none⟩ := by
  cases a; simp only at h; subst h
  unfold Addr.add
  split
  · rename_i h0; subst h0; rfl
  · rfl
theorem addr_block (a : Addr) (i : Nat) : (a.add i).block = a.block := by unfold Addr.add; split <;> rfl
theorem addr_zero (a : Addr) : a.add 0 = a := by simp [Addr.add]

/-- A row that came in: nothing, or cells that can be read. -/
structure Row (enc : TypeId × Value → H) (P : Program) (w : World) (base : Nat) (spare : Nat → Bool) (held : Bool) (e : TypeId) (sz : Nat) (a : Addr) (len cap : Nat) (vs : List Value) : Prop where
  le : len ≤ cap
  most : cap ≤ maxLen
  spot : 0 < cap → a.spot = none
  len : vs.length = cap * sz
  cell : ∀ i, i < cap * sz → w.cell? ⟨a.block, a.off + i, none⟩ = vs[i]?
  read : ∀ i, i < cap → Rd enc P w base spare held e ((vs.drop (i * sz)).take sz)

theorem rows_of {α : Type} (f : Nat → Option (List α)) (sz : Nat) : ∀ n, (∀ i, i < n → ∃ l, f i = some l ∧ l.length = sz) → ∃ vs : List α, vs.length = n * sz ∧ ∀ i, i < n → f i = some ((vs.drop (i * sz)).take sz)
  | 0, _ => ⟨[], by simp, fun i hi => by omega⟩
  | n + 1, h => by
    obtain ⟨vs, h1, h2⟩ := rows_of f sz n (fun i hi => h i (by omega))
    obtain ⟨l, hl, hls⟩ := h n (by omega)
    refine ⟨vs ++ l, by simp [h1, hls, Nat.add_mul], fun i hi => ?_⟩
    by_cases hin : i < n
    · rw [h2 i hin]
      have hle : i * sz + sz ≤ vs.length := by
        rw [h1]; calc i * sz + sz = (i + 1) * sz := by rw [Nat.add_mul]; omega
          _ ≤ n * sz := Nat.mul_le_mul_right _ hin
      rw [List.drop_append_of_le_length (by omega), List.take_append_of_le_length (by simp; omega)]
    · have : i = n := by omega
      subst this
      rw [hl, ← h1, List.drop_left, List.take_of_length_le (by omega)]

theorem open_row {e t : TypeId} {sz : Nat} {cs : List Value} (ht : P.underlying t = some (.slice e)) (hs : psz P e = some sz) (h0 : 0 < sz) (hsp : spare = fun _ => true) (hr : Rd enc P w base spare held t cs) :
    cs = [.slice none 0 0] ∨ ∃ a len cap vs, cs = [.slice (some a) len cap] ∧ Row enc P w base spare held e sz a len cap vs := by
  obtain ⟨fuel, x, hx⟩ := hr
  have he := psz_cells hs
  rcases DataW.trod_slice ht hx with ⟨h, _⟩ | ⟨a, len, cap, elems, rest, n, rfl, rfl, _, hb, hlc, hm, hel, h1, h2, _⟩
  · exact .inl h
  · right
    rw [he] at h1 h2
    obtain ⟨hrl, h2⟩ := h2 (by rw [hsp])
    have all : ∀ i, i < cap → ∃ l, w.cells? base (a.add (i * sz)) sz = some l ∧ Rd enc P w base spare held e l := by
      intro i hi
      by_cases hil : i < len
      · have := h1 i hil
        rw [List.getElem?_eq_getElem (by omega : i < elems.length)] at this
        obtain ⟨l, hl, hr⟩ := Option.bind_eq_some_iff.1 this
        exact ⟨l, hl, n, _, hr⟩
      · have := h2 (i - len) (by omega)
        rw [List.getElem?_eq_getElem (by omega : i - len < rest.length), show len + (i - len) = i from by omega] at this
        obtain ⟨l, hl, hr⟩ := Option.bind_eq_some_iff.1 this
        exact ⟨l, hl, n, _, hr⟩
    obtain ⟨vs, hvl, hv⟩ := rows_of (fun i => w.cells? base (a.add (i * sz)) sz) sz cap (fun i hi => by
      obtain ⟨l, hl, _⟩ := all i hi
      exact ⟨l, hl, (cells_get hl).1⟩)
    have hspot : 0 < cap → a.spot = none := by
      intro hc
      obtain ⟨l, hl, _⟩ := all 0 hc
      obtain ⟨g1, g2⟩ := cells_get hl
      have := g2 0 h0
      rw [List.getElem?_eq_getElem (by omega)] at this
      unfold World.cell? at this
      split at this
      · split at this
        · cases this
        · rename_i hs2
          have h3 : ((a.add (0 * sz)).add 0).spot = none := by simpa using hs2
          rwa [Nat.zero_mul, addr_zero, addr_zero] at h3
      · cases this
    refine ⟨a, len, cap, vs, rfl, hlc, hm, hspot, hvl, fun i hi => ?_, fun i hi => ?_⟩
    · have hc : 0 < cap := by
        rcases Nat.eq_zero_or_pos cap with h | h
        · subst h; omega
        · exact h
      have hi2 : i / sz < cap := by rw [Nat.div_lt_iff_lt_mul h0]; exact hi
      have hl := hv (i / sz) hi2
      obtain ⟨g1, g2⟩ := cells_get hl
      have hmod : i % sz < sz := Nat.mod_lt _ h0
      have := g2 (i % sz) hmod
      rw [addr_add a _ (hspot hc), addr_add _ _ rfl] at this
      have hdm : i / sz * sz + i % sz = i := by rw [Nat.mul_comm]; exact Nat.div_add_mod i sz
      rw [List.getElem?_take_of_lt hmod, List.getElem?_drop, hdm] at this
      simp only [Nat.add_assoc, hdm] at this
      exact this
    · obtain ⟨l, hl, hr⟩ := all i hi
      have := hv i hi
      rw [hl] at this
      rw [← Option.some.inj this]; exact hr

/-- Its block, read alone. -/
theorem Row.block {e : TypeId} {sz : Nat} {a : Addr} {len cap : Nat} {vs : List Value} (h : Row enc P w base spare held e sz a len cap vs) {ρ : Ren} {ys : List SV} (hr : Rels ρ ys (vs.take (len * sz))) (ha : atoms ys = true) :
    (∀ id, ρ id = some ⟨a.block, a.off, cap * sz, false⟩ → Rel ρ (.sl id 0 len sz false) (.slice (some a) len cap)) ∧ BRel ρ w ⟨a.block, a.off, cap * sz, false⟩ (.ro ys) := by
  have hyl : ys.length = len * sz := by
    have := hr.length
    rw [List.length_take, h.len] at this
    have hle : len * sz ≤ cap * sz := Nat.mul_le_mul_right _ h.le
    omega
  refine ⟨fun id hid => ?_, ?_⟩
  · simp only [Rel]
    refine ⟨_, some a, cap, hid, rfl, h.le, fun h => (by cases h), ?_⟩
    by_cases h0 : cap = 0
    · exact .inl h0
    · right
      refine ⟨rfl, ?_, by simp⟩
      have := h.spot (by omega)
      cases a; simp only at this; subst this; simp
  · by_cases h0 : len * sz = 0
    · left; exact List.eq_nil_of_length_eq_zero (by omega)
    · right
      have hle : len * sz ≤ cap * sz := Nat.mul_le_mul_right _ h.le
      have key : ∀ i, i < cap * sz → ∃ c t fz, w.heap[a.block]? = some (.cells c t fz) ∧ c[a.off + i]? = vs[i]? := by
        intro i hi
        have hc := h.cell i hi
        rw [List.getElem?_eq_getElem (by rw [h.len]; exact hi)] at hc
        unfold World.cell? at hc
        split at hc
        · rename_i c t fz hh
          simp only at hc
          exact ⟨c, t, fz, hh, by rw [List.getElem?_eq_getElem (by rw [h.len]; exact hi)]; simpa using hc⟩
        · cases hc
      obtain ⟨c, t2, fz, hh, _⟩ := key 0 (by omega)
      have key2 : ∀ i, i < cap * sz → c[a.off + i]? = vs[i]? := by
        intro i hi
        obtain ⟨c', t', fz', hh', hv⟩ := key i hi
        rw [hh] at hh'; cases hh'; exact hv
      have hsz : a.off + len * sz ≤ c.size := by
        have := key2 (len * sz - 1) (by omega)
        rw [List.getElem?_eq_getElem (by rw [h.len]; omega)] at this
        have := (Array.getElem?_eq_some_iff.1 this).1
        omega
      refine ⟨⟨c, t2, fz, hh, ha, ?_, fun h => (by cases h), by rw [hyl]; exact hsz⟩, by rw [hyl]; exact hle, rfl⟩
      have e1 : (c.toList.drop a.off).take ys.length = vs.take (len * sz) := by
        apply List.ext_getElem?
        intro i
        rw [hyl]
        by_cases hi : i < len * sz
        · rw [List.getElem?_take_of_lt hi, List.getElem?_take_of_lt hi, List.getElem?_drop, Array.getElem?_toList]
          exact key2 i (by omega)
        · rw [List.getElem?_take_eq_none (by omega), List.getElem?_take_eq_none (by omega)]
      rw [e1]; exact hr

/-- A row of numbers, of structs of such. -/
theorem open_row_k {r : Reach} {b0 d : Nat} {e t : TypeId} {ks : List Nat} {v : Value} {y : DataW H} {ps : List MemPlace} (ht : P.underlying t = some (.slice e)) (hk : kinds P d e = some ks) (h0 : 0 < ks.length) (hval : Value.okWide P w r b0 t v)
    (hd : DataW.Trod enc P w base (fun _ => true) held t v y ps) : ∃ (n : Nat) (ys : List SV) (rb : RB), n ≤ maxLen ∧ ys.map kd = (List.replicate n ks).flatten.map some ∧ (∀ ρ id, ρ id = some rb → Rel ρ (.sl id 0 n ks.length false) v) ∧ ∀ ρ, BRel ρ w rb (.ro ys) := by
  obtain ⟨a, len, cap, rfl⟩ := okWide_slice ht hval
  obtain ⟨fuel, hf⟩ := hd
  have hcs : (Value.slice a len cap).cells.toList = [.slice a len cap] := rfl
  rw [hcs] at hf
  rcases open_row ht (kinds_size hk) h0 rfl ⟨fuel, _, hf⟩ with h | ⟨a', len', cap', vs, h, hrow⟩
  · cases h
    refine ⟨0, [], ⟨0, 0, 0, true⟩, Nat.zero_le _, rfl, fun ρ id hr => ?_, fun ρ => .inl rfl⟩
    simp only [Rel]
    exact ⟨_, none, 0, hr, rfl, Nat.le_refl _, fun h => (by cases h), .inl rfl⟩
  · cases h
    have hle : len * ks.length ≤ cap * ks.length := Nat.mul_le_mul_right _ hrow.le
    obtain ⟨ys, hy, hyr⟩ := chunks (R := fun c => Rd enc P w base (fun _ => true) held e c) (fun c hc => open_kinds hk hc) vs len (by rw [hrow.len]; exact hle) (fun i hi => hrow.read i (Nat.lt_of_lt_of_le hi hrow.le))
    exact ⟨len, ys, _, Nat.le_trans hrow.le hrow.most, hy, fun ρ id hid => (hrow.block (hyr ρ) (kd_atoms hy)).1 id hid, fun ρ => (hrow.block (hyr ρ) (kd_atoms hy)).2⟩

theorem flat_rep1 (n k : Nat) : (List.replicate n [k]).flatten = List.replicate n k := by
  induction n with
  | zero => rfl
  | succ n ih => rw [List.replicate_succ, List.flatten_cons, ih]; rfl

/-- A row of bytes; of words. -/
theorem open_row1 {α : Type} {f : α → SV} {r : Reach} {b0 d k : Nat} {e t : TypeId} {v : Value} {y : DataW H} {ps : List MemPlace} (ht : P.underlying t = some (.slice e)) (hk : kinds P d e = some [k]) (hf : ∀ x, kd x = some k → ∃ a, x = f a) (hval : Value.okWide P w r b0 t v)
    (hd : DataW.Trod enc P w base (fun _ => true) held t v y ps) : ∃ (l : List α) (rb : RB), l.length ≤ maxLen ∧ (∀ ρ id, ρ id = some rb → Rel ρ (.sl id 0 l.length 1 false) v) ∧ ∀ ρ, BRel ρ w rb (.ro (l.map f)) := by
  obtain ⟨n, ys, rb, hm, hy, h1, h2⟩ := open_row_k ht hk (by simp) hval hd
  rw [flat_rep1] at hy
  obtain ⟨l, rfl, rfl⟩ := kd_rep hf hy
  exact ⟨l, rb, hm, h1, h2⟩
end
end Go.Sh
