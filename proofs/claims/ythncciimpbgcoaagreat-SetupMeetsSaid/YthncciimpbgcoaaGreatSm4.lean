/- Merged for a claim: Sh20, Sh36, M5g, M5h, Sh38, M8, M9, M10, M12, R8, R9, R10, R11, R12, C1, C2, N1, K1, K2, K5, K6, K3, K7, K8. -/
import Derived.Test.YthncciimpbgcoaaGreatSm3
set_option linter.unusedSimpArgs false
set_option linter.unusedVariables false
namespace Go.Sh
open Go.ChangeShapes Go.WideShapes Go.ChangeAt Go.RowKit
section
variable {H : Type} {enc : TypeId × Value → H} {P : Program} {w : World} {base : Nat} {spare : Nat → Bool} {held : Bool}
def Rd (enc : TypeId × Value → H) (P : Program) (w : World) (base : Nat) (spare : Nat → Bool) (held : Bool) (t : TypeId) (cs : List Value) : Prop := ∃ fuel x, DataW.trod enc P w base spare held fuel t cs = some x
theorem psz_cells {t : TypeId} {n : Nat} (h : psz P t = some n) : P.cellsOf t = n := by
 unfold psz at h; unfold Program.cellsOf; rw [h]; rfl
theorem chunks {ks : List Nat} {R : List Value → Prop} (hR : ∀ c, R c → ∃ xs : List SV, xs.map kd = ks.map some ∧ ∀ ρ, Rels ρ xs c) (cs : List Value) : ∀ n : Nat, n * ks.length ≤ cs.length →
  (∀ i, i < n → R ((cs.drop (i * ks.length)).take ks.length)) → ∃ xs : List SV, xs.map kd = (List.replicate n ks).flatten.map some ∧ ∀ ρ, Rels ρ xs (cs.take (n * ks.length))
 | 0, _, _ => ⟨[], by simp, fun ρ => by simp [Rels]⟩
 | n + 1, hl, h => by
  have hn : (n + 1) * ks.length = n * ks.length + ks.length := by rw [Nat.add_mul]; omega
  obtain ⟨xs, hx, hxr⟩ := chunks hR cs n (by omega) (fun i hi => h i (by omega))
  obtain ⟨ys, hy, hyr⟩ := hR _ (h n (by omega))
  refine ⟨xs ++ ys, ?_, fun ρ => ?_⟩
  ·
   rw [List.map_append, hx, hy, List.replicate_succ', List.flatten_concat, List.map_append]
  ·
   rw [hn, List.take_add]
   exact Rels.append (hxr ρ) (hyr ρ)
theorem int_kd {k : IntKind} {q : Nat} {n : Int} (hk : kdT (.int k) = some q) (hw : (Lit.int k n).wf = true) : ∃ x : SV, kd x = some q ∧ ∀ ρ, Rel ρ x (.int k n) := by
 cases k <;> simp only [kdT] at hk <;> (try (cases hk; done)) <;> simp only [Option.some.injEq] at hk <;> subst hk
 ·
  exact ⟨.i n, rfl, fun ρ => by simp only [Rel]⟩
 all_goals
  simp only [Lit.wf, Bool.and_eq_true, decide_eq_true_eq, IntKind.min, IntKind.max, IntKind.signed, IntKind.bits] at hw
  have h2 := hw.2
  simp at h2 hw
 ·
  exact ⟨.u8 (UInt8.ofNat n.toNat), rfl, fun ρ => by simp only [Rel, UInt8.toNat_ofNat']; congr 1; omega⟩
 ·
  exact ⟨.u16 (UInt16.ofNat n.toNat), rfl, fun ρ => by simp only [Rel, UInt16.toNat_ofNat']; congr 1; omega⟩
 ·
  exact ⟨.u32 (UInt32.ofNat n.toNat), rfl, fun ρ => by simp only [Rel, UInt32.toNat_ofNat']; congr 1; omega⟩
 ·
  exact ⟨.u64 (UInt64.ofNat n.toNat), rfl, fun ρ => by simp only [Rel, UInt64.toNat_ofNat']; congr 1; omega⟩
theorem open_kinds_both : ∀ d : Nat,
  (∀ {t : TypeId} {ks : List Nat}, kinds P d t = some ks → ∀ {cs : List Value}, Rd enc P w base spare held t cs → ∃ xs : List SV, xs.map kd = ks.map some ∧ ∀ ρ, Rels ρ xs cs) ∧
  (∀ {off : Nat} {fs : List Field} {ks : List Nat}, kindsF P d off fs = some ks → ∀ {cs : List Value}, (∀ f ∈ fs, Rd enc P w base spare held f.type ((cs.drop f.offset).take (P.cellsOf f.type))) → off + ks.length ≤ cs.length →
   ∃ xs : List SV, xs.map kd = ks.map some ∧ ∀ ρ, Rels ρ xs ((cs.drop off).take ks.length))
 | 0 => by
  refine ⟨fun h => by simp [kinds] at h, fun {off fs ks} h => ?_⟩
  cases fs with
  | nil => simp [kindsF] at h; subst h; intro cs _ _; exact ⟨[], rfl, fun ρ => by simp [Rels]⟩
  | cons f fs => simp [kindsF] at h
 | d + 1 => by
  obtain ⟨ihA, ihB⟩ := open_kinds_both d
  refine ⟨fun {t ks} h {cs} hr => ?_, fun {off fs ks} h {cs} hr hl => ?_⟩
  ·
   obtain ⟨fuel, x, hx⟩ := hr
   have hsz := kinds_size h
   simp only [kinds] at h
   split at h
   ·
    rename_i fs hu
    split at h
    ·
     cases h
    ·
     obtain ⟨ks', h1, h2⟩ := Option.bind_eq_some_iff.1 h
     split at h2
     ·
      cases h2
      obtain ⟨xs, n, rfl, rfl, hcl, hxl, hf⟩ := DataW.trod_struct hu hx
      have hcs : cs.length = ks.length := by rw [hcl, psz_cells hsz]
      obtain ⟨ys, hy, hyr⟩ := ihB h1 (cs := cs) (fun f hfm => by
       obtain ⟨i, hi, hfi⟩ := List.getElem_of_mem hfm
       have hi' : i < fs.size := by simpa using hi
       have hget : fs[i]? = some f := by rw [Array.getElem?_eq_getElem hi']; simpa using hfi
       have := hf i f hget
       rw [List.getElem?_eq_getElem (by omega : i < xs.length)] at this
       exact ⟨n, _, this⟩) (by omega)
      refine ⟨ys, hy, fun ρ => ?_⟩
      have := hyr ρ
      rwa [List.drop_zero, List.take_of_length_le (by omega)] at this
     ·
      cases h2
   ·
    rename_i n e hu
    obtain ⟨ks', h1, h2⟩ := Option.bind_eq_some_iff.1 h
    split at h2
    ·
     rename_i hps
     cases h2
     obtain ⟨xs, m, rfl, rfl, hcl, hxl, hf⟩ := DataW.trod_array hu hx
     have hcs : cs.length = n * ks'.length := by rw [hcl, psz_cells hps]
     have he : P.cellsOf e = ks'.length := psz_cells (kinds_size h1)
     obtain ⟨ys, hy, hyr⟩ := chunks (R := fun c => Rd enc P w base spare held e c) (fun c hc => ihA h1 hc) cs n (by omega) (fun i hi => by
      have := hf i hi
      rw [he, List.getElem?_eq_getElem (by omega : i < xs.length)] at this
      exact ⟨m, _, this⟩)
     refine ⟨ys, hy, fun ρ => ?_⟩
     have := hyr ρ
     rwa [List.take_of_length_le (by omega)] at this
    ·
     cases h2
   ·
    rename_i ds hns hna hu
    obtain ⟨k, h1, h2⟩ := Option.bind_eq_some_iff.1 h
    split at h2
    ·
     cases h2
     cases ds with
     | int kk =>
      obtain ⟨n, rfl, _, hw⟩ := DataW.trod_int hu hx
      obtain ⟨y, hy, hyr⟩ := int_kd h1 hw
      exact ⟨[y], by simp [hy], fun ρ => Rels.cons (hyr ρ) (Rels.nil_iff.2 rfl)⟩
     | bool =>
      obtain ⟨b, rfl, _⟩ := DataW.trod_bool hu hx
      simp only [kdT, Option.some.injEq] at h1; subst h1
      exact ⟨[.b b], rfl, fun ρ => Rels.cons (by simp only [Rel]) (Rels.nil_iff.2 rfl)⟩
     | string =>
      obtain ⟨s, rfl, _, _⟩ := DataW.trod_string hu hx
      simp only [kdT, Option.some.injEq] at h1; subst h1
      exact ⟨[.s s.data.toList], rfl, fun ρ => Rels.cons (by simp only [Rel]) (Rels.nil_iff.2 rfl)⟩
     | _ => simp [kdT] at h1
    ·
     cases h2
   ·
    cases h
  ·
   cases fs with
   | nil => simp [kindsF] at h; subst h; exact ⟨[], rfl, fun ρ => by simp [Rels]⟩
   | cons f fs =>
    simp only [kindsF] at h
    split at h
    ·
     rename_i hf
     obtain ⟨k1, h1, h2⟩ := Option.bind_eq_some_iff.1 h
     obtain ⟨k2, h3, h4⟩ := Option.map_eq_some_iff.1 h2
     subst h4
     have he : P.cellsOf f.type = k1.length := psz_cells (kinds_size h1)
     have hr1 := hr f (List.mem_cons_self ..)
     rw [hf.2, he] at hr1
     simp only [List.length_append] at hl
     obtain ⟨xs, hx, hxr⟩ := ihA h1 hr1
     obtain ⟨ys, hy, hyr⟩ := ihB h3 (cs := cs) (fun g hg => hr g (List.mem_cons_of_mem _ hg)) (by omega)
     refine ⟨xs ++ ys, by simp [hx, hy], fun ρ => ?_⟩
     rw [List.length_append, List.take_add, List.drop_drop]
     exact Rels.append (hxr ρ) (hyr ρ)
    ·
     cases h
theorem open_kinds {d : Nat} {t : TypeId} {ks : List Nat} (h : kinds P d t = some ks) {cs : List Value} (hr : Rd enc P w base spare held t cs) : ∃ xs : List SV, xs.map kd = ks.map some ∧ ∀ ρ, Rels ρ xs cs :=
 (open_kinds_both d).1 h hr
theorem kd_1 {x : SV} (h : kd x = some 1) : ∃ n, x = .u8 n := by cases x <;> simp [kd] at h; exact ⟨_, rfl⟩
theorem kd_3 {x : SV} (h : kd x = some 3) : ∃ n, x = .u32 n := by cases x <;> simp [kd] at h; exact ⟨_, rfl⟩
theorem kd_5 {x : SV} (h : kd x = some 5) : ∃ n, x = .b n := by cases x <;> simp [kd] at h; exact ⟨_, rfl⟩
theorem kd_nil {xs : List SV} (h : xs.map kd = ([] : List Nat).map some) : xs = [] := by simpa using h
theorem kd_cons {xs : List SV} {k : Nat} {ks : List Nat} (h : xs.map kd = (k :: ks).map some) : ∃ x ys, xs = x :: ys ∧ kd x = some k ∧ ys.map kd = ks.map some := by
 cases xs with
 | nil => simp at h
 | cons x ys => simp at h; exact ⟨x, ys, rfl, h.1, h.2⟩
theorem kd_append {xs : List SV} {k1 k2 : List Nat} (h : xs.map kd = (k1 ++ k2).map some) : ∃ ys zs, xs = ys ++ zs ∧ ys.map kd = k1.map some ∧ zs.map kd = k2.map some := by
 refine ⟨xs.take k1.length, xs.drop k1.length, (List.take_append_drop ..).symm, ?_, ?_⟩
 ·
  rw [List.map_take, h, List.map_append, List.take_left' (by simp)]
 ·
  rw [List.map_drop, h, List.map_append, List.drop_left' (by simp)]
theorem kd_rep {α : Type} {f : α → SV} {k : Nat} (hf : ∀ x, kd x = some k → ∃ a, x = f a) : ∀ {n : Nat} {xs : List SV}, xs.map kd = (List.replicate n k).map some → ∃ l : List α, xs = l.map f ∧ l.length = n
 | 0, xs, h => by
  have : xs = [] := kd_nil h
  subst this; exact ⟨[], rfl, rfl⟩
 | n + 1, xs, h => by
  rw [List.replicate_succ] at h
  obtain ⟨x, ys, rfl, hx, hy⟩ := kd_cons h
  obtain ⟨a, rfl⟩ := hf x hx
  obtain ⟨l, rfl, hl⟩ := kd_rep hf hy
  exact ⟨a :: l, rfl, by simp [hl]⟩
theorem kd_atoms : ∀ {xs : List SV} {ks : List Nat}, xs.map kd = ks.map some → atoms xs = true
 | [], _, _ => rfl
 | x :: xs, [], h => by simp at h
 | x :: xs, k :: ks, h => by
  simp only [List.map_cons, List.cons.injEq] at h
  simp only [atoms, List.all_cons, kd_atom h.1, Bool.true_and]
  exact kd_atoms h.2
theorem open_agg_k {r : Reach} {b0 d : Nat} {t : TypeId} {ks : List Nat} {v : Value} {y : DataW H} {ps : List MemPlace} (hk : kinds P d t = some ks) (ha : isRow P t = true) (hval : Value.okWide P w r b0 t v) (hd : DataW.Trod enc P w base spare held t v y ps) :
  ∃ xs : List SV, xs.map kd = ks.map some ∧ ∀ ρ, Rel ρ (.agg xs) v := by
 have : ∃ cs, v = .agg cs := by
  unfold Value.okWide at hval
  unfold isRow at ha
  cases hu : P.underlying t with
  | none => rw [hu] at ha; cases ha
  | some ds =>
   rw [hu] at ha hval
   cases ds <;> first | (simp at ha; done) | (obtain ⟨cs, h, _⟩ := hval; exact ⟨cs, h⟩)
 obtain ⟨cs, rfl⟩ := this
 obtain ⟨fuel, hf⟩ := hd
 obtain ⟨xs, hx, hxr⟩ := open_kinds hk (cs := cs.toList) ⟨fuel, _, hf⟩
 refine ⟨xs, hx, fun ρ => ?_⟩
 simp only [Rel]
 exact ⟨cs.toList, rfl, kd_atoms hx, hxr ρ⟩
theorem open_one_k {r : Reach} {b0 k : Nat} {t : TypeId} {ds : TypeDesc} {v : Value} {y : DataW H} {ps : List MemPlace} (hu : P.underlying t = some ds) (hk : kdT ds = some k) (hk6 : k ≠ 6) (hval : Value.okWide P w r b0 t v) (hd : DataW.Trod enc P w base spare held t v y ps) :
  ∃ x : SV, kd x = some k ∧ ∀ ρ, Rel ρ x v := by
 cases ds with
 | int kk =>
  obtain ⟨n, rfl, _, _, hw⟩ := open_int hu hval hd
  exact int_kd hk hw
 | bool =>
  obtain ⟨b, rfl, _⟩ := open_bool hu hval hd
  simp only [kdT, Option.some.injEq] at hk; subst hk
  exact ⟨.b b, rfl, fun ρ => by simp only [Rel]⟩
 | string => simp only [kdT, Option.some.injEq] at hk; exact absurd hk.symm hk6
 | _ => simp [kdT] at hk
theorem cells_get {a : Addr} {n : Nat} {l : List Value} (h : w.cells? base a n = some l) : l.length = n ∧ ∀ i, i < n → w.cell? (a.add i) = l[i]? := by
 unfold World.cells? at h
 split at h
 ·
  refine ⟨by simpa using mapM_some_length h, fun i hi => ?_⟩
  simpa using mapM_some_get h i i (by simp [hi])
 ·
  cases h
theorem addr_add (a : Addr) (i : Nat) (h : a.spot = none) : a.add i = ⟨a.block, a.off + i, none⟩ := by
 cases a; simp only at h; subst h
 unfold Addr.add
 split
 ·
  rename_i h0; subst h0; rfl
 ·
  rfl
theorem addr_zero (a : Addr) : a.add 0 = a := by simp [Addr.add]
structure Row (enc : TypeId × Value → H) (P : Program) (w : World) (base : Nat) (spare : Nat → Bool) (held : Bool) (e : TypeId) (sz : Nat) (a : Addr) (len cap : Nat) (vs : List Value) : Prop where
 le : len ≤ cap
 most : cap ≤ maxLen
 spot : 0 < cap → a.spot = none
 len : vs.length = cap * sz
 cell : ∀ i, i < cap * sz → w.cell? ⟨a.block, a.off + i, none⟩ = vs[i]?
 read : ∀ i, i < cap → Rd enc P w base spare held e ((vs.drop (i * sz)).take sz)
theorem rows_of {α : Type} (f : Nat → Option (List α)) (sz : Nat) : ∀ n, (∀ i, i < n → ∃ l, f i = some l ∧ l.length = sz) → ∃ vs : List α, vs.length = n * sz ∧ ∀ i, i < n → f i = some ((vs.drop (i * sz)).take sz)
 | 0, _ => ⟨[], by simp, fun i hi => by omega⟩
 | n + 1, h => by
  obtain ⟨vs, h1, h2⟩ := rows_of f sz n (fun i hi => h i (by omega))
  obtain ⟨l, hl, hls⟩ := h n (by omega)
  refine ⟨vs ++ l, by simp [h1, hls, Nat.add_mul], fun i hi => ?_⟩
  by_cases hin : i < n
  ·
   rw [h2 i hin]
   have hle : i * sz + sz ≤ vs.length := by
    rw [h1]; calc i * sz + sz = (i + 1) * sz := by rw [Nat.add_mul]; omega
     _ ≤ n * sz := Nat.mul_le_mul_right _ hin
   rw [List.drop_append_of_le_length (by omega), List.take_append_of_le_length (by simp; omega)]
  ·
   have : i = n := by omega
   subst this
   rw [hl, ← h1, List.drop_left, List.take_of_length_le (by omega)]
theorem open_row {e t : TypeId} {sz : Nat} {cs : List Value} (ht : P.underlying t = some (.slice e)) (hs : psz P e = some sz) (h0 : 0 < sz) (hsp : spare = fun _ => true) (hr : Rd enc P w base spare held t cs) :
  cs = [.slice none 0 0] ∨ ∃ a len cap vs, cs = [.slice (some a) len cap] ∧ Row enc P w base spare held e sz a len cap vs := by
 obtain ⟨fuel, x, hx⟩ := hr
 have he := psz_cells hs
 rcases DataW.trod_slice ht hx with ⟨h, _⟩ | ⟨a, len, cap, elems, rest, n, rfl, rfl, _, hb, hlc, hm, hel, h1, h2, _⟩
 ·
  exact .inl h
 ·
  right
  rw [he] at h1 h2
  obtain ⟨hrl, h2⟩ := h2 (by rw [hsp])
  have all : ∀ i, i < cap → ∃ l, w.cells? base (a.add (i * sz)) sz = some l ∧ Rd enc P w base spare held e l := by
   intro i hi
   by_cases hil : i < len
   ·
    have := h1 i hil
    rw [List.getElem?_eq_getElem (by omega : i < elems.length)] at this
    obtain ⟨l, hl, hr⟩ := Option.bind_eq_some_iff.1 this
    exact ⟨l, hl, n, _, hr⟩
   ·
    have := h2 (i - len) (by omega)
    rw [List.getElem?_eq_getElem (by omega : i - len < rest.length), show len + (i - len) = i from by omega] at this
    obtain ⟨l, hl, hr⟩ := Option.bind_eq_some_iff.1 this
    exact ⟨l, hl, n, _, hr⟩
  obtain ⟨vs, hvl, hv⟩ := rows_of (fun i => w.cells? base (a.add (i * sz)) sz) sz cap (fun i hi => by
   obtain ⟨l, hl, _⟩ := all i hi
   exact ⟨l, hl, (cells_get hl).1⟩)
  have hspot : 0 < cap → a.spot = none := by
   intro hc
   obtain ⟨l, hl, _⟩ := all 0 hc
   obtain ⟨g1, g2⟩ := cells_get hl
   have := g2 0 h0
   rw [List.getElem?_eq_getElem (by omega)] at this
   unfold World.cell? at this
   split at this
   ·
    split at this
    ·
     cases this
    ·
     rename_i hs2
     have h3 : ((a.add (0 * sz)).add 0).spot = none := by simpa using hs2
     rwa [Nat.zero_mul, addr_zero, addr_zero] at h3
   ·
    cases this
  refine ⟨a, len, cap, vs, rfl, hlc, hm, hspot, hvl, fun i hi => ?_, fun i hi => ?_⟩
  ·
   have hc : 0 < cap := by
    rcases Nat.eq_zero_or_pos cap with h | h
    ·
     subst h; omega
    ·
     exact h
   have hi2 : i / sz < cap := by rw [Nat.div_lt_iff_lt_mul h0]; exact hi
   have hl := hv (i / sz) hi2
   obtain ⟨g1, g2⟩ := cells_get hl
   have hmod : i % sz < sz := Nat.mod_lt _ h0
   have := g2 (i % sz) hmod
   rw [addr_add a _ (hspot hc), addr_add _ _ rfl] at this
   have hdm : i / sz * sz + i % sz = i := by rw [Nat.mul_comm]; exact Nat.div_add_mod i sz
   rw [List.getElem?_take_of_lt hmod, List.getElem?_drop, hdm] at this
   simp only [Nat.add_assoc, hdm] at this
   exact this
  ·
   obtain ⟨l, hl, hr⟩ := all i hi
   have := hv i hi
   rw [hl] at this
   rw [← Option.some.inj this]; exact hr
theorem Row.block {e : TypeId} {sz : Nat} {a : Addr} {len cap : Nat} {vs : List Value} (h : Row enc P w base spare held e sz a len cap vs) {ρ : Ren} {ys : List SV} (hr : Rels ρ ys (vs.take (len * sz))) (ha : atoms ys = true) :
  (∀ id, ρ id = some ⟨a.block, a.off, cap * sz, false⟩ → Rel ρ (.sl id 0 len sz false) (.slice (some a) len cap)) ∧ BRel ρ w ⟨a.block, a.off, cap * sz, false⟩ (.ro ys) := by
 have hyl : ys.length = len * sz := by
  have := hr.length
  rw [List.length_take, h.len] at this
  have hle : len * sz ≤ cap * sz := Nat.mul_le_mul_right _ h.le
  omega
 refine ⟨fun id hid => ?_, ?_⟩
 ·
  simp only [Rel]
  refine ⟨_, some a, cap, hid, rfl, h.le, fun h => (by cases h), ?_⟩
  by_cases h0 : cap = 0
  ·
   exact .inl h0
  ·
   right
   refine ⟨rfl, ?_, by simp⟩
   have := h.spot (by omega)
   cases a; simp only at this; subst this; simp
 ·
  by_cases h0 : len * sz = 0
  ·
   left; exact List.eq_nil_of_length_eq_zero (by omega)
  ·
   right
   have hle : len * sz ≤ cap * sz := Nat.mul_le_mul_right _ h.le
   have key : ∀ i, i < cap * sz → ∃ c t fz, w.heap[a.block]? = some (.cells c t fz) ∧ c[a.off + i]? = vs[i]? := by
    intro i hi
    have hc := h.cell i hi
    rw [List.getElem?_eq_getElem (by rw [h.len]; exact hi)] at hc
    unfold World.cell? at hc
    split at hc
    ·
     rename_i c t fz hh
     simp only at hc
     exact ⟨c, t, fz, hh, by rw [List.getElem?_eq_getElem (by rw [h.len]; exact hi)]; simpa using hc⟩
    ·
     cases hc
   obtain ⟨c, t2, fz, hh, _⟩ := key 0 (by omega)
   have key2 : ∀ i, i < cap * sz → c[a.off + i]? = vs[i]? := by
    intro i hi
    obtain ⟨c', t', fz', hh', hv⟩ := key i hi
    rw [hh] at hh'; cases hh'; exact hv
   have hsz : a.off + len * sz ≤ c.size := by
    have := key2 (len * sz - 1) (by omega)
    rw [List.getElem?_eq_getElem (by rw [h.len]; omega)] at this
    have := (Array.getElem?_eq_some_iff.1 this).1
    omega
   refine ⟨⟨c, t2, fz, hh, ha, ?_, fun h => (by cases h), by rw [hyl]; exact hsz⟩, by rw [hyl]; exact hle, rfl⟩
   have e1 : (c.toList.drop a.off).take ys.length = vs.take (len * sz) := by
    apply List.ext_getElem?
    intro i
    rw [hyl]
    by_cases hi : i < len * sz
    ·
     rw [List.getElem?_take_of_lt hi, List.getElem?_take_of_lt hi, List.getElem?_drop, Array.getElem?_toList]
     exact key2 i (by omega)
    ·
     rw [List.getElem?_take_eq_none (by omega), List.getElem?_take_eq_none (by omega)]
   rw [e1]; exact hr
end
end Go.Sh
namespace Go.Sh
open Go.ChangeShapes Go.WideShapes Go.ChangeAt Go.RowKit
abbrev Part := Value × RB × List UInt8
def pFe (p : Part) : FE := ⟨p.1, p.2.1, p.2.2.length, 1, p.2.2.map .u8⟩
def pLit (p : Part) : SV := .lit p.1
def pTx (ps : List Part) (i : Nat) : List UInt8 := ((ps.take i).map (fun p => p.2.2)).flatten
theorem pTx_z (ps : List Part) : pTx ps 0 = [] := rfl
theorem pTx_s {ps : List Part} {i : Nat} {p : Part} (h : ps[i]? = some p) : pTx ps (i + 1) = pTx ps i ++ p.2.2 := by
 unfold pTx
 rw [List.take_add_one, h]; simp
theorem pTx_e (ps : List Part) : pTx ps ps.length = (ps.map (fun p => p.2.2)).flatten := by unfold pTx; rw [List.take_length]
theorem pTx_le (ps : List Part) (i : Nat) : (pTx ps i).length ≤ (pTx ps ps.length).length := by
 have e : pTx ps ps.length = pTx ps i ++ ((ps.drop i).map (fun p => p.2.2)).flatten := by
  unfold pTx; rw [List.take_length, ← List.flatten_append, ← List.map_append, List.take_append_drop]
 rw [e, List.length_append]; omega
@[simp] theorem plainL_lit (ps : List Part) : plainL (ps.map pLit) = true := by
 induction ps with
 | nil => rfl
 | cons p ps ih => rw [List.map_cons, plainL_cons, ih]; rfl
theorem focus_p {A : Nat} {R : RL} {H : HL} {L : Nat} (t q : Nat) {l : List FE} {v : Value} {rb : RB} {b : List UInt8} (hq : hk H q = some (.ext (.fam l))) (he : pFe (v, rb, b) ∈ l) (ht : lk t R = some (.lit v)) :
  Weak A R H L ((t, .sl L 0 b.length 1 false) :: R) (hupd H [(L, some (.ro (b.map .u8)))]) (L + 1) := Weak.focus t q hq he ht
section
variable {H : Type} {enc : TypeId × Value → H} {P : Program} {w : World} {base : Nat} {held : Bool}
theorem atoms_lit (ps : List Part) : atoms (ps.map pLit) = true := by induction ps <;> simp_all [atoms, SV.atom, pLit]
end
end Go.Sh
namespace Go.Sh
open Go.Proofs
set_option maxHeartbeats 8000000
theorem rest_nil'_n : List.drop 0 ([] : List UInt8) = rest_n [] := rest_nil_n.symm
theorem st_nil'_n (k h : List UInt32) : st_n k h [] = h := st_nil_n k h
attribute [local irreducible] comp_n blks_n st_n rest_n hash_n pz_n outl_n outb_n lset_n last_n pTx
end Go.Sh
namespace Go.Sh
open Go.Proofs
set_option maxHeartbeats 8000000
def pTh (b0 : List UInt8) (ps : List Part) : Nat → List UInt8
 | 0 => []
 | i + 1 => b0 ++ pTx ps i
theorem pTh_1 (b0 : List UInt8) (ps : List Part) : pTh b0 ps 1 = pTh b0 ps 0 ++ b0 := by show b0 ++ pTx ps 0 = [] ++ b0; rw [pTx_z]; simp
theorem pTh_s {b0 : List UInt8} {ps : List Part} {i : Nat} {p : Part} (h : ps[i]? = some p) : pTh b0 ps (i + 1 + 1) = pTh b0 ps (i + 1) ++ p.2.2 := by
 show b0 ++ pTx ps (i + 1) = b0 ++ pTx ps i ++ p.2.2
 rw [pTx_s h, List.append_assoc]
theorem pTh_le (b0 : List UInt8) (ps : List Part) : ∀ i, (pTh b0 ps i).length ≤ (pTh b0 ps (ps.length + 1)).length
 | 0 => Nat.zero_le _
 | i + 1 => by
  show (b0 ++ pTx ps i).length ≤ (b0 ++ pTx ps ps.length).length
  have := pTx_le ps i
  rw [List.length_append, List.length_append]; omega
theorem pTh_e (b0 : List UInt8) (ps : List Part) : pTh b0 ps (ps.length + 1) = b0 ++ (ps.map (fun p => p.2.2)).flatten := by
 show b0 ++ pTx ps ps.length = _
 rw [pTx_e]
theorem sload_lit1 {x : SV} {ps : List Part} {i : Nat} {p : Part} (h : ps[i]? = some p) : sload false 1 (x :: ps.map pLit) (0 + (i + 1) * 1) = some (.lit p.1) := by
 show (x :: ps.map pLit)[0 + (i + 1) * 1]? = _
 rw [Nat.zero_add, Nat.mul_one, List.getElem?_cons_succ, List.getElem?_map, h]; rfl
attribute [local irreducible] comp_n blks_n st_n rest_n hash_n pz_n outl_n outb_n lset_n last_n pTx pTh
theorem f102_h (h k : List UInt32) (hh : h.length = 8) (hk : k.length = 64) (b0 : List UInt8) (f0 : Bool) (ps : List Part) (hn : ps.length < 1000000000) (hb0 : (pTh b0 ps (ps.length + 1)).length < 100000000000000) (fl : Bool) : SCall Tryz.prog 93 [.p 0 0, .sl 3 0 (ps.length + 1) 1 fl] [some (.ro (mach_n 1 2)), some (.row 29 (h.map .u32)), some (.ro (k.map .u32)), some (.ro (.sl 5 0 b0.length 1 f0 :: ps.map pLit)), some (.ext (.fam (ps.map pFe))), some (.ro (b0.map .u8))] (.sl 6 0 32 1 false) [some (.ro (mach_n 1 2)), none, some (.ro (k.map .u32)), some (.ro (.sl 5 0 b0.length 1 f0 :: ps.map pLit)), some (.ext (.fam (ps.map pFe))), some (.ro (b0.map .u8)), some (.row 5 ((hash_n k h (pTh b0 ps (ps.length + 1))).map .u8))] := by
 obtain ⟨tx, htx⟩ : ∃ tx : Nat → List UInt8, tx = pTh b0 ps := ⟨_, rfl⟩
 have tx0 : tx 0 = [] := by rw [htx]; unfold pTh; rfl
 have tx1 : tx 1 = tx 0 ++ b0 := by rw [htx]; exact pTh_1 b0 ps
 have txn : ∀ i p, ps[i]? = some p → tx (i + 1 + 1) = tx (i + 1) ++ p.2.2 := fun i p hp => by rw [htx]; exact pTh_s hp
 have txl : ∀ i, (tx i).length ≤ (tx (ps.length + 1)).length := fun i => by rw [htx]; exact pTh_le b0 ps i
 rw [← htx] at hb0 ⊢
 clear htx
 refine scall_of ttOk (by kernel_rfl : Tryz.prog.funcs[93]? = some Tryz.f93) rfl rfl rfl ?_
 try simp only [List.length_cons, List.length_nil, Nat.zero_add, Nat.reduceAdd]
 refine sw_ok ttOk mixed (by kernel_rfl) ?_
 conv => whnf
 repeat (first | (refine Exists.intro _ (And.intro rfl ?_); conv => whnf) | fail)
 refine SWp.weak (Weak.virt 6 5 1 rfl) ?_
 refine loop_rulex [7] ttOk mixed (by kernel_rfl) (ι := { x : Nat × List UInt8 × Nat // x.1 ≤ ps.length + 1 ∧ x.2.2 ≤ x.2.1.length ∧ x.2.1.drop x.2.2 = rest_n (tx x.1) }) (fun x => [(0, .p 0 0), (5, .i 64), (6, .sl 6 x.1.2.2 (x.1.2.1.length - x.1.2.2) 1 false), (7, .u64 (UInt64.ofNat (tx x.1.1).length)), (21, .sl 3 0 (ps.length + 1) 1 fl), (22, .i ((ps.length + 1 : Nat) : Int)), (23, .i (x.1.1 : Int))]) (fun x => [some (.ro (mach_n 1 2)), some (.row 29 ((st_n k h (tx x.1.1)).map .u32)), some (.ro (k.map .u32)), some (.ro (.sl 5 0 b0.length 1 f0 :: ps.map pLit)), some (.ext (.fam (ps.map pFe))), some (.ro (b0.map .u8)), some (.row 5 (x.1.2.1.map .u8))]) (fun _ => 7) (fun x => ps.length + 1 - x.1.1) ⟨(0, [], 0), by omega, by simp, by rw [tx0]; exact rest_nil'_n⟩ ?_ ?_
 ·
  dsimp only
  rw [tx0, st_nil'_n]
  refine Weak.sel [0, 1, 2, 3, 4, 5, 6] rfl rfl ?_ ?_ rfl rfl
  ·
   (repeat' (first | exact trivial | refine And.intro ?_ ?_ | fail)) <;> first | rfl | fail
  ·
   (repeat' (first | exact trivial | refine And.intro ?_ ?_ | (refine wk_cons ?_ ?_))) <;> first | rfl | exact ren_eq (by first | (simp; done) | fail) (by rfl) | fail
 ·
  rintro ⟨⟨i, E, o⟩, hi, ho, hE⟩
  dsimp only at hi ho hE ⊢
  have hsl := st_len_n k hh (tx i)
  have hrl := rest_len_n (tx i)
  obtain ⟨S, hS⟩ : ∃ S, S = st_n k h (tx i) := ⟨_, rfl⟩
  rw [← hS] at hsl ⊢
  have hEl : E.length - o = (rest_n (tx i)).length := by rw [← hE, List.length_drop]
  by_cases hi2 : i < ps.length + 1
  ·
   have hlt : decide ((i : Int) < ((ps.length + 1 : Nat) : Int)) = true := by simp; omega
   have hp1 : w64 ((i : Int) + 1) = ((i + 1 : Nat) : Int) := by simp only [w64_eq]; omega
   have htl := txl i
   rcases i with _ | i
   ·
    have htxs := tx1
    have hbb := txl 1
    have hbl : b0.length < 100000000000000 := by rw [htxs, List.length_append] at hbb; omega
    have hq := feed_st_n k h (tx 0) b0
    have hq2 := feed_rest_n (tx 0) b0
    rw [← hS] at hq
    rw [← htxs] at hq hq2
    rw [← hE] at hq hq2 hEl
    have hap : (E.drop o ++ b0).map SV.u8 = List.take ((E.length - o) * 1) (List.drop o (E.map SV.u8)) ++ List.take (b0.length * 1) (List.drop 0 (b0.map SV.u8)) := (cat8 rfl rfl).symm
    have hDl : (E.drop o ++ b0).length = E.length - o + b0.length := by rw [List.length_append, List.length_drop]
    have hel : E.length - o < 64 := by rw [← List.length_drop, hE, hrl]; omega
    have hul : UInt64.ofNat (tx 0).length + u64i (b0.length : Int) = UInt64.ofNat (tx 1).length := by rw [u64_add_i _ _ (by omega), htxs, List.length_append]
    clear hS hrl
    conv => whnf
    first | refine brT (by exact hlt) ?_ | fail
    conv => whnf
    repeat (first | (refine Exists.intro _ (And.intro rfl ?_); conv => whnf) | (refine And.intro (by omega) ?_; conv => whnf) | fail)
    refine sw_ok ttOk mixed (by kernel_rfl) ?_
    conv => whnf
    repeat (first | (refine And.intro (by first | omega | (simp [ti5]; omega)) ?_; conv => whnf) | fail)
    obtain ⟨D, hD⟩ : ∃ D, D = E.drop o ++ b0 := ⟨_, rfl⟩
    rw [← hD] at hq hq2 hap hDl
    refine loop_rule ttOk mixed (by kernel_rfl) (ι := { j : Nat // 64 * j ≤ D.length }) (fun j => [(0, .p 0 0), (5, .i 64), (6, .sl 6 (64 * j.1) (D.length - 64 * j.1) 1 false), (7, .u64 (UInt64.ofNat (tx 1).length)), (21, .sl 3 0 (ps.length + 1) 1 fl), (22, .i (((ps.length + 1) : Nat) : Int)), (23, .i ((0 : Nat) : Int))]) (fun j => [some (.ro (mach_n 1 2)), some (.row 29 ((blks_n k S D j.1).map .u32)), some (.ro (k.map .u32)), some (.ro (.sl 5 0 b0.length 1 f0 :: ps.map pLit)), some (.ext (.fam (ps.map pFe))), some (.ro (b0.map .u8)), some (.row 5 (D.map .u8))]) (fun _ => 6 + 1) (fun j => D.length - 64 * j.1) ⟨0, by omega⟩ ?_ ?_
    ·
     have hz := blks_z_n k S D
     have hDn : E.length - o + b0.length = D.length - 64 * 0 := by omega
     dsimp only
     rw [hz]
     refine Weak.sel [0, 1, 2, 3, 4, 5, 7] rfl rfl ?_ ?_ rfl rfl
     ·
      (repeat' (first | exact trivial | refine And.intro ?_ ?_ | fail)) <;> first | exact wk_u64 (by first | exact hul | exact hul.symm | fail) | rfl | exact wk_sl rfl (by rfl) (by exact hDn.symm) | fail
     ·
      (repeat' (first | exact trivial | exact ren_eq (plainL_u8 _) hap | refine And.intro ?_ ?_ | (refine wk_cons ?_ ?_))) <;> first | rfl | exact ren_eq (by first | (simp; done) | fail) (by rfl) | fail
    ·
     rintro ⟨j, hj⟩
     dsimp only
     have hbl := blks_len_n k hsl D j
     by_cases hc : 64 * (j + 1) ≤ D.length
     ·
      have hge : decide (((D.length - 64 * j : Nat) : Int) ≥ 64) = true := by simp; omega
      have hs := blks_s_n k S D j
      have q139 := f139D (blks_n k S D j) k D (64 * j) hbl hk (by omega) false
      rw [← hs] at q139
      conv => whnf
      first | refine brT (by exact hge) ?_ | fail
      conv => whnf
      repeat (first | (refine Exists.intro _ (And.intro rfl ?_); conv => whnf) | (refine And.intro (by omega) ?_; conv => whnf) | fail)
      refine ok1_callF [0, 1, 2, 6] [false, true, false, false] true (q139) rfl rfl ⟨⟨rfl, by rfl⟩, by (repeat' (first | exact trivial | refine And.intro ?_ ?_)) <;> first | rfl | exact ren_eq (by first | (simp; done) | fail) (by rfl) | fail, by first | simp [plainHf, plainB], by rfl, ?_⟩
      conv => whnf
      repeat (first | (refine Exists.intro _ (And.intro rfl ?_); conv => whnf) | (refine And.intro (by omega) ?_; conv => whnf) | fail)
      refine ⟨⟨j + 1, hc⟩, by simp only; omega, ?_⟩
      dsimp only
      refine Weak.sel [0, 1, 2, 3, 4, 5, 6] rfl rfl ?_ ?_ rfl rfl
      ·
       (repeat' (first | exact trivial | refine And.intro ?_ ?_ | fail)) <;> first | rfl | fail
      ·
       (repeat' (first | exact trivial | refine And.intro ?_ ?_ | (refine wk_cons ?_ ?_))) <;> first | rfl | exact ren_eq (by first | (simp; done) | fail) (by rfl) | fail
     ·
      obtain rfl : j = D.length / 64 := by omega
      have hge : decide (((D.length - 64 * (D.length / 64) : Nat) : Int) ≥ 64) = false := by simp; omega
      rw [hq]
      conv => whnf
      first | refine brF (by exact hge) ?_ | fail
      conv => whnf
      refine ⟨⟨(1, D, 64 * (D.length / 64)), by omega, by simp only; omega, hq2⟩, by simp only; omega, ?_⟩
      dsimp only
      refine Weak.sel [0, 1, 2, 3, 4, 5, 6] rfl rfl ?_ ?_ rfl rfl
      ·
       (repeat' (first | exact trivial | refine And.intro ?_ ?_ | fail)) <;> first | rfl | fail
      ·
       (repeat' (first | exact trivial | refine And.intro ?_ ?_ | (refine wk_cons ?_ ?_))) <;> first | rfl | exact ren_eq (by first | (simp; done) | fail) (by rfl) | fail
   ·
    obtain ⟨p, hp⟩ : ∃ p, ps[i]? = some p := ⟨_, List.getElem?_eq_getElem (by omega)⟩
    have hld := sload_lit1 (x := .sl 5 0 b0.length 1 f0) hp
    have hmem : pFe p ∈ ps.map pFe := List.mem_map_of_mem (List.mem_of_getElem? hp)
    have htxs := txn i p hp
    have hbb := txl (i + 1 + 1)
    obtain ⟨pv, prb, b⟩ := p
    dsimp only at htxs
    have hbl : b.length < 100000000000000 := by rw [htxs, List.length_append] at hbb; omega
    have hq := feed_st_n k h (tx (i + 1)) b
    have hq2 := feed_rest_n (tx (i + 1)) b
    rw [← hS] at hq
    rw [← htxs] at hq hq2
    rw [← hE] at hq hq2 hEl
    have hap : (E.drop o ++ b).map SV.u8 = List.take ((E.length - o) * 1) (List.drop o (E.map SV.u8)) ++ List.take (b.length * 1) (List.drop 0 (b.map SV.u8)) := (cat8 rfl rfl).symm
    have hDl : (E.drop o ++ b).length = E.length - o + b.length := by rw [List.length_append, List.length_drop]
    have hel : E.length - o < 64 := by rw [← List.length_drop, hE, hrl]; omega
    have hul : UInt64.ofNat (tx (i + 1)).length + u64i (b.length : Int) = UInt64.ofNat (tx (i + 1 + 1)).length := by rw [u64_add_i _ _ (by omega), htxs, List.length_append]
    clear hS hrl
    conv => whnf
    first | refine brT (by exact hlt) ?_ | fail
    conv => whnf
    repeat (first | (refine Exists.intro _ (And.intro (hld) ?_); conv => whnf) | (refine Exists.intro _ (And.intro rfl ?_); conv => whnf) | (refine And.intro (by omega) ?_; conv => whnf) | fail)
    refine SWp.weak (focus_p 9 4 rfl hmem rfl) ?_
    refine sw_ok ttOk mixed (by kernel_rfl) ?_
    conv => whnf
    repeat (first | (refine And.intro (by first | omega | (simp [ti5]; omega)) ?_; conv => whnf) | fail)
    obtain ⟨D, hD⟩ : ∃ D, D = E.drop o ++ b := ⟨_, rfl⟩
    rw [← hD] at hq hq2 hap hDl
    refine loop_rule ttOk mixed (by kernel_rfl) (ι := { j : Nat // 64 * j ≤ D.length }) (fun j => [(0, .p 0 0), (5, .i 64), (6, .sl 6 (64 * j.1) (D.length - 64 * j.1) 1 false), (7, .u64 (UInt64.ofNat (tx (i + 1 + 1)).length)), (21, .sl 3 0 (ps.length + 1) 1 fl), (22, .i (((ps.length + 1) : Nat) : Int)), (23, .i (((i + 1) : Nat) : Int))]) (fun j => [some (.ro (mach_n 1 2)), some (.row 29 ((blks_n k S D j.1).map .u32)), some (.ro (k.map .u32)), some (.ro (.sl 5 0 b0.length 1 f0 :: ps.map pLit)), some (.ext (.fam (ps.map pFe))), some (.ro (b0.map .u8)), some (.row 5 (D.map .u8))]) (fun _ => 6 + 1) (fun j => D.length - 64 * j.1) ⟨0, by omega⟩ ?_ ?_
    ·
     have hz := blks_z_n k S D
     have hDn : E.length - o + b.length = D.length - 64 * 0 := by omega
     dsimp only
     rw [hz]
     refine Weak.sel [0, 1, 2, 3, 4, 5, 8] rfl rfl ?_ ?_ rfl rfl
     ·
      (repeat' (first | exact trivial | refine And.intro ?_ ?_ | fail)) <;> first | exact wk_u64 (by first | exact hul | exact hul.symm | fail) | rfl | exact wk_sl rfl (by rfl) (by exact hDn.symm) | fail
     ·
      (repeat' (first | exact trivial | exact ren_eq (plainL_u8 _) hap | refine And.intro ?_ ?_ | (refine wk_cons ?_ ?_))) <;> first | rfl | exact ren_eq (by first | (simp; done) | fail) (by rfl) | fail
    ·
     rintro ⟨j, hj⟩
     dsimp only
     have hbl := blks_len_n k hsl D j
     by_cases hc : 64 * (j + 1) ≤ D.length
     ·
      have hge : decide (((D.length - 64 * j : Nat) : Int) ≥ 64) = true := by simp; omega
      have hs := blks_s_n k S D j
      have q139 := f139D (blks_n k S D j) k D (64 * j) hbl hk (by omega) false
      rw [← hs] at q139
      conv => whnf
      first | refine brT (by exact hge) ?_ | fail
      conv => whnf
      repeat (first | (refine Exists.intro _ (And.intro rfl ?_); conv => whnf) | (refine And.intro (by omega) ?_; conv => whnf) | fail)
      refine ok1_callF [0, 1, 2, 6] [false, true, false, false] true (q139) rfl rfl ⟨⟨rfl, by rfl⟩, by (repeat' (first | exact trivial | refine And.intro ?_ ?_)) <;> first | rfl | exact ren_eq (by first | (simp; done) | fail) (by rfl) | fail, by first | simp [plainHf, plainB], by rfl, ?_⟩
      conv => whnf
      repeat (first | (refine Exists.intro _ (And.intro rfl ?_); conv => whnf) | (refine And.intro (by omega) ?_; conv => whnf) | fail)
      refine ⟨⟨j + 1, hc⟩, by simp only; omega, ?_⟩
      dsimp only
      refine Weak.sel [0, 1, 2, 3, 4, 5, 6] rfl rfl ?_ ?_ rfl rfl
      ·
       (repeat' (first | exact trivial | refine And.intro ?_ ?_ | fail)) <;> first | rfl | fail
      ·
       (repeat' (first | exact trivial | refine And.intro ?_ ?_ | (refine wk_cons ?_ ?_))) <;> first | rfl | exact ren_eq (by first | (simp; done) | fail) (by rfl) | fail
     ·
      obtain rfl : j = D.length / 64 := by omega
      have hge : decide (((D.length - 64 * (D.length / 64) : Nat) : Int) ≥ 64) = false := by simp; omega
      rw [hq]
      conv => whnf
      first | refine brF (by exact hge) ?_ | fail
      conv => whnf
      refine ⟨⟨((i + 1 + 1), D, 64 * (D.length / 64)), by omega, by simp only; omega, hq2⟩, by simp only; omega, ?_⟩
      dsimp only
      refine Weak.sel [0, 1, 2, 3, 4, 5, 6] rfl rfl ?_ ?_ rfl rfl
      ·
       (repeat' (first | exact trivial | refine And.intro ?_ ?_ | fail)) <;> first | rfl | exact wk_i (by omega) | fail
      ·
       (repeat' (first | exact trivial | refine And.intro ?_ ?_ | (refine wk_cons ?_ ?_))) <;> first | rfl | exact ren_eq (by first | (simp; done) | fail) (by rfl) | fail
  ·
   obtain rfl : i = ps.length + 1 := by omega
   have hge0 : decide (((ps.length + 1 : Nat) : Int) < ((ps.length + 1 : Nat) : Int)) = false := by simp
   obtain ⟨n, hn⟩ : ∃ n, n = E.length - o := ⟨_, rfl⟩
   have hnE : o + n = E.length := by omega
   rw [← hn]
   have hcat : (rest_n (tx (ps.length + 1)) ++ [128]).map SV.u8 = List.take (n * 1) (List.drop o (E.map SV.u8)) ++ List.take (1 * 1) (List.drop 0 [SV.u8 128]) := by rw [← hE]; exact (cat8 (b := [128]) hn rfl).symm
   have hdd : decide (((n : Nat) : Int).toNat = ((n : Nat) : Int).toNat) = true := by simp
   conv => whnf
   first | refine brF (by exact hge0) ?_ | fail
   conv => whnf
   repeat (first | (refine Exists.intro _ (And.intro rfl ?_); conv => whnf) | (refine And.intro (by omega) ?_; conv => whnf) | fail)
   rw [hdd]
   rw [Int.toNat_natCast]
   have hnl : n = (rest_n (tx (ps.length + 1))).length := by rw [hn, ← hE, List.length_drop]
   have hn64 : n < 64 := by rw [hnl, hrl]; omega
   have hpz := pz_rest_n (tx (ps.length + 1))
   rw [← hnl] at hpz
   have hpl : pz_n n < 64 := by unfold pz_n; exact Nat.mod_lt _ (by decide)
   conv => whnf
   refine And.intro ⟨by show _ ≤ (E.map SV.u8).length; rw [List.length_map]; omega, by decide, by show _ * 1 ≤ _; omega, by decide⟩ ?_
   conv => whnf
   refine loop_rule ttOk mixed (by kernel_rfl) (ι := { j : Nat // j ≤ pz_n n }) (fun j => [(0, .p 0 0), (5, .i 64), (6, .sl 6 0 (n + 1 + j.1) 1 false), (7, .u64 (UInt64.ofNat (tx (ps.length + 1)).length))]) (fun j => [some (.ro (mach_n 1 2)), some (.row 29 (S.map .u32)), some (.ro (k.map .u32)), some (.ro (.sl 5 0 b0.length 1 f0 :: ps.map pLit)), some (.ext (.fam (ps.map pFe))), some (.ro (b0.map .u8)), some (.row 5 ((rest_n (tx (ps.length + 1)) ++ [128] ++ List.replicate j.1 0).map .u8))]) (fun _ => 6 + 1) (fun j => pz_n n - j.1) ⟨0, by omega⟩ ?_ ?_
   ·
    have hz : rest_n (tx (ps.length + 1)) ++ [128] ++ List.replicate 0 0 = rest_n (tx (ps.length + 1)) ++ [128] := List.append_nil _
    dsimp only
    rw [hz]
    refine Weak.sel [0, 1, 2, 3, 4, 5, 6 + 2] rfl rfl ?_ ?_ rfl rfl
    ·
     (repeat' (first | exact trivial | refine And.intro ?_ ?_ | fail)) <;> first | rfl | fail
    ·
     (repeat' (first | exact trivial | exact ren_eq (plainL_u8 _) hcat | refine And.intro ?_ ?_ | (refine wk_cons ?_ ?_))) <;> first | rfl | exact ren_eq (by first | (simp; done) | fail) (by rfl) | fail
   ·
    rintro ⟨j, hj⟩
    dsimp only
    obtain ⟨Y, hY⟩ : ∃ Y, Y = rest_n (tx (ps.length + 1)) ++ [128] ++ List.replicate j 0 := ⟨_, rfl⟩
    have hYl : Y.length = n + 1 + j := by rw [hY, List.length_append, List.length_append, ← hnl, List.length_replicate]; rfl
    have hYs : rest_n (tx (ps.length + 1)) ++ [128] ++ List.replicate (j + 1) 0 = Y ++ [0] := by rw [hY, List.replicate_succ', List.append_assoc]; simp
    by_cases hj2 : j < pz_n n
    ·
     have hno := padz_no_n hj2
     have hcd : (((w64 (((n + 1 + j : Nat) : Int) + w64 (2 * 4))).tmod 64) != 0) = true := by
      have e : w64 (((n + 1 + j : Nat) : Int) + w64 (2 * 4)) = ((n + 1 + j + 8 : Nat) : Int) := by simp only [w64_eq]; omega
      rw [e, show (((n + 1 + j + 8 : Nat) : Int)).tmod 64 = (((n + 1 + j + 8) % 64 : Nat) : Int) from rfl]
      simp; omega
     rw [← hY]
     conv => whnf
     repeat (first | (refine Exists.intro _ (And.intro rfl ?_); conv => whnf) | fail)
     first | refine brT (by exact hcd) ?_ | fail
     conv => whnf
     repeat (first | (refine Exists.intro _ (And.intro rfl ?_); conv => whnf) | (refine And.intro (by first | omega | (simp [ti5]; omega)) ?_; conv => whnf) | fail)
     have hap2 : (Y ++ [0]).map SV.u8 = List.take ((n + 1 + j) * 1) (List.drop 0 (Y.map SV.u8)) ++ List.take (1 * 1) (List.drop 0 [SV.u8 0]) := (cat8 (o := 0) (n := n + 1 + j) (E := Y) (b := [0]) (by omega) rfl).symm
     refine ⟨⟨j + 1, by omega⟩, by simp only; omega, ?_⟩
     dsimp only
     rw [hYs]
     refine Weak.sel [0, 1, 2, 3, 4, 5, 6 + 2] rfl rfl ?_ ?_ rfl rfl
     ·
      (repeat' (first | exact trivial | refine And.intro ?_ ?_ | fail)) <;> first | rfl | fail
     ·
      (repeat' (first | exact trivial | exact ren_eq (plainL_u8 _) hap2 | refine And.intro ?_ ?_ | (refine wk_cons ?_ ?_))) <;> first | rfl | exact ren_eq (by first | (simp; done) | fail) (by rfl) | fail
    ·
     obtain rfl : j = pz_n n := by omega
     have hyes := padz_yes_n n
     have hcd : (((w64 (((n + 1 + pz_n n : Nat) : Int) + w64 (2 * 4))).tmod 64) != 0) = false := by
      have e : w64 (((n + 1 + pz_n n : Nat) : Int) + w64 (2 * 4)) = ((n + 1 + pz_n n + 8 : Nat) : Int) := by simp only [w64_eq]; omega
      rw [e, show (((n + 1 + pz_n n + 8 : Nat) : Int)).tmod 64 = (((n + 1 + pz_n n + 8) % 64 : Nat) : Int) from rfl, hyes]
      rfl
     rw [← hY]
     conv => whnf
     repeat (first | (refine Exists.intro _ (And.intro rfl ?_); conv => whnf) | fail)
     first | refine brF (by exact hcd) ?_ | fail
     conv => whnf
     repeat (first | (refine Exists.intro _ (And.intro rfl ?_); conv => whnf) | (refine And.intro ⟨by decide, by decide⟩ ?_; conv => whnf) | fail)
     obtain ⟨N, hN⟩ : ∃ N, N = (tx (ps.length + 1)).length := ⟨_, rfl⟩
     rw [← hN]
     refine loop_rule ttOk mixed (by kernel_rfl) (ι := { i : Nat // i ≤ 8 }) (fun i => [(0, .p 0 0), (5, .i 64), (6, .sl 6 0 (n + 1 + pz_n n) 1 false), (7, .u64 (UInt64.ofNat N)), (10, .sl (6 + 1) 0 8 1 true), (76, .i (i.1 : Int))]) (fun i => [some (.ro (mach_n 1 2)), some (.row 29 (S.map .u32)), some (.ro (k.map .u32)), some (.ro (.sl 5 0 b0.length 1 f0 :: ps.map pLit)), some (.ext (.fam (ps.map pFe))), some (.ro (b0.map .u8)), some (.row 5 (Y.map .u8)), some (.row 5 ((lset_n N i.1).map .u8))]) (fun _ => 6 + 2) (fun i => 8 - i.1) ⟨0, by omega⟩ ?_ ?_
     ·
      have hz := lset_z_n N
      dsimp only
      rw [hz]
      refine Weak.sel [0, 1, 2, 3, 4, 5, 6, 6 + 1] rfl rfl ?_ ?_ rfl rfl
      ·
       (repeat' (first | exact trivial | refine And.intro ?_ ?_ | fail)) <;> first | rfl | fail
      ·
       (repeat' (first | exact trivial | exact ren_z8 | refine And.intro ?_ ?_ | (refine wk_cons ?_ ?_))) <;> first | rfl | exact ren_eq (by first | (simp; done) | fail) (by rfl) | fail
     ·
      rintro ⟨i, hi⟩
      dsimp only
      have hll := lset_len_n N i
      by_cases hi8 : i < 8
      ·
       have hlt : decide ((i : Int) < 8) = true := by simp; omega
       have hp := wp1i i (by omega)
       have h8 : w64 (8 * (i : Int)) = ((8 * i : Nat) : Int) := by simp only [w64_eq]; omega
       have h7 : w64 (w64 (8 - 1) - (i : Int)) = ((7 - i : Nat) : Int) := by simp only [w64_eq]; omega
       have hs := lset_s_n N i
       conv => whnf
       first | refine brT (by exact hlt) ?_ | fail
       conv => whnf
       refine ⟨_, mshr_64 h8, ?_⟩
       conv => whnf
       repeat (first | (refine Exists.intro _ (And.intro (sput_m8 (i := 7 - i) (by first | rfl | omega | fail)) ?_); conv => whnf) | (refine Exists.intro _ (And.intro (idx_i (m := 7 - i) (by first | rfl | omega | fail)) ?_); conv => whnf) | (refine And.intro (by first | omega | (simp; omega) | fail) ?_; conv => whnf) | fail)
       refine ⟨⟨i + 1, by omega⟩, by simp only; omega, ?_⟩
       dsimp only
       rw [hs]
       refine Weak.sel [0, 1, 2, 3, 4, 5, 6, 6 + 1] rfl rfl ?_ ?_ rfl rfl
       ·
        (repeat' (first | exact trivial | refine And.intro ?_ ?_ | fail)) <;> first | exact wk_i (by first | exact hp | exact hp.symm | fail) | rfl | fail
       ·
        (repeat' (first | exact trivial | refine And.intro ?_ ?_ | (refine wk_cons ?_ ?_))) <;> first | rfl | exact ren_eq (by first | (simp; done) | fail) (by rfl) | exact ren_m8 (by rfl) | fail
      ·
       obtain rfl : i = 8 := by omega
       have hap3 : (Y ++ lset_n N 8).map SV.u8 = List.take ((n + 1 + pz_n n) * 1) (List.drop 0 (Y.map SV.u8)) ++ List.take (8 * 1) (List.drop 0 ((lset_n N 8).map SV.u8)) := (cat8 (o := 0) (n := n + 1 + pz_n n) (E := Y) (b := lset_n N 8) (by omega) hll.symm).symm
       obtain ⟨D, hD⟩ : ∃ D, D = Y ++ lset_n N 8 := ⟨_, rfl⟩
       have hDl : D.length = n + 1 + pz_n n + 8 := by rw [hD, List.length_append, hYl, hll]
       have hDe : D = last_n (tx (ps.length + 1)) := by rw [hD, hY, hpz, hN]; exact last_e_n _
       have hD64 := last_len_n (tx (ps.length + 1))
       have hfin := last_st_n k h (tx (ps.length + 1))
       rw [← hDe] at hD64 hfin
       rw [← hS] at hfin
       rw [← hD] at hap3
       conv => whnf
       first | refine brF (by rfl) ?_ | fail
       conv => whnf
       repeat (first | (refine And.intro (by first | omega | (simp [ti5]; omega)) ?_; conv => whnf) | fail)
       refine loop_rule ttOk mixed (by kernel_rfl) (ι := { j : Nat // 64 * j ≤ D.length }) (fun j => [(0, .p 0 0), (5, .i 64), (6, .sl 6 (64 * j.1) (D.length - 64 * j.1) 1 false)]) (fun j => [some (.ro (mach_n 1 2)), some (.row 29 ((blks_n k S D j.1).map .u32)), some (.ro (k.map .u32)), some (.ro (.sl 5 0 b0.length 1 f0 :: ps.map pLit)), some (.ext (.fam (ps.map pFe))), some (.ro (b0.map .u8)), some (.row 5 (D.map .u8))]) (fun _ => 6 + 1) (fun j => D.length - 64 * j.1) ⟨0, by omega⟩ ?_ ?_
       ·
        have hz := blks_z_n k S D
        have hDn : n + 1 + pz_n n + 8 = D.length - 64 * 0 := by omega
        dsimp only
        rw [hz]
        refine Weak.sel [0, 1, 2, 3, 4, 5, 6 + 2] rfl rfl ?_ ?_ rfl rfl
        ·
         (repeat' (first | exact trivial | refine And.intro ?_ ?_ | fail)) <;> first | rfl | exact wk_sl rfl (by rfl) (by exact hDn.symm) | fail
        ·
         (repeat' (first | exact trivial | exact ren_eq (plainL_u8 _) hap3 | refine And.intro ?_ ?_ | (refine wk_cons ?_ ?_))) <;> first | rfl | exact ren_eq (by first | (simp; done) | fail) (by rfl) | fail
       ·
        rintro ⟨j, hj⟩
        dsimp only
        have hbl := blks_len_n k hsl D j
        by_cases hc : 64 * (j + 1) ≤ D.length
        ·
         have hge : decide (((D.length - 64 * j : Nat) : Int) > 0) = true := by simp; omega
         have hs := blks_s_n k S D j
         have q139 := f139D (blks_n k S D j) k D (64 * j) hbl hk (by omega) false
         rw [← hs] at q139
         conv => whnf
         first | refine brT (by exact hge) ?_ | fail
         conv => whnf
         repeat (first | (refine Exists.intro _ (And.intro rfl ?_); conv => whnf) | (refine And.intro (by omega) ?_; conv => whnf) | fail)
         refine ok1_callF [0, 1, 2, 6] [false, true, false, false] true (q139) rfl rfl ⟨⟨rfl, by rfl⟩, by (repeat' (first | exact trivial | refine And.intro ?_ ?_)) <;> first | rfl | exact ren_eq (by first | (simp; done) | fail) (by rfl) | fail, by first | simp [plainHf, plainB], by rfl, ?_⟩
         conv => whnf
         repeat (first | (refine Exists.intro _ (And.intro rfl ?_); conv => whnf) | (refine And.intro (by omega) ?_; conv => whnf) | fail)
         refine ⟨⟨j + 1, hc⟩, by simp only; omega, ?_⟩
         dsimp only
         refine Weak.sel [0, 1, 2, 3, 4, 5, 6] rfl rfl ?_ ?_ rfl rfl
         ·
          (repeat' (first | exact trivial | refine And.intro ?_ ?_ | fail)) <;> first | rfl | fail
         ·
          (repeat' (first | exact trivial | refine And.intro ?_ ?_ | (refine wk_cons ?_ ?_))) <;> first | rfl | exact ren_eq (by first | (simp; done) | fail) (by rfl) | fail
        ·
         obtain rfl : j = D.length / 64 := by omega
         have hge : decide (((D.length - 64 * (D.length / 64) : Nat) : Int) > 0) = false := by simp; omega
         obtain ⟨H, hH⟩ : ∃ H, H = blks_n k S D (D.length / 64) := ⟨_, rfl⟩
         rw [← hH] at hbl hfin ⊢
         conv => whnf
         first | refine brF (by exact hge) ?_ | fail
         conv => whnf
         repeat (first | (refine Exists.intro _ (And.intro rfl ?_); conv => whnf) | fail)
         refine SWp.weak (Weak.virt 12 5 1 rfl) ?_
         refine loop_rule ttOk mixed (by kernel_rfl) (ι := { i : Nat // i ≤ 8 }) (fun i => [(0, .p 0 0), (12, .sl 6 0 (4 * i.1) 1 false), (110, .sl 1 0 8 1 false), (111, .i 8), (112, .i (i.1 : Int))]) (fun i => [some (.ro (mach_n 1 2)), some (.row 29 (H.map .u32)), some (.ro (k.map .u32)), some (.ro (.sl 5 0 b0.length 1 f0 :: ps.map pLit)), some (.ext (.fam (ps.map pFe))), some (.ro (b0.map .u8)), some (.row 5 ((outl_n H (4 * i.1)).map .u8))]) (fun _ => 6 + 1) (fun i => 8 - i.1) ⟨0, by omega⟩ ?_ ?_
         ·
          have hz := outl_z_n H
          dsimp only
          rw [hz]
          refine Weak.sel [0, 1, 2, 3, 4, 5, 6 + 1] rfl rfl ?_ ?_ rfl rfl
          ·
           (repeat' (first | exact trivial | refine And.intro ?_ ?_ | fail)) <;> first | rfl | fail
          ·
           (repeat' (first | exact trivial | refine And.intro ?_ ?_ | (refine wk_cons ?_ ?_))) <;> first | rfl | exact ren_eq (by first | (simp; done) | fail) (by rfl) | fail
         ·
          rintro ⟨i, hi⟩
          dsimp only
          by_cases hi8 : i < 8
          ·
           have hlt : decide ((i : Int) < 8) = true := by simp; omega
           have hp := wp1i i (by omega)
           conv => whnf
           first | refine brT (by exact hlt) ?_ | fail
           conv => whnf
           repeat (first | (refine Exists.intro _ (And.intro (sload_u32 (i := i) (by first | rfl | omega | fail) (by omega)) ?_); conv => whnf) | (refine Exists.intro _ (And.intro (idx_i (m := i) (by rfl)) ?_); conv => whnf) | (refine Exists.intro _ (And.intro rfl ?_); conv => whnf) | (refine And.intro (by omega) ?_; conv => whnf) | fail)
           refine loop_rule ttOk mixed (by kernel_rfl) (ι := { m : Nat // m ≤ 4 }) (fun m => [(0, .p 0 0), (12, .sl 6 0 (4 * i + m.1) 1 false), (14, .u32 (H.getD i 0)), (15, .i (3 - (m.1 : Int))), (110, .sl 1 0 8 1 false), (111, .i 8), (112, .i (i : Int))]) (fun m => [some (.ro (mach_n 1 2)), some (.row 29 (H.map .u32)), some (.ro (k.map .u32)), some (.ro (.sl 5 0 b0.length 1 f0 :: ps.map pLit)), some (.ext (.fam (ps.map pFe))), some (.ro (b0.map .u8)), some (.row 5 ((outl_n H (4 * i + m.1)).map .u8))]) (fun _ => 6 + 1) (fun m => 4 - m.1) ⟨0, by omega⟩ ?_ ?_
           ·
            refine Weak.sel [0, 1, 2, 3, 4, 5, 6] rfl rfl ?_ ?_ rfl rfl
            ·
             (repeat' (first | exact trivial | refine And.intro ?_ ?_ | fail)) <;> first | rfl | fail
            ·
             (repeat' (first | exact trivial | refine And.intro ?_ ?_ | (refine wk_cons ?_ ?_))) <;> first | rfl | exact ren_eq (by first | (simp; done) | fail) (by rfl) | fail
           ·
            rintro ⟨m, hm⟩
            dsimp only
            have hol := outl_len_n H (4 * i + m)
            by_cases hm4 : m < 4
            ·
             have hge : decide ((3 - (m : Int)) ≥ 0) = true := by simp; omega
             have h8 : w64 (8 * (3 - (m : Int))) = ((8 * (3 - m) : Nat) : Int) := by simp only [w64_eq]; omega
             have hp2 : w64 (3 - (m : Int) - 1) = 3 - ((m + 1 : Nat) : Int) := by simp only [w64_eq]; omega
             have hs := outl_s_n H i m hm4
             obtain ⟨Z, hZ⟩ : ∃ Z, Z = outl_n H (4 * i + m) := ⟨_, rfl⟩
             rw [← hZ] at hol hs ⊢
             have hap4 : (Z ++ [(shr32 (H.getD i 0) (8 * (3 - m))).toUInt8]).map SV.u8 = List.take ((4 * i + m) * 1) (List.drop 0 (Z.map SV.u8)) ++ List.take (1 * 1) (List.drop 0 [SV.u8 (shr32 (H.getD i 0) (8 * (3 - m))).toUInt8]) := (cat8 (o := 0) (n := 4 * i + m) (E := Z) (b := [(shr32 (H.getD i 0) (8 * (3 - m))).toUInt8]) (by omega) rfl).symm
             conv => whnf
             first | refine brT (by exact hge) ?_ | fail
             conv => whnf
             refine ⟨_, mshr_32 h8, ?_⟩
             conv => whnf
             repeat (first | (refine Exists.intro _ (And.intro rfl ?_); conv => whnf) | (refine And.intro (by first | omega | (simp [ti5]; omega)) ?_; conv => whnf) | fail)
             refine ⟨⟨m + 1, by omega⟩, by simp only; omega, ?_⟩
             dsimp only
             rw [hs]
             refine Weak.sel [0, 1, 2, 3, 4, 5, 6 + 2] rfl rfl ?_ ?_ rfl rfl
             ·
              (repeat' (first | exact trivial | refine And.intro ?_ ?_ | fail)) <;> first | exact wk_i (by first | exact hp2 | exact hp2.symm | fail) | rfl | fail
             ·
              (repeat' (first | exact trivial | exact ren_eq (plainL_u8 _) hap4 | refine And.intro ?_ ?_ | (refine wk_cons ?_ ?_))) <;> first | rfl | exact ren_eq (by first | (simp; done) | fail) (by rfl) | fail
            ·
             obtain rfl : m = 4 := by omega
             conv => whnf
             first | refine brF (by rfl) ?_ | fail
             conv => whnf
             refine ⟨⟨i + 1, by omega⟩, by simp only; omega, ?_⟩
             dsimp only
             rw [show 4 * (i + 1) = 4 * i + 4 by omega]
             refine Weak.sel [0, 1, 2, 3, 4, 5, 6] rfl rfl ?_ ?_ rfl rfl
             ·
              (repeat' (first | exact trivial | refine And.intro ?_ ?_ | fail)) <;> first | exact wk_i (by first | exact hp | exact hp.symm | fail) | rfl | fail
             ·
              (repeat' (first | exact trivial | refine And.intro ?_ ?_ | (refine wk_cons ?_ ?_))) <;> first | rfl | exact ren_eq (by first | (simp; done) | fail) (by rfl) | fail
          ·
           obtain rfl : i = 8 := by omega
           rw [outb_e_n] at hfin
           rw [← hfin]
           conv => whnf
           first | refine brF (by rfl) ?_ | fail
           conv => whnf
           refine ⟨[0, 1, 2, 3, 4, 5, 6], ?_, rfl, rfl, ?_, rfl⟩
           ·
            (repeat' (fail)) <;> first | rfl | fail
           ·
            (repeat' (first | exact trivial | refine And.intro ?_ ?_ | (refine wk_cons ?_ ?_))) <;> first | rfl | exact ren_eq (by first | (simp; done) | fail) (by rfl) | fail
end Go.Sh
namespace Go.Sh
theorem SCall.absorb {P : Program} {f : Nat} {args args' : List SV} {H0 N0 N1 : HL} {ret ret' : SV} (sel : List Nat) (fn : FnOk P f)
  (h : ∀ ρ w, HRel ρ (hg H0) w → ∃ G0 : HL, G0.length = sel.length ∧ (∀ j, j < sel.length → ∃ b, hg G0 j = some b ∧ b.own = false) ∧ HRel (pullR sel ρ) (hg G0) w ∧ SCall P f args' G0 ret' (G0 ++ N0))
  (hro : ∀ id b, hg H0 id = some b → b.own = false) (ha : renL sel args' = some args) (hr : renV (sel ++ newSel H0.length N0.length) ret' = some ret)
  (hs : ∀ (j s : Nat), sel[j]? = some s → s < H0.length) (hl : N1.length = N0.length)
  (hN : ∀ j, (hg N0 j = none ∧ hg N1 j = none) ∨ ∃ b b', hg N0 j = some b ∧ hg N1 j = some b' ∧ renB (sel ++ newSel H0.length N0.length) b = some b') : SCall P f args H0 ret (H0 ++ N1) := by
 refine ⟨fn, fun n ρ w vs hA hH hS hF => ?_⟩
 obtain ⟨G0, hGl, hGa, hGH, hG⟩ := h ρ w hH
 have hlt : ∀ {X : HL} {id : Nat} {b : SB}, hg X id = some b → id < X.length := fun {X id b} h => by
  unfold hg at h
  rcases Nat.lt_or_ge id X.length with h2 | h2
  ·
   exact h2
  ·
   rw [List.getElem?_eq_none h2] at h; simp at h
 have hgl : ∀ {X Y : HL} {id : Nat}, id < X.length → hg (X ++ Y) id = hg X id := fun {X Y id} h => by unfold hg; rw [List.getElem?_append_left h]
 have hgr : ∀ {X Y : HL} {j : Nat}, hg (X ++ Y) (X.length + j) = hg Y j := fun {X Y j} => by unfold hg; rw [List.getElem?_append_right (by omega)]; congr 2; omega
 have hGo : ∀ id b, hg G0 id = some b → b.own = false := fun id b hb => by
  obtain ⟨b2, h1, h2⟩ := hGa id (by rw [← hGl]; exact hlt hb)
  rw [hb] at h1; cases h1; exact h2
 have hno : ∀ k o, ¬ Owned (pullR sel ρ) (hg G0) k o := by
  rintro k o ⟨id, b, rb, h1, h2, h3, h4⟩
  rw [hGo id b h1] at h3; cases h3
 have hc := hG.call n (pullR sel ρ) w vs ((rels_ren args' ha).2 hA) hGH (fun i j bi bj ri rj hne hi hj hri hrj hown => by rw [hGo i bi hi] at hown; cases hown)
  (fun id hid => by have : sel[id]? = none := List.getElem?_eq_none (by omega); simp only [pullR, this])
 refine hc.mono ?_
 intro e w' hr'
 cases e with
 | panicked c => exact hr'.elim
 | outgrown => exact hr'.elim
 | returned v =>
  obtain ⟨ρf, q1, q2, q3, q4, q5⟩ := hr'
  let ρ' : Ren := fun id => if id < H0.length then ρ id else ρf (G0.length + (id - H0.length))
  have r1 : ∀ id, id < H0.length → ρ' id = ρ id := fun id h => if_pos h
  have r2 : ∀ j, ρ' (H0.length + j) = ρf (G0.length + j) := fun j => by
   show (if H0.length + j < H0.length then _ else _) = _
   rw [if_neg (by omega)]; congr 1; omega
  have hpull : pullR (sel ++ newSel H0.length N0.length) ρ' = ρf := by
   funext j
   by_cases hj : j < sel.length
   ·
    obtain ⟨b, hb, _⟩ := hGa j hj
    obtain ⟨rb, h1, _⟩ := hGH j b hb
    have h2 := q5.ext j (by omega) rb h1
    have hs1 : (sel ++ newSel H0.length N0.length)[j]? = some sel[j] := by rw [List.getElem?_append_left hj, List.getElem?_eq_getElem hj]
    simp only [pullR, List.getElem?_eq_getElem hj] at h1
    simp only [pullR, hs1]
    rw [r1 _ (hs j _ (List.getElem?_eq_getElem hj)), h1, h2]
   ·
    have hs1 : (sel ++ newSel H0.length N0.length)[j]? = if j - sel.length < N0.length then some (H0.length + (j - sel.length)) else none := by rw [List.getElem?_append_right (by omega), newSel_get]
    by_cases hj2 : j - sel.length < N0.length
    ·
     rw [if_pos hj2] at hs1
     simp only [pullR, hs1]
     rw [r2]; congr 1; omega
    ·
     rw [if_neg hj2] at hs1
     simp only [pullR, hs1]
     exact (q4 j (by rw [List.length_append]; omega)).symm
  have hext : Ext ρ ρ' := fun id rb hid => by
   rcases Nat.lt_or_ge id H0.length with h2 | h2
   ·
    rw [r1 id h2]; exact hid
   ·
    rw [hF id h2] at hid; cases hid
  have hnew : ∀ j b, hg N1 j = some b → ∃ b0 rb, hg (G0 ++ N0) (G0.length + j) = some b0 ∧ renB (sel ++ newSel H0.length N0.length) b0 = some b ∧ ρf (G0.length + j) = some rb ∧ BRel ρf w' rb b0 := by
   intro j b hb
   rcases hN j with ⟨_, h2⟩ | ⟨b0, b', h1, h2, h3⟩
   ·
    rw [h2] at hb; cases hb
   ·
    rw [h2] at hb; cases hb
    have h4 : hg (G0 ++ N0) (G0.length + j) = some b0 := by rw [hgr]; exact h1
    obtain ⟨rb, h5, h6⟩ := q2 _ _ h4
    exact ⟨b0, rb, h4, h3, h5, h6⟩
  have hown : ∀ id b rb k o, hg (H0 ++ N1) id = some b → ρ' id = some rb → b.own = true → foot rb b k o → w.heap.size ≤ k ∧ ∃ j b0, id = H0.length + j ∧ hg (G0 ++ N0) (G0.length + j) = some b0 ∧ ρf (G0.length + j) = some rb ∧ b0.own = true ∧ foot rb b0 k o := by
   intro id b rb k o hb hρ ho hf
   rcases Nat.lt_or_ge id H0.length with h2 | h2
   ·
    rw [hgl h2] at hb; rw [hro id b hb] at ho; cases ho
   ·
    obtain ⟨j, rfl⟩ : ∃ j, id = H0.length + j := ⟨id - H0.length, by omega⟩
    rw [hgr] at hb
    obtain ⟨b0, rb0, h3, h4, h5, h6⟩ := hnew j b hb
    rw [r2, h5] at hρ; cases hρ
    have h7 := foot_ren h4 k o (rb := rb)
    have h8 : b0.own = true := by rw [← h7.2]; exact ho
    exact ⟨(q5.own k o ⟨_, b0, rb, h3, h5, h8, h7.1.2 hf⟩).resolve_left (hno k o), j, b0, rfl, h3, h5, h8, h7.1.2 hf⟩
  refine ⟨ρ', (rel_ren ret' hr).1 (by rw [hpull]; exact q1), ?_, ?_, ?_, ⟨fun id hid rb hρ => by rw [r1 id hid]; exact hρ, q5.fr.mono (fun k o _ h => absurd h (hno k o)), ?_⟩⟩
  ·
   intro id b hb
   rcases Nat.lt_or_ge id H0.length with h2 | h2
   ·
    rw [hgl h2] at hb
    obtain ⟨rb, h3, h4⟩ := hH id b hb
    exact ⟨rb, by rw [r1 id h2]; exact h3, (h4.frame q5.fr (fun k o _ => hno k o)).ext hext⟩
   ·
    obtain ⟨j, rfl⟩ : ∃ j, id = H0.length + j := ⟨id - H0.length, by omega⟩
    rw [hgr] at hb
    obtain ⟨b0, rb0, h3, h4, h5, h6⟩ := hnew j b hb
    exact ⟨rb0, by rw [r2]; exact h5, (brel_ren h4).1 (by rw [hpull]; exact h6)⟩
  ·
   intro i j bi bj ri rj hne hi hj hri hrj ho k o ⟨hfi, hfj⟩
   obtain ⟨hk, li, ci, e1, e2, e3, e4, e5⟩ := hown i bi ri k o hi hri ho hfi
   rcases Nat.lt_or_ge j H0.length with h2 | h2
   ·
    rw [hgl h2] at hj
    rw [r1 j h2] at hrj
    obtain ⟨rb, h3, h4⟩ := hH j bj hj
    rw [hrj] at h3; cases h3
    have := h4.foot_lt hfj
    omega
   ·
    obtain ⟨lj, rfl⟩ : ∃ l, j = H0.length + l := ⟨j - H0.length, by omega⟩
    rw [hgr] at hj
    obtain ⟨b0, rb0, h3, h4, h5, h6⟩ := hnew lj bj hj
    rw [r2, h5] at hrj; cases hrj
    exact q3 _ _ ci b0 ri rj (fun e => hne (by omega)) e2 h3 e3 h5 e4 k o ⟨e5, (foot_ren h4 k o).1.2 hfj⟩
  ·
   intro id hid
   rw [List.length_append] at hid
   obtain ⟨j, rfl⟩ : ∃ j, id = H0.length + j := ⟨id - H0.length, by omega⟩
   rw [r2]
   exact q4 _ (by rw [List.length_append]; omega)
  ·
   rintro k o ⟨id, b, rb, h1, h2, h3, h4⟩
   exact .inr (hown id b rb k o h1 h2 h3 h4).1
abbrev PD := Option (Nat × Bool × List UInt8)
def pdCell : PD → SV
 | none => .slnil
 | some d => .sl d.1 0 d.2.2.length 1 d.2.1
def pdTx : PD → List UInt8
 | none => []
 | some d => d.2.2
theorem parts_of {ρ : Ren} {H : Heap} {w : World} (hH : HRel ρ H w) : ∀ {ds : List PD} {vs : List Value}, (∀ id f b, some (id, f, b) ∈ ds → H id = some (.ro (b.map .u8))) → Rels ρ (ds.map pdCell) vs →
  ∃ ps : List Part, ps.map (fun p => p.2.2) = ds.map pdTx ∧ (∀ p ∈ ps, FEOk w (pFe p)) ∧ ∀ ρ2, Rels ρ2 (ps.map pLit) vs
 | [], vs, _, h => ⟨[], rfl, by simp, fun ρ2 => by simpa [Rels] using h⟩
 | d :: ds, vs, hd, h => by
  rw [List.map_cons] at h
  simp only [Rels] at h
  obtain ⟨v, us, rfl, h1, h2⟩ := h
  obtain ⟨ps, e1, e2, e3⟩ := parts_of hH (fun id f b hm => hd id f b (List.mem_cons_of_mem _ hm)) h2
  have fin : ∀ p : Part, p.1 = v → p.2.2 = pdTx d → FEOk w (pFe p) → ∃ ps : List Part, ps.map (fun p => p.2.2) = (d :: ds).map pdTx ∧ (∀ p ∈ ps, FEOk w (pFe p)) ∧ ∀ ρ2, Rels ρ2 (ps.map pLit) (v :: us) := by
   intro p g1 g2 g3
   refine ⟨p :: ps, by rw [List.map_cons, List.map_cons, e1, g2], fun q hq => ?_, fun ρ2 => Rels.cons ?_ (e3 ρ2)⟩
   ·
    rcases List.mem_cons.1 hq with rfl | hq
    ·
     exact g3
    ·
     exact e2 q hq
   ·
    simp only [pLit, Rel, g1, true_and]
    obtain ⟨⟨a, c, k1, _⟩, _⟩ := g3
    exact ⟨a, _, c, by rw [← g1]; exact k1⟩
  cases d with
  | none =>
   simp only [pdCell, Rel] at h1
   subst h1
   exact fin (.slice none 0 0, ⟨0, 0, 0, true⟩, []) rfl rfl ⟨⟨none, 0, rfl, Nat.le_refl _, .inl rfl⟩, .inl rfl⟩
  | some d =>
   obtain ⟨id, f, b⟩ := d
   simp only [pdCell, Rel] at h1
   obtain ⟨rb, a, c, k1, k2, k3, _, k5⟩ := h1
   obtain ⟨rb2, k6, k7⟩ := hH id _ (hd id f b (List.mem_cons_self ..))
   rw [k1] at k6; cases k6
   refine fin (v, rb, b) rfl rfl ⟨⟨a, c, k2, k3, ?_⟩, ?_⟩
   ·
    rcases k5 with k5 | ⟨g1, g2, g3⟩
    ·
     exact .inl k5
    ·
     exact .inr ⟨g1, g2, by show c * 1 ≤ rb.cap; omega⟩
   ·
    rcases k7 with k7 | ⟨⟨cc, t, fz, g1, g2, g3, g4, g5⟩, g6, g7⟩
    ·
     exact .inl k7
    ·
     exact .inr ⟨⟨cc, t, fz, g1, g2, rels_plain (plainL_u8 _) g3, fun h => (by cases h), g5⟩, g6, g7⟩
theorem rels_split {ρ : Ren} {xs ys : List SV} {vs : List Value} (h : Rels ρ (xs ++ ys) vs) : Rels ρ xs (vs.take xs.length) ∧ Rels ρ ys (vs.drop xs.length) := by
 have h1 := Rels.take xs.length h
 have h2 := Rels.drop xs.length h
 rw [List.take_left] at h1
 rw [List.drop_left] at h2
 exact ⟨h1, h2⟩
theorem atoms_app {xs ys : List SV} : atoms (xs ++ ys) = (atoms xs && atoms ys) := by simp [atoms]
theorem row_parts {sel : List Nat} {ρ : Ren} {H : Heap} {w : World} {rb : RB} (hH : HRel ρ H w) {xs ys : List SV} {ds : List PD} (hd : ∀ id f b, some (id, f, b) ∈ ds → H id = some (.ro (b.map .u8))) (hx : renL sel ys = some xs) (h : BRel ρ w rb (.ro (xs ++ ds.map pdCell))) :
  ∃ ps : List Part, ps.map (fun p => p.2.2) = ds.map pdTx ∧ (∀ ρ2 rb2, BRel ρ2 w rb2 (.ext (.fam (ps.map pFe)))) ∧ BRel (pullR sel ρ) w rb (.ro (ys ++ ps.map pLit)) := by
 have famOk : ∀ ps : List Part, (∀ p ∈ ps, FEOk w (pFe p)) → ∀ ρ2 rb2, BRel ρ2 w rb2 (.ext (.fam (ps.map pFe))) := fun ps hp ρ2 rb2 e he => by
  obtain ⟨p, hm, rfl⟩ := List.mem_map.1 he
  exact hp p hm
 rcases h with h | ⟨⟨c, t, fz, g1, g2, g3, g4, g5⟩, g6, g7⟩
 ·
  obtain ⟨rfl, h2⟩ := List.append_eq_nil_iff.1 h
  obtain rfl : ds = [] := by simpa using h2
  obtain rfl : ys = [] := (renL_nil hx).2 rfl
  exact ⟨[], rfl, famOk [] (by simp), .inl rfl⟩
 ·
  obtain ⟨h1, h2⟩ := rels_split g3
  obtain ⟨ps, e1, e2, e3⟩ := parts_of hH hd h2
  have hpl : ps.length = ds.length := by have := congrArg List.length e1; simpa using this
  obtain ⟨l1, l2⟩ := renL_len hx
  refine ⟨ps, e1, famOk ps e2, .inr ⟨⟨c, t, fz, g1, ?_, ?_, fun h => (by cases h), ?_⟩, ?_, g7⟩⟩
  ·
   rw [atoms_app] at g2 ⊢
   simp only [Bool.and_eq_true] at g2 ⊢
   exact ⟨by rw [← l2]; exact g2.1, atoms_lit ps⟩
  ·
   have hl : (ys ++ ps.map pLit).length = (xs ++ ds.map pdCell).length := by simp only [List.length_append, List.length_map]; omega
   rw [hl]
   have h3 : (c.toList.drop rb.off).take (xs ++ ds.map pdCell).length = ((c.toList.drop rb.off).take (xs ++ ds.map pdCell).length).take xs.length ++ ((c.toList.drop rb.off).take (xs ++ ds.map pdCell).length).drop xs.length := (List.take_append_drop _ _).symm
   rw [h3]
   exact Rels.append ((rels_ren ys hx).2 h1) (e3 _)
  ·
   simp only [List.length_append, List.length_map] at g5 ⊢; omega
  ·
   simp only [List.length_append, List.length_map] at g6 ⊢; omega
theorem sops_forget {P : Program} {N : Nat} {ops : Array Oper} {Q : RL → HL → Nat → Prop} {os : List Oper} {R : RL} {H : HL} {L : Nat} (t : Nat) {id o n sz : Nat} {fu : Bool} (ht : lk t R = some (.sl id o n sz fu)) (h : SOps P N ops Q os ((t, .sl id o n sz false) :: R) H L) : SOps P N ops Q os R H L := by
 refine ⟨fun r nn B ρ a w k K hos hs hl hK => ?_⟩
 refine h.run r nn B ρ a w k K hos ⟨hs.size, ?_, hs.heap, hs.sep, hs.fresh, hs.dfr⟩ hl hK
 intro t2 v hv
 simp only [rg, List.lookup_cons] at hv
 split at hv
 ·
  rename_i e2
  have : t2 = t := by simpa using e2
  subst this
  cases hv
  have h1 := hs.regs t2 _ (by rw [rg, ← lk_eq]; exact ht)
  simp only [Rel] at h1 ⊢
  obtain ⟨rb, a2, c, k1, k2, k3, _, k5⟩ := h1
  exact ⟨rb, a2, c, k1, k2, k3, fun h => (by cases h), k5⟩
 ·
  exact hs.regs t2 v hv
end Go.Sh
namespace Go.Sh
open Go.Proofs
set_option maxHeartbeats 8000000
def sum_n (T : List UInt8) : List UInt8 := hash_n k0_n h0_n T
theorem sum_len_n (T : List UInt8) : (sum_n T).length = 32 := hash_len_n _ _ _
attribute [local irreducible] sum_n h0_n k0_n hash_n
theorem fb_lit {b0 : List UInt8} {ps : List Part} {ds : List PD} (h : ps.map (fun p => p.2.2) = ds.map pdTx) : pTh b0 ps (ps.length + 1) = b0 ++ (ds.map pdTx).flatten := by rw [pTh_e, h]
theorem len_lit {ps : List Part} {ds : List PD} (h : ps.map (fun p => p.2.2) = ds.map pdTx) : ps.length = ds.length := by have := congrArg List.length h; simpa using this
theorem f54_h (b0 : List UInt8) (f0 : Bool) (ps : List Part) (hn : ps.length < 1000000000) (hb0 : (pTh b0 ps (ps.length + 1)).length < 100000000000000) (fl : Bool) : SCall Tryz.prog 79 [.sl 0 0 (ps.length + 1) 1 fl] [some (.ro (.sl 2 0 b0.length 1 f0 :: ps.map pLit)), some (.ext (.fam (ps.map pFe))), some (.ro (b0.map .u8))] (.agg ((sum_n (pTh b0 ps (ps.length + 1))).map .u8)) [some (.ro (.sl 2 0 b0.length 1 f0 :: ps.map pLit)), some (.ext (.fam (ps.map pFe))), some (.ro (b0.map .u8))] := by
 have q := f102_h h0_n k0_n h0_n_len k0_n_len b0 f0 ps hn hb0 fl
 rw [show hash_n k0_n h0_n (pTh b0 ps (ps.length + 1)) = sum_n (pTh b0 ps (ps.length + 1)) by unfold sum_n; rfl] at q
 have hl := sum_len_n (pTh b0 ps (ps.length + 1))
 obtain ⟨W, hW⟩ : ∃ W, W = sum_n (pTh b0 ps (ps.length + 1)) := ⟨_, rfl⟩
 rw [← hW] at q hl ⊢
 refine scall_of ttOk (by kernel_rfl : Tryz.prog.funcs[79]? = some Tryz.f79) rfl rfl rfl ?_
 try simp only [List.length_cons, List.length_nil, Nat.zero_add, Nat.reduceAdd]
 refine sw_ok ttOk mixed (by kernel_rfl) ?_
 conv => whnf
 refine ok1_callF [] [false, true, true] false (f101) rfl rfl ⟨⟨rfl, by rfl⟩, trivial, by first | simp [plainHf, plainB], by rfl, ?_⟩
 conv => whnf
 refine ok1_callF [4, 5, 6, 0, 1, 2] [false, false, false, false, false, false, true] false (q) rfl rfl ⟨⟨rfl, by rfl⟩, by (repeat' (first | exact trivial | refine And.intro ?_ ?_)) <;> first | rfl | exact ren_eq (by first | (simp; done) | fail) (by rfl) | ((repeat' (first | (refine wk_cons ?_ ?_))) <;> first | rfl | exact ren_eq (by first | (simp; done) | fail) rfl | fail), by first | simp [plainHf, plainB], by rfl, ?_⟩
 conv => whnf
 repeat (first | (refine Exists.intro _ (And.intro (sload_all rfl (by first | rfl | (simp [hl]; done) | fail)) ?_); conv => whnf) | (refine Exists.intro _ (And.intro (sput_all rfl (by first | rfl | (simp [hl]; done) | fail)) ?_); conv => whnf) | (refine And.intro (by first | omega | (simp; omega) | fail) ?_; conv => whnf) | fail)
 refine ⟨[0, 1, 2], ?_, rfl, rfl, ?_, rfl⟩
 ·
  (repeat' (first | (refine wk_agg ?_) | fail)) <;> first | exact ren_eq (by first | (simp; done) | fail) (by rfl) | fail
 ·
  (repeat' (first | exact trivial | refine And.intro ?_ ?_ | (refine wk_cons ?_ ?_))) <;> first | rfl | exact ren_eq (by first | (simp; done) | fail) (by rfl) | fail
theorem f99_n_h (b0 : List UInt8) (f0 : Bool) (ps : List Part) (hn : ps.length < 1000000000) (hb0 : (pTh b0 ps (ps.length + 1)).length < 100000000000000) (fl : Bool) : SCall Tryz.prog 71 [.u8 1, .sl 0 0 (ps.length + 1) 1 fl] [some (.ro (.sl 2 0 b0.length 1 f0 :: ps.map pLit)), some (.ext (.fam (ps.map pFe))), some (.ro (b0.map .u8))] (.sl 3 0 32 1 true) [some (.ro (.sl 2 0 b0.length 1 f0 :: ps.map pLit)), some (.ext (.fam (ps.map pFe))), some (.ro (b0.map .u8)), some (.box ((sum_n (pTh b0 ps (ps.length + 1))).map .u8))] := by
 have q := f54_h b0 f0 ps hn hb0 fl
 have hl := sum_len_n (pTh b0 ps (ps.length + 1))
 obtain ⟨W, hW⟩ : ∃ W, W = sum_n (pTh b0 ps (ps.length + 1)) := ⟨_, rfl⟩
 rw [← hW] at q hl ⊢
 refine scall_of ttOk (by kernel_rfl : Tryz.prog.funcs[71]? = some Tryz.f71) rfl rfl rfl ?_
 try simp only [List.length_cons, List.length_nil, Nat.zero_add, Nat.reduceAdd]
 refine sw_ok ttOk mixed (by kernel_rfl) ?_
 conv => whnf
 repeat (first | (refine brT rfl ?_; conv => whnf) | fail)
 refine ok1_callF [0, 1, 2] [false, false, false] true (q) rfl rfl ⟨⟨rfl, by rfl⟩, by (repeat' (first | exact trivial | refine And.intro ?_ ?_)) <;> first | rfl | exact ren_eq (by first | (simp; done) | fail) (by rfl) | ((repeat' (first | (refine wk_cons ?_ ?_))) <;> first | rfl | exact ren_eq (by first | (simp; done) | fail) rfl | fail), by rfl, by first | simp [plainRf, plainR, plainT, plainW], ?_⟩
 conv => whnf
 repeat (first | (refine Exists.intro _ (And.intro (sput_all rfl (by first | rfl | (simp [hl]; done) | fail)) ?_); conv => whnf) | (refine Exists.intro _ (And.intro rfl ?_); conv => whnf) | (refine And.intro (by first | omega | (simp; omega) | fail) ?_; conv => whnf) | fail)
 refine ⟨[0, 1, 2, 3], ?_, rfl, rfl, ?_, rfl⟩
 ·
  (repeat' (fail)) <;> first | rfl | fail
 ·
  (repeat' (first | exact trivial | refine And.intro ?_ ?_ | (refine wk_cons ?_ ?_))) <;> first | rfl | exact ren_eq (by first | (simp; done) | fail) (by rfl) | fail
theorem f99_n_lit (b0 : List UInt8) (f0 : Bool) (ds : List PD) (X : HL) (hn : ds.length < 1000000) (hb : (b0 ++ (ds.map pdTx).flatten).length < 100000000000000) (fl : Bool)
  (hX : ∀ id f b, some (id, f, b) ∈ ds → hg (some (.ro (.sl 1 0 b0.length 1 f0 :: ds.map pdCell)) :: some (.ro (b0.map .u8)) :: X) id = some (.ro (b.map .u8))) (hro : ∀ id b, hg X id = some b → b.own = false) :
  SCall Tryz.prog 71 [.u8 1, .sl 0 0 (ds.length + 1) 1 fl] (some (.ro (.sl 1 0 b0.length 1 f0 :: ds.map pdCell)) :: some (.ro (b0.map .u8)) :: X) (.sl (X.length + 1 + 1) 0 32 1 true) (some (.ro (.sl 1 0 b0.length 1 f0 :: ds.map pdCell)) :: some (.ro (b0.map .u8)) :: X ++ [some (.box ((sum_n (b0 ++ (ds.map pdTx).flatten)).map .u8))]) := by
 have q : ∀ ps : List Part, ps.map (fun p => p.2.2) = ds.map pdTx → _ := fun ps e => f99_n_h b0 f0 ps (by rw [len_lit e]; omega) (by rw [fb_lit e]; exact hb) fl
 refine SCall.absorb (N0 := [some (.box ((sum_n (b0 ++ (ds.map pdTx).flatten)).map .u8))]) (args' := [.u8 1, .sl 0 0 (ds.length + 1) 1 fl]) (ret' := .sl 3 0 32 1 true) [0, 0, 1] ?_ ?_ ?_ rfl rfl ?_ rfl ?_
 ·
  exact (f99_n_h b0 f0 [] (by decide) (by rw [pTh_e]; rw [List.length_append] at hb; simp; omega) fl).fn
 ·
  intro ρ w hH
  obtain ⟨rb, hr, hb⟩ := hH 0 _ rfl
  obtain ⟨rb1, hr1, hb1⟩ := hH 1 _ rfl
  obtain ⟨ps, e1, e2, e3⟩ := row_parts (sel := [0, 0, 1]) (xs := [.sl 1 0 b0.length 1 f0]) (ys := [.sl 2 0 b0.length 1 f0]) (ds := ds) hH hX rfl hb
  have q2 := q ps e1
  rw [fb_lit e1, len_lit e1] at q2
  refine ⟨[some (.ro (.sl 2 0 b0.length 1 f0 :: ps.map pLit)), some (.ext (.fam (ps.map pFe))), some (.ro (b0.map .u8))], rfl, ?_, ?_, q2⟩
  ·
   intro j hj
   match j, hj with
   | 0, _ => exact ⟨_, rfl, rfl⟩
   | 1, _ => exact ⟨_, rfl, rfl⟩
   | 2, _ => exact ⟨_, rfl, rfl⟩
  ·
   intro id b h
   match id, h with
   | 0, h => cases h; exact ⟨rb, hr, e3⟩
   | 1, h => cases h; exact ⟨rb, hr, e2 _ _⟩
   | 2, h => cases h; exact ⟨rb1, hr1, (brel_ren (renB_plain _ (by simp [plainB]))).2 hb1⟩
   | _ + 3, h => simp [hg] at h
 ·
  intro id b h
  match id, h with
  | 0, h => cases h; rfl
  | 1, h => cases h; rfl
  | id + 2, h => exact hro id b (by simpa [hg] using h)
 ·
  intro j s h
  match j, h with
  | 0, h => cases h; simp
  | 1, h => cases h; simp
  | 2, h => cases h; simp
  | _ + 3, h => simp at h
 ·
  intro j
  match j with
  | 0 => exact .inr ⟨_, _, rfl, rfl, renB_plain _ (by simp [plainB])⟩
  | _ + 1 => exact .inl ⟨rfl, rfl⟩
theorem f99_n_b (b0 : List UInt8) (hb0 : b0.length < 100000000000000) (f0 fl : Bool) : SCall Tryz.prog 71 [.u8 1, .sl 0 0 1 1 fl] [some (.ro [.sl 1 0 b0.length 1 f0]), some (.ro (b0.map .u8))] (.sl 2 0 32 1 true) [some (.ro [.sl 1 0 b0.length 1 f0]), some (.ro (b0.map .u8)), some (.box ((sum_n (b0)).map .u8))] := by
 have q := f99_n_lit b0 f0 [] [] (by simp) (by simp [pdTx]; omega) fl (by intro id f b h; (repeat (rcases List.mem_cons.1 h with e | h; · (cases e <;> rfl))); exact absurd h (by simp)) (by intro id b h; match id, h with | _ + 0, h => simp [hg] at h)
 rw [show b0 ++ (List.map pdTx []).flatten = b0 by simp [pdTx]] at q
 exact q
theorem f99_n_bb (b0 b1 : List UInt8) (hb0 : b0.length < 10000000000000) (hb1 : b1.length < 10000000000000) (f0 f1 fl : Bool) : SCall Tryz.prog 71 [.u8 1, .sl 0 0 2 1 fl] [some (.ro [.sl 1 0 b0.length 1 f0, .sl 2 0 b1.length 1 f1]), some (.ro (b0.map .u8)), some (.ro (b1.map .u8))] (.sl 3 0 32 1 true) [some (.ro [.sl 1 0 b0.length 1 f0, .sl 2 0 b1.length 1 f1]), some (.ro (b0.map .u8)), some (.ro (b1.map .u8)), some (.box ((sum_n (b0 ++ b1)).map .u8))] := by
 have q := f99_n_lit b0 f0 [some (2, f1, b1)] [some (.ro (b1.map .u8))] (by simp) (by simp [pdTx]; omega) fl (by intro id f b h; (repeat (rcases List.mem_cons.1 h with e | h; · (cases e <;> rfl))); exact absurd h (by simp)) (by intro id b h; match id, h with | 0, h => cases h; rfl | _ + 1, h => simp [hg] at h)
 rw [show b0 ++ (List.map pdTx [some (2, f1, b1)]).flatten = b0 ++ b1 by simp [pdTx]] at q
 exact q
end Go.Sh
namespace Go.Sh
open Go.Proofs
set_option maxHeartbeats 4000000
def padL (B : Nat) (K : List UInt8) (w : UInt8) : List UInt8 := (List.range B).map (fun i => w ^^^ K.getD i 0)
theorem padL_len (B : Nat) (K : List UInt8) (w : UInt8) : (padL B K w).length = B := by unfold padL; simp
theorem pad_fil {B : Nat} {K : List UInt8} {w : UInt8} (h : K.length ≤ B) : fil B K.length (fun i => w ^^^ K.getD i 0) (fun _ => w) = padL B K w := by
 unfold fil padL
 apply List.map_congr_left
 intro i _
 by_cases hi : i < K.length
 ·
  rw [if_pos hi]
 ·
  rw [if_neg hi, List.getD_eq_getElem?_getD, List.getElem?_eq_none (by omega)]
  show w = w ^^^ 0
  exact (UInt8.xor_zero).symm
def key_n (K : List UInt8) : List UInt8 := if 64 < K.length then sum_n K else K
theorem f98_n : SCall Tryz.prog 51 [.u8 1] [] (.i 32) [] := by
 refine scall_of ttOk (by kernel_rfl : Tryz.prog.funcs[51]? = some Tryz.f51) rfl rfl rfl ?_
 try simp only [List.length_cons, List.length_nil, Nat.zero_add, Nat.reduceAdd]
 refine sw_ok ttOk mixed (by kernel_rfl) ?_
 conv => whnf
 repeat (first | (refine brT rfl ?_; conv => whnf) | fail)
 refine ⟨[], ?_, rfl, rfl, ?_, rfl⟩
 ·
  (repeat' (fail)) <;> first | rfl | fail
 ·
  (repeat' (first | exact trivial | fail)) <;> fail
theorem f134_n : SCall Tryz.prog 81 [.u8 1] [] (.i 64) [] := by
 refine scall_of ttOk (by kernel_rfl : Tryz.prog.funcs[81]? = some Tryz.f81) rfl rfl rfl ?_
 try simp only [List.length_cons, List.length_nil, Nat.zero_add, Nat.reduceAdd]
 refine sw_ok ttOk mixed (by kernel_rfl) ?_
 conv => whnf
 refine ok1_callF [] [] true (f98_n) rfl rfl ⟨⟨rfl, by rfl⟩, trivial, by rfl, by rfl, ?_⟩
 conv => whnf
 refine ⟨[], ?_, rfl, rfl, ?_, rfl⟩
 ·
  (repeat' (fail)) <;> first | rfl | fail
 ·
  (repeat' (first | exact trivial | fail)) <;> fail
theorem wpi8 (i : Nat) (h : i < 1000) : w64 ((i : Int) + 1) = ((i + 1 : Nat) : Int) := by simp only [w64_eq]; omega
attribute [local irreducible] sum_n
theorem f100_n_s (K : List UInt8) (hK : K.length ≤ 64) (w : UInt8) (f : Bool) : SCall Tryz.prog 72 [.u8 1, .sl 0 0 K.length 1 f, .u8 w] [some (.ro (K.map .u8))] (.sl 1 0 64 1 true) [some (.ro (K.map .u8)), some (.row 5 ((padL 64 K w).map .u8))] := by
 have q135 := f135 w 64 (by decide) (by decide) true
 obtain ⟨Z, hZ⟩ : ∃ Z, Z = List.replicate 64 w := ⟨_, rfl⟩
 rw [← hZ] at q135
 have hlt : decide ((K.length : Int) > 64) = false := by simp; omega
 have hKl : K.length ≤ 64 := hK
 refine scall_of ttOk (by kernel_rfl : Tryz.prog.funcs[72]? = some Tryz.f72) rfl rfl rfl ?_
 try simp only [List.length_cons, List.length_nil, Nat.zero_add, Nat.reduceAdd]
 refine sw_ok ttOk mixed (by kernel_rfl) ?_
 conv => whnf
 refine ok1_callF [] [] true (f134_n) rfl rfl ⟨⟨rfl, by rfl⟩, trivial, by rfl, by rfl, ?_⟩
 conv => whnf
 repeat (first | (refine And.intro (by first | omega | (simp; omega) | fail) ?_; conv => whnf) | fail)
 first | intro _
 conv => whnf
 repeat (first | (refine Exists.intro _ (And.intro rfl ?_); conv => whnf) | fail)
 refine ok1_callF [] [] true (f134_n) rfl rfl ⟨⟨rfl, by rfl⟩, trivial, by rfl, by rfl, ?_⟩
 conv => whnf
 refine ok1_callF [1] [false, true] false (q135) rfl rfl ⟨⟨rfl, by rfl⟩, by (repeat' (first | exact trivial | refine And.intro ?_ ?_)) <;> first | rfl | fail, by first | simp [plainHf, plainB], by rfl, ?_⟩
 conv => whnf
 refine loop_rule ttOk mixed (by kernel_rfl) (ι := { i : Nat // i ≤ K.length }) (fun i => [(7, .sl 1 0 64 1 true), (24, .sl 0 0 K.length 1 f), (25, .i K.length), (26, .i (i.1 : Int))]) (fun i => [some (.ro (K.map .u8)), some (.row 5 ((fil 64 i.1 (fun i => w ^^^ K.getD i 0) (fun _ => w)).map .u8))]) (fun _ => 1 + 1) (fun i => K.length - i.1) ⟨0, by omega⟩ ?_ ?_
 ·
  have hz : fil 64 0 (fun i => w ^^^ K.getD i 0) (fun _ => w) = Z := by rw [hZ]; exact fil_zero _ _ _
  dsimp only
  rw [hz]
  refine Weak.sel [0, 2] rfl rfl ?_ ?_ rfl rfl
  ·
   (repeat' (first | exact trivial | refine And.intro ?_ ?_ | fail)) <;> first | rfl | fail
  ·
   (repeat' (first | exact trivial | refine And.intro ?_ ?_ | fail)) <;> first | rfl | exact ren_eq (by first | (simp; done) | fail) (by rfl) | fail
 ·
  rintro ⟨i, hi⟩
  dsimp only
  have hf := fil_len 64 i (fun i => w ^^^ K.getD i 0) (fun _ => w)
  by_cases hi2 : i < K.length
  ·
   have hlt2 : decide ((i : Int) < (K.length : Int)) = true := by simp; omega
   have hp := wpi8 i (by omega)
   have hiB : i < 64 := by omega
   have hx : (fil 64 i (fun i => w ^^^ K.getD i 0) (fun _ => w)).getD i 0 ^^^ K.getD i 0 = (fun i => w ^^^ K.getD i 0) i := by
    rw [fil_getD hiB, if_neg (by omega)]
   have hs := fil_setx (f := fun i => w ^^^ K.getD i 0) (g := fun _ => w) hiB hx
   conv => whnf
   first | refine brT (by exact hlt2) ?_ | fail
   conv => whnf
   repeat (first | (refine Exists.intro _ (And.intro (sput_m8 (i := i) (by first | rfl | omega | fail)) ?_); conv => whnf) | (refine Exists.intro _ (And.intro (sload_u8 (i := i) (by first | rfl | omega | fail) (by omega)) ?_); conv => whnf) | (refine Exists.intro _ (And.intro (idx_i (m := i) (by rfl)) ?_); conv => whnf) | (refine And.intro (by omega) ?_; conv => whnf) | (refine And.intro ⟨by exact @rfl Nat _, by first | (simp only [hf, ti5, List.length_map]; omega) | fail⟩ ?_; conv => whnf) | fail)
   refine ⟨⟨i + 1, by omega⟩, by simp only; omega, ?_⟩
   dsimp only
   rw [← hs]
   refine Weak.sel [0, 1] rfl rfl ?_ ?_ rfl rfl
   ·
    (repeat' (first | exact trivial | refine And.intro ?_ ?_ | fail)) <;> first | exact wk_i (by first | exact hp | exact hp.symm | fail) | rfl | fail
   ·
    (repeat' (first | exact trivial | refine And.intro ?_ ?_ | fail)) <;> first | rfl | exact ren_eq (by first | (simp; done) | fail) (by rfl) | exact ren_m8 (by rfl) | fail
  ·
   obtain rfl : i = K.length := by omega
   have hlt2 : decide ((K.length : Int) < (K.length : Int)) = false := by simp
   rw [pad_fil (by omega)]
   conv => whnf
   first | refine brF (by exact hlt2) ?_ | fail
   conv => whnf
   refine ⟨[0, 1], ?_, rfl, rfl, ?_, rfl⟩
   ·
    (repeat' (fail)) <;> first | rfl | fail
   ·
    (repeat' (first | exact trivial | refine And.intro ?_ ?_ | (refine wk_cons ?_ ?_))) <;> first | rfl | exact ren_eq (by first | (simp; done) | fail) (by rfl) | fail
theorem f100_n_l (K : List UInt8) (hK : 64 < K.length) (hKb : K.length < 100000000000000) (w : UInt8) (f : Bool) : SCall Tryz.prog 72 [.u8 1, .sl 0 0 K.length 1 f, .u8 w] [some (.ro (K.map .u8))] (.sl 1 0 64 1 true) [some (.ro (K.map .u8)), some (.row 5 ((padL 64 (sum_n K) w).map .u8))] := by
 have q135 := f135 w 64 (by decide) (by decide) true
 obtain ⟨Z, hZ⟩ : ∃ Z, Z = List.replicate 64 w := ⟨_, rfl⟩
 rw [← hZ] at q135
 have hlt : decide ((K.length : Int) > 64) = true := by simp; omega
 have q99 := f99_n_b K hKb f true
 have hKl := sum_len_n K
 obtain ⟨W, hW⟩ : ∃ W, W = sum_n K := ⟨_, rfl⟩
 rw [← hW] at q99 hKl ⊢
 refine scall_of ttOk (by kernel_rfl : Tryz.prog.funcs[72]? = some Tryz.f72) rfl rfl rfl ?_
 try simp only [List.length_cons, List.length_nil, Nat.zero_add, Nat.reduceAdd]
 refine sw_ok ttOk mixed (by kernel_rfl) ?_
 conv => whnf
 refine ok1_callF [] [] true (f134_n) rfl rfl ⟨⟨rfl, by rfl⟩, trivial, by rfl, by rfl, ?_⟩
 conv => whnf
 first | refine brT (by exact hlt) ?_ | fail
 conv => whnf
 repeat (first | (refine Exists.intro _ (And.intro rfl ?_); conv => whnf) | fail)
 refine ok1_callF [1, 0] [false, false, true] false (q99) rfl rfl ⟨⟨rfl, by rfl⟩, by (repeat' (first | exact trivial | refine And.intro ?_ ?_)) <;> first | rfl | exact ren_eq (by first | (simp; done) | fail) (by rfl) | fail, by first | simp [plainHf, plainB], by rfl, ?_⟩
 conv => whnf
 repeat (first | (refine Exists.intro _ (And.intro rfl ?_); conv => whnf) | fail)
 refine ok1_callF [] [] true (f134_n) rfl rfl ⟨⟨rfl, by rfl⟩, trivial, by rfl, by rfl, ?_⟩
 conv => whnf
 refine ok1_callF [3] [false, true] false (q135) rfl rfl ⟨⟨rfl, by rfl⟩, by (repeat' (first | exact trivial | refine And.intro ?_ ?_)) <;> first | rfl | fail, by first | simp [plainHf, plainB], by rfl, ?_⟩
 conv => whnf
 refine loop_rule ttOk mixed (by kernel_rfl) (ι := { i : Nat // i ≤ W.length }) (fun i => [(7, .sl 2 0 64 1 true), (24, .sl 1 0 W.length 1 true), (25, .i W.length), (26, .i (i.1 : Int))]) (fun i => [some (.ro (K.map .u8)), some (.ro (W.map .u8)), some (.row 5 ((fil 64 i.1 (fun i => w ^^^ W.getD i 0) (fun _ => w)).map .u8))]) (fun _ => 2 + 1) (fun i => W.length - i.1) ⟨0, by omega⟩ ?_ ?_
 ·
  have hz : fil 64 0 (fun i => w ^^^ W.getD i 0) (fun _ => w) = Z := by rw [hZ]; exact fil_zero _ _ _
  dsimp only
  rw [hz]
  refine Weak.sel [0, 2, 4] rfl rfl ?_ ?_ rfl rfl
  ·
   (repeat' (first | exact trivial | refine And.intro ?_ ?_ | fail)) <;> first | rfl | exact wk_i (by first | rfl | omega | fail) | exact wk_sl rfl (by rfl) (by exact hKl) | fail
  ·
   (repeat' (first | exact trivial | refine And.intro ?_ ?_ | fail)) <;> first | rfl | exact ren_eq (by first | (simp; done) | fail) (by rfl) | fail
 ·
  rintro ⟨i, hi⟩
  dsimp only
  have hf := fil_len 64 i (fun i => w ^^^ W.getD i 0) (fun _ => w)
  by_cases hi2 : i < W.length
  ·
   have hlt2 : decide ((i : Int) < (W.length : Int)) = true := by simp; omega
   have hp := wpi8 i (by omega)
   have hiB : i < 64 := by omega
   have hx : (fil 64 i (fun i => w ^^^ W.getD i 0) (fun _ => w)).getD i 0 ^^^ W.getD i 0 = (fun i => w ^^^ W.getD i 0) i := by
    rw [fil_getD hiB, if_neg (by omega)]
   have hs := fil_setx (f := fun i => w ^^^ W.getD i 0) (g := fun _ => w) hiB hx
   conv => whnf
   first | refine brT (by exact hlt2) ?_ | fail
   conv => whnf
   repeat (first | (refine Exists.intro _ (And.intro (sput_m8 (i := i) (by first | rfl | omega | fail)) ?_); conv => whnf) | (refine Exists.intro _ (And.intro (sload_u8 (i := i) (by first | rfl | omega | fail) (by omega)) ?_); conv => whnf) | (refine Exists.intro _ (And.intro (idx_i (m := i) (by rfl)) ?_); conv => whnf) | (refine And.intro (by omega) ?_; conv => whnf) | (refine And.intro ⟨by exact @rfl Nat _, by first | (simp only [hf, ti5, List.length_map]; omega) | fail⟩ ?_; conv => whnf) | fail)
   refine ⟨⟨i + 1, by omega⟩, by simp only; omega, ?_⟩
   dsimp only
   rw [← hs]
   refine Weak.sel [0, 1, 2] rfl rfl ?_ ?_ rfl rfl
   ·
    (repeat' (first | exact trivial | refine And.intro ?_ ?_ | fail)) <;> first | exact wk_i (by first | exact hp | exact hp.symm | fail) | rfl | fail
   ·
    (repeat' (first | exact trivial | refine And.intro ?_ ?_ | fail)) <;> first | rfl | exact ren_eq (by first | (simp; done) | fail) (by rfl) | exact ren_m8 (by rfl) | fail
  ·
   obtain rfl : i = W.length := by omega
   have hlt2 : decide ((W.length : Int) < (W.length : Int)) = false := by simp
   rw [pad_fil (by omega)]
   conv => whnf
   first | refine brF (by exact hlt2) ?_ | fail
   conv => whnf
   refine ⟨[0, 2], ?_, rfl, rfl, ?_, rfl⟩
   ·
    (repeat' (fail)) <;> first | rfl | fail
   ·
    (repeat' (first | exact trivial | refine And.intro ?_ ?_ | (refine wk_cons ?_ ?_))) <;> first | rfl | exact ren_eq (by first | (simp; done) | fail) (by rfl) | fail
theorem f100_n (K : List UInt8) (hKb : K.length < 100000000000000) (w : UInt8) (f : Bool) : SCall Tryz.prog 72 [.u8 1, .sl 0 0 K.length 1 f, .u8 w] [some (.ro (K.map .u8))] (.sl 1 0 64 1 true) [some (.ro (K.map .u8)), some (.row 5 ((padL 64 (key_n K) w).map .u8))] := by
 by_cases hk : 64 < K.length
 ·
  rw [show key_n K = sum_n K by unfold key_n; rw [if_pos hk]]; exact f100_n_l K hk hKb w f
 ·
  rw [show key_n K = K by unfold key_n; rw [if_neg hk]]; exact f100_n_s K (by omega) w f
end Go.Sh
namespace Go.Sh
open Go.Proofs
set_option maxHeartbeats 4000000
def mac_n (K T : List UInt8) : List UInt8 := sum_n (padL 64 (key_n K) 92 ++ sum_n (padL 64 (key_n K) 54 ++ T))
theorem mac_len_n (K T : List UInt8) : (mac_n K T).length = 32 := sum_len_n _
attribute [local irreducible] sum_n padL key_n
def pAll (ps : List Part) : List UInt8 := (ps.map (fun p => p.2.2)).flatten
theorem f49_n_h (K : List UInt8) (hK : K.length < 100000000000000) (ps : List Part) (hn : ps.length < 1000000) (hT : (pAll ps).length < 90000000000000) (fk fl : Bool) : SCall Tryz.prog 52 [.u8 1, .sl 0 0 K.length 1 fk, .sl 1 0 ps.length 1 fl] [some (.ro (K.map .u8)), some (.ro (ps.map pLit)), some (.ext (.fam (ps.map pFe)))] (.sl 3 0 32 1 true) [some (.ro (K.map .u8)), some (.ro (ps.map pLit)), some (.ext (.fam (ps.map pFe))), some (.box ((mac_n K (pAll ps)).map .u8))] := by
 have q1 := f100_n K hK 54 fk
 have q2 := f100_n K hK 92 fk
 have l1 := padL_len 64 (key_n K) 54
 have l2 := padL_len 64 (key_n K) 92
 obtain ⟨P1, hP1⟩ : ∃ P, P = padL 64 (key_n K) 54 := ⟨_, rfl⟩
 obtain ⟨P2, hP2⟩ : ∃ P, P = padL 64 (key_n K) 92 := ⟨_, rfl⟩
 rw [← hP1] at q1 l1
 rw [← hP2] at q2 l2
 have hpt : pTh P1 ps (ps.length + 1) = P1 ++ pAll ps := pTh_e P1 ps
 have q3 := f99_n_h P1 true ps (by omega) (by rw [hpt, List.length_append]; omega) false
 rw [hpt, l1] at q3
 have l3 := sum_len_n (P1 ++ pAll ps)
 have hm : mac_n K (pAll ps) = sum_n (P2 ++ sum_n (P1 ++ pAll ps)) := by unfold mac_n; rw [hP1, hP2]
 rw [hm]
 obtain ⟨I, hI⟩ : ∃ I, I = sum_n (P1 ++ pAll ps) := ⟨_, rfl⟩
 rw [← hI] at q3 l3 ⊢
 have q4 := f99_n_bb P2 I (by omega) (by omega) true true true
 rw [l2, l3] at q4
 have l4 := sum_len_n (P2 ++ I)
 obtain ⟨W, hW⟩ : ∃ W, W = sum_n (P2 ++ I) := ⟨_, rfl⟩
 rw [← hW] at q4 l4 ⊢
 clear hP1 hP2 hI hW hm hpt
 have hrow : List.take (1 * ti66.sz) (List.drop 0 (sput (reps 1 SV.slnil.cells) (0 * ti66.sz) (SV.sl (Nat.succ 2) 0 64 1 true))) ++ List.take (ps.length * ti66.sz) (List.drop 0 (SB.ro (List.map pLit ps)).cells) = SV.sl 3 0 64 1 true :: ps.map pLit := by
  show [SV.sl 3 0 64 1 true] ++ List.take (ps.length * 1) (ps.map pLit) = _
  rw [Nat.mul_one, List.take_of_length_le (by rw [List.length_map]; omega)]; rfl
 refine scall_of ttOk (by kernel_rfl : Tryz.prog.funcs[52]? = some Tryz.f52) rfl rfl rfl ?_
 try simp only [List.length_cons, List.length_nil, Nat.zero_add, Nat.reduceAdd]
 refine swxs_ok (J := [3]) ttOk mixed (by kernel_rfl) ?_
 conv => whnf
 refine ok1_callF [] [] true (f98_n) rfl rfl ⟨⟨rfl, by rfl⟩, trivial, by rfl, by rfl, ?_⟩
 conv => whnf
 repeat (first | (refine brF rfl ?_; conv => whnf) | fail)
 refine swp_sops rfl ?_
 refine sops_pre (pre := [_, _, _, _, _]) ttOk (by kernel_rfl) ?_
 conv => whnf
 refine ok1_callF [0] [false, true] false (q1) rfl rfl ⟨⟨rfl, by rfl⟩, by (repeat' (first | exact trivial | refine And.intro ?_ ?_)) <;> first | exact ren_eq (by first | (simp; done) | fail) (by rfl) | fail, by first | simp [plainHf, plainB], by rfl, ?_⟩
 conv => whnf
 repeat (first | (refine Exists.intro _ (And.intro rfl ?_); conv => whnf) | fail)
 refine sops_forget 15 rfl ?_
 refine sops_end ttOk (by kernel_rfl) ?_
 conv => whnf
 refine And.intro ⟨Nat.le_of_ble_eq_true rfl, by show 0 + ps.length * 1 ≤ (ps.map pLit).length; rw [List.length_map]; omega, by show (1 + ps.length) * 24 ≤ _; omega⟩ ?_
 conv => whnf
 rw [hrow, Nat.add_comm 1 ps.length]
 refine ok1_callF [5, 2, 3] [false, false, false, true] false (q3) rfl rfl ⟨⟨rfl, by rfl⟩, by (repeat' (first | exact trivial | refine And.intro ?_ ?_)) <;> first | rfl | exact ren_eq (by first | (simp; done) | fail) (by rfl) | ((repeat' (first | (refine wk_cons ?_ ?_))) <;> first | rfl | exact ren_eq (by first | (simp; done) | fail) rfl | fail), by first | simp [plainHf, plainB], by rfl, ?_⟩
 conv => whnf
 refine ok1_callF [0] [false, true] false (q2) rfl rfl ⟨⟨rfl, by rfl⟩, by (repeat' (first | exact trivial | refine And.intro ?_ ?_)) <;> first | exact ren_eq (by first | (simp; done) | fail) (by rfl) | fail, by first | simp [plainHf, plainB], by rfl, ?_⟩
 conv => whnf
 repeat (first | (refine Exists.intro _ (And.intro rfl ?_); conv => whnf) | fail)
 refine ok1_callF [8, 7, 6] [false, false, false, true] false (q4) rfl rfl ⟨⟨rfl, by rfl⟩, by (repeat' (first | exact trivial | refine And.intro ?_ ?_)) <;> first | rfl | exact ren_eq (by first | (simp; done) | fail) (by rfl) | fail, by first | simp [plainHf, plainB], by rfl, ?_⟩
 conv => whnf
 refine ⟨[0, 1, 2, 9], ?_, rfl, rfl, ?_, rfl⟩
 ·
  (repeat' (fail)) <;> first | rfl | fail
 ·
  (repeat' (first | exact trivial | refine And.intro ?_ ?_ | fail)) <;> first | rfl | exact ren_eq (by first | (simp; done) | fail) (by rfl) | fail
theorem f49_n_lit (K : List UInt8) (hK : K.length < 100000000000000) (ds : List PD) (X : HL) (hn : ds.length < 1000000) (hb : (ds.map pdTx).flatten.length < 90000000000000) (fk fl : Bool)
  (hX : ∀ id f b, some (id, f, b) ∈ ds → hg (some (.ro (K.map .u8)) :: some (.ro (ds.map pdCell)) :: X) id = some (.ro (b.map .u8))) (hro : ∀ id b, hg X id = some b → b.own = false) :
  SCall Tryz.prog 52 [.u8 1, .sl 0 0 K.length 1 fk, .sl 1 0 ds.length 1 fl] (some (.ro (K.map .u8)) :: some (.ro (ds.map pdCell)) :: X) (.sl (X.length + 1 + 1) 0 32 1 true) (some (.ro (K.map .u8)) :: some (.ro (ds.map pdCell)) :: X ++ [some (.box ((mac_n K (ds.map pdTx).flatten).map .u8))]) := by
 have q : ∀ ps : List Part, ps.map (fun p => p.2.2) = ds.map pdTx → _ := fun ps e => f49_n_h K hK ps (by rw [len_lit e]; exact hn) (by unfold pAll; rw [e]; exact hb) fk fl
 refine SCall.absorb (N0 := [some (.box ((mac_n K (ds.map pdTx).flatten).map .u8))]) (args' := [.u8 1, .sl 0 0 K.length 1 fk, .sl 1 0 ds.length 1 fl]) (ret' := .sl 3 0 32 1 true) [0, 1, 0] (f49_n_h K hK [] (by decide) (by decide) fk fl).fn ?_ ?_ rfl rfl ?_ rfl ?_
 ·
  intro ρ w hH
  obtain ⟨rb, hr, hb⟩ := hH 1 _ rfl
  obtain ⟨rb1, hr1, hb1⟩ := hH 0 _ rfl
  obtain ⟨ps, e1, e2, e3⟩ := row_parts (sel := [0, 1, 0]) (xs := []) (ys := []) (ds := ds) hH hX rfl hb
  have q2 := q ps e1
  unfold pAll at q2
  rw [e1, len_lit e1] at q2
  refine ⟨[some (.ro (K.map .u8)), some (.ro (ps.map pLit)), some (.ext (.fam (ps.map pFe)))], rfl, ?_, ?_, q2⟩
  ·
   intro j hj
   match j, hj with
   | 0, _ => exact ⟨_, rfl, rfl⟩
   | 1, _ => exact ⟨_, rfl, rfl⟩
   | 2, _ => exact ⟨_, rfl, rfl⟩
  ·
   intro id b h
   match id, h with
   | 0, h => cases h; exact ⟨rb1, hr1, (brel_ren (renB_plain _ (by simp [plainB]))).2 hb1⟩
   | 1, h => cases h; exact ⟨rb, hr, e3⟩
   | 2, h => cases h; exact ⟨rb1, hr1, e2 _ _⟩
   | _ + 3, h => simp [hg] at h
 ·
  intro id b h
  match id, h with
  | 0, h => cases h; rfl
  | 1, h => cases h; rfl
  | id + 2, h => exact hro id b (by simpa [hg] using h)
 ·
  intro j s h
  match j, h with
  | 0, h => cases h; simp
  | 1, h => cases h; simp
  | 2, h => cases h; simp
  | _ + 3, h => simp at h
 ·
  intro j
  match j with
  | 0 => exact .inr ⟨_, _, rfl, rfl, renB_plain _ (by simp [plainB])⟩
  | _ + 1 => exact .inl ⟨rfl, rfl⟩
theorem f49_n_b (K : List UInt8) (hK : K.length < 100000000000000) (b0 : List UInt8) (hb0 : b0.length < 10000000000000) (fk f0 fl : Bool) : SCall Tryz.prog 52 [.u8 1, .sl 0 0 K.length 1 fk, .sl 1 0 1 1 fl] [some (.ro (K.map .u8)), some (.ro [.sl 2 0 b0.length 1 f0]), some (.ro (b0.map .u8))] (.sl 3 0 32 1 true) [some (.ro (K.map .u8)), some (.ro [.sl 2 0 b0.length 1 f0]), some (.ro (b0.map .u8)), some (.box ((mac_n K (b0)).map .u8))] := by
 have q := f49_n_lit K hK [some (2, f0, b0)] [some (.ro (b0.map .u8))] (by simp) (by simp [pdTx]; omega) fk fl (by intro id f b h; (repeat (rcases List.mem_cons.1 h with e | h; · (cases e <;> rfl))); exact absurd h (by simp)) (by intro id b h; match id, h with | 0, h => cases h; rfl | _ + 1, h => simp [hg] at h)
 rw [show (List.map pdTx [some (2, f0, b0)]).flatten = b0 by simp [pdTx]] at q
 exact q
theorem f49_n_obb (K : List UInt8) (hK : K.length < 100000000000000) (b1 b2 : List UInt8) (hb1 : b1.length < 10000000000000) (hb2 : b2.length < 10000000000000) (fk f1 f2 fl : Bool) : SCall Tryz.prog 52 [.u8 1, .sl 0 0 K.length 1 fk, .sl 1 0 3 1 fl] [some (.ro (K.map .u8)), some (.ro [.slnil, .sl 2 0 b1.length 1 f1, .sl 3 0 b2.length 1 f2]), some (.ro (b1.map .u8)), some (.ro (b2.map .u8))] (.sl 4 0 32 1 true) [some (.ro (K.map .u8)), some (.ro [.slnil, .sl 2 0 b1.length 1 f1, .sl 3 0 b2.length 1 f2]), some (.ro (b1.map .u8)), some (.ro (b2.map .u8)), some (.box ((mac_n K (b1 ++ b2)).map .u8))] := by
 have q := f49_n_lit K hK [none, some (2, f1, b1), some (3, f2, b2)] [some (.ro (b1.map .u8)), some (.ro (b2.map .u8))] (by simp) (by simp [pdTx]; omega) fk fl (by intro id f b h; (repeat (rcases List.mem_cons.1 h with e | h; · (cases e <;> rfl))); exact absurd h (by simp)) (by intro id b h; match id, h with | 0, h => cases h; rfl | 1, h => cases h; rfl | _ + 2, h => simp [hg] at h)
 rw [show (List.map pdTx [none, some (2, f1, b1), some (3, f2, b2)]).flatten = b1 ++ b2 by simp [pdTx]] at q
 exact q
theorem f49_n_bbb (K : List UInt8) (hK : K.length < 100000000000000) (b0 b1 b2 : List UInt8) (hb0 : b0.length < 10000000000000) (hb1 : b1.length < 10000000000000) (hb2 : b2.length < 10000000000000) (fk f0 f1 f2 fl : Bool) : SCall Tryz.prog 52 [.u8 1, .sl 0 0 K.length 1 fk, .sl 1 0 3 1 fl] [some (.ro (K.map .u8)), some (.ro [.sl 2 0 b0.length 1 f0, .sl 3 0 b1.length 1 f1, .sl 4 0 b2.length 1 f2]), some (.ro (b0.map .u8)), some (.ro (b1.map .u8)), some (.ro (b2.map .u8))] (.sl 5 0 32 1 true) [some (.ro (K.map .u8)), some (.ro [.sl 2 0 b0.length 1 f0, .sl 3 0 b1.length 1 f1, .sl 4 0 b2.length 1 f2]), some (.ro (b0.map .u8)), some (.ro (b1.map .u8)), some (.ro (b2.map .u8)), some (.box ((mac_n K (b0 ++ b1 ++ b2)).map .u8))] := by
 have q := f49_n_lit K hK [some (2, f0, b0), some (3, f1, b1), some (4, f2, b2)] [some (.ro (b0.map .u8)), some (.ro (b1.map .u8)), some (.ro (b2.map .u8))] (by simp) (by simp [pdTx]; omega) fk fl (by intro id f b h; (repeat (rcases List.mem_cons.1 h with e | h; · (cases e <;> rfl))); exact absurd h (by simp)) (by intro id b h; match id, h with | 0, h => cases h; rfl | 1, h => cases h; rfl | 2, h => cases h; rfl | _ + 3, h => simp [hg] at h)
 rw [show (List.map pdTx [some (2, f0, b0), some (3, f1, b1), some (4, f2, b2)]).flatten = b0 ++ b1 ++ b2 by simp [pdTx]] at q
 exact q
theorem f50_n (K T : List UInt8) (hK : K.length < 100000000000000) (hT : T.length < 10000000000000) (fk ft : Bool) : SCall Tryz.prog 34 [.u8 1, .sl 0 0 K.length 1 fk, .sl 1 0 T.length 1 ft] [some (.ro (K.map .u8)), some (.ro (T.map .u8))] (.sl 2 0 32 1 true) [some (.ro (K.map .u8)), some (.ro (T.map .u8)), some (.box ((mac_n K T).map .u8))] := by
 have q := f49_n_b K hK T hT fk ft true
 have l := mac_len_n K T
 obtain ⟨W, hW⟩ : ∃ W, W = mac_n K T := ⟨_, rfl⟩
 rw [← hW] at q l ⊢
 refine scall_of ttOk (by kernel_rfl : Tryz.prog.funcs[34]? = some Tryz.f34) rfl rfl rfl ?_
 try simp only [List.length_cons, List.length_nil, Nat.zero_add, Nat.reduceAdd]
 refine sw_ok ttOk mixed (by kernel_rfl) ?_
 conv => whnf
 repeat (first | (refine Exists.intro _ (And.intro rfl ?_); conv => whnf) | fail)
 refine ok1_callF [0, 2, 1] [false, false, false, true] false (q) rfl rfl ⟨⟨rfl, by rfl⟩, by (repeat' (first | exact trivial | refine And.intro ?_ ?_)) <;> first | rfl | exact ren_eq (by first | (simp; done) | fail) (by rfl) | fail, by first | simp [plainHf, plainB], by rfl, ?_⟩
 conv => whnf
 refine ⟨[0, 1, 3], ?_, rfl, rfl, ?_, rfl⟩
 ·
  (repeat' (fail)) <;> first | rfl | fail
 ·
  (repeat' (first | exact trivial | refine And.intro ?_ ?_ | fail)) <;> first | exact ren_eq (by first | (simp; done) | fail) (by rfl) | fail
end Go.Sh
namespace Go.Sh
open Go.Proofs
set_option maxHeartbeats 4000000
def exT_n (K I : List UInt8) : Nat → List UInt8
 | 0 => []
 | i + 1 => mac_n K (exT_n K I i ++ I ++ [u8i ((i + 1 : Nat) : Int)])
def exO_n (K I : List UInt8) : Nat → List UInt8
 | 0 => []
 | i + 1 => exO_n K I i ++ exT_n K I (i + 1)
theorem exT_len_n (K I : List UInt8) (i : Nat) : (exT_n K I (i + 1)).length = 32 := mac_len_n _ _
theorem exO_len_n (K I : List UInt8) : ∀ i, (exO_n K I i).length = 32 * i
 | 0 => rfl
 | i + 1 => by
  show (exO_n K I i ++ exT_n K I (i + 1)).length = _
  rw [List.length_append, exO_len_n K I i, exT_len_n]; omega
theorem exT_s_n (K I : List UInt8) (i : Nat) : exT_n K I (i + 1) = mac_n K (exT_n K I i ++ I ++ [u8i ((i + 1 : Nat) : Int)]) := rfl
theorem exT_1_n (K I : List UInt8) : exT_n K I 1 = mac_n K (I ++ [u8i ((1 : Nat) : Int)]) := rfl
theorem exO_s_n (K I : List UInt8) (i : Nat) : exO_n K I (i + 1) = exO_n K I i ++ exT_n K I (i + 1) := rfl
theorem exO_z_n (K I : List UInt8) : exO_n K I 0 = [] := rfl
def exR_n : Nat → SV
 | 0 => .slnil
 | _ + 1 => .sl 3 0 32 1 true
def exB_n (K I : List UInt8) : Nat → Option SB
 | 0 => none
 | i + 1 => some (.box ((exT_n K I (i + 1)).map .u8))
section
attribute [local irreducible] mac_n exT_n exO_n
theorem f51_n (K I : List UInt8) (hK : K.length < 100000000000000) (hI : I.length < 10000000000000) (n : Nat) (hn1 : 1 ≤ n) (hn : n ≤ 8160) (fk fi : Bool) : SCall Tryz.prog 33 [.u8 1, .sl 0 0 K.length 1 fk, .sl 1 0 I.length 1 fi, .i (n : Int)] [some (.ro (K.map .u8)), some (.ro (I.map .u8))] (.tup [.sl 2 0 n 1 true, .i 0]) [some (.ro (K.map .u8)), some (.ro (I.map .u8)), some (.row 5 ((exO_n K I ((n + (32 - 1)) / 32)).map .u8))] := by
 have e1 : decide ((n : Int) < 1) = false := by simp; omega
 have e2 : decide ((n : Int) > w64 (255 * 32)) = false := by simp [w64_eq]; omega
 obtain ⟨m, hm⟩ : ∃ m, m = (n + (32 - 1)) / 32 := ⟨_, rfl⟩
 rw [← hm]
 refine scall_of ttOk (by kernel_rfl : Tryz.prog.funcs[33]? = some Tryz.f33) rfl rfl rfl ?_
 try simp only [List.length_cons, List.length_nil, Nat.zero_add, Nat.reduceAdd]
 refine sw_ok ttOk mixed (by kernel_rfl) ?_
 conv => whnf
 repeat (first | (refine gdT e1 ?_; conv => whnf) | fail)
 refine ok1_callF [] [] true (f98_n) rfl rfl ⟨⟨rfl, by rfl⟩, trivial, by rfl, by rfl, ?_⟩
 conv => whnf
 repeat (first | (refine gdT e1 ?_; conv => whnf) | (refine pkF e1 ?_; conv => whnf) | (refine gdF e2 ?_; conv => whnf) | fail)
 refine SWp.weak (Weak.virt 10 5 1 rfl) ?_
 refine loop_rule ttOk mixed (by kernel_rfl) (ι := { i : Nat // i ≤ m }) (fun i => [(0, .u8 1), (1, .sl 0 0 K.length 1 fk), (2, .sl 1 0 I.length 1 fi), (3, .i n), (8, .slnil), (9, .i 0), (10, .sl 2 0 (32 * i.1) 1 false), (11, exR_n i.1), (12, .i ((i.1 + 1 : Nat) : Int))]) (fun i => [some (.ro (K.map .u8)), some (.ro (I.map .u8)), some (.row 5 ((exO_n K I i.1).map .u8)), exB_n K I i.1]) (fun _ => 4) (fun i => m - i.1) ⟨0, by omega⟩ ?_ ?_
 ·
  have hz := exO_z_n K I
  dsimp only
  rw [hz]
  refine Weak.sel [0, 1, 2, 0] rfl rfl ?_ ?_ rfl rfl
  ·
   (repeat' (first | exact trivial | refine And.intro ?_ ?_ | fail)) <;> first | rfl | fail
  ·
   (repeat' (first | exact trivial | refine And.intro ?_ ?_ | fail)) <;> first | rfl | exact ren_eq (by first | (simp; done) | fail) (by rfl) | fail
 ·
  rintro ⟨i, hi⟩
  dsimp only
  have hol := exO_len_n K I i
  have hos := exO_s_n K I i
  have htl := exT_len_n K I i
  have hts := exT_s_n K I i
  have hp : w64 (((i + 1 : Nat) : Int) + 1) = ((i + 1 + 1 : Nat) : Int) := by simp only [w64_eq]; omega
  by_cases hi2 : i < m
  ·
   have hlt : decide (((32 * i : Nat) : Int) < (n : Int)) = true := by simp; omega
   obtain ⟨O, hO⟩ : ∃ O, O = exO_n K I i := ⟨_, rfl⟩
   rw [← hO] at hol hos ⊢
   rcases i with _ | i
   ·
    have q := f49_n_obb K hK I [u8i ((1 : Nat) : Int)] hI (by decide : [u8i ((1 : Nat) : Int)].length < 10000000000000) fk fi true true
    rw [← exT_1_n] at q
    obtain ⟨T, hT⟩ : ∃ T, T = exT_n K I 1 := ⟨_, rfl⟩
    rw [← hT] at q
    have hTl : T.length = 32 := by rw [hT]; exact exT_len_n K I 0
    have hap : (O ++ T).map SV.u8 = List.take (32 * 0 * 1) (List.drop 0 (O.map SV.u8)) ++ List.take (32 * 1) (List.drop 0 (T.map SV.u8)) := by
     rw [List.drop_zero, List.drop_zero, List.take_of_length_le (l := O.map SV.u8) (by rw [List.length_map]; omega), List.take_of_length_le (l := T.map SV.u8) (by rw [List.length_map]; omega), List.map_append]
    conv => whnf
    first | refine brT (by exact hlt) ?_ | fail
    conv => whnf
    repeat (first | (refine Exists.intro _ (And.intro rfl ?_); conv => whnf) | fail)
    refine ok1_callF [0, 5, 1, 4] [false, false, false, false, true] false (q) rfl rfl ⟨⟨rfl, by rfl⟩, by (repeat' (first | exact trivial | refine And.intro ?_ ?_)) <;> first | rfl | exact ren_eq (by first | (simp; done) | fail) (by rfl) | fail, by first | simp [plainHf, plainB], by rfl, ?_⟩
    conv => whnf
    repeat (first | (refine And.intro (by first | omega | (simp [ti5]; omega)) ?_; conv => whnf) | fail)
    refine ⟨⟨1, by omega⟩, by simp only; omega, ?_⟩
    dsimp only
    rw [hos]
    unfold exR_n exB_n
    dsimp only
    rw [← hT]
    refine Weak.sel [0, 1, 7, 6] rfl rfl ?_ ?_ rfl rfl
    ·
     (repeat' (first | exact trivial | refine And.intro ?_ ?_ | fail)) <;> first | exact wk_i (by exact hp) | rfl | fail
    ·
     (repeat' (first | exact trivial | exact ren_eq (plainL_u8 _) hap | refine And.intro ?_ ?_ | fail)) <;> first | rfl | exact ren_eq (by first | (simp; done) | fail) (by rfl) | fail
   ·
    obtain ⟨T0, hT0⟩ : ∃ T, T = exT_n K I (i + 1) := ⟨_, rfl⟩
    have htl0 := exT_len_n K I i
    rw [← hT0] at htl0
    have q := f49_n_bbb K hK T0 I [u8i ((i + 1 + 1 : Nat) : Int)] (by omega) hI (by simp) fk true fi true true
    rw [hT0, ← exT_s_n, ← hT0, htl0] at q
    obtain ⟨T, hT⟩ : ∃ T, T = exT_n K I (i + 1 + 1) := ⟨_, rfl⟩
    rw [← hT] at q
    have hTl : T.length = 32 := by rw [hT]; exact exT_len_n K I (i + 1)
    have hap : (O ++ T).map SV.u8 = List.take (32 * (i + 1) * 1) (List.drop 0 (O.map SV.u8)) ++ List.take (32 * 1) (List.drop 0 (T.map SV.u8)) := by
     rw [List.drop_zero, List.drop_zero, List.take_of_length_le (l := O.map SV.u8) (by rw [List.length_map]; omega), List.take_of_length_le (l := T.map SV.u8) (by rw [List.length_map]; omega), List.map_append]
    have hnx : 32 * (i + 1 + 1) = 32 * (i + 1) + 32 := by omega
    unfold exR_n exB_n
    dsimp only
    rw [← hT0]
    conv => whnf
    first | refine brT (by exact hlt) ?_ | fail
    conv => whnf
    repeat (first | (refine Exists.intro _ (And.intro rfl ?_); conv => whnf) | fail)
    refine ok1_callF [0, 5, 3, 1, 4] [false, false, false, false, false, true] false (q) rfl rfl ⟨⟨rfl, by rfl⟩, by (repeat' (first | exact trivial | refine And.intro ?_ ?_)) <;> first | rfl | exact ren_eq (by first | (simp; done) | fail) (by rfl) | fail, by first | simp [plainHf, plainB], by rfl, ?_⟩
    conv => whnf
    repeat (first | (refine And.intro (by first | omega | (simp [ti5]; omega)) ?_; conv => whnf) | fail)
    refine ⟨⟨i + 1 + 1, by omega⟩, by simp only; omega, ?_⟩
    dsimp only
    rw [hos, ← hT]
    refine Weak.sel [0, 1, 7, 6] rfl rfl ?_ ?_ rfl rfl
    ·
     (repeat' (first | exact trivial | refine And.intro ?_ ?_ | fail)) <;> first | exact wk_i (by first | exact hp | exact hp.symm | fail) | rfl | fail
    ·
     (repeat' (first | exact trivial | exact ren_eq (plainL_u8 _) hap | refine And.intro ?_ ?_ | fail)) <;> first | rfl | exact ren_eq (by first | (simp; done) | fail) (by rfl) | fail
  ·
   obtain rfl : i = m := by omega
   have hlt : decide (((32 * i : Nat) : Int) < (n : Int)) = false := by simp; omega
   rcases i with _ | i
   ·
    omega
   ·
    conv => whnf
    first | refine brF (by exact hlt) ?_ | fail
    conv => whnf
    repeat (first | (refine Exists.intro _ (And.intro rfl ?_); conv => whnf) | (refine And.intro (by omega) ?_; conv => whnf) | fail)
    have hdd : decide (((n : Nat) : Int).toNat = ((n : Nat) : Int).toNat) = true := by simp
    rw [hdd, Int.toNat_natCast]
    refine ⟨[0, 1, 2], ?_, rfl, rfl, ?_, rfl⟩
    ·
     (repeat' (first | (refine wk_tup ?_) | (refine wk_cons ?_ ?_))) <;> first | rfl | fail
    ·
     (repeat' (first | exact trivial | refine And.intro ?_ ?_ | fail)) <;> first | rfl | exact ren_eq (by first | (simp; done) | fail) (by rfl) | fail
end
section
end
end Go.Sh
namespace Go.Sh
open Go.Proofs
set_option maxHeartbeats 4000000
theorem f95_n : SCall Tryz.prog 55 [.u8 1] [] (.i 32) [] := by
 refine scall_of ttOk (by kernel_rfl : Tryz.prog.funcs[55]? = some Tryz.f55) rfl rfl rfl ?_
 try simp only [List.length_cons, List.length_nil, Nat.zero_add, Nat.reduceAdd]
 refine sw_ok ttOk mixed (by kernel_rfl) ?_
 conv => whnf
 repeat (first | (refine brT rfl ?_; conv => whnf) | fail)
 refine ⟨[], ?_, rfl, rfl, ?_, rfl⟩
 ·
  (repeat' (fail)) <;> first | rfl | fail
 ·
  (repeat' (first | exact trivial | fail)) <;> fail
theorem f96_n (T : List UInt8) (hT : T.length < 100000000000000) (f : Bool) : SCall Tryz.prog 56 [.u8 1, .sl 0 0 T.length 1 f] [some (.ro (T.map .u8))] (.sl 1 0 32 1 false) [some (.ro (T.map .u8)), some (.row 5 ((sum_n T).map .u8))] := by
 have q := f133_n T hT f
 rw [show hash_n k0_n h0_n T = sum_n T from rfl] at q
 obtain ⟨X, hX⟩ : ∃ X, X = sum_n T := ⟨_, rfl⟩
 rw [← hX] at q ⊢
 refine scall_of ttOk (by kernel_rfl : Tryz.prog.funcs[56]? = some Tryz.f56) rfl rfl rfl ?_
 try simp only [List.length_cons, List.length_nil, Nat.zero_add, Nat.reduceAdd]
 refine sw_ok ttOk mixed (by kernel_rfl) ?_
 conv => whnf
 refine ok1_callF [] [] true (f95_n) rfl rfl ⟨⟨rfl, by rfl⟩, trivial, by rfl, by rfl, ?_⟩
 conv => whnf
 refine ok1_callF [0] [false, true] false (q) rfl rfl ⟨⟨rfl, by rfl⟩, by (repeat' (first | exact trivial | refine And.intro ?_ ?_)) <;> first | exact ren_eq (by first | (simp; done) | fail) (by rfl) | fail, by first | simp [plainHf, plainB], by rfl, ?_⟩
 conv => whnf
 refine ⟨[0, 1], ?_, rfl, rfl, ?_, rfl⟩
 ·
  (repeat' (fail)) <;> first | rfl | fail
 ·
  (repeat' (first | exact trivial | refine And.intro ?_ ?_ | fail)) <;> first | rfl | exact ren_eq (by first | (simp; done) | fail) (by rfl) | fail
end Go.Sh
namespace Go.Sh
open Go.Proofs
set_option maxHeartbeats 4000000
set_option maxRecDepth 100000
theorem padz_get (Y : List UInt8) (n i : Nat) : (Y ++ List.replicate n 0).getD i 0 = Y.getD i 0 := by
 rw [List.getD_eq_getElem?_getD, List.getD_eq_getElem?_getD]
 by_cases h : i < Y.length
 ·
  rw [List.getElem?_append_left h]
 ·
  rw [List.getElem?_append_right (by omega), List.getElem?_eq_none (i := i) (l := Y) (by omega), List.getElem?_replicate]
  split <;> rfl
theorem rcat8z {E b : List UInt8} {n m : Nat} (hn : n = E.length) (hm : m = b.length) : (E ++ b).map SV.u8 = List.take (n * 1) (List.drop 0 (E.map SV.u8)) ++ List.take (m * 1) (List.drop 0 (b.map SV.u8)) := by
 subst hn; subst hm
 rw [Nat.mul_one, Nat.mul_one, List.drop_zero, List.drop_zero, List.take_of_length_le (l := b.map SV.u8) (by rw [List.length_map]; exact Nat.le_refl _), List.take_of_length_le (l := E.map SV.u8) (by rw [List.length_map]; exact Nat.le_refl _), List.map_append]
theorem f97_n_s (K : List UInt8) (hK : K.length ≤ 64) (w : UInt8) (f : Bool) : SCall Tryz.prog 57 [.u8 1, .sl 0 0 K.length 1 f, .u8 w] [some (.ro (K.map .u8))] (.sl 1 0 64 1 false) [some (.ro (K.map .u8)), some (.row 5 ((padL 64 K w).map .u8))] := by
 have hz0 : 0 + K.length = K.length := Nat.zero_add _
 have hbk : List.take (0 * ti5.sz) (List.drop 0 (reps 0 (SV.u8 0).cells)) ++ List.take (K.length * ti5.sz) (List.drop 0 (SB.ro (List.map SV.u8 K)).cells) = K.map SV.u8 := by
  show ([] : List SV) ++ List.take (K.length * 1) (K.map SV.u8) = _
  simp
 have hlt : decide ((K.length : Int) > w64 (2 * 32)) = false := by
  rw [show w64 (2 * 32) = 64 from by decide]; simp; omega
 refine scall_of ttOk (by kernel_rfl : Tryz.prog.funcs[57]? = some Tryz.f57) rfl rfl rfl ?_
 try simp only [List.length_cons, List.length_nil, Nat.zero_add, Nat.reduceAdd]
 refine sw_ok ttOk mixed (by kernel_rfl) ?_
 conv => whnf
 repeat (first | (refine Exists.intro _ (And.intro rfl ?_); conv => whnf) | (refine And.intro (by first | omega | (simp [ti5]; omega)) ?_; conv => whnf) | fail)
 rw [hbk, hz0]
 refine ok1_callF [] [] true (f95_n) rfl rfl ⟨⟨rfl, by rfl⟩, trivial, by rfl, by rfl, ?_⟩
 conv => whnf
 first | refine brF (by exact hlt) ?_ | fail
 conv => whnf
 have hYl0 : K.length + 0 = K.length := rfl
 refine loop_rule ttOk mixed (by kernel_rfl) (ι := { j : Nat // K.length + j ≤ 64 }) (fun j => [(0, .u8 1), (2, .u8 w), (7, .sl 1 0 (K.length + j.1) 1 false)]) (fun j => [some (.ro (K.map .u8)), some (.row 5 ((K ++ List.replicate j.1 0).map .u8))]) (fun _ => 2) (fun j => 64 - j.1) ⟨0, by omega⟩ ?_ ?_
 ·
  have hz : K ++ List.replicate 0 0 = K := List.append_nil _
  dsimp only
  rw [hz]
  refine Weak.sel [0, 2] rfl rfl ?_ ?_ rfl rfl
  ·
   (repeat' (first | exact trivial | refine And.intro ?_ ?_ | fail)) <;> first | rfl | fail
  ·
   (repeat' (first | exact trivial | refine And.intro ?_ ?_ | fail)) <;> first | rfl | exact ren_eq (by first | (simp; done) | fail) (by rfl) | fail
 ·
  rintro ⟨j, hj⟩
  dsimp only
  have hYs : K ++ List.replicate (j + 1) 0 = (K ++ List.replicate j 0) ++ [0] := by rw [List.replicate_succ', List.append_assoc]
  have hgt : ∀ i, (K ++ List.replicate j 0).getD i 0 = K.getD i 0 := fun i => padz_get K j i
  obtain ⟨V, hV⟩ : ∃ V, V = K ++ List.replicate j 0 := ⟨_, rfl⟩
  have hVl : V.length = K.length + j := by rw [hV, List.length_append, List.length_replicate]
  rw [← hV] at hYs hgt ⊢
  by_cases hj2 : K.length + j < 64
  ·
   have hlt2 : decide (((K.length + j : Nat) : Int) < w64 (2 * 32)) = true := by
    rw [show w64 (2 * 32) = 64 from by decide]; simp; omega
   have hap := rcat8z (E := V) (b := [0]) (n := K.length + j) (m := 1) hVl.symm rfl
   have hp : K.length + j + 1 = K.length + (j + 1) := by omega
   conv => whnf
   refine ok1_callF [] [] true (f95_n) rfl rfl ⟨⟨rfl, by rfl⟩, trivial, by rfl, by rfl, ?_⟩
   conv => whnf
   first | refine brT (by exact hlt2) ?_ | fail
   conv => whnf
   repeat (first | (refine Exists.intro _ (And.intro rfl ?_); conv => whnf) | (refine And.intro (by first | omega | (simp [ti5]; omega)) ?_; conv => whnf) | fail)
   refine ⟨⟨j + 1, by omega⟩, by simp only; omega, ?_⟩
   dsimp only
   rw [hYs]
   refine Weak.sel [0, 3] rfl rfl ?_ ?_ rfl rfl
   ·
    (repeat' (first | exact trivial | refine And.intro ?_ ?_ | fail)) <;> first | rfl | fail
   ·
    (repeat' (first | exact trivial | exact ren_eq (plainL_u8 _) hap | refine And.intro ?_ ?_ | fail)) <;> first | rfl | exact ren_eq (by first | (simp; done) | fail) (by rfl) | fail
  ·
   have hlt2 : decide (((K.length + j : Nat) : Int) < w64 (2 * 32)) = false := by
    rw [show w64 (2 * 32) = 64 from by decide]; simp; omega
   have hjB : K.length + j = 64 := by omega
   rw [hjB] at hVl hlt2 ⊢
   conv => whnf
   refine ok1_callF [] [] true (f95_n) rfl rfl ⟨⟨rfl, by rfl⟩, trivial, by rfl, by rfl, ?_⟩
   conv => whnf
   repeat (first | (refine brF rfl ?_; conv => whnf) | fail)
   refine loop_rule ttOk mixed (by kernel_rfl) (ι := { i : Nat // i ≤ 64 }) (fun i => [(2, .u8 w), (7, .sl 1 0 64 1 false), (8, .i (i.1 : Int))]) (fun i => [some (.ro (K.map .u8)), some (.row 5 ((fil 64 i.1 (fun i => w ^^^ K.getD i 0) (fun i => V.getD i 0)).map .u8))]) (fun _ => 2) (fun i => 64 - i.1) ⟨0, by omega⟩ ?_ ?_
   ·
    have hz : fil 64 0 (fun i => w ^^^ K.getD i 0) (fun i => V.getD i 0) = V := fil_of_list hVl
    dsimp only
    rw [hz]
    refine Weak.sel [0, 1] rfl rfl ?_ ?_ rfl rfl
    ·
     (repeat' (first | exact trivial | refine And.intro ?_ ?_ | fail)) <;> first | rfl | fail
    ·
     (repeat' (first | exact trivial | refine And.intro ?_ ?_ | fail)) <;> first | rfl | exact ren_eq (by first | (simp; done) | fail) (by rfl) | fail
   ·
    rintro ⟨i, hi⟩
    dsimp only
    have hf := fil_len 64 i (fun i => w ^^^ K.getD i 0) (fun i => V.getD i 0)
    by_cases hi2 : i < 64
    ·
     have hlt3 : decide ((i : Int) < 64) = true := by simp; omega
     have hp : w64 ((i : Int) + 1) = ((i + 1 : Nat) : Int) := by simp only [w64_eq]; omega
     have hx : (fil 64 i (fun i => w ^^^ K.getD i 0) (fun i => V.getD i 0)).getD i 0 ^^^ w = (fun i => w ^^^ K.getD i 0) i := by
      rw [fil_getD hi2, if_neg (by omega), hgt i, UInt8.xor_comm]
     have hs := fil_setx (f := fun i => w ^^^ K.getD i 0) (g := fun i => V.getD i 0) hi2 hx
     conv => whnf
     first | refine brT (by exact hlt3) ?_ | fail
     conv => whnf
     repeat (first | (refine Exists.intro _ (And.intro (sput_m8 (i := i) (by first | rfl | omega | fail)) ?_); conv => whnf) | (refine Exists.intro _ (And.intro (sload_u8 (i := i) (by first | rfl | omega | fail) (by omega)) ?_); conv => whnf) | (refine Exists.intro _ (And.intro (idx_i (m := i) (by rfl)) ?_); conv => whnf) | (refine And.intro (by omega) ?_; conv => whnf) | (refine And.intro ⟨by exact @rfl Nat _, by first | (simp only [hf, ti5, List.length_map]; omega) | fail⟩ ?_; conv => whnf) | fail)
     refine ⟨⟨i + 1, by omega⟩, by simp only; omega, ?_⟩
     dsimp only
     rw [← hs]
     refine Weak.sel [0, 1] rfl rfl ?_ ?_ rfl rfl
     ·
      (repeat' (first | exact trivial | refine And.intro ?_ ?_ | fail)) <;> first | exact wk_i (by first | exact hp | exact hp.symm | fail) | rfl | fail
     ·
      (repeat' (first | exact trivial | refine And.intro ?_ ?_ | fail)) <;> first | rfl | exact ren_eq (by first | (simp; done) | fail) (by rfl) | exact ren_m8 (by rfl) | fail
    ·
     obtain rfl : i = 64 := by omega
     have hfin : fil 64 64 (fun i => w ^^^ K.getD i 0) (fun i => V.getD i 0) = padL 64 K w := fil_full ..
     rw [hfin]
     conv => whnf
     first | refine brF (by rfl) ?_ | fail
     conv => whnf
     refine ⟨[0, 1], ?_, rfl, rfl, ?_, rfl⟩
     ·
      (repeat' (fail)) <;> first | rfl | fail
     ·
      (repeat' (first | exact trivial | refine And.intro ?_ ?_ | (refine wk_cons ?_ ?_))) <;> first | rfl | exact ren_eq (by first | (simp; done) | fail) (by rfl) | fail
end Go.Sh
namespace Go.Sh
open Go.Proofs
set_option maxHeartbeats 4000000
set_option maxRecDepth 100000
attribute [local irreducible] sum_n
theorem f97_n_l (K : List UInt8) (hK : 64 < K.length) (hKb : K.length < 100000000000000) (w : UInt8) (f : Bool) : SCall Tryz.prog 57 [.u8 1, .sl 0 0 K.length 1 f, .u8 w] [some (.ro (K.map .u8))] (.sl 1 0 64 1 false) [some (.ro (K.map .u8)), some (.row 5 ((padL 64 (sum_n K) w).map .u8))] := by
 have hz0 : 0 + K.length = K.length := Nat.zero_add _
 have hbk : List.take (0 * ti5.sz) (List.drop 0 (reps 0 (SV.u8 0).cells)) ++ List.take (K.length * ti5.sz) (List.drop 0 (SB.ro (List.map SV.u8 K)).cells) = K.map SV.u8 := by
  show ([] : List SV) ++ List.take (K.length * 1) (K.map SV.u8) = _
  simp
 have hlt : decide ((K.length : Int) > w64 (2 * 32)) = true := by
  rw [show w64 (2 * 32) = 64 from by decide]; simp; omega
 have q96 := f96_n K hKb false
 have hYl := sum_len_n K
 obtain ⟨Y, hY⟩ : ∃ Y, Y = sum_n K := ⟨_, rfl⟩
 rw [← hY] at q96 hYl ⊢
 refine scall_of ttOk (by kernel_rfl : Tryz.prog.funcs[57]? = some Tryz.f57) rfl rfl rfl ?_
 try simp only [List.length_cons, List.length_nil, Nat.zero_add, Nat.reduceAdd]
 refine sw_ok ttOk mixed (by kernel_rfl) ?_
 conv => whnf
 repeat (first | (refine Exists.intro _ (And.intro rfl ?_); conv => whnf) | (refine And.intro (by first | omega | (simp [ti5]; omega)) ?_; conv => whnf) | fail)
 rw [hbk, hz0]
 refine ok1_callF [] [] true (f95_n) rfl rfl ⟨⟨rfl, by rfl⟩, trivial, by rfl, by rfl, ?_⟩
 conv => whnf
 first | refine brT (by exact hlt) ?_ | fail
 conv => whnf
 refine ok1_callF [2] [false, true] false (q96) rfl rfl ⟨⟨rfl, by rfl⟩, by (repeat' (first | exact trivial | refine And.intro ?_ ?_)) <;> first | exact ren_eq (by first | (simp; done) | fail) (by rfl) | fail, by first | simp [plainHf, plainB], by rfl, ?_⟩
 conv => whnf
 have hYl0 : Y.length + 0 = 32 := hYl
 refine loop_rule ttOk mixed (by kernel_rfl) (ι := { j : Nat // Y.length + j ≤ 64 }) (fun j => [(0, .u8 1), (2, .u8 w), (7, .sl 1 0 (Y.length + j.1) 1 false)]) (fun j => [some (.ro (K.map .u8)), some (.row 5 ((Y ++ List.replicate j.1 0).map .u8))]) (fun _ => 2) (fun j => 64 - j.1) ⟨0, by omega⟩ ?_ ?_
 ·
  have hz : Y ++ List.replicate 0 0 = Y := List.append_nil _
  dsimp only
  rw [hz]
  refine Weak.sel [0, 3] rfl rfl ?_ ?_ rfl rfl
  ·
   (repeat' (first | exact trivial | refine And.intro ?_ ?_ | fail)) <;> first | rfl | exact wk_sl rfl (by rfl) (by exact hYl0) | fail
  ·
   (repeat' (first | exact trivial | refine And.intro ?_ ?_ | fail)) <;> first | rfl | exact ren_eq (by first | (simp; done) | fail) (by rfl) | fail
 ·
  rintro ⟨j, hj⟩
  dsimp only
  have hYs : Y ++ List.replicate (j + 1) 0 = (Y ++ List.replicate j 0) ++ [0] := by rw [List.replicate_succ', List.append_assoc]
  have hgt : ∀ i, (Y ++ List.replicate j 0).getD i 0 = Y.getD i 0 := fun i => padz_get Y j i
  obtain ⟨V, hV⟩ : ∃ V, V = Y ++ List.replicate j 0 := ⟨_, rfl⟩
  have hVl : V.length = Y.length + j := by rw [hV, List.length_append, List.length_replicate]
  rw [← hV] at hYs hgt ⊢
  by_cases hj2 : Y.length + j < 64
  ·
   have hlt2 : decide (((Y.length + j : Nat) : Int) < w64 (2 * 32)) = true := by
    rw [show w64 (2 * 32) = 64 from by decide]; simp; omega
   have hap := rcat8z (E := V) (b := [0]) (n := Y.length + j) (m := 1) hVl.symm rfl
   have hp : Y.length + j + 1 = Y.length + (j + 1) := by omega
   conv => whnf
   refine ok1_callF [] [] true (f95_n) rfl rfl ⟨⟨rfl, by rfl⟩, trivial, by rfl, by rfl, ?_⟩
   conv => whnf
   first | refine brT (by exact hlt2) ?_ | fail
   conv => whnf
   repeat (first | (refine Exists.intro _ (And.intro rfl ?_); conv => whnf) | (refine And.intro (by first | omega | (simp [ti5]; omega)) ?_; conv => whnf) | fail)
   refine ⟨⟨j + 1, by omega⟩, by simp only; omega, ?_⟩
   dsimp only
   rw [hYs]
   refine Weak.sel [0, 3] rfl rfl ?_ ?_ rfl rfl
   ·
    (repeat' (first | exact trivial | refine And.intro ?_ ?_ | fail)) <;> first | rfl | fail
   ·
    (repeat' (first | exact trivial | exact ren_eq (plainL_u8 _) hap | refine And.intro ?_ ?_ | fail)) <;> first | rfl | exact ren_eq (by first | (simp; done) | fail) (by rfl) | fail
  ·
   have hlt2 : decide (((Y.length + j : Nat) : Int) < w64 (2 * 32)) = false := by
    rw [show w64 (2 * 32) = 64 from by decide]; simp; omega
   have hjB : Y.length + j = 64 := by omega
   rw [hjB] at hVl hlt2 ⊢
   conv => whnf
   refine ok1_callF [] [] true (f95_n) rfl rfl ⟨⟨rfl, by rfl⟩, trivial, by rfl, by rfl, ?_⟩
   conv => whnf
   repeat (first | (refine brF rfl ?_; conv => whnf) | fail)
   refine loop_rule ttOk mixed (by kernel_rfl) (ι := { i : Nat // i ≤ 64 }) (fun i => [(2, .u8 w), (7, .sl 1 0 64 1 false), (8, .i (i.1 : Int))]) (fun i => [some (.ro (K.map .u8)), some (.row 5 ((fil 64 i.1 (fun i => w ^^^ Y.getD i 0) (fun i => V.getD i 0)).map .u8))]) (fun _ => 2) (fun i => 64 - i.1) ⟨0, by omega⟩ ?_ ?_
   ·
    have hz : fil 64 0 (fun i => w ^^^ Y.getD i 0) (fun i => V.getD i 0) = V := fil_of_list hVl
    dsimp only
    rw [hz]
    refine Weak.sel [0, 1] rfl rfl ?_ ?_ rfl rfl
    ·
     (repeat' (first | exact trivial | refine And.intro ?_ ?_ | fail)) <;> first | rfl | fail
    ·
     (repeat' (first | exact trivial | refine And.intro ?_ ?_ | fail)) <;> first | rfl | exact ren_eq (by first | (simp; done) | fail) (by rfl) | fail
   ·
    rintro ⟨i, hi⟩
    dsimp only
    have hf := fil_len 64 i (fun i => w ^^^ Y.getD i 0) (fun i => V.getD i 0)
    by_cases hi2 : i < 64
    ·
     have hlt3 : decide ((i : Int) < 64) = true := by simp; omega
     have hp : w64 ((i : Int) + 1) = ((i + 1 : Nat) : Int) := by simp only [w64_eq]; omega
     have hx : (fil 64 i (fun i => w ^^^ Y.getD i 0) (fun i => V.getD i 0)).getD i 0 ^^^ w = (fun i => w ^^^ Y.getD i 0) i := by
      rw [fil_getD hi2, if_neg (by omega), hgt i, UInt8.xor_comm]
     have hs := fil_setx (f := fun i => w ^^^ Y.getD i 0) (g := fun i => V.getD i 0) hi2 hx
     conv => whnf
     first | refine brT (by exact hlt3) ?_ | fail
     conv => whnf
     repeat (first | (refine Exists.intro _ (And.intro (sput_m8 (i := i) (by first | rfl | omega | fail)) ?_); conv => whnf) | (refine Exists.intro _ (And.intro (sload_u8 (i := i) (by first | rfl | omega | fail) (by omega)) ?_); conv => whnf) | (refine Exists.intro _ (And.intro (idx_i (m := i) (by rfl)) ?_); conv => whnf) | (refine And.intro (by omega) ?_; conv => whnf) | (refine And.intro ⟨by exact @rfl Nat _, by first | (simp only [hf, ti5, List.length_map]; omega) | fail⟩ ?_; conv => whnf) | fail)
     refine ⟨⟨i + 1, by omega⟩, by simp only; omega, ?_⟩
     dsimp only
     rw [← hs]
     refine Weak.sel [0, 1] rfl rfl ?_ ?_ rfl rfl
     ·
      (repeat' (first | exact trivial | refine And.intro ?_ ?_ | fail)) <;> first | exact wk_i (by first | exact hp | exact hp.symm | fail) | rfl | fail
     ·
      (repeat' (first | exact trivial | refine And.intro ?_ ?_ | fail)) <;> first | rfl | exact ren_eq (by first | (simp; done) | fail) (by rfl) | exact ren_m8 (by rfl) | fail
    ·
     obtain rfl : i = 64 := by omega
     have hfin : fil 64 64 (fun i => w ^^^ Y.getD i 0) (fun i => V.getD i 0) = padL 64 Y w := fil_full ..
     rw [hfin]
     conv => whnf
     first | refine brF (by rfl) ?_ | fail
     conv => whnf
     refine ⟨[0, 1], ?_, rfl, rfl, ?_, rfl⟩
     ·
      (repeat' (fail)) <;> first | rfl | fail
     ·
      (repeat' (first | exact trivial | refine And.intro ?_ ?_ | (refine wk_cons ?_ ?_))) <;> first | rfl | exact ren_eq (by first | (simp; done) | fail) (by rfl) | fail
theorem f97_n (K : List UInt8) (hKb : K.length < 100000000000000) (w : UInt8) (f : Bool) : SCall Tryz.prog 57 [.u8 1, .sl 0 0 K.length 1 f, .u8 w] [some (.ro (K.map .u8))] (.sl 1 0 64 1 false) [some (.ro (K.map .u8)), some (.row 5 ((padL 64 (key_n K) w).map .u8))] := by
 by_cases hk : 64 < K.length
 ·
  rw [show key_n K = sum_n K by unfold key_n; rw [if_pos hk]]; exact f97_n_l K hk hKb w f
 ·
  rw [show key_n K = K by unfold key_n; rw [if_neg hk]]; exact f97_n_s K (by omega) w f
end Go.Sh
namespace Go.Sh
open Go.Proofs
set_option maxHeartbeats 4000000
theorem rcatb {E b : List UInt8} {n m : Nat} {B : SB} (hB : B.cells = b.map SV.u8) (hn : n = E.length) (hm : m = b.length) : List.take (n * 1) (List.drop 0 (E.map SV.u8)) ++ List.take (m * 1) (List.drop 0 B.cells) = (E ++ b).map SV.u8 := by rw [hB]; exact (rcat8z hn hm).symm
attribute [local irreducible] sum_n padL key_n
theorem f48_n (K T : List UInt8) (hK : K.length < 100000000000000) (hT : T.length < 10000000000000) (fk ft : Bool) : SCall Tryz.prog 38 [.u8 1, .sl 0 0 K.length 1 fk, .sl 1 0 T.length 1 ft] [some (.ro (K.map .u8)), some (.ro (T.map .u8))] (.sl 2 0 32 1 false) [some (.ro (K.map .u8)), some (.ro (T.map .u8)), some (.row 5 ((mac_n K T).map .u8))] := by
 have q1 := f97_n K hK 54 fk
 have q2 := f97_n K hK 92 fk
 have l1 := padL_len 64 (key_n K) 54
 have l2 := padL_len 64 (key_n K) 92
 obtain ⟨P1, hP1⟩ : ∃ P, P = padL 64 (key_n K) 54 := ⟨_, rfl⟩
 obtain ⟨P2, hP2⟩ : ∃ P, P = padL 64 (key_n K) 92 := ⟨_, rfl⟩
 rw [← hP1] at q1 l1
 rw [← hP2] at q2 l2
 have q3 := f96_n (P1 ++ T) (by rw [List.length_append]; omega) false
 have l3 := sum_len_n (P1 ++ T)
 have h3 : (P1 ++ T).length = 64 + T.length := by rw [List.length_append, l1]
 rw [h3] at q3
 have hm : mac_n K T = sum_n (P2 ++ sum_n (P1 ++ T)) := by unfold mac_n; rw [hP1, hP2]
 rw [hm]
 obtain ⟨I, hI⟩ : ∃ I, I = sum_n (P1 ++ T) := ⟨_, rfl⟩
 rw [← hI] at q3 l3 ⊢
 have q4 := f96_n (P2 ++ I) (by rw [List.length_append]; omega) false
 have h4 : (P2 ++ I).length = 64 + 32 := by rw [List.length_append, l2, l3]
 rw [h4] at q4
 have l4 := sum_len_n (P2 ++ I)
 obtain ⟨W, hW⟩ : ∃ W, W = sum_n (P2 ++ I) := ⟨_, rfl⟩
 rw [← hW] at q4 l4 ⊢
 have a1 := rcatb (E := P1) (b := T) (B := .ro (T.map .u8)) rfl l1.symm rfl
 have a2 := rcatb (E := P2) (b := I) (B := .row 5 (I.map .u8)) rfl l2.symm l3.symm
 clear hP1 hP2 hI hW hm
 refine scall_of ttOk (by kernel_rfl : Tryz.prog.funcs[38]? = some Tryz.f38) rfl rfl rfl ?_
 try simp only [List.length_cons, List.length_nil, Nat.zero_add, Nat.reduceAdd]
 refine sw_ok ttOk mixed (by kernel_rfl) ?_
 conv => whnf
 refine ok1_callF [] [] true (f95_n) rfl rfl ⟨⟨rfl, by rfl⟩, trivial, by rfl, by rfl, ?_⟩
 conv => whnf
 repeat (first | (refine brF rfl ?_; conv => whnf) | fail)
 refine ok1_callF [0] [false, true] false (q1) rfl rfl ⟨⟨rfl, by rfl⟩, by (repeat' (first | exact trivial | refine And.intro ?_ ?_)) <;> first | exact ren_eq (by first | (simp; done) | fail) (by rfl) | fail, by first | simp [plainHf, plainB], by rfl, ?_⟩
 conv => whnf
 repeat (first | (refine And.intro (by first | omega | (simp [ti5]; omega)) ?_; conv => whnf) | fail)
 rw [a1]
 refine ok1_callF [3] [false, true] false (q3) rfl rfl ⟨⟨rfl, by rfl⟩, by (repeat' (first | exact trivial | refine And.intro ?_ ?_)) <;> first | exact ren_eq (by first | (simp; done) | fail) (by rfl) | fail, by first | simp [plainHf, plainB], by rfl, ?_⟩
 conv => whnf
 refine ok1_callF [0] [false, true] false (q2) rfl rfl ⟨⟨rfl, by rfl⟩, by (repeat' (first | exact trivial | refine And.intro ?_ ?_)) <;> first | exact ren_eq (by first | (simp; done) | fail) (by rfl) | fail, by first | simp [plainHf, plainB], by rfl, ?_⟩
 conv => whnf
 repeat (first | (refine And.intro (by first | omega | (simp [ti5]; omega)) ?_; conv => whnf) | fail)
 rw [a2]
 refine ok1_callF [6] [false, true] false (q4) rfl rfl ⟨⟨rfl, by rfl⟩, by (repeat' (first | exact trivial | refine And.intro ?_ ?_)) <;> first | exact ren_eq (by first | (simp; done) | fail) (by rfl) | fail, by first | simp [plainHf, plainB], by rfl, ?_⟩
 conv => whnf
 refine ⟨[0, 1, 7], ?_, rfl, rfl, ?_, rfl⟩
 ·
  (repeat' (fail)) <;> first | rfl | fail
 ·
  (repeat' (first | exact trivial | refine And.intro ?_ ?_ | fail)) <;> first | rfl | exact ren_eq (by first | (simp; done) | fail) (by rfl) | fail
end Go.Sh
namespace Go.Sh
open Go.Proofs
set_option maxHeartbeats 4000000
def exQ_n : Nat → SV
 | 0 => .slnil
 | _ + 1 => .sl 3 0 32 1 false
def exC_n (K I : List UInt8) : Nat → Option SB
 | 0 => none
 | i + 1 => some (.row 5 ((exT_n K I (i + 1)).map .u8))
section
attribute [local irreducible] mac_n exT_n exO_n
theorem f52_n (K I : List UInt8) (hK : K.length < 100000000000000) (hI : I.length < 1000000000000) (n : Nat) (hn1 : 1 ≤ n) (hn : n ≤ 8160) (fk fi : Bool) : SCall Tryz.prog 37 [.u8 1, .sl 0 0 K.length 1 fk, .sl 1 0 I.length 1 fi, .i (n : Int)] [some (.ro (K.map .u8)), some (.ro (I.map .u8))] (.sl 2 0 n 1 false) [some (.ro (K.map .u8)), some (.ro (I.map .u8)), some (.row 5 ((exO_n K I ((n + (32 - 1)) / 32)).map .u8))] := by
 have e1 : decide ((n : Int) < 1) = false := by simp; omega
 have e2 : decide ((n : Int) > w64 (255 * 32)) = false := by simp [w64_eq]; omega
 obtain ⟨m, hm⟩ : ∃ m, m = (n + (32 - 1)) / 32 := ⟨_, rfl⟩
 rw [← hm]
 refine scall_of ttOk (by kernel_rfl : Tryz.prog.funcs[37]? = some Tryz.f37) rfl rfl rfl ?_
 try simp only [List.length_cons, List.length_nil, Nat.zero_add, Nat.reduceAdd]
 refine sw_ok ttOk mixed (by kernel_rfl) ?_
 conv => whnf
 repeat (first | (refine gdT e1 ?_; conv => whnf) | fail)
 refine ok1_callF [] [] true (f95_n) rfl rfl ⟨⟨rfl, by rfl⟩, trivial, by rfl, by rfl, ?_⟩
 conv => whnf
 repeat (first | (refine gdT e1 ?_; conv => whnf) | (refine pkF e1 ?_; conv => whnf) | (refine gdF e2 ?_; conv => whnf) | fail)
 refine SWp.weak (Weak.virt 9 5 1 rfl) ?_
 refine loop_rule ttOk mixed (by kernel_rfl) (ι := { i : Nat // i ≤ m }) (fun i => [(0, .u8 1), (1, .sl 0 0 K.length 1 fk), (2, .sl 1 0 I.length 1 fi), (3, .i n), (9, .sl 2 0 (32 * i.1) 1 false), (10, exQ_n i.1), (11, .i ((i.1 + 1 : Nat) : Int))]) (fun i => [some (.ro (K.map .u8)), some (.ro (I.map .u8)), some (.row 5 ((exO_n K I i.1).map .u8)), exC_n K I i.1]) (fun _ => 4) (fun i => m - i.1) ⟨0, by omega⟩ ?_ ?_
 ·
  have hz := exO_z_n K I
  dsimp only
  rw [hz]
  refine Weak.sel [0, 1, 2, 0] rfl rfl ?_ ?_ rfl rfl
  ·
   (repeat' (first | exact trivial | refine And.intro ?_ ?_ | fail)) <;> first | rfl | fail
  ·
   (repeat' (first | exact trivial | refine And.intro ?_ ?_ | fail)) <;> first | rfl | exact ren_eq (by first | (simp; done) | fail) (by rfl) | fail
 ·
  rintro ⟨i, hi⟩
  dsimp only
  have hol := exO_len_n K I i
  have hos := exO_s_n K I i
  have htl := exT_len_n K I i
  have hts := exT_s_n K I i
  have hp : w64 (((i + 1 : Nat) : Int) + 1) = ((i + 1 + 1 : Nat) : Int) := by simp only [w64_eq]; omega
  by_cases hi2 : i < m
  ·
   have hlt : decide (((32 * i : Nat) : Int) < (n : Int)) = true := by simp; omega
   obtain ⟨O, hO⟩ : ∃ O, O = exO_n K I i := ⟨_, rfl⟩
   rw [← hO] at hol hos ⊢
   rcases i with _ | i
   ·
    have q := f48_n K (I ++ [u8i ((1 : Nat) : Int)]) hK (by simp; omega) fk false
    rw [← exT_1_n] at q
    have hIl : (I ++ [u8i ((1 : Nat) : Int)]).length = I.length + 1 := by simp
    rw [hIl] at q
    obtain ⟨T, hT⟩ : ∃ T, T = exT_n K I 1 := ⟨_, rfl⟩
    rw [← hT] at q
    have hTl : T.length = 32 := by rw [hT]; exact exT_len_n K I 0
    have hap : (O ++ T).map SV.u8 = List.take (32 * 0 * 1) (List.drop 0 (O.map SV.u8)) ++ List.take (32 * 1) (List.drop 0 (T.map SV.u8)) := by
     rw [List.drop_zero, List.drop_zero, List.take_of_length_le (l := O.map SV.u8) (by rw [List.length_map]; omega), List.take_of_length_le (l := T.map SV.u8) (by rw [List.length_map]; omega), List.map_append]
    have hz0 : 0 + I.length = I.length := Nat.zero_add _
    have hbk : List.take ((0 + I.length) * ti5.sz) (List.drop 0 (List.take (0 * ti5.sz) (List.drop 0 (reps 0 (SV.u8 0).cells)) ++ List.take (I.length * ti5.sz) (List.drop 0 (SB.ro (List.map SV.u8 I)).cells))) ++ List.take (1 * ti5.sz) (List.drop 0 (SB.row 5 (sput (reps 1 (SV.u8 0).cells) (0 * ti5.sz) (SV.u8 (u8i ((0 + 1 : Nat) : Int))))).cells) = (I ++ [u8i ((1 : Nat) : Int)]).map SV.u8 := by
     show List.take ((0 + I.length) * 1) (([] : List SV) ++ List.take (I.length * 1) (I.map SV.u8)) ++ [SV.u8 (u8i ((1 : Nat) : Int))] = _
     simp
    conv => whnf
    first | refine brT (by exact hlt) ?_ | fail
    conv => whnf
    repeat (first | (refine Exists.intro _ (And.intro rfl ?_); conv => whnf) | (refine And.intro (by first | omega | (simp [ti5]; omega)) ?_; conv => whnf) | fail)
    rw [hbk, hz0]
    refine ok1_callF [0, 7] [false, false, true] false (q) rfl rfl ⟨⟨rfl, by rfl⟩, by (repeat' (first | exact trivial | refine And.intro ?_ ?_)) <;> first | exact ren_eq (by first | (simp; done) | fail) (by rfl) | fail, by first | simp [plainHf, plainB], by rfl, ?_⟩
    conv => whnf
    repeat (first | (refine And.intro (by first | omega | (simp [ti5]; omega)) ?_; conv => whnf) | fail)
    refine ⟨⟨1, by omega⟩, by simp only; omega, ?_⟩
    dsimp only
    rw [hos]
    unfold exQ_n exC_n
    dsimp only
    rw [← hT]
    refine Weak.sel [0, 1, 9, 8] rfl rfl ?_ ?_ rfl rfl
    ·
     (repeat' (first | exact trivial | refine And.intro ?_ ?_ | fail)) <;> first | exact wk_i (by exact hp) | rfl | fail
    ·
     (repeat' (first | exact trivial | exact ren_eq (plainL_u8 _) hap | refine And.intro ?_ ?_ | fail)) <;> first | rfl | exact ren_eq (by first | (simp; done) | fail) (by rfl) | fail
   ·
    obtain ⟨T0, hT0⟩ : ∃ T, T = exT_n K I (i + 1) := ⟨_, rfl⟩
    have htl0 := exT_len_n K I i
    rw [← hT0] at htl0
    have q := f48_n K (T0 ++ I ++ [u8i ((i + 1 + 1 : Nat) : Int)]) hK (by simp; omega) fk false
    have hIl : (T0 ++ I ++ [u8i ((i + 1 + 1 : Nat) : Int)]).length = 32 + I.length + 1 := by simp; omega
    rw [hIl, hT0, ← exT_s_n, ← hT0] at q
    obtain ⟨T, hT⟩ : ∃ T, T = exT_n K I (i + 1 + 1) := ⟨_, rfl⟩
    rw [← hT] at q
    have hTl : T.length = 32 := by rw [hT]; exact exT_len_n K I (i + 1)
    have hap : (O ++ T).map SV.u8 = List.take (32 * (i + 1) * 1) (List.drop 0 (O.map SV.u8)) ++ List.take (32 * 1) (List.drop 0 (T.map SV.u8)) := by
     rw [List.drop_zero, List.drop_zero, List.take_of_length_le (l := O.map SV.u8) (by rw [List.length_map]; omega), List.take_of_length_le (l := T.map SV.u8) (by rw [List.length_map]; omega), List.map_append]
    have hnx : 32 * (i + 1 + 1) = 32 * (i + 1) + 32 := by omega
    unfold exQ_n exC_n
    dsimp only
    rw [← hT0]
    have hz0 : 0 + 32 + I.length = 32 + I.length := by omega
    have hbk : List.take ((0 + 32 + I.length) * ti5.sz) (List.drop 0 (List.take ((0 + 32) * ti5.sz) (List.drop 0 (List.take (0 * ti5.sz) (List.drop 0 (reps 0 (SV.u8 0).cells)) ++ List.take (32 * ti5.sz) (List.drop 0 (SB.row 5 (List.map SV.u8 T0)).cells))) ++ List.take (I.length * ti5.sz) (List.drop 0 (SB.ro (List.map SV.u8 I)).cells))) ++ List.take (1 * ti5.sz) (List.drop 0 (SB.row 5 (sput (reps 1 (SV.u8 0).cells) (0 * ti5.sz) (SV.u8 (u8i ((i + 1 + 1 : Nat) : Int))))).cells) = (T0 ++ I ++ [u8i ((i + 1 + 1 : Nat) : Int)]).map SV.u8 := by
     show List.take ((0 + 32 + I.length) * 1) (List.take ((0 + 32) * 1) (([] : List SV) ++ List.take (32 * 1) (T0.map SV.u8)) ++ List.take (I.length * 1) (I.map SV.u8)) ++ [SV.u8 (u8i ((i + 1 + 1 : Nat) : Int))] = _
     rw [List.nil_append, List.take_of_length_le (l := T0.map SV.u8) (by rw [List.length_map]; omega), List.take_of_length_le (l := T0.map SV.u8) (by rw [List.length_map]; omega), List.take_of_length_le (l := I.map SV.u8) (by rw [List.length_map]; omega), List.take_of_length_le (by rw [List.length_append, List.length_map, List.length_map]; omega), List.map_append, List.map_append]; rfl
    conv => whnf
    first | refine brT (by exact hlt) ?_ | fail
    conv => whnf
    repeat (first | (refine Exists.intro _ (And.intro rfl ?_); conv => whnf) | (refine And.intro (by first | omega | (simp [ti5]; omega)) ?_; conv => whnf) | fail)
    rw [hbk, hz0]
    refine ok1_callF [0, 8] [false, false, true] false (q) rfl rfl ⟨⟨rfl, by rfl⟩, by (repeat' (first | exact trivial | refine And.intro ?_ ?_)) <;> first | exact ren_eq (by first | (simp; done) | fail) (by rfl) | fail, by first | simp [plainHf, plainB], by rfl, ?_⟩
    conv => whnf
    repeat (first | (refine And.intro (by first | omega | (simp [ti5]; omega)) ?_; conv => whnf) | fail)
    refine ⟨⟨i + 1 + 1, by omega⟩, by simp only; omega, ?_⟩
    dsimp only
    rw [hos, ← hT]
    refine Weak.sel [0, 1, 10, 9] rfl rfl ?_ ?_ rfl rfl
    ·
     (repeat' (first | exact trivial | refine And.intro ?_ ?_ | fail)) <;> first | exact wk_i (by first | exact hp | exact hp.symm | fail) | rfl | fail
    ·
     (repeat' (first | exact trivial | exact ren_eq (plainL_u8 _) hap | refine And.intro ?_ ?_ | fail)) <;> first | rfl | exact ren_eq (by first | (simp; done) | fail) (by rfl) | fail
  ·
   obtain rfl : i = m := by omega
   have hlt : decide (((32 * i : Nat) : Int) < (n : Int)) = false := by simp; omega
   rcases i with _ | i
   ·
    omega
   ·
    conv => whnf
    first | refine brF (by exact hlt) ?_ | fail
    conv => whnf
    repeat (first | (refine Exists.intro _ (And.intro rfl ?_); conv => whnf) | (refine And.intro (by omega) ?_; conv => whnf) | fail)
    refine ⟨[0, 1, 2], ?_, rfl, rfl, ?_, rfl⟩
    ·
     (repeat' (fail)) <;> first | rfl | fail
    ·
     (repeat' (first | exact trivial | refine And.intro ?_ ?_ | fail)) <;> first | rfl | exact ren_eq (by first | (simp; done) | fail) (by rfl) | fail
end
section
end
end Go.Sh
namespace Go.Sh
open Go.Proofs
set_option maxHeartbeats 4000000
theorem sload_fst {xs ys : List SV} {n : Nat} (h : xs.length = n) : sload true n (xs ++ ys) 0 = some (.agg xs) := by
 subst h
 simp [sload]
theorem sload_snd {xs ys : List SV} {y : SV} {i : Nat} (h : xs.length = i) : sload false 1 (xs ++ y :: ys) i = some y := by
 subst h
 simp [sload]
theorem sput_fst {xs ys zs : List SV} (h : zs.length = xs.length) : sput (xs ++ ys) 0 (.agg zs) = zs ++ ys := by
 simp [sput, h]
theorem sput_snd {xs ys : List SV} {y z : SV} {i : Nat} (h : xs.length = i) (hz : z.atom = true) : sput (xs ++ y :: ys) i z = xs ++ z :: ys := by
 subst h
 cases z <;> first | (simp [sput]; done) | (cases hz; done)
theorem range_getD {l : List UInt8} {n : Nat} (h : l.length = n) : (List.range n).map (fun i => l.getD i 0) = l := by
 apply List.ext_getElem?
 intro i
 by_cases hi : i < n
 ·
  rw [List.getElem?_map, List.getElem?_range hi, List.getElem?_eq_getElem (by omega), Option.map_some, List.getD_eq_getElem?_getD, List.getElem?_eq_getElem (by omega)]; rfl
 ·
  rw [List.getElem?_eq_none (by simp; omega), List.getElem?_eq_none (by omega)]
attribute [local irreducible] mac_n
theorem f108 (k : List UInt8) (hk : k.length = 32) : SCall Tryz.prog 25 [.agg (k.map .u8)] [] (.sl 0 0 32 1 false) [some (.row 5 (k.map .u8))] := by
 refine scall_of ttOk (by kernel_rfl : Tryz.prog.funcs[25]? = some Tryz.f25) rfl rfl rfl ?_
 try simp only [List.length_cons, List.length_nil, Nat.zero_add, Nat.reduceAdd]
 refine sw_ok ttOk mixed (by kernel_rfl) ?_
 conv => whnf
 refine SWp.weak (Weak.virt 3 5 1 rfl) ?_
 refine loop_rule ttOk mixed (by kernel_rfl) (ι := { i : Nat // i ≤ 32 }) (fun i => [(1, .p 0 0), (3, .sl 1 0 i.1 1 false), (4, .i (i.1 : Int))]) (fun i => [some (.box (k.map .u8)), some (.row 5 ((k.take i.1).map .u8))]) (fun _ => 2) (fun i => 32 - i.1) ⟨0, by omega⟩ ?_ ?_
 ·
  refine Weak.sel [0, 1] rfl rfl ?_ ?_ rfl rfl
  ·
   (repeat' (first | exact trivial | refine And.intro ?_ ?_ | fail)) <;> first | rfl | fail
  ·
   (repeat' (first | exact trivial | refine And.intro ?_ ?_ | fail)) <;> first | rfl | exact ren_eq (by first | (simp; done) | fail) (by rfl) | fail
 ·
  rintro ⟨i, hi⟩
  dsimp only
  by_cases hi2 : i < 32
  ·
   have hlt : decide ((i : Int) < 32) = true := by simp; omega
   have hp := wpi8 i (by omega)
   have hl : (k.take i).length = i := by rw [List.length_take]; omega
   have hs : k.take (i + 1) = k.take i ++ [k.getD i 0] := by
    rw [List.take_add_one, List.getD_eq_getElem?_getD, List.getElem?_eq_getElem (by omega)]; rfl
   obtain ⟨Y, hY⟩ : ∃ Y, Y = k.take i := ⟨_, rfl⟩
   rw [← hY] at hl hs ⊢
   have hap : (Y ++ [k.getD i 0]).map SV.u8 = List.take (i * 1) (List.drop 0 (Y.map SV.u8)) ++ List.take (1 * 1) (List.drop 0 [SV.u8 (k.getD i 0)]) := rcat8z hl.symm rfl
   conv => whnf
   first | refine brT (by exact hlt) ?_ | fail
   conv => whnf
   repeat (first | (refine Exists.intro _ (And.intro (sload_u8 (i := i) (by first | rfl | (simp; done) | fail) (by omega)) ?_); conv => whnf) | (refine Exists.intro _ (And.intro (idx_i (m := i) (by rfl)) ?_); conv => whnf) | (refine Exists.intro _ (And.intro rfl ?_); conv => whnf) | (refine And.intro (by first | omega | (simp [ti5]; omega)) ?_; conv => whnf) | fail)
   refine ⟨⟨i + 1, by omega⟩, by simp only; omega, ?_⟩
   dsimp only
   rw [hs]
   refine Weak.sel [0, 3] rfl rfl ?_ ?_ rfl rfl
   ·
    (repeat' (first | exact trivial | refine And.intro ?_ ?_ | fail)) <;> first | exact wk_i (by first | exact hp | exact hp.symm | fail) | rfl | fail
   ·
    (repeat' (first | exact trivial | exact ren_eq (plainL_u8 _) hap | refine And.intro ?_ ?_ | fail)) <;> first | rfl | exact ren_eq (by first | (simp; done) | fail) (by rfl) | fail
  ·
   obtain rfl : i = 32 := by omega
   have hl : k.take 32 = k := by rw [List.take_of_length_le (by omega)]
   rw [hl]
   conv => whnf
   first | refine brF (by rfl) ?_ | fail
   conv => whnf
   refine ⟨[1], ?_, rfl, rfl, ?_, rfl⟩
   ·
    (repeat' (fail)) <;> first | rfl | fail
   ·
    (repeat' (first | exact trivial | refine And.intro ?_ ?_ | fail)) <;> first | rfl | exact ren_eq (by first | (simp; done) | fail) (by rfl) | fail
theorem f107 (D : List UInt8) (at_ : Nat) (h : at_ + 32 ≤ D.length) (hb : D.length < 1000000) (f : Bool) (k : List UInt8) (hk : (D.drop at_).take 32 = k) : SCall Tryz.prog 23 [.sl 0 0 D.length 1 f, .i (at_ : Int)] [some (.ro (D.map .u8))] (.agg (k.map .u8)) [some (.ro (D.map .u8))] := by
 have hkl : k.length = 32 := by rw [← hk]; simp; omega
 have hkg : ∀ i, i < 32 → k.getD i 0 = D.getD (at_ + i) 0 := fun i hi => by
  rw [← hk, List.getD_eq_getElem?_getD, List.getD_eq_getElem?_getD, List.getElem?_take_of_lt hi, List.getElem?_drop]
 refine scall_of ttOk (by kernel_rfl : Tryz.prog.funcs[23]? = some Tryz.f23) rfl rfl rfl ?_
 try simp only [List.length_cons, List.length_nil, Nat.zero_add, Nat.reduceAdd]
 refine sw_ok ttOk mixed (by kernel_rfl) ?_
 conv => whnf
 refine loop_rule ttOk mixed (by kernel_rfl) (ι := { i : Nat // i ≤ 32 }) (fun i => [(0, .sl 0 0 D.length 1 f), (1, .i (at_ : Int)), (4, .p 1 0), (5, .p 2 0), (6, .i (i.1 : Int))]) (fun i => [some (.ro (D.map .u8)), some (.box (reps 32 [.u8 0])), some (.box ((fil 32 i.1 (fun i => k.getD i 0) (fun _ => 0)).map .u8))]) (fun _ => 3) (fun i => 32 - i.1) ⟨0, by omega⟩ ?_ ?_
 ·
  have hz : fil 32 0 (fun i => k.getD i 0) (fun _ => 0) = List.replicate 32 0 := fil_zero _ _ _
  dsimp only
  rw [hz]
  refine Weak.sel [0, 1, 2] rfl rfl ?_ ?_ rfl rfl
  ·
   (repeat' (first | exact trivial | refine And.intro ?_ ?_ | fail)) <;> first | rfl | fail
  ·
   (repeat' (first | exact trivial | exact ren_z8 | refine And.intro ?_ ?_ | (refine wk_cons ?_ ?_))) <;> first | rfl | exact ren_eq (by first | (simp; done) | fail) (by rfl) | fail
 ·
  rintro ⟨i, hi⟩
  dsimp only
  have hf := fil_len 32 i (fun i => k.getD i 0) (fun _ => 0)
  by_cases hi2 : i < 32
  ·
   have hlt : decide ((i : Int) < 32) = true := by simp; omega
   have hp := wpi8 i (by omega)
   have ha : w64 ((at_ : Int) + (i : Int)) = ((at_ + i : Nat) : Int) := by simp only [w64_eq]; omega
   have hs := fil_setx (n := 32) (f := fun i => k.getD i 0) (g := fun _ => 0) (i := i) (x := D.getD (at_ + i) 0) hi2 (hkg i hi2).symm
   conv => whnf
   first | refine brT (by exact hlt) ?_ | fail
   conv => whnf
   repeat (first | (refine Exists.intro _ (And.intro (sput_m8 (i := i) (by first | rfl | (simp; done) | fail)) ?_); conv => whnf) | (refine Exists.intro _ (And.intro (idx_i (m := i) (by rfl)) ?_); conv => whnf) | (refine Exists.intro _ (And.intro (sload_u8 (i := at_ + i) (by first | rfl | omega | fail) (by omega)) ?_); conv => whnf) | (refine Exists.intro _ (And.intro (idx_i (m := at_ + i) (by first | rfl | omega | fail)) ?_); conv => whnf) | (refine And.intro (by omega) ?_; conv => whnf) | (refine And.intro ⟨by exact @rfl Nat _, by first | (simp only [hf, ti5, List.length_map]; omega) | fail⟩ ?_; conv => whnf) | fail)
   refine ⟨⟨i + 1, by omega⟩, by simp only; omega, ?_⟩
   dsimp only
   rw [← hs]
   refine Weak.sel [0, 1, 2] rfl rfl ?_ ?_ rfl rfl
   ·
    (repeat' (first | exact trivial | refine And.intro ?_ ?_ | fail)) <;> first | exact wk_i (by first | exact hp | exact hp.symm | fail) | rfl | fail
   ·
    (repeat' (first | exact trivial | refine And.intro ?_ ?_ | (refine wk_cons ?_ ?_))) <;> first | rfl | exact ren_eq (by first | (simp; done) | fail) (by rfl) | exact ren_m8 (by rfl) | fail
  ·
   obtain rfl : i = 32 := by omega
   have hfin : fil 32 32 (fun i => k.getD i 0) (fun _ => 0) = k := by
    rw [fil_full]; exact range_getD hkl
   rw [hfin]
   conv => whnf
   first | refine brF (by rfl) ?_ | fail
   conv => whnf
   repeat (first | (refine Exists.intro _ (And.intro (sload_all rfl (by first | rfl | (simp [hkl]; done) | fail)) ?_); conv => whnf) | (refine Exists.intro _ (And.intro (sput_all rfl (by first | rfl | (simp [hkl]; done) | fail)) ?_); conv => whnf) | (refine And.intro (by first | omega | (simp; omega) | fail) ?_; conv => whnf) | fail)
   refine ⟨[0], ?_, rfl, rfl, ?_, rfl⟩
   ·
    (repeat' (first | (refine wk_agg ?_) | fail)) <;> first | exact ren_eq (by first | (simp; done) | fail) (by rfl) | fail
   ·
    (repeat' (first | exact trivial | refine And.intro ?_ ?_ | fail)) <;> first | exact ren_eq (by first | (simp; done) | fail) (by rfl) | fail
end Go.Sh
namespace Go.Sh
open Go.Proofs
set_option maxHeartbeats 4000000
theorem sload_cut {l r : List UInt8} {o n : Nat} (h : (l.drop o).take n = r) (hl : o + n ≤ l.length) : sload true n (l.map .u8) o = some (.agg (r.map .u8)) := by
 subst h
 simp only [sload, if_true, List.length_map]
 rw [if_pos hl, List.map_take, List.map_drop]
attribute [local irreducible] mac_n exO_n
end Go.Sh
namespace Go.Sh
def Pr (n : Nat) : Prop := 2 ≤ n ∧ ∀ d, d ∣ n → d = 1 ∨ d = n
theorem Pr.coprime {p a : Nat} (h : Pr p) (ha : ¬ p ∣ a) : Nat.gcd p a = 1 := by
 rcases h.2 (Nat.gcd p a) (Nat.gcd_dvd_left p a) with e | e
 ·
  exact e
 ·
  exact absurd (e ▸ Nat.gcd_dvd_right p a) ha
theorem Pr.dvd_mul {p a b : Nat} (h : Pr p) (hd : p ∣ a * b) : p ∣ a ∨ p ∣ b := by
 by_cases ha : p ∣ a
 ·
  exact .inl ha
 ·
  exact .inr (Nat.Coprime.dvd_of_dvd_mul_left (h.coprime ha) hd)
def ch : Nat → Nat → Nat
 | _, 0 => 1
 | 0, _ + 1 => 0
 | n + 1, k + 1 => ch n k + ch n (k + 1)
theorem ch_z (n : Nat) : ch n 0 = 1 := by cases n <;> rfl
theorem ch_s (n k : Nat) : ch (n + 1) (k + 1) = ch n k + ch n (k + 1) := rfl
theorem ch_mul : ∀ n k, (k + 1) * ch (n + 1) (k + 1) = (n + 1) * ch n k
 | 0, 0 => rfl
 | 0, k + 1 => by simp [ch]
 | n + 1, 0 => by
  have := ch_mul n 0
  rw [ch_z] at this
  rw [ch_s (n + 1) 0, ch_z]
  omega
 | n + 1, j + 1 => by
  have h1 := ch_mul n j
  have h2 := ch_mul n (j + 1)
  rw [ch_s (n + 1) (j + 1), ch_s n j] at *
  rw [Nat.mul_add, h2, show j + 1 + 1 = (j + 1) + 1 from rfl, Nat.add_mul, h1, Nat.add_mul (n + 1) 1, Nat.mul_add (n + 1)]
  omega
theorem ch_gt : ∀ n k, n < k → ch n k = 0
 | 0, _ + 1, _ => rfl
 | n + 1, k + 1, h => by rw [ch_s, ch_gt n k (by omega), ch_gt n (k + 1) (by omega)]
theorem ch_self : ∀ n, ch n n = 1
 | 0 => rfl
 | n + 1 => by rw [ch_s, ch_self n, ch_gt n (n + 1) (by omega)]
def bs (a n : Nat) : Nat → Nat
 | 0 => 0
 | m + 1 => bs a n m + ch n m * a ^ m
theorem bs_s (a n m : Nat) : bs a n (m + 1) = bs a n m + ch n m * a ^ m := rfl
theorem bs_step (a n : Nat) : ∀ m, bs a (n + 1) (m + 1) = a * bs a n m + bs a n (m + 1)
 | 0 => by simp [bs, ch_z]
 | m + 1 => by
  rw [bs_s a (n + 1) (m + 1), bs_step a n m, bs_s a n (m + 1), ch_s, bs_s a n m, Nat.mul_add, Nat.add_mul, Nat.pow_succ, Nat.mul_comm (a ^ m) a, ← Nat.mul_assoc (ch n m), Nat.mul_comm (ch n m) a, Nat.mul_assoc a]
  omega
theorem binom (a : Nat) : ∀ n, (a + 1) ^ n = bs a n (n + 1)
 | 0 => by simp [bs, ch]
 | n + 1 => by
  rw [bs_step a n (n + 1), bs_s a n (n + 1), ch_gt n (n + 1) (by omega), ← binom a n, Nat.pow_succ, Nat.mul_add, Nat.mul_comm a]
  omega
theorem dvd_ch {p : Nat} (h : Pr p) {k : Nat} (h0 : 0 < k) (hk : k < p) : p ∣ ch p k := by
 obtain ⟨j, rfl⟩ : ∃ j, k = j + 1 := ⟨k - 1, by omega⟩
 obtain ⟨n, rfl⟩ : ∃ n, p = n + 1 := ⟨p - 1, by omega⟩
 have := ch_mul n j
 rcases h.dvd_mul (a := j + 1) (b := ch (n + 1) (j + 1)) ⟨_, this⟩ with e | e
 ·
  exact absurd (Nat.le_of_dvd (by omega) e) (by omega)
 ·
  exact e
theorem bs_mod {p : Nat} (h : Pr p) (a : Nat) : ∀ m, m + 1 ≤ p → bs a p (m + 1) % p = 1 % p
 | 0, _ => by simp [bs, ch_z]
 | m + 1, hm => by
  rw [bs_s, Nat.add_mod, bs_mod h a m (by omega)]
  obtain ⟨c, hc⟩ := dvd_ch h (k := m + 1) (by omega) (by omega)
  rw [hc, Nat.mul_assoc, Nat.mul_mod_right]
  simp
theorem fermat0 {p : Nat} (h : Pr p) : ∀ a, a ^ p % p = a % p
 | 0 => by rw [Nat.zero_pow (by have := h.1; omega)]
 | a + 1 => by
  have h2 := h.1
  rw [binom, bs_s, ch_self, Nat.one_mul]
  have hb := bs_mod h a (p - 1) (by omega)
  rw [show p - 1 + 1 = p by omega] at hb
  rw [Nat.add_mod, hb, fermat0 h a, ← Nat.add_mod, Nat.add_comm]
theorem mod_sub {p x y : Nat} (h : x % p = y % p) (hle : y ≤ x) : p ∣ x - y := by
 have h1 := Nat.div_add_mod x p
 have h2 := Nat.div_add_mod y p
 refine ⟨x / p - y / p, ?_⟩
 rw [Nat.mul_sub]; omega
theorem fermat {p : Nat} (h : Pr p) {a : Nat} (ha : ¬ p ∣ a) : a ^ (p - 1) % p = 1 := by
 have h2 := h.1
 have h0 := fermat0 h a
 have ha0 : 0 < a := by
  rcases Nat.eq_zero_or_pos a with e | e
  ·
   exact absurd (e ▸ Nat.dvd_zero p) ha
  ·
   exact e
 have e1 : a ^ p = a * a ^ (p - 1) := by rw [← Nat.pow_succ']; congr 1; omega
 have hp : 1 ≤ a ^ (p - 1) := Nat.pow_pos ha0
 have hd : p ∣ a * a ^ (p - 1) - a := mod_sub (by rw [← e1]; exact h0) (Nat.le_mul_of_pos_right a hp)
 rw [show a * a ^ (p - 1) - a = a * (a ^ (p - 1) - 1) by rw [Nat.mul_sub, Nat.mul_one]] at hd
 rcases h.dvd_mul hd with e | ⟨c, hc⟩
 ·
  exact absurd e ha
 ·
  rw [show a ^ (p - 1) = p * c + 1 by omega, Nat.mul_add_mod]
  exact Nat.mod_eq_of_lt (by omega)
theorem has_prime : ∀ n, 2 ≤ n → ∃ r, Pr r ∧ r ∣ n := by
 intro n
 induction n using Nat.strongRecOn with
 | _ n ih =>
  intro h
  by_cases hp : Pr n
  ·
   exact ⟨n, hp, Nat.dvd_refl n⟩
  ·
   have : ∃ d, d ∣ n ∧ d ≠ 1 ∧ d ≠ n := by
    by_cases hx : ∃ d, d ∣ n ∧ d ≠ 1 ∧ d ≠ n
    ·
     exact hx
    ·
     refine absurd ⟨h, fun d hd => ?_⟩ hp
     by_cases h1 : d = 1
     ·
      exact .inl h1
     ·
      by_cases h2 : d = n
      ·
       exact .inr h2
      ·
       exact absurd ⟨d, hd, h1, h2⟩ hx
   obtain ⟨d, hd, h1, h2⟩ := this
   have hle := Nat.le_of_dvd (by omega) hd
   have h0 : d ≠ 0 := by rintro rfl; obtain ⟨c, hc⟩ := hd; omega
   obtain ⟨r, hr, hrd⟩ := ih d (by omega) (by omega)
   exact ⟨r, hr, Nat.dvd_trans hrd hd⟩
theorem prime_of {n : Nat} (h : 2 ≤ n) (hr : ∀ r, Pr r → r ∣ n → n < r * r) : Pr n := by
 refine ⟨h, fun d hd => ?_⟩
 by_cases h1 : d = 1
 ·
  exact .inl h1
 ·
  by_cases h2 : d = n
  ·
   exact .inr h2
  ·
   obtain ⟨e, he⟩ := hd
   have hd0 : d ≠ 0 := by rintro rfl; omega
   have he0 : e ≠ 0 := by rintro rfl; omega
   have he1 : e ≠ 1 := by rintro rfl; omega
   obtain ⟨r, hr1, hr2⟩ := has_prime d (by omega)
   obtain ⟨s, hs1, hs2⟩ := has_prime e (by omega)
   have ha := hr r hr1 (Nat.dvd_trans hr2 ⟨e, he⟩)
   have hb := hr s hs1 (Nat.dvd_trans hs2 ⟨d, by rw [he, Nat.mul_comm]⟩)
   have hrd := Nat.le_of_dvd (by omega) hr2
   have hse := Nat.le_of_dvd (by omega) hs2
   rcases Nat.le_total d e with hde | hde
   ·
    have : r * r ≤ d * e := Nat.mul_le_mul hrd (by omega)
    omega
   ·
    have : s * s ≤ d * e := Nat.mul_le_mul (by omega) hse
    omega
theorem pow_gcd {r b : Nat} : ∀ x y : Nat, b ^ x % r = 1 → b ^ y % r = 1 → b ^ Nat.gcd x y % r = 1 := by
 intro x y
 induction x, y using Nat.gcd.induction with
 | H0 y => intro _ h; simpa using h
 | H1 x y hx ih =>
  intro h1 h2
  rw [Nat.gcd_rec]
  refine ih ?_ h1
  have hy : y = x * (y / x) + y % x := (Nat.div_add_mod y x).symm
  rw [hy, Nat.pow_add, Nat.pow_mul, Nat.mul_mod, Nat.pow_mod, h1, Nat.one_pow] at h2
  by_cases hr : r = 1
  ·
   subst hr; omega
  ·
   by_cases hr0 : r = 0
   ·
    subst hr0; simpa using h2
   ·
    rw [Nat.mod_eq_of_lt (show 1 < r by omega), Nat.one_mul, Nat.mod_mod] at h2
    exact h2
theorem pock {n q R a K : Nat} (hq : Pr q) (hn : n = R * q + 1) (h0 : 0 < R) (h1 : a ^ (n - 1) % n = 1) (h2 : Nat.gcd (a ^ R % n + n - 1) n = 1) (hK : n < (q * (K + 1) + 1) * (q * (K + 1) + 1)) (hk : ∀ k, k < K → n % (q * (k + 1) + 1) ≠ 0) : Pr n := by
 have hq2 := hq.1
 have hRq : 0 < R * q := Nat.mul_pos h0 (by omega)
 refine prime_of (by omega) fun r hr hrn => ?_
 have hr2 := hr.1
 have hb : (a ^ R) ^ q % r = 1 := by
  rw [← Nat.pow_mul, ← Nat.mod_mod_of_dvd _ hrn, show R * q = n - 1 by omega, h1]
  exact Nat.mod_eq_of_lt (by omega)
 have hb1 : a ^ R % r ≠ 1 := by
  intro e
  have hd : r ∣ a ^ R % n + n - 1 := by
   apply Nat.dvd_of_mod_eq_zero
   have e1 : (a ^ R % n) % r = 1 := by rw [Nat.mod_mod_of_dvd _ hrn]; exact e
   obtain ⟨c, hc⟩ := hrn
   have e2 : a ^ R % n = r * (a ^ R % n / r) + 1 := by have := Nat.div_add_mod (a ^ R % n) r; omega
   rw [e2, show r * (a ^ R % n / r) + 1 + n - 1 = r * (a ^ R % n / r) + n by omega, Nat.mul_add_mod, hc, Nat.mul_mod_right]
  have := Nat.dvd_gcd hd hrn
  rw [h2] at this
  have := Nat.le_of_dvd (by omega) this
  omega
 have hnd : ¬ r ∣ a ^ R := by
  intro e
  have : (a ^ R) ^ q % r = 0 := by
   rw [Nat.pow_mod, Nat.mod_eq_zero_of_dvd e, Nat.zero_pow (by omega)]; simp
  omega
 have hf := fermat hr hnd
 have hg := pow_gcd q (r - 1) hb hf
 have hqr : q ∣ r - 1 := by
  rcases hq.2 _ (Nat.gcd_dvd_left q (r - 1)) with e | e
  ·
   rw [e, Nat.pow_one] at hg; exact absurd hg hb1
  ·
   exact e ▸ Nat.gcd_dvd_right q (r - 1)
 obtain ⟨k, hk1⟩ := hqr
 have hk0 : k ≠ 0 := by rintro rfl; omega
 have hre : r = q * k + 1 := by omega
 by_cases hkK : k ≤ K
 ·
  have := hk (k - 1) (by omega)
  rw [show k - 1 + 1 = k by omega, ← hre] at this
  exact absurd (Nat.mod_eq_zero_of_dvd hrn) this
 ·
  have h3 : q * (K + 1) ≤ q * k := Nat.mul_le_mul_left q (by omega)
  have h4 : (q * (K + 1) + 1) * (q * (K + 1) + 1) ≤ r * r := Nat.mul_le_mul (by omega) (by omega)
  omega
def pm (m : Nat) : Nat → Nat → Nat → Nat
 | 0, _, _ => 1 % m
 | f + 1, a, e => match Nat.beq (e % 2) 1 with
  | true => a * pm m f (a * a % m) (e / 2) % m
  | false => pm m f (a * a % m) (e / 2)
theorem pm_eq (m : Nat) : ∀ f a e, e < 2 ^ f → pm m f a e = a ^ e % m
 | 0, a, e, h => by
  obtain rfl : e = 0 := by simpa using h
  simp [pm]
 | f + 1, a, e, h => by
  have hs : e / 2 < 2 ^ f := by rw [Nat.pow_succ] at h; omega
  have ih := pm_eq m f (a * a % m) (e / 2) hs
  rw [← Nat.pow_mod, ← Nat.pow_two, ← Nat.pow_mul, Nat.pow_two] at ih
  simp only [pm]
  split
  ·
   rename_i hb
   have hb := Nat.eq_of_beq_eq_true hb
   rw [ih, Nat.mul_mod, Nat.mod_mod, ← Nat.mul_mod, ← Nat.pow_succ']
   congr 2; omega
  ·
   rename_i hb
   have hb : e % 2 ≠ 1 := Nat.ne_of_beq_eq_false hb
   rw [ih]
   congr 2; omega
def noDiv (n : Nat) : Nat → Bool
 | 0 => true
 | k + 1 => match Nat.beq (n % (k + 2)) 0 with
  | true => false
  | false => noDiv n k
theorem noDiv_eq {n : Nat} : ∀ {k}, noDiv n k = true → ∀ d, 2 ≤ d → d < k + 2 → n % d ≠ 0
 | 0, _, d, h1, h2 => by omega
 | k + 1, h, d, h1, h2 => by
  simp only [noDiv] at h
  split at h
  ·
   cases h
  ·
   rename_i hb
   by_cases hd : d = k + 2
   ·
    subst hd; exact Nat.ne_of_beq_eq_false hb
   ·
    exact noDiv_eq h d h1 (by omega)
theorem pr0 : Pr 8574133 := by
 refine prime_of (by decide) fun r hr hd => ?_
 have h := noDiv_eq (n := 8574133) (k := 2930) (by decide +kernel) r hr.1
 by_cases hlt : r < 2932
 ·
  exact absurd (Nat.mod_eq_zero_of_dvd hd) (h hlt)
 ·
  exact Nat.lt_of_lt_of_le (show 8574133 < 2932 * 2932 by decide) (Nat.mul_le_mul (by omega) (by omega))
theorem tst {n R a f : Nat} (hR : R < 2 ^ f) (hn : n - 1 < 2 ^ f) (h1 : pm n f a (n - 1) = 1) (h2 : Nat.gcd (pm n f a R + n - 1) n = 1) : a ^ (n - 1) % n = 1 ∧ Nat.gcd (a ^ R % n + n - 1) n = 1 := by
 rw [pm_eq n f a _ hn] at h1
 rw [pm_eq n f a _ hR] at h2
 exact ⟨h1, h2⟩
theorem pockT {n q R a K f : Nat} (hq : Pr q) (hn : n = R * q + 1) (h0 : 0 < R) (hR : R < 2 ^ f) (hn2 : n - 1 < 2 ^ f) (h1 : pm n f a (n - 1) = 1) (h2 : Nat.gcd (pm n f a R + n - 1) n = 1) (hK : n < (q * (K + 1) + 1) * (q * (K + 1) + 1)) (hk : ∀ k, k < K → n % (q * (k + 1) + 1) ≠ 0) : Pr n :=
 have h := tst hR hn2 h1 h2
 pock hq hn h0 h.1 h.2 hK hk
theorem pr1 : Pr 1919519569386763 :=
 pockT (R := (1919519569386763 - 1) / 8574133) (a := 2) (f := 60) (K := 6) pr0 (by decide +kernel) (by decide +kernel) (by decide +kernel) (by decide +kernel) (by decide +kernel) (by decide +kernel) (by decide +kernel) (by decide +kernel)
theorem pr2 : Pr 75445702479781427272750846543864801 :=
 pockT (R := (75445702479781427272750846543864801 - 1) / 1919519569386763) (a := 2) (f := 130) (K := 150) pr1 (by decide +kernel) (by decide +kernel) (by decide +kernel) (by decide +kernel) (by decide +kernel) (by decide +kernel) (by decide +kernel) (by decide +kernel)
theorem pr3 : Pr 74058212732561358302231226437062788676166966415465897661863160754340907 :=
 pockT (R := (74058212732561358302231226437062788676166966415465897661863160754340907 - 1) / 75445702479781427272750846543864801) (a := 2) (f := 240) (K := 5) pr2 (by decide +kernel) (by decide +kernel) (by decide +kernel) (by decide +kernel) (by decide +kernel) (by decide +kernel) (by decide +kernel) (by decide +kernel)
def P25519 : Nat := 57896044618658097711785492504343953926634992332820282019728792003956564819949
theorem pr4 : Pr P25519 :=
 pockT (R := (P25519 - 1) / 74058212732561358302231226437062788676166966415465897661863160754340907) (a := 2) (f := 256) (K := 0) pr3 (by decide +kernel) (by decide +kernel) (by decide +kernel) (by decide +kernel) (by decide +kernel) (by decide +kernel) (by decide +kernel) (by decide +kernel)
theorem inv_mul {x : Nat} (h : x % P25519 ≠ 0) : x * x ^ (P25519 - 2) % P25519 = 1 := by
 rw [← Nat.pow_succ', show (P25519 - 2).succ = P25519 - 1 by decide +kernel]
 exact fermat pr4 (fun hd => h (Nat.mod_eq_zero_of_dvd hd))
end Go.Sh
namespace Go.Sh
set_option maxHeartbeats 4000000
theorem shr_i64 {a : UInt64} {n : Int} {m : Nat} (h : n = (m : Int)) : snum .shr (.u64 a) (.i n) = some (.u64 (shr64 a m)) := by
 subst h; simp [snum, cnt, sshr]
theorem shl_i64 {a : UInt64} {n : Int} {m : Nat} (h : n = (m : Int)) : snum .shl (.u64 a) (.i n) = some (.u64 (shl64 a m)) := by
 subst h; simp [snum, cnt, sshl]
theorem shr_n (x : UInt64) (n : Nat) (h : n < 64) : (shr64 x n).toNat = x.toNat / 2 ^ n := by
 unfold shr64
 rw [if_pos h, UInt64.toNat_shiftRight, UInt64.toNat_ofNat', show n % 2 ^ 64 % 64 = n by omega, Nat.shiftRight_eq_div_pow]
theorem shl_n (x : UInt64) (n : Nat) (h : n < 64) : (shl64 x n).toNat = x.toNat * 2 ^ n % 2 ^ 64 := by
 unfold shl64
 rw [if_pos h, UInt64.toNat_shiftLeft, UInt64.toNat_ofNat', show n % 2 ^ 64 % 64 = n by omega, Nat.shiftLeft_eq]
theorem msk_n (x : UInt64) : (x &&& 2251799813685247).toNat = x.toNat % 2251799813685248 := by
 rw [UInt64.toNat_and]
 exact Nat.and_two_pow_sub_one_eq_mod x.toNat 51
theorem add_n (x y : UInt64) (h : x.toNat + y.toNat < 18446744073709551616) : (x + y).toNat = x.toNat + y.toNat := by
 rw [UInt64.toNat_add]; exact Nat.mod_eq_of_lt h
theorem mul_n (x y : UInt64) (h : x.toNat * y.toNat < 18446744073709551616) : (x * y).toNat = x.toNat * y.toNat := by
 rw [UInt64.toNat_mul]; exact Nat.mod_eq_of_lt h
theorem sub_n (x y : UInt64) (h : y.toNat ≤ x.toNat) : (x - y).toNat = x.toNat - y.toNat := UInt64.toNat_sub_of_le _ _ h
def nv (l : List UInt64) : Nat := (l.getD 0 0).toNat + 2251799813685248 * (l.getD 1 0).toNat + 5070602400912917605986812821504 * (l.getD 2 0).toNat + 11417981541647679048466287755595961091061972992 * (l.getD 3 0).toNat + 25711008708143844408671393477458601640355247900524685364822016 * (l.getD 4 0).toNat
theorem nv_5 (a b c d e : UInt64) : nv [a, b, c, d, e] = a.toNat + 2251799813685248 * b.toNat + 5070602400912917605986812821504 * c.toNat + 11417981541647679048466287755595961091061972992 * d.toNat + 25711008708143844408671393477458601640355247900524685364822016 * e.toNat := rfl
def Nm (l : List UInt64) : Prop := l.length = 5 ∧ ∀ x ∈ l, x.toNat < 4503599627370496
def cI (l : List UInt64) : Nat → UInt64
 | 0 => 0
 | i + 1 => shr64 (l.getD i 0 + cI l i) 51
def mI (l : List UInt64) (i : Nat) : UInt64 := (l.getD i 0 + cI l i) &&& 2251799813685247
def car1 (l : List UInt64) : List UInt64 := [mI l 0 + 19 * cI l 5, mI l 1, mI l 2, mI l 3, mI l 4]
def carL (l : List UInt64) : List UInt64 := car1 (car1 l)
theorem ex5 {α : Type} {l : List α} (h : l.length = 5) : ∃ a b c d e, l = [a, b, c, d, e] := by
 match l, h with
 | [a, b, c, d, e], _ => exact ⟨a, b, c, d, e, rfl⟩
theorem cs1 (x c : UInt64) (hx : x.toNat < 9223372036854775808) (hc : c.toNat < 8192) : (shr64 (x + c) 51).toNat = (x.toNat + c.toNat) / 2251799813685248 ∧ ((x + c) &&& 2251799813685247).toNat = (x.toNat + c.toNat) % 2251799813685248 := by
 have h := add_n x c (by omega)
 rw [shr_n _ _ (by decide), msk_n, h]
 exact ⟨rfl, rfl⟩
theorem car1_val {a b c d e : UInt64} (ha : a.toNat < 9223372036854775808) (hb : b.toNat < 9223372036854775808) (hc : c.toNat < 9223372036854775808) (hd : d.toNat < 9223372036854775808) (he : e.toNat < 9223372036854775808) :
  ∃ m0 m1 m2 m3 m4 : UInt64, ∃ q : Nat, car1 [a, b, c, d, e] = [m0, m1, m2, m3, m4] ∧ nv [a, b, c, d, e] = nv [m0, m1, m2, m3, m4] + q * P25519 ∧ q ≤ (e.toNat + 8191) / 2251799813685248 ∧
   m0.toNat < 2251799813685248 + 19 * q ∧ m1.toNat < 2251799813685248 ∧ m2.toNat < 2251799813685248 ∧ m3.toNat < 2251799813685248 ∧ m4.toNat < 2251799813685248 ∧
   (b.toNat < 2251799813685248 → c.toNat < 2251799813685248 → d.toNat < 2251799813685248 → e.toNat < 2251799813685248 → a.toNat < 4503599627370496 → q ≤ 1) := by
 obtain ⟨c1, h1⟩ : ∃ c1, c1 = cI [a, b, c, d, e] 1 := ⟨_, rfl⟩
 obtain ⟨c2, h2⟩ : ∃ c2, c2 = cI [a, b, c, d, e] 2 := ⟨_, rfl⟩
 obtain ⟨c3, h3⟩ : ∃ c3, c3 = cI [a, b, c, d, e] 3 := ⟨_, rfl⟩
 obtain ⟨c4, h4⟩ : ∃ c4, c4 = cI [a, b, c, d, e] 4 := ⟨_, rfl⟩
 obtain ⟨c5, h5⟩ : ∃ c5, c5 = cI [a, b, c, d, e] 5 := ⟨_, rfl⟩
 have e1 : c1 = shr64 (a + 0) 51 := h1
 have e2 : c2 = shr64 (b + c1) 51 := by rw [h1]; exact h2
 have e3 : c3 = shr64 (c + c2) 51 := by rw [h2]; exact h3
 have e4 : c4 = shr64 (d + c3) 51 := by rw [h3]; exact h4
 have e5 : c5 = shr64 (e + c4) 51 := by rw [h4]; exact h5
 obtain ⟨q1, r1⟩ := cs1 a 0 ha (by decide)
 rw [← e1] at q1
 rw [show (0 : UInt64).toNat = 0 from rfl] at q1 r1
 obtain ⟨q2, r2⟩ := cs1 b c1 hb (by omega)
 rw [← e2] at q2
 obtain ⟨q3, r3⟩ := cs1 c c2 hc (by omega)
 rw [← e3] at q3
 obtain ⟨q4, r4⟩ := cs1 d c3 hd (by omega)
 rw [← e4] at q4
 obtain ⟨q5, r5⟩ := cs1 e c4 he (by omega)
 rw [← e5] at q5
 have hm : (19 * c5).toNat = 19 * c5.toNat := mul_n 19 c5 (by show 19 * c5.toNat < _; omega)
 have hz : (((a + 0) &&& 2251799813685247) + 19 * c5).toNat = a.toNat % 2251799813685248 + 19 * c5.toNat := by
  rw [add_n _ _ (by omega), r1, hm, Nat.add_zero]
 refine ⟨((a + 0) &&& 2251799813685247) + 19 * c5, (b + c1) &&& 2251799813685247, (c + c2) &&& 2251799813685247, (d + c3) &&& 2251799813685247, (e + c4) &&& 2251799813685247, c5.toNat, ?_, ?_, ?_, ?_, ?_, ?_, ?_, ?_, ?_⟩
 ·
  rw [h1, h2, h3, h4, h5]; rfl
 ·
  rw [nv_5, nv_5, hz, r2, r3, r4, r5]
  unfold P25519
  omega
 all_goals omega
theorem carL_ok {l : List UInt64} (h : l.length = 5) (hb : ∀ x ∈ l, x.toNat < 9223372036854775808) : Nm (carL l) ∧ nv (carL l) % P25519 = nv l % P25519 := by
 obtain ⟨a, b, c, d, e, rfl⟩ := ex5 h
 simp only [List.mem_cons, List.not_mem_nil, or_false, forall_eq_or_imp, forall_eq] at hb
 obtain ⟨ha, hb, hc, hd, he⟩ := hb
 obtain ⟨m0, m1, m2, m3, m4, q, e1, n1, hq, b0, b1, b2, b3, b4, _⟩ := car1_val ha hb hc hd he
 obtain ⟨k0, k1, k2, k3, k4, q2, e2, n2, hq2, d0, d1, d2, d3, d4, hle⟩ := car1_val (a := m0) (b := m1) (c := m2) (d := m3) (e := m4) (by omega) (by omega) (by omega) (by omega) (by omega)
 have hle := hle b1 b2 b3 b4 (by omega)
 have ec : carL [a, b, c, d, e] = [k0, k1, k2, k3, k4] := by unfold carL; rw [e1, e2]
 rw [ec]
 refine ⟨⟨rfl, ?_⟩, ?_⟩
 ·
  simp only [List.mem_cons, List.not_mem_nil, or_false, forall_eq_or_imp, forall_eq]
  refine ⟨?_, ?_, ?_, ?_, ?_⟩ <;> omega
 ·
  rw [n1, n2, Nat.add_mul_mod_self_right, Nat.add_mul_mod_self_right]
theorem carL_len (l : List UInt64) : (carL l).length = 5 := rfl
theorem Nm.b {a b c d e : UInt64} (h : Nm [a, b, c, d, e]) : a.toNat < 4503599627370496 ∧ b.toNat < 4503599627370496 ∧ c.toNat < 4503599627370496 ∧ d.toNat < 4503599627370496 ∧ e.toNat < 4503599627370496 := by
 have := h.2
 simpa only [List.mem_cons, List.not_mem_nil, or_false, forall_eq_or_imp, forall_eq] using this
def nr (l : List UInt64) : Nat := nv l % P25519
def addL (x y : List UInt64) : List UInt64 := carL [x.getD 0 0 + y.getD 0 0, x.getD 1 0 + y.getD 1 0, x.getD 2 0 + y.getD 2 0, x.getD 3 0 + y.getD 3 0, x.getD 4 0 + y.getD 4 0]
theorem addL_ok {x y : List UInt64} (hx : Nm x) (hy : Nm y) : Nm (addL x y) ∧ nr (addL x y) = (nr x + nr y) % P25519 := by
 obtain ⟨a, b, c, d, e, rfl⟩ := ex5 hx.1
 obtain ⟨a2, b2, c2, d2, e2, rfl⟩ := ex5 hy.1
 obtain ⟨h1, h2, h3, h4, h5⟩ := hx.b
 obtain ⟨g1, g2, g3, g4, g5⟩ := hy.b
 have n1 := add_n a a2 (by omega)
 have n2 := add_n b b2 (by omega)
 have n3 := add_n c c2 (by omega)
 have n4 := add_n d d2 (by omega)
 have n5 := add_n e e2 (by omega)
 have := carL_ok (l := [a + a2, b + b2, c + c2, d + d2, e + e2]) rfl (by
  simp only [List.mem_cons, List.not_mem_nil, or_false, forall_eq_or_imp, forall_eq]
  refine ⟨?_, ?_, ?_, ?_, ?_⟩ <;> omega)
 refine ⟨this.1, ?_⟩
 have e1 : nr (addL [a, b, c, d, e] [a2, b2, c2, d2, e2]) = nv [a + a2, b + b2, c + c2, d + d2, e + e2] % P25519 := this.2
 rw [e1]
 unfold nr
 rw [← Nat.add_mod, nv_5, nv_5, nv_5, n1, n2, n3, n4, n5]
 congr 1; omega
def subL (x y : List UInt64) : List UInt64 := carL [x.getD 0 0 + (9007199254740988 - y.getD 0 0) - 72, x.getD 1 0 + (9007199254740988 - y.getD 1 0), x.getD 2 0 + (9007199254740988 - y.getD 2 0), x.getD 3 0 + (9007199254740988 - y.getD 3 0), x.getD 4 0 + (9007199254740988 - y.getD 4 0)]
theorem sb1 (x y : UInt64) (hx : x.toNat < 4503599627370496) (hy : y.toNat < 4503599627370496) : (x + (9007199254740988 - y)).toNat = x.toNat + 9007199254740988 - y.toNat := by
 have h1 : (9007199254740988 - y).toNat = 9007199254740988 - y.toNat := sub_n _ _ (by show _ ≤ 9007199254740988; omega)
 rw [add_n _ _ (by omega), h1]; omega
theorem mod_lt_P (n : Nat) : n % P25519 < P25519 := Nat.mod_lt _ (by decide)
theorem subL_ok {x y : List UInt64} (hx : Nm x) (hy : Nm y) : Nm (subL x y) ∧ nr (subL x y) = (nr x + (P25519 - nr y)) % P25519 := by
 obtain ⟨a, b, c, d, e, rfl⟩ := ex5 hx.1
 obtain ⟨a2, b2, c2, d2, e2, rfl⟩ := ex5 hy.1
 obtain ⟨h1, h2, h3, h4, h5⟩ := hx.b
 obtain ⟨g1, g2, g3, g4, g5⟩ := hy.b
 have n1 := sb1 a a2 (by omega) (by omega)
 have n2 := sb1 b b2 (by omega) (by omega)
 have n3 := sb1 c c2 (by omega) (by omega)
 have n4 := sb1 d d2 (by omega) (by omega)
 have n5 := sb1 e e2 (by omega) (by omega)
 have n6 : (a + (9007199254740988 - a2) - 72).toNat = a.toNat + 9007199254740988 - a2.toNat - 72 := by
  rw [sub_n _ _ (by rw [n1]; show 72 ≤ _; omega), n1]; rfl
 have := carL_ok (l := [a + (9007199254740988 - a2) - 72, b + (9007199254740988 - b2), c + (9007199254740988 - c2), d + (9007199254740988 - d2), e + (9007199254740988 - e2)]) rfl (by
  simp only [List.mem_cons, List.not_mem_nil, or_false, forall_eq_or_imp, forall_eq]
  refine ⟨?_, ?_, ?_, ?_, ?_⟩ <;> omega)
 refine ⟨this.1, ?_⟩
 have e1 : nr (subL [a, b, c, d, e] [a2, b2, c2, d2, e2]) = nv [a + (9007199254740988 - a2) - 72, b + (9007199254740988 - b2), c + (9007199254740988 - c2), d + (9007199254740988 - d2), e + (9007199254740988 - e2)] % P25519 := this.2
 rw [e1]
 have e3 : nv [a + (9007199254740988 - a2) - 72, b + (9007199254740988 - b2), c + (9007199254740988 - c2), d + (9007199254740988 - d2), e + (9007199254740988 - e2)] + nv [a2, b2, c2, d2, e2] = nv [a, b, c, d, e] + 4 * P25519 := by
  rw [nv_5, nv_5, nv_5, n6, n2, n3, n4, n5]; unfold P25519; omega
 generalize nv [a + (9007199254740988 - a2) - 72, b + (9007199254740988 - b2), c + (9007199254740988 - c2), d + (9007199254740988 - d2), e + (9007199254740988 - e2)] = z at e3 ⊢
 unfold nr
 generalize nv [a, b, c, d, e] = x at e3 ⊢
 generalize nv [a2, b2, c2, d2, e2] = y at e3 ⊢
 unfold P25519 at *
 omega
def cy (x y : UInt64) : UInt64 := UInt64.ofNat ((x.toNat + y.toNat) / 18446744073709551616)
def mhi (x y : UInt64) : UInt64 := UInt64.ofNat (x.toNat * y.toNat / 18446744073709551616)
def yw (y : List UInt64) (i k : Nat) : UInt64 := if i ≤ k then y.getD (k - i) 0 else y.getD (k + 5 - i) 0 * 19
def lo (x y : List UInt64) : Nat → Nat → UInt64
 | 0, _ => 0
 | i + 1, k => lo x y i k + x.getD i 0 * yw y i k
def hi (x y : List UInt64) : Nat → Nat → UInt64
 | 0, _ => 0
 | i + 1, k => hi x y i k + mhi (x.getD i 0) (yw y i k) + cy (lo x y i k) (x.getD i 0 * yw y i k)
def col (x y : List UInt64) : Nat → Nat → Nat
 | 0, _ => 0
 | i + 1, k => col x y i k + (x.getD i 0).toNat * (yw y i k).toNat
theorem cy_n (x y : UInt64) : (cy x y).toNat = (x.toNat + y.toNat) / 18446744073709551616 := by
 have h1 := UInt64.toNat_lt x
 have h2 := UInt64.toNat_lt y
 unfold cy; rw [UInt64.toNat_ofNat', Nat.mod_eq_of_lt]; omega
theorem mhi_n (x y : UInt64) : (mhi x y).toNat = x.toNat * y.toNat / 18446744073709551616 := by
 have h1 := UInt64.toNat_lt x
 have h2 := UInt64.toNat_lt y
 have : x.toNat * y.toNat < 18446744073709551616 * 18446744073709551616 := Nat.mul_lt_mul'' h1 h2
 unfold mhi; rw [UInt64.toNat_ofNat', Nat.mod_eq_of_lt]; omega
theorem hilo (x y : List UInt64) (k M : Nat) (hM : ∀ i, i < 5 → (x.getD i 0).toNat * (yw y i k).toNat < M) (hM2 : M ≤ 649037107316853453566312041152512) : ∀ i, i ≤ 5 → (hi x y i k).toNat * 18446744073709551616 + (lo x y i k).toNat = col x y i k ∧ col x y i k ≤ i * M
 | 0, _ => by simp [hi, lo, col]
 | i + 1, h => by
  obtain ⟨ih, ihb⟩ := hilo x y k M hM hM2 i (by omega)
  have hm := hM i (by omega)
  show (hi x y i k + mhi (x.getD i 0) (yw y i k) + cy (lo x y i k) (x.getD i 0 * yw y i k)).toNat * _ + (lo x y i k + x.getD i 0 * yw y i k).toNat = col x y i k + _ ∧ col x y i k + _ ≤ _
  generalize x.getD i 0 = a at *
  generalize yw y i k = b at *
  generalize hi x y i k = H at *
  generalize lo x y i k = L at *
  generalize col x y i k = C at *
  have h1 := mhi_n a b
  have h2 := cy_n L (a * b)
  have h3 : (a * b).toNat = a.toNat * b.toNat % 18446744073709551616 := UInt64.toNat_mul ..
  have hL := UInt64.toNat_lt L
  have h4 : (L + a * b).toNat = (L.toNat + (a * b).toNat) % 18446744073709551616 := UInt64.toNat_add ..
  generalize a.toNat * b.toNat = p at *
  have hiM : i * M ≤ 4 * M := Nat.mul_le_mul_right M (by omega)
  have h5 : (H + mhi a b).toNat = H.toNat + (mhi a b).toNat := add_n _ _ (by omega)
  have h6 : (H + mhi a b + cy L (a * b)).toNat = H.toNat + (mhi a b).toNat + (cy L (a * b)).toNat := by rw [add_n _ _ (by omega), h5]
  rw [h6, h4, Nat.add_mul i 1 M]
  omega
def cO (x y : List UInt64) : Nat → UInt64
 | 0 => 0
 | k + 1 => shl64 (hi x y 5 k + cy (lo x y 5 k) (cO x y k)) 13 ||| shr64 (lo x y 5 k + cO x y k) 51
def oO (x y : List UInt64) (k : Nat) : UInt64 := (lo x y 5 k + cO x y k) &&& 2251799813685247
def mulL (x y : List UInt64) : List UInt64 := carL [oO x y 0 + 19 * cO x y 5, oO x y 1, oO x y 2, oO x y 3, oO x y 4]
theorem shl_or_shr (h l : UInt64) (hh : h.toNat < 2251799813685248) : (shl64 h 13 ||| shr64 l 51).toNat = h.toNat * 8192 + l.toNat / 2251799813685248 := by
 have hl := UInt64.toNat_lt l
 rw [UInt64.toNat_or, shl_n _ _ (by decide), shr_n _ _ (by decide), Nat.mod_eq_of_lt (by omega), Nat.mul_comm]
 rw [← Nat.two_pow_add_eq_or_of_lt (show l.toNat / 2 ^ 51 < 2 ^ 13 by omega)]
theorem out1 {H L c : UInt64} {C : Nat} (h : H.toNat * 18446744073709551616 + L.toNat = C) (hC : C ≤ 4000000000000000000000000000000000) (hc : c.toNat < 9223372036854775808) :
  (shl64 (H + cy L c) 13 ||| shr64 (L + c) 51).toNat = (C + c.toNat) / 2251799813685248 ∧ ((L + c) &&& 2251799813685247).toNat = (C + c.toNat) % 2251799813685248 := by
 have hL := UInt64.toNat_lt L
 have h2 := cy_n L c
 have h4 : (L + c).toNat = (L.toNat + c.toNat) % 18446744073709551616 := UInt64.toNat_add ..
 have h5 : (H + cy L c).toNat = H.toNat + (cy L c).toNat := add_n _ _ (by omega)
 rw [shl_or_shr _ _ (by omega), msk_n, h4, h5]
 omega
theorem mulId (s P a b c d e f g h i j : Nat) (hP : P + 19 = s * s * s * s * s) :
  (a * f + b * (j * 19) + c * (i * 19) + d * (h * 19) + e * (g * 19)) + s * (a * g + b * f + c * (j * 19) + d * (i * 19) + e * (h * 19)) + s * s * (a * h + b * g + c * f + d * (j * 19) + e * (i * 19)) + s * s * s * (a * i + b * h + c * g + d * f + e * (j * 19)) + s * s * s * s * (a * j + b * i + c * h + d * g + e * f)
   + (b * j + c * i + d * h + e * g + s * (c * j + d * i + e * h) + s * s * (d * j + e * i) + s * s * s * (e * j)) * P
  = (a + s * b + s * s * c + s * s * s * d + s * s * s * s * e) * (f + s * g + s * s * h + s * s * s * i + s * s * s * s * j) := by
  grind
theorem mulL_ok {x y : List UInt64} (hx : Nm x) (hy : Nm y) : Nm (mulL x y) ∧ nr (mulL x y) = nr x * nr y % P25519 := by
 obtain ⟨a, b, c, d, e, rfl⟩ := ex5 hx.1
 obtain ⟨f, g, h, i, j, rfl⟩ := ex5 hy.1
 obtain ⟨a1, b1, c1, d1, e1⟩ := hx.b
 obtain ⟨f1, g1, h1, i1, j1⟩ := hy.b
 have m19 : ∀ z : UInt64, z.toNat < 4503599627370496 → (z * 19).toNat = z.toNat * 19 := fun z hz => mul_n z 19 (by show z.toNat * 19 < _; omega)
 have hx0 : ∀ n, n < 5 → (([a, b, c, d, e] : List UInt64).getD n 0).toNat < 4503599627370496 := by
  intro n hn
  match n, hn with
  | 0, _ => exact a1
  | 1, _ => exact b1
  | 2, _ => exact c1
  | 3, _ => exact d1
  | 4, _ => exact e1
 have hy0 : ∀ n, n < 5 → (([f, g, h, i, j] : List UInt64).getD n 0).toNat < 4503599627370496 := by
  intro n hn
  match n, hn with
  | 0, _ => exact f1
  | 1, _ => exact g1
  | 2, _ => exact h1
  | 3, _ => exact i1
  | 4, _ => exact j1
 have hyw : ∀ n k, n < 5 → k < 5 → (yw [f, g, h, i, j] n k).toNat < 4503599627370496 * 19 := by
  intro n k hn hk
  unfold yw
  split
  ·
   have := hy0 (k - n) (by omega); omega
  ·
   have := hy0 (k + 5 - n) (by omega)
   rw [m19 _ this]; omega
 have hyw4 : ∀ n, n < 5 → (yw [f, g, h, i, j] n 4).toNat < 4503599627370496 := by
  intro n hn
  unfold yw
  rw [if_pos (by omega)]
  exact hy0 _ (by omega)
 have hp : ∀ k, k < 5 → ∀ n, n < 5 → (([a, b, c, d, e] : List UInt64).getD n 0).toNat * (yw [f, g, h, i, j] n k).toNat < 4503599627370496 * (4503599627370496 * 19) := fun k hk n hn => Nat.mul_lt_mul'' (hx0 n hn) (hyw n k hn hk)
 have hp4 : ∀ n, n < 5 → (([a, b, c, d, e] : List UInt64).getD n 0).toNat * (yw [f, g, h, i, j] n 4).toNat < 4503599627370496 * 4503599627370496 := fun n hn => Nat.mul_lt_mul'' (hx0 n hn) (hyw4 n hn)
 have hcol : ∀ k, k < 5 → _ := fun k hk => hilo [a, b, c, d, e] [f, g, h, i, j] k _ (hp k hk) (by decide) 5 (by omega)
 obtain ⟨q0, r0⟩ := hcol 0 (by omega)
 obtain ⟨q1, r1⟩ := hcol 1 (by omega)
 obtain ⟨q2, r2⟩ := hcol 2 (by omega)
 obtain ⟨q3, r3⟩ := hcol 3 (by omega)
 obtain ⟨q4, r4⟩ := hilo [a, b, c, d, e] [f, g, h, i, j] 4 _ hp4 (by decide) 5 (by omega)
 clear hcol hp hp4
 have k0 : col [a, b, c, d, e] [f, g, h, i, j] 5 0 = a.toNat * f.toNat + b.toNat * (j.toNat * 19) + c.toNat * (i.toNat * 19) + d.toNat * (h.toNat * 19) + e.toNat * (g.toNat * 19) := by
  rw [← m19 j j1, ← m19 i i1, ← m19 h h1, ← m19 g g1, ← Nat.zero_add (a.toNat * f.toNat)]; rfl
 have k1 : col [a, b, c, d, e] [f, g, h, i, j] 5 1 = a.toNat * g.toNat + b.toNat * f.toNat + c.toNat * (j.toNat * 19) + d.toNat * (i.toNat * 19) + e.toNat * (h.toNat * 19) := by
  rw [← m19 j j1, ← m19 i i1, ← m19 h h1, ← Nat.zero_add (a.toNat * g.toNat)]; rfl
 have k2 : col [a, b, c, d, e] [f, g, h, i, j] 5 2 = a.toNat * h.toNat + b.toNat * g.toNat + c.toNat * f.toNat + d.toNat * (j.toNat * 19) + e.toNat * (i.toNat * 19) := by
  rw [← m19 j j1, ← m19 i i1, ← Nat.zero_add (a.toNat * h.toNat)]; rfl
 have k3 : col [a, b, c, d, e] [f, g, h, i, j] 5 3 = a.toNat * i.toNat + b.toNat * h.toNat + c.toNat * g.toNat + d.toNat * f.toNat + e.toNat * (j.toNat * 19) := by
  rw [← m19 j j1, ← Nat.zero_add (a.toNat * i.toNat)]; rfl
 have k4 : col [a, b, c, d, e] [f, g, h, i, j] 5 4 = a.toNat * j.toNat + b.toNat * i.toNat + c.toNat * h.toNat + d.toNat * g.toNat + e.toNat * f.toNat := by
  rw [← Nat.zero_add (a.toNat * j.toNat)]; rfl
 obtain ⟨z0, hz0⟩ : ∃ z, z = cO [a, b, c, d, e] [f, g, h, i, j] 0 := ⟨_, rfl⟩
 obtain ⟨z1, hz1⟩ : ∃ z, z = cO [a, b, c, d, e] [f, g, h, i, j] 1 := ⟨_, rfl⟩
 obtain ⟨z2, hz2⟩ : ∃ z, z = cO [a, b, c, d, e] [f, g, h, i, j] 2 := ⟨_, rfl⟩
 obtain ⟨z3, hz3⟩ : ∃ z, z = cO [a, b, c, d, e] [f, g, h, i, j] 3 := ⟨_, rfl⟩
 obtain ⟨z4, hz4⟩ : ∃ z, z = cO [a, b, c, d, e] [f, g, h, i, j] 4 := ⟨_, rfl⟩
 obtain ⟨z5, hz5⟩ : ∃ z, z = cO [a, b, c, d, e] [f, g, h, i, j] 5 := ⟨_, rfl⟩
 have y0 : z0.toNat = 0 := by rw [hz0]; rfl
 obtain ⟨s0, t0⟩ := out1 (c := z0) q0 (by omega) (by omega)
 obtain ⟨s1, t1⟩ := out1 (c := z1) q1 (by omega) (by rw [hz1]; show (shl64 _ _ ||| _).toNat < _; rw [← hz0, s0]; omega)
 have y1 : z1.toNat = (col [a, b, c, d, e] [f, g, h, i, j] 5 0 + z0.toNat) / 2251799813685248 := by rw [← s0, hz0]; rw [hz1]; rfl
 obtain ⟨s2, t2⟩ := out1 (c := z2) q2 (by omega) (by rw [hz2]; show (shl64 _ _ ||| _).toNat < _; rw [← hz1, s1]; omega)
 have y2 : z2.toNat = (col [a, b, c, d, e] [f, g, h, i, j] 5 1 + z1.toNat) / 2251799813685248 := by rw [← s1, hz1]; rw [hz2]; rfl
 obtain ⟨s3, t3⟩ := out1 (c := z3) q3 (by omega) (by rw [hz3]; show (shl64 _ _ ||| _).toNat < _; rw [← hz2, s2]; omega)
 have y3 : z3.toNat = (col [a, b, c, d, e] [f, g, h, i, j] 5 2 + z2.toNat) / 2251799813685248 := by rw [← s2, hz2]; rw [hz3]; rfl
 obtain ⟨s4, t4⟩ := out1 (c := z4) q4 (by omega) (by rw [hz4]; show (shl64 _ _ ||| _).toNat < _; rw [← hz3, s3]; omega)
 have y4 : z4.toNat = (col [a, b, c, d, e] [f, g, h, i, j] 5 3 + z3.toNat) / 2251799813685248 := by rw [← s3, hz3]; rw [hz4]; rfl
 have y5 : z5.toNat = (col [a, b, c, d, e] [f, g, h, i, j] 5 4 + z4.toNat) / 2251799813685248 := by rw [← s4, hz4]; rw [hz5]; rfl
 have o0 : (oO [a, b, c, d, e] [f, g, h, i, j] 0).toNat = (col [a, b, c, d, e] [f, g, h, i, j] 5 0 + z0.toNat) % 2251799813685248 := by rw [← t0, hz0]; rfl
 have o1 : (oO [a, b, c, d, e] [f, g, h, i, j] 1).toNat = (col [a, b, c, d, e] [f, g, h, i, j] 5 1 + z1.toNat) % 2251799813685248 := by rw [← t1, hz1]; rfl
 have o2 : (oO [a, b, c, d, e] [f, g, h, i, j] 2).toNat = (col [a, b, c, d, e] [f, g, h, i, j] 5 2 + z2.toNat) % 2251799813685248 := by rw [← t2, hz2]; rfl
 have o3 : (oO [a, b, c, d, e] [f, g, h, i, j] 3).toNat = (col [a, b, c, d, e] [f, g, h, i, j] 5 3 + z3.toNat) % 2251799813685248 := by rw [← t3, hz3]; rfl
 have o4 : (oO [a, b, c, d, e] [f, g, h, i, j] 4).toNat = (col [a, b, c, d, e] [f, g, h, i, j] 5 4 + z4.toNat) % 2251799813685248 := by rw [← t4, hz4]; rfl
 clear s0 s1 s2 s3 s4 t0 t1 t2 t3 t4 q0 q1 q2 q3 q4
 have w0 : (19 * z5).toNat = 19 * z5.toNat := mul_n 19 z5 (by show 19 * z5.toNat < _; omega)
 have w1 : (oO [a, b, c, d, e] [f, g, h, i, j] 0 + 19 * z5).toNat = (oO [a, b, c, d, e] [f, g, h, i, j] 0).toNat + 19 * z5.toNat := by rw [add_n _ _ (by omega), w0]
 have := carL_ok (l := [oO [a, b, c, d, e] [f, g, h, i, j] 0 + 19 * z5, oO [a, b, c, d, e] [f, g, h, i, j] 1, oO [a, b, c, d, e] [f, g, h, i, j] 2, oO [a, b, c, d, e] [f, g, h, i, j] 3, oO [a, b, c, d, e] [f, g, h, i, j] 4]) rfl (by
  simp only [List.mem_cons, List.not_mem_nil, or_false, forall_eq_or_imp, forall_eq]
  refine ⟨?_, ?_, ?_, ?_, ?_⟩ <;> omega)
 have em : mulL [a, b, c, d, e] [f, g, h, i, j] = carL [oO [a, b, c, d, e] [f, g, h, i, j] 0 + 19 * z5, oO [a, b, c, d, e] [f, g, h, i, j] 1, oO [a, b, c, d, e] [f, g, h, i, j] 2, oO [a, b, c, d, e] [f, g, h, i, j] 3, oO [a, b, c, d, e] [f, g, h, i, j] 4] := by rw [hz5]; rfl
 refine ⟨by rw [em]; exact this.1, ?_⟩
 unfold nr
 rw [em, this.2, ← Nat.mul_mod, nv_5, w1]
 generalize oO [a, b, c, d, e] [f, g, h, i, j] 0 = v0 at *
 generalize oO [a, b, c, d, e] [f, g, h, i, j] 1 = v1 at *
 generalize oO [a, b, c, d, e] [f, g, h, i, j] 2 = v2 at *
 generalize oO [a, b, c, d, e] [f, g, h, i, j] 3 = v3 at *
 generalize oO [a, b, c, d, e] [f, g, h, i, j] 4 = v4 at *
 generalize col [a, b, c, d, e] [f, g, h, i, j] 5 0 = C0 at *
 generalize col [a, b, c, d, e] [f, g, h, i, j] 5 1 = C1 at *
 generalize col [a, b, c, d, e] [f, g, h, i, j] 5 2 = C2 at *
 generalize col [a, b, c, d, e] [f, g, h, i, j] 5 3 = C3 at *
 generalize col [a, b, c, d, e] [f, g, h, i, j] 5 4 = C4 at *
 have hsum : v0.toNat + 19 * z5.toNat + 2251799813685248 * v1.toNat + 5070602400912917605986812821504 * v2.toNat + 11417981541647679048466287755595961091061972992 * v3.toNat + 25711008708143844408671393477458601640355247900524685364822016 * v4.toNat + z5.toNat * P25519 = C0 + 2251799813685248 * C1 + 5070602400912917605986812821504 * C2 + 11417981541647679048466287755595961091061972992 * C3 + 25711008708143844408671393477458601640355247900524685364822016 * C4 := by
  unfold P25519; omega
 rw [← Nat.add_mul_mod_self_right _ z5.toNat, hsum, k0, k1, k2, k3, k4, nv_5, nv_5]
 have hid := mulId 2251799813685248 P25519 a.toNat b.toNat c.toNat d.toNat e.toNat f.toNat g.toNat h.toNat i.toNat j.toNat (by decide)
 rw [show 5070602400912917605986812821504 = 2251799813685248 * 2251799813685248 by decide, show 11417981541647679048466287755595961091061972992 = 2251799813685248 * 2251799813685248 * 2251799813685248 by decide, show 25711008708143844408671393477458601640355247900524685364822016 = 2251799813685248 * 2251799813685248 * 2251799813685248 * 2251799813685248 by decide, ← hid, Nat.add_mul_mod_self_right]
end Go.Sh
namespace Go.Sh
set_option maxHeartbeats 4000000
def pv (B : Nat) (l : Nat → Nat) : Nat → Nat
 | 0 => 0
 | i + 1 => pv B l i + l i * B ^ i
theorem pv_lt {B : Nat} {l : Nat → Nat} (hB : 0 < B) (h : ∀ i, l i < B) : ∀ n, pv B l n < B ^ n
 | 0 => by simp [pv]
 | n + 1 => by
  have ih := pv_lt hB h n
  have h2 : l n * B ^ n ≤ (B - 1) * B ^ n := Nat.mul_le_mul_right _ (by have := h n; omega)
  have h3 : (B - 1) * B ^ n + B ^ n = B ^ (n + 1) := by
   rw [Nat.pow_succ, Nat.mul_comm (B ^ n) B, ← Nat.succ_mul]; congr 1; omega
  show pv B l n + l n * B ^ n < _
  omega
theorem pv_congr {B : Nat} {l m : Nat → Nat} : ∀ n, (∀ i, i < n → l i = m i) → pv B l n = pv B m n
 | 0, _ => rfl
 | n + 1, h => by
  show pv B l n + l n * _ = pv B m n + m n * _
  rw [pv_congr n (fun i hi => h i (by omega)), h n (by omega)]
theorem pv_dig {B : Nat} {l : Nat → Nat} (hB : 0 < B) (h : ∀ i, l i < B) : ∀ n i, i < n → pv B l n / B ^ i % B = l i
 | n + 1, i, hi => by
  show (pv B l n + l n * B ^ n) / B ^ i % B = _
  by_cases he : i = n
  ·
   subst he
   rw [Nat.add_mul_div_right _ _ (Nat.pow_pos hB), Nat.div_eq_of_lt (pv_lt hB h i), Nat.zero_add, Nat.mod_eq_of_lt (h i)]
  ·
   have e : B ^ n = B ^ (n - i - 1) * B * B ^ i := by rw [← Nat.pow_succ, ← Nat.pow_add]; congr 1; omega
   rw [e, ← Nat.mul_assoc, Nat.add_mul_div_right _ _ (Nat.pow_pos hB), ← Nat.mul_assoc, Nat.add_mul_mod_self_right]
   exact pv_dig hB h n i (by omega)
theorem pv_of {B : Nat} (hB : 0 < B) (v : Nat) : ∀ n, pv B (fun i => v / B ^ i % B) n = v % B ^ n
 | 0 => by simp [pv, Nat.mod_one]
 | n + 1 => by
  show pv B _ n + v / B ^ n % B * B ^ n = _
  rw [pv_of hB v n, Nat.pow_succ, Nat.mod_mul, Nat.mul_comm (v / B ^ n % B)]
def dg (v : Nat) : List UInt64 := (List.range 16).map fun i => UInt64.ofNat (v / 65536 ^ i % 65536)
def rv (l : List UInt64) : Nat := pv 65536 (fun i => (l.getD i 0).toNat) 16
theorem dg_len (v : Nat) : (dg v).length = 16 := rng_len
theorem dg_get (v i : Nat) (h : i < 16) : ((dg v).getD i 0).toNat = v / 65536 ^ i % 65536 := by
 unfold dg; rw [rng_getD h, UInt64.toNat_ofNat', Nat.mod_eq_of_lt]
 have := Nat.mod_lt (v / 65536 ^ i) (show 0 < 65536 by decide)
 omega
theorem rv_dg (v : Nat) (h : v < 65536 ^ 16) : rv (dg v) = v := by
 unfold rv
 rw [pv_congr (m := fun i => v / 65536 ^ i % 65536) 16 (fun i hi => dg_get v i hi), pv_of (by decide), Nat.mod_eq_of_lt h]
theorem dg_rv {l : List UInt64} (hl : l.length = 16) (h : ∀ i, i < 16 → (l.getD i 0).toNat < 65536) : l = dg (rv l) := by
 apply List.ext_getElem (by rw [hl, dg_len])
 intro i h1 h2
 apply UInt64.toNat_inj.mp
 have e1 : l[i] = l.getD i 0 := by rw [List.getD_eq_getElem?_getD, List.getElem?_eq_getElem h1]; rfl
 have e2 : (dg (rv l))[i] = (dg (rv l)).getD i 0 := by rw [List.getD_eq_getElem?_getD, List.getElem?_eq_getElem h2]; rfl
 rw [e1, e2, dg_get _ _ (by omega)]
 unfold rv
 have hb : ∀ i, (l.getD i 0).toNat < 65536 := by
  intro j
  by_cases hj : j < 16
  ·
   exact h j hj
  ·
   rw [List.getD_eq_getElem?_getD, List.getElem?_eq_none (by omega)]; decide
 rw [pv_dig (by decide) hb 16 i (by omega)]
def rc (l : List UInt64) : Nat → UInt64
 | 0 => 0
 | i + 1 => (l.getD i 0 + rc l i) / 65536
def rdg (l : List UInt64) (i : Nat) : UInt64 := (l.getD i 0 + rc l i) % 65536
def rd1 (l : List UInt64) : List UInt64 := (List.range 16).map fun i => if i = 0 then rdg l 0 + 38 * rc l 16 else rdg l i
def rdN (l : List UInt64) : Nat → List UInt64
 | 0 => l
 | n + 1 => rd1 (rdN l n)
theorem rc_step (x c : UInt64) (hx : x.toNat < 9223372036854775808) (hc : c.toNat < 9223372036854775808) : ((x + c) / 65536).toNat = (x.toNat + c.toNat) / 65536 ∧ ((x + c) % 65536).toNat = (x.toNat + c.toNat) % 65536 := by
 have h := add_n x c (by omega)
 rw [UInt64.toNat_div, UInt64.toNat_mod, h]
 exact ⟨rfl, rfl⟩
theorem rc_val {l : List UInt64} {M : Nat} (hl : ∀ i, i < 16 → (l.getD i 0).toNat < M) (hM : M ≤ 4611686018427387904) : ∀ i, i ≤ 16 → (rc l i).toNat ≤ M / 32768 ∧ pv 65536 (fun i => (l.getD i 0).toNat) i = pv 65536 (fun i => (rdg l i).toNat) i + (rc l i).toNat * 65536 ^ i
 | 0, _ => ⟨Nat.zero_le _, rfl⟩
 | i + 1, h => by
  obtain ⟨h1, h2⟩ := rc_val hl hM i (by omega)
  have hx := hl i (by omega)
  obtain ⟨g1, g2⟩ := rc_step (l.getD i 0) (rc l i) (by omega) (by omega)
  have e1 : (rc l (i + 1)).toNat = ((l.getD i 0).toNat + (rc l i).toNat) / 65536 := g1
  have e2 : (rdg l i).toNat = ((l.getD i 0).toNat + (rc l i).toNat) % 65536 := g2
  refine ⟨by rw [e1]; omega, ?_⟩
  show pv 65536 _ i + (l.getD i 0).toNat * 65536 ^ i = pv 65536 _ i + (rdg l i).toNat * 65536 ^ i + (rc l (i + 1)).toNat * 65536 ^ (i + 1)
  rw [h2, Nat.pow_succ, Nat.mul_comm (65536 ^ i), ← Nat.mul_assoc, Nat.add_assoc, Nat.add_assoc, ← Nat.add_mul, ← Nat.add_mul]
  congr 2
  rw [e1, e2]; omega
theorem pv_0 {B : Nat} {l m : Nat → Nat} {c : Nat} (h0 : l 0 = m 0 + c) (h : ∀ i, 0 < i → l i = m i) : ∀ n, pv B l (n + 1) = pv B m (n + 1) + c
 | 0 => by simp [pv, h0]
 | n + 1 => by
  show pv B l (n + 1) + l (n + 1) * _ = pv B m (n + 1) + m (n + 1) * _ + c
  rw [pv_0 h0 h n, h (n + 1) (by omega)]; omega
theorem rd1_len (l : List UInt64) : (rd1 l).length = 16 := rng_len
theorem pow_B : (65536 : Nat) ^ 16 = 2 * P25519 + 38 := by decide
theorem rd1_val {l : List UInt64} {M : Nat} (hl : ∀ i, i < 16 → (l.getD i 0).toNat < M) (hM : M ≤ 4611686018427387904) :
  ∃ c, c ≤ M / 32768 ∧ rv l = rv (rd1 l) + 2 * c * P25519 ∧ rv l = rv (rd1 l) - 38 * c + c * 65536 ^ 16 ∧ 38 * c ≤ rv (rd1 l) ∧ rv (rd1 l) - 38 * c < 65536 ^ 16 ∧ ((rd1 l).getD 0 0).toNat < 65536 + 38 * c ∧ ∀ i, 0 < i → i < 16 → ((rd1 l).getD i 0).toNat < 65536 := by
 obtain ⟨h1, h2⟩ := rc_val hl hM 16 (by omega)
 have hd : ∀ i, (rdg l i).toNat < 65536 := fun i => by unfold rdg; rw [UInt64.toNat_mod]; exact Nat.mod_lt _ (by decide)
 have hm : (38 * rc l 16).toNat = 38 * (rc l 16).toNat := mul_n 38 _ (by show 38 * _ < _; omega)
 have h0 : ((rd1 l).getD 0 0).toNat = (rdg l 0).toNat + 38 * (rc l 16).toNat := by
  have : (rd1 l).getD 0 0 = rdg l 0 + 38 * rc l 16 := rfl
  rw [this, add_n _ _ (by have := hd 0; omega), hm]
 have hi : ∀ i, 0 < i → i < 16 → (rd1 l).getD i 0 = rdg l i := by
  intro i h3 h4
  unfold rd1; rw [rng_getD h4, if_neg (by omega)]
 have hrv : rv (rd1 l) = pv 65536 (fun i => (rdg l i).toNat) 16 + 38 * (rc l 16).toNat := by
  unfold rv
  rw [pv_congr (m := fun i => if i = 0 then (rdg l 0).toNat + 38 * (rc l 16).toNat else (rdg l i).toNat) 16 (fun i h4 => by
   by_cases h5 : i = 0
   ·
    subst h5; exact h0
   ·
    rw [if_neg h5, hi i (by omega) h4])]
  exact pv_0 (by simp) (fun i h5 => by rw [if_neg (by omega)]) 15
 have hlt := pv_lt (show 0 < 65536 by decide) hd 16
 refine ⟨(rc l 16).toNat, h1, ?_, ?_, by omega, by omega, by have := hd 0; omega, fun i h3 h4 => by rw [hi i h3 h4]; exact hd i⟩
 ·
  unfold rv at hrv ⊢
  have hg : (rc l 16).toNat * (2 * P25519 + 38) = 2 * (rc l 16).toNat * P25519 + 38 * (rc l 16).toNat := by grind
  rw [hrv, h2, pow_B, hg]; omega
 ·
  unfold rv at hrv ⊢
  rw [hrv, h2]; omega
theorem rdN_val {l : List UInt64} (hl : ∀ i, i < 16 → (l.getD i 0).toNat < 35184372088832) : ∃ w, w < 65536 ^ 16 ∧ rdN l 4 = dg w ∧ w % P25519 = rv l % P25519 := by
 obtain ⟨c1, a1, b1, d1, e1, f1, g1, k1⟩ := rd1_val hl (by decide)
 have l1 : ∀ i, i < 16 → ((rd1 l).getD i 0).toNat < 65536 + 38 * c1 + 1 := fun i hi => by
  by_cases h : i = 0
  ·
   subst h; omega
  ·
   have := k1 i (by omega) hi; omega
 obtain ⟨c2, a2, b2, d2, e2, f2, g2, k2⟩ := rd1_val (M := 65536 + 38 * c1 + 1) l1 (by omega)
 have hc2 : c2 ≤ 1 := by
  have h0 : rv (rd1 l) < 2 * 65536 ^ 16 := by
   have : 38 * c1 < 65536 ^ 16 := by
    have : (65536 : Nat) ^ 16 = 115792089237316195423570985008687907853269984665640564039457584007913129639936 := by decide
    omega
   omega
  have hle : c2 * 65536 ^ 16 ≤ rv (rd1 l) := by omega
  have h9 : c2 * 65536 ^ 16 < 2 * 65536 ^ 16 := Nat.lt_of_le_of_lt hle h0
  have := Nat.lt_of_mul_lt_mul_right h9
  omega
 have l2 : ∀ i, i < 16 → ((rd1 (rd1 l)).getD i 0).toNat < 65600 := fun i hi => by
  by_cases h : i = 0
  ·
   subst h; omega
  ·
   have := k2 i (by omega) hi; omega
 obtain ⟨c3, a3, b3, d3, e3, f3, g3, k3⟩ := rd1_val (M := 65600) l2 (by omega)
 have hB : (65536 : Nat) ^ 16 = 115792089237316195423570985008687907853269984665640564039457584007913129639936 := by decide
 have hc3 : c3 = 0 := by
  have h0 : rv (rd1 (rd1 l)) < 65536 ^ 16 := by
   by_cases h : c2 = 0
   ·
    subst h; omega
   ·
    have : c2 = 1 := by omega
    subst this
    have : 38 * c1 < 65536 ^ 16 / 2 := by rw [hB]; omega
    omega
  have : c3 * 65536 ^ 16 < 1 * 65536 ^ 16 := by omega
  have := Nat.lt_of_mul_lt_mul_right this
  omega
 subst hc3
 have l3 : ∀ i, i < 16 → ((rd1 (rd1 (rd1 l))).getD i 0).toNat < 65536 := fun i hi => by
  by_cases h : i = 0
  ·
   subst h; omega
  ·
   exact k3 i (by omega) hi
 obtain ⟨c4, a4, b4, d4, e4, f4, g4, k4⟩ := rd1_val (M := 65536) l3 (by omega)
 have hc4 : c4 = 0 := by
  have h0 : rv (rd1 (rd1 (rd1 l))) < 65536 ^ 16 := by omega
  have : c4 * 65536 ^ 16 < 1 * 65536 ^ 16 := by omega
  have := Nat.lt_of_mul_lt_mul_right this
  omega
 subst hc4
 refine ⟨rv (rdN l 4), ?_, ?_, ?_⟩
 ·
  show rv (rd1 (rd1 (rd1 (rd1 l)))) < _; omega
 ·
  apply dg_rv
  ·
   exact rd1_len _
  ·
   intro i hi
   show ((rd1 (rd1 (rd1 (rd1 l)))).getD i 0).toNat < _
   by_cases h : i = 0
   ·
    subst h; omega
   ·
    exact k4 i (by omega) hi
 ·
  show rv (rd1 (rd1 (rd1 (rd1 l)))) % _ = _
  rw [b1, Nat.add_mul_mod_self_right, b2, Nat.add_mul_mod_self_right, b3, Nat.add_mul_mod_self_right, b4, Nat.add_mul_mod_self_right]
def pp : List UInt64 := dg P25519
def sbw (n : List UInt64) : Nat → UInt64
 | 0 => 0
 | i + 1 => 1 - (65536 + n.getD i 0 - pp.getD i 0 - sbw n i) / 65536
def sdg (n : List UInt64) (i : Nat) : UInt64 := (65536 + n.getD i 0 - pp.getD i 0 - sbw n i) % 65536
theorem sb_step (x y b : UInt64) (hx : x.toNat < 65536) (hy : y.toNat < 65536) (hb : b.toNat ≤ 1) :
  (65536 + x - y - b).toNat = 65536 + x.toNat - y.toNat - b.toNat ∧ (1 - (65536 + x - y - b) / 65536).toNat = (if x.toNat < y.toNat + b.toNat then 1 else 0) := by
 have h1 : (65536 + x).toNat = 65536 + x.toNat := add_n 65536 x (by show 65536 + _ < _; omega)
 have h2 : (65536 + x - y).toNat = 65536 + x.toNat - y.toNat := by rw [sub_n _ _ (by omega), h1]
 have h3 : (65536 + x - y - b).toNat = 65536 + x.toNat - y.toNat - b.toNat := by rw [sub_n _ _ (by omega), h2]
 refine ⟨h3, ?_⟩
 have h4 : ((65536 + x - y - b) / 65536).toNat = (65536 + x.toNat - y.toNat - b.toNat) / 65536 := by rw [UInt64.toNat_div, h3]; rfl
 have h5 : (1 - (65536 + x - y - b) / 65536).toNat = 1 - (65536 + x.toNat - y.toNat - b.toNat) / 65536 := by rw [sub_n _ _ (by rw [h4]; show _ ≤ 1; omega), h4]; rfl
 rw [h5]
 split <;> omega
theorem sdg_val {w : Nat} : ∀ i, i ≤ 16 → (sbw (dg w) i).toNat ≤ 1 ∧ pv 65536 (fun i => (sdg (dg w) i).toNat) i + P25519 % 65536 ^ i = w % 65536 ^ i + (sbw (dg w) i).toNat * 65536 ^ i
 | 0, _ => ⟨by show (0 : UInt64).toNat ≤ 1; decide, by simp [pv, sbw, Nat.mod_one]⟩
 | i + 1, h => by
  obtain ⟨h1, h2⟩ := sdg_val (w := w) i (by omega)
  have hx := dg_get w i (by omega)
  have hy := dg_get P25519 i (by omega)
  have hx2 := Nat.mod_lt (w / 65536 ^ i) (show 0 < 65536 by decide)
  have hy2 := Nat.mod_lt (P25519 / 65536 ^ i) (show 0 < 65536 by decide)
  obtain ⟨g1, g2⟩ := sb_step ((dg w).getD i 0) (pp.getD i 0) (sbw (dg w) i) (by rw [hx]; exact hx2) (by unfold pp; rw [hy]; exact hy2) h1
  have e1 : (sbw (dg w) (i + 1)).toNat = _ := g2
  have e2 : (sdg (dg w) i).toNat = (65536 + w / 65536 ^ i % 65536 - P25519 / 65536 ^ i % 65536 - (sbw (dg w) i).toNat) % 65536 := by
   show ((65536 + (dg w).getD i 0 - pp.getD i 0 - sbw (dg w) i) % 65536).toNat = _
   rw [UInt64.toNat_mod, g1, hx]; unfold pp; rw [hy]; rfl
  rw [hx] at e1; unfold pp at e1; rw [hy] at e1
  refine ⟨by rw [e1]; split <;> omega, ?_⟩
  show pv 65536 _ i + (sdg (dg w) i).toNat * 65536 ^ i + _ = _
  rw [Nat.pow_succ, Nat.mod_mul, Nat.mod_mul, e1, e2]
  generalize w / 65536 ^ i % 65536 = x at *
  generalize P25519 / 65536 ^ i % 65536 = y at *
  generalize (sbw (dg w) i).toNat = b at *
  have key : (65536 + x - y - b) % 65536 + y + b = x + (if x < y + b then 1 else 0) * 65536 := by split <;> omega
  have key2 := congrArg (fun z => z * 65536 ^ i) key
  simp only [Nat.add_mul] at key2
  rw [Nat.mul_comm (65536 ^ i) 65536, Nat.mul_comm (65536 ^ i) y, Nat.mul_comm (65536 ^ i) x, ← Nat.mul_assoc]
  omega
def subP (n : List UInt64) : List UInt64 := (List.range 16).map (sdg n)
theorem subP_val {w : Nat} (h : P25519 ≤ w) (hw : w < 65536 ^ 16) : subP (dg w) = dg (w - P25519) := by
 obtain ⟨h1, h2⟩ := sdg_val (w := w) 16 (by omega)
 have hd : ∀ i, (sdg (dg w) i).toNat < 65536 := fun i => by unfold sdg; rw [UInt64.toNat_mod]; exact Nat.mod_lt _ (by decide)
 have hlt := pv_lt (show 0 < 65536 by decide) hd 16
 have hP : P25519 < 65536 ^ 16 := by decide
 rw [Nat.mod_eq_of_lt hw, Nat.mod_eq_of_lt hP] at h2
 have hb : (sbw (dg w) 16).toNat = 0 := by
  rcases Nat.eq_zero_or_pos (sbw (dg w) 16).toNat with e | e
  ·
   exact e
  ·
   have : (sbw (dg w) 16).toNat = 1 := by omega
   rw [this] at h2; omega
 have hl : (subP (dg w)).length = 16 := rng_len
 have hg : ∀ i, i < 16 → (subP (dg w)).getD i 0 = sdg (dg w) i := fun i hi => by unfold subP; exact rng_getD hi
 have e := dg_rv hl (fun i hi => by rw [hg i hi]; exact hd i)
 have e2 : rv (subP (dg w)) = w - P25519 := by
  unfold rv
  rw [pv_congr (m := fun i => (sdg (dg w) i).toNat) 16 (fun i hi => by rw [hg i hi])]
  rw [hb] at h2; omega
 rw [e2] at e; exact e
theorem dg_cmp {v w : Nat} (hv : v < 65536 ^ 16) (hw : w < 65536 ^ 16) {i : Nat} (hi : i < 16) (h : ∀ j, i < j → j < 16 → (dg v).getD j 0 = (dg w).getD j 0) : (((dg v).getD i 0).toNat < ((dg w).getD i 0).toNat → v < w) ∧ (((dg w).getD i 0).toNat < ((dg v).getD i 0).toNat → w < v) := by
 have key : ∀ n, i < n → n ≤ 16 → ∀ a b : Nat, (∀ j, i < j → j < n → a / 65536 ^ j % 65536 = b / 65536 ^ j % 65536) → a / 65536 ^ i % 65536 < b / 65536 ^ i % 65536 → a % 65536 ^ n < b % 65536 ^ n := by
  intro n
  induction n with
  | zero => intro h0; omega
  | succ n ih =>
   intro h1 h2 a b h3 h4
   rw [Nat.pow_succ, Nat.mod_mul, Nat.mod_mul]
   by_cases he : i = n
   ·
    subst he
    have ha := Nat.mod_lt a (show 0 < 65536 ^ i from Nat.pow_pos (by decide))
    have : 65536 ^ i * (a / 65536 ^ i % 65536 + 1) ≤ 65536 ^ i * (b / 65536 ^ i % 65536) := Nat.mul_le_mul_left _ h4
    rw [Nat.mul_add] at this
    omega
   ·
    have := ih (by omega) (by omega) a b (fun j g1 g2 => h3 j g1 (by omega)) h4
    rw [h3 n (by omega) (by omega)]; omega
 have e : ∀ j, i < j → j < 16 → v / 65536 ^ j % 65536 = w / 65536 ^ j % 65536 := fun j g1 g2 => by rw [← dg_get v j g2, ← dg_get w j g2, h j g1 g2]
 rw [dg_get _ _ hi, dg_get _ _ hi]
 constructor
 ·
  intro g
  have := key 16 hi (Nat.le_refl _) v w e g
  rwa [Nat.mod_eq_of_lt hv, Nat.mod_eq_of_lt hw] at this
 ·
  intro g
  have := key 16 hi (Nat.le_refl _) w v (fun j g1 g2 => (e j g1 g2).symm) g
  rwa [Nat.mod_eq_of_lt hv, Nat.mod_eq_of_lt hw] at this
theorem dg_inj {v w : Nat} (hv : v < 65536 ^ 16) (hw : w < 65536 ^ 16) (h : ∀ j, j < 16 → (dg v).getD j 0 = (dg w).getD j 0) : v = w := by
 have e1 := rv_dg v hv
 have e2 := rv_dg w hw
 rw [← e1, ← e2]
 unfold rv
 exact pv_congr 16 (fun i hi => by rw [h i hi])
def le32 (v : Nat) : List UInt8 := (List.range 32).map fun i => UInt8.ofNat (v / 256 ^ i % 256)
theorem le32_len (v : Nat) : (le32 v).length = 32 := rng_len
theorem le32_get (v i : Nat) (h : i < 32) : ((le32 v).getD i 0).toNat = v / 256 ^ i % 256 := by
 unfold le32; rw [rng_getD h, UInt8.toNat_ofNat']
 exact Nat.mod_eq_of_lt (Nat.mod_lt _ (by decide))
def bv (b : List UInt8) : Nat := pv 256 (fun i => (b.getD i 0).toNat) 32
theorem bv_le32 (v : Nat) (h : v < 256 ^ 32) : bv (le32 v) = v := by
 unfold bv
 rw [pv_congr (m := fun i => v / 256 ^ i % 256) 32 (fun i hi => le32_get v i hi), pv_of (by decide), Nat.mod_eq_of_lt h]
def bn (b : List UInt8) : Nat := bv b % 57896044618658097711785492504343953926634992332820282019728792003956564819968
def br (b : List UInt8) : Nat := bn b % P25519
theorem br_lt (b : List UInt8) : br b < P25519 := mod_lt_P _
def pw (x : Nat) : Nat → Nat
 | 0 => 1
 | k + 1 => if k = 250 ∨ k = 252 then pw x k * pw x k % P25519 else pw x k * pw x k % P25519 * x % P25519
def pwe : Nat → Nat
 | 0 => 0
 | k + 1 => if k = 250 ∨ k = 252 then 2 * pwe k else 2 * pwe k + 1
theorem pwe_all : pwe 255 = P25519 - 2 := by decide +kernel
theorem pw_eq (x : Nat) : ∀ k, pw x k = x ^ pwe k % P25519
 | 0 => by show 1 = x ^ 0 % P25519; rw [Nat.pow_zero]; decide
 | k + 1 => by
  show (if k = 250 ∨ k = 252 then _ else _) = x ^ (if k = 250 ∨ k = 252 then _ else _) % _
  have e : pw x k * pw x k % P25519 = x ^ (2 * pwe k) % P25519 := by
   rw [pw_eq x k, ← Nat.mul_mod, ← Nat.pow_add]; congr 2; omega
  split
  ·
   exact e
  ·
   rw [e, Nat.mul_mod, Nat.mod_mod, ← Nat.mul_mod, ← Nat.pow_succ]
def invN (x : Nat) : Nat := pw x 255
theorem invN_mul {x : Nat} (h : x % P25519 ≠ 0) : x * invN x % P25519 = 1 := by
 unfold invN
 rw [pw_eq, pwe_all, Nat.mul_mod, Nat.mod_mod, ← Nat.mul_mod]
 exact inv_mul h
theorem invN_lt (x : Nat) : invN x < P25519 := by unfold invN; rw [pw_eq]; exact mod_lt_P _
theorem invN_0 : invN 0 = 0 := by unfold invN; rw [pw_eq, pwe_all, Nat.zero_pow (by decide)]; rfl
end Go.Sh
namespace Go.Sh
set_option maxHeartbeats 8000000
theorem or_add (a b : UInt64) (k : Nat) (c : Nat) (ha : a.toNat < 2 ^ k) (hb : b.toNat = 2 ^ k * c) : (a ||| b).toNat = a.toNat + b.toNat := by
 rw [UInt64.toNat_or, Nat.or_comm, hb, ← Nat.two_pow_add_eq_or_of_lt ha, Nat.add_comm]
theorem pv_split {B : Nat} (l : Nat → Nat) (n : Nat) : ∀ m, pv B l (n + m) = pv B l n + B ^ n * pv B (fun i => l (n + i)) m
 | 0 => by simp [pv]
 | m + 1 => by
  show pv B l (n + m) + l (n + m) * B ^ (n + m) = _
  rw [pv_split l n m]
  show _ = pv B l n + B ^ n * (pv B (fun i => l (n + i)) m + l (n + m) * B ^ m)
  rw [Nat.mul_add, Nat.pow_add, Nat.mul_left_comm, Nat.add_assoc]
def wW (b : List UInt8) (k : Nat) : Nat → UInt64
 | 0 => 0
 | m + 1 => wW b k m ||| shl64 (b.getD (8 * k + m) 0).toUInt64 (8 * m)
def byN (b : List UInt8) (i : Nat) : Nat := (b.getD i 0).toNat
theorem byN_lt (b : List UInt8) (i : Nat) : byN b i < 256 := UInt8.toNat_lt _
theorem wW_n (b : List UInt8) (k : Nat) : ∀ m, m ≤ 8 → (wW b k m).toNat = pv 256 (fun i => byN b (8 * k + i)) m
 | 0, _ => rfl
 | m + 1, h => by
  have ih := wW_n b k m (by omega)
  have hlt := pv_lt (B := 256) (l := fun i => byN b (8 * k + i)) (by decide) (fun i => byN_lt b _) m
  have e8 : (256 : Nat) ^ m = 2 ^ (8 * m) := by rw [Nat.pow_mul]
  have hb := byN_lt b (8 * k + m)
  have hs : (shl64 (b.getD (8 * k + m) 0).toUInt64 (8 * m)).toNat = 2 ^ (8 * m) * byN b (8 * k + m) := by
   rw [shl_n _ _ (by omega), UInt8.toNat_toUInt64, Nat.mod_eq_of_lt, Nat.mul_comm]
   ·
    rfl
   ·
    have h1 : (b.getD (8 * k + m) 0).toNat * 2 ^ (8 * m) < 256 * 2 ^ (8 * m) := Nat.mul_lt_mul_of_pos_right hb (Nat.pow_pos (by decide))
    have h2 : 256 * 2 ^ (8 * m) ≤ 2 ^ 64 := by
     rw [show (256 : Nat) = 2 ^ 8 from rfl, ← Nat.pow_add]
     exact Nat.pow_le_pow_right (by decide) (by omega)
    exact Nat.lt_of_lt_of_le h1 h2
  show (wW b k m ||| _).toNat = pv 256 _ m + byN b (8 * k + m) * 256 ^ m
  rw [or_add _ _ (8 * m) _ (by rw [ih, ← e8]; exact hlt) hs, ih, hs, e8, Nat.mul_comm (2 ^ (8 * m))]
theorem wW_8 (b : List UInt8) (k : Nat) : (wW b k 8).toNat < 18446744073709551616 := UInt64.toNat_lt _
theorem bv_w (b : List UInt8) : bv b = (wW b 0 8).toNat + 18446744073709551616 * (wW b 1 8).toNat + 340282366920938463463374607431768211456 * (wW b 2 8).toNat + 6277101735386680763835789423207666416102355444464034512896 * (wW b 3 8).toNat := by
 rw [wW_n b 0 8 (by decide), wW_n b 1 8 (by decide), wW_n b 2 8 (by decide), wW_n b 3 8 (by decide)]
 unfold bv
 have h1 := pv_split (B := 256) (byN b) 8 24
 have h2 := pv_split (B := 256) (fun i => byN b (8 + i)) 8 16
 have h3 := pv_split (B := 256) (fun i => byN b (8 + (8 + i))) 8 8
 have e1 : (256 : Nat) ^ 8 = 18446744073709551616 := by decide
 rw [e1] at h1 h2 h3
 show pv 256 (byN b) (8 + 24) = _
 rw [h1, show (24 : Nat) = 8 + 16 from rfl, h2, show (16 : Nat) = 8 + 8 from rfl, h3]
 have f0 : pv 256 (byN b) 8 = pv 256 (fun i => byN b (8 * 0 + i)) 8 := pv_congr 8 (fun i _ => by rw [show 8 * 0 + i = i by omega])
 have f1 : pv 256 (fun i => byN b (8 + i)) 8 = pv 256 (fun i => byN b (8 * 1 + i)) 8 := rfl
 have f2 : pv 256 (fun i => byN b (8 + (8 + i))) 8 = pv 256 (fun i => byN b (8 * 2 + i)) 8 := pv_congr 8 (fun i _ => by rw [show 8 * 2 + i = 8 + (8 + i) by omega])
 have f3 : pv 256 (fun i => byN b (8 + (8 + (8 + i)))) 8 = pv 256 (fun i => byN b (8 * 3 + i)) 8 := pv_congr 8 (fun i _ => by rw [show 8 * 3 + i = 8 + (8 + (8 + i)) by omega])
 rw [f0, f1, f2, f3]
 omega
theorem X1 (a b : Nat) (ha : a < 18446744073709551616) : (a / 2251799813685248 + b * 8192 % 18446744073709551616) % 2251799813685248 = a / 2251799813685248 + b % 274877906944 * 8192 := by omega
theorem X2 (b c : Nat) (hb : b < 18446744073709551616) : (b / 274877906944 + c * 67108864 % 18446744073709551616) % 2251799813685248 = b / 274877906944 + c % 33554432 * 67108864 := by omega
theorem X3 (c d : Nat) (hb : c < 18446744073709551616) : (c / 33554432 + d * 549755813888 % 18446744073709551616) % 2251799813685248 = c / 33554432 + d % 4096 * 549755813888 := by omega
theorem Y1 (b : Nat) : b * 8192 % 18446744073709551616 = 8192 * (b % 2251799813685248) := by omega
theorem Y2 (b : Nat) : b * 67108864 % 18446744073709551616 = 67108864 * (b % 274877906944) := by omega
theorem Y3 (b : Nat) : b * 549755813888 % 18446744073709551616 = 549755813888 * (b % 33554432) := by omega
theorem sum4 (a b c d : Nat) (ha : a < 18446744073709551616) (hb : b < 18446744073709551616) (hc : c < 18446744073709551616) :
 a % 2251799813685248 + 2251799813685248 * (a / 2251799813685248 + b % 274877906944 * 8192) + 5070602400912917605986812821504 * (b / 274877906944 + c % 33554432 * 67108864) + 11417981541647679048466287755595961091061972992 * (c / 33554432 + d % 4096 * 549755813888) + 25711008708143844408671393477458601640355247900524685364822016 * (d / 4096 % 2251799813685248) = (a + 18446744073709551616 * b + 340282366920938463463374607431768211456 * c + 6277101735386680763835789423207666416102355444464034512896 * d) % 57896044618658097711785492504343953926634992332820282019728792003956564819968 := by
 obtain ⟨a0, a1, h1, h2, h3⟩ : ∃ a0 a1, a % 2251799813685248 = a0 ∧ a / 2251799813685248 = a1 ∧ a = a0 + 2251799813685248 * a1 := ⟨_, _, rfl, rfl, by omega⟩
 obtain ⟨b0, b1, i1, i2, i3⟩ : ∃ b0 b1, b % 274877906944 = b0 ∧ b / 274877906944 = b1 ∧ b = b0 + 274877906944 * b1 := ⟨_, _, rfl, rfl, by omega⟩
 obtain ⟨c0, c1, j1, j2, j3⟩ : ∃ c0 c1, c % 33554432 = c0 ∧ c / 33554432 = c1 ∧ c = c0 + 33554432 * c1 := ⟨_, _, rfl, rfl, by omega⟩
 obtain ⟨d0, d1, d2, k1, k2, k3⟩ : ∃ d0 d1 d2, d % 4096 = d0 ∧ d / 4096 % 2251799813685248 = d1 ∧ d = d0 + 4096 * (d1 + 2251799813685248 * d2) := ⟨_, _, d / 4096 / 2251799813685248, rfl, rfl, by omega⟩
 have a0l : a0 < 2251799813685248 := by omega
 have a1l : a1 < 8192 := by omega
 have b0l : b0 < 274877906944 := by omega
 have b1l : b1 < 67108864 := by omega
 have c0l : c0 < 33554432 := by omega
 have c1l : c1 < 549755813888 := by omega
 have d0l : d0 < 4096 := by omega
 have d1l : d1 < 2251799813685248 := by omega
 rw [h1, h2, i1, i2, j1, j2, k1, k2]
 clear h1 h2 i1 i2 j1 j2 k1 k2 ha hb hc
 subst h3; subst i3; subst j3; subst k3
 have e : a0 + 2251799813685248 * a1 + 18446744073709551616 * (b0 + 274877906944 * b1) + 340282366920938463463374607431768211456 * (c0 + 33554432 * c1) + 6277101735386680763835789423207666416102355444464034512896 * (d0 + 4096 * (d1 + 2251799813685248 * d2)) = (a0 + 2251799813685248 * (a1 + b0 * 8192) + 5070602400912917605986812821504 * (b1 + c0 * 67108864) + 11417981541647679048466287755595961091061972992 * (c1 + d0 * 549755813888) + 25711008708143844408671393477458601640355247900524685364822016 * d1) + 57896044618658097711785492504343953926634992332820282019728792003956564819968 * d2 := by omega
 rw [e, Nat.add_mul_mod_self_left, Nat.mod_eq_of_lt]
 omega
def ofB (b : List UInt8) : List UInt64 := [wW b 0 8 &&& 2251799813685247, (shr64 (wW b 0 8) 51 ||| shl64 (wW b 1 8) 13) &&& 2251799813685247, (shr64 (wW b 1 8) 38 ||| shl64 (wW b 2 8) 26) &&& 2251799813685247, (shr64 (wW b 2 8) 25 ||| shl64 (wW b 3 8) 39) &&& 2251799813685247, shr64 (wW b 3 8) 12 &&& 2251799813685247]
theorem ofB_ok (b : List UInt8) : Nm (ofB b) ∧ nv (ofB b) = bn b := by
 have b0 := wW_8 b 0
 have b1 := wW_8 b 1
 have b2 := wW_8 b 2
 have b3 := wW_8 b 3
 have hv := bv_w b
 unfold ofB bn
 generalize bv b = V at *
 generalize wW b 0 8 = w0 at *
 generalize wW b 1 8 = w1 at *
 generalize wW b 2 8 = w2 at *
 generalize wW b 3 8 = w3 at *
 have e0 := msk_n w0
 have s0 := shr_n w0 51 (by decide)
 have s1 := shr_n w1 38 (by decide)
 have s2 := shr_n w2 25 (by decide)
 have s3 := shr_n w3 12 (by decide)
 have t1 := shl_n w1 13 (by decide)
 have t2 := shl_n w2 26 (by decide)
 have t3 := shl_n w3 39 (by decide)
 rw [show (2 : Nat) ^ 51 = 2251799813685248 from rfl] at s0
 rw [show (2 : Nat) ^ 38 = 274877906944 from rfl] at s1
 rw [show (2 : Nat) ^ 25 = 33554432 from rfl] at s2
 rw [show (2 : Nat) ^ 12 = 4096 from rfl] at s3
 rw [show (2 : Nat) ^ 13 = 8192 from rfl, show (2 : Nat) ^ 64 = 18446744073709551616 from rfl] at t1
 rw [show (2 : Nat) ^ 26 = 67108864 from rfl, show (2 : Nat) ^ 64 = 18446744073709551616 from rfl] at t2
 rw [show (2 : Nat) ^ 39 = 549755813888 from rfl, show (2 : Nat) ^ 64 = 18446744073709551616 from rfl] at t3
 have o1 := or_add (shr64 w0 51) (shl64 w1 13) 13 (w1.toNat % 2251799813685248) (by rw [s0]; clear s1 s2 s3 t1 t2 t3 e0 hv; omega) (by rw [t1]; exact Y1 _)
 have o2 := or_add (shr64 w1 38) (shl64 w2 26) 26 (w2.toNat % 274877906944) (by rw [s1]; clear s0 s2 s3 t1 t2 t3 e0 hv; omega) (by rw [t2]; exact Y2 _)
 have o3 := or_add (shr64 w2 25) (shl64 w3 39) 39 (w3.toNat % 33554432) (by rw [s2]; clear s0 s1 s3 t1 t2 t3 e0 hv; omega) (by rw [t3]; exact Y3 _)
 have m1 := msk_n (shr64 w0 51 ||| shl64 w1 13)
 have m2 := msk_n (shr64 w1 38 ||| shl64 w2 26)
 have m3 := msk_n (shr64 w2 25 ||| shl64 w3 39)
 have m4 := msk_n (shr64 w3 12)
 rw [o1, s0, t1] at m1
 rw [o2, s1, t2] at m2
 rw [o3, s2, t3] at m3
 rw [s3] at m4
 constructor
 ·
  refine ⟨rfl, ?_⟩
  simp only [List.mem_cons, List.not_mem_nil, or_false, forall_eq_or_imp, forall_eq]
  clear o1 o2 o3 s0 s1 s2 s3 t1 t2 t3 hv
  refine ⟨?_, ?_, ?_, ?_, ?_⟩
  ·
   rw [e0]; exact Nat.lt_of_lt_of_le (Nat.mod_lt _ (by decide)) (by decide)
  ·
   rw [m1]; exact Nat.lt_of_lt_of_le (Nat.mod_lt _ (by decide)) (by decide)
  ·
   rw [m2]; exact Nat.lt_of_lt_of_le (Nat.mod_lt _ (by decide)) (by decide)
  ·
   rw [m3]; exact Nat.lt_of_lt_of_le (Nat.mod_lt _ (by decide)) (by decide)
  ·
   rw [m4]; exact Nat.lt_of_lt_of_le (Nat.mod_lt _ (by decide)) (by decide)
 ·
  rw [nv_5, e0, m1, m2, m3, m4, hv, X1 _ _ b0, X2 _ _ b1, X3 _ _ b2]
  exact sum4 _ _ _ _ b0 b1 b2
theorem nr_of (b : List UInt8) : nr (ofB b) = br b := by unfold nr br; rw [(ofB_ok b).2]
end Go.Sh
namespace Go.Sh
set_option maxHeartbeats 8000000
theorem dm (r : Nat) : ∃ v q, r % 2251799813685248 = v ∧ r / 2251799813685248 = q ∧ r = v + 2251799813685248 * q ∧ v < 2251799813685248 := ⟨_, _, rfl, rfl, by omega, by omega⟩
theorem chain {x0 x1 x2 x3 x4 r0 r1 r2 r3 r4 : Nat} (h0 : r0 = x0) (h1 : r1 = x1 + r0 / 2251799813685248) (h2 : r2 = x2 + r1 / 2251799813685248) (h3 : r3 = x3 + r2 / 2251799813685248) (h4 : r4 = x4 + r3 / 2251799813685248) :
  ∃ V, V = r0 % 2251799813685248 + 2251799813685248 * (r1 % 2251799813685248) + 5070602400912917605986812821504 * (r2 % 2251799813685248) + 11417981541647679048466287755595961091061972992 * (r3 % 2251799813685248) + 25711008708143844408671393477458601640355247900524685364822016 * (r4 % 2251799813685248) ∧ V < 57896044618658097711785492504343953926634992332820282019728792003956564819968 ∧
   x0 + 2251799813685248 * x1 + 5070602400912917605986812821504 * x2 + 11417981541647679048466287755595961091061972992 * x3 + 25711008708143844408671393477458601640355247900524685364822016 * x4 = V + 57896044618658097711785492504343953926634992332820282019728792003956564819968 * (r4 / 2251799813685248) := by
 obtain ⟨v0, q0, a0, b0, c0, d0⟩ := dm r0
 obtain ⟨v1, q1, a1, b1, c1, d1⟩ := dm r1
 obtain ⟨v2, q2, a2, b2, c2, d2⟩ := dm r2
 obtain ⟨v3, q3, a3, b3, c3, d3⟩ := dm r3
 obtain ⟨v4, q4, a4, b4, c4, d4⟩ := dm r4
 rw [b0] at h1
 rw [b1] at h2
 rw [b2] at h3
 rw [b3] at h4
 rw [a0, a1, a2, a3, a4, b4]
 clear a0 a1 a2 a3 a4 b0 b1 b2 b3 b4
 exact ⟨_, rfl, by omega, by omega⟩
theorem fin5 {N V t q : Nat} (P U : Nat) (hP : P = 57896044618658097711785492504343953926634992332820282019728792003956564819949) (hN : N < 57896044618658097711785492504343953926634992332820282019728792003956564819988) (hU : U < 57896044618658097711785492504343953926634992332820282019728792003956564819968) (h1 : N + 19 = U + 57896044618658097711785492504343953926634992332820282019728792003956564819968 * q)
  (hV : V < 57896044618658097711785492504343953926634992332820282019728792003956564819968) (h2 : N + 19 * q = V + 57896044618658097711785492504343953926634992332820282019728792003956564819968 * t) : V = N % P := by
 have hq : q = 0 ∨ q = 1 := by omega
 rcases hq with rfl | rfl
 ·
  have : t = 0 := by omega
  subst this
  rw [Nat.mod_eq_of_lt] <;> omega
 ·
  have : t = 1 := by omega
  subst this
  rw [Nat.mod_eq_sub_mod (by omega), Nat.mod_eq_of_lt (by omega)]
  omega
theorem d64 (A B C D : Nat) (ha : A < 18446744073709551616) (hb : B < 18446744073709551616) (hc : C < 18446744073709551616) (hd : D < 18446744073709551616) (V : Nat) (hV : V = A + 18446744073709551616 * B + 340282366920938463463374607431768211456 * C + 6277101735386680763835789423207666416102355444464034512896 * D) :
  A = V % 18446744073709551616 ∧ B = V / 18446744073709551616 % 18446744073709551616 ∧ C = V / 340282366920938463463374607431768211456 % 18446744073709551616 ∧ D = V / 6277101735386680763835789423207666416102355444464034512896 % 18446744073709551616 := by
 refine ⟨by omega, by omega, by omega, by omega⟩
theorem Z1 (s : Nat) : s * 2251799813685248 % 18446744073709551616 = 2251799813685248 * (s % 8192) := by omega
theorem Z2 (s : Nat) : s * 274877906944 % 18446744073709551616 = 274877906944 * (s % 67108864) := by omega
theorem Z3 (s : Nat) : s * 33554432 % 18446744073709551616 = 33554432 * (s % 549755813888) := by omega
theorem Z4 (s : Nat) : s * 4096 % 18446744073709551616 = 4096 * (s % 4503599627370496) := by omega
theorem s64 (s0 s1 s2 s3 s4 : Nat) (h0 : s0 < 2251799813685248) (h1 : s1 < 2251799813685248) (h2 : s2 < 2251799813685248) (h3 : s3 < 2251799813685248) (h4 : s4 < 2251799813685248) :
  s0 + s1 * 2251799813685248 % 18446744073709551616 < 18446744073709551616 ∧ s1 / 8192 + s2 * 274877906944 % 18446744073709551616 < 18446744073709551616 ∧ s2 / 67108864 + s3 * 33554432 % 18446744073709551616 < 18446744073709551616 ∧ s3 / 549755813888 + s4 * 4096 % 18446744073709551616 < 18446744073709551616 ∧
  s0 + 2251799813685248 * s1 + 5070602400912917605986812821504 * s2 + 11417981541647679048466287755595961091061972992 * s3 + 25711008708143844408671393477458601640355247900524685364822016 * s4 = (s0 + s1 * 2251799813685248 % 18446744073709551616) + 18446744073709551616 * (s1 / 8192 + s2 * 274877906944 % 18446744073709551616) + 340282366920938463463374607431768211456 * (s2 / 67108864 + s3 * 33554432 % 18446744073709551616) + 6277101735386680763835789423207666416102355444464034512896 * (s3 / 549755813888 + s4 * 4096 % 18446744073709551616) := by
 obtain ⟨e0, e1, k1, k2, k3⟩ : ∃ e0 e1, s1 / 8192 = e1 ∧ s1 * 2251799813685248 % 18446744073709551616 = 2251799813685248 * e0 ∧ s1 = e0 + 8192 * e1 := ⟨s1 % 8192, _, rfl, Z1 _, (Nat.mod_add_div _ _).symm⟩
 obtain ⟨f0, f1, l1, l2, l3⟩ : ∃ e0 e1, s2 / 67108864 = e1 ∧ s2 * 274877906944 % 18446744073709551616 = 274877906944 * e0 ∧ s2 = e0 + 67108864 * e1 := ⟨s2 % 67108864, _, rfl, Z2 _, (Nat.mod_add_div _ _).symm⟩
 obtain ⟨g0, g1, m1, m2, m3⟩ : ∃ e0 e1, s3 / 549755813888 = e1 ∧ s3 * 33554432 % 18446744073709551616 = 33554432 * e0 ∧ s3 = e0 + 549755813888 * e1 := ⟨s3 % 549755813888, _, rfl, Z3 _, (Nat.mod_add_div _ _).symm⟩
 have m4 : s4 * 4096 % 18446744073709551616 = 4096 * s4 := by rw [Nat.mod_eq_of_lt (by omega), Nat.mul_comm]
 refine ⟨by omega, by omega, by omega, by omega, ?_⟩
 rw [k1, k2, l1, l2, m1, m2, m4]
 clear k1 k2 l1 l2 m1 m2 m4 h0 h1 h2 h3 h4
 omega
theorem d32 {j : Nat} (h : j < 32) : j / 8 = 0 ∨ j / 8 = 1 ∨ j / 8 = 2 ∨ j / 8 = 3 := by omega
theorem d64b (j : Nat) : 8 * (j % 8) < 64 := by omega
theorem e256 (j : Nat) : (256 : Nat) ^ j = 2 ^ (64 * (j / 8)) * 2 ^ (8 * (j % 8)) := by
 rw [← Nat.pow_add, show (256 : Nat) = 2 ^ 8 from rfl, ← Nat.pow_mul]; congr 1; omega
theorem by8x (x t : Nat) (ht : t < 8) : x % 18446744073709551616 / 2 ^ (8 * t) % 2 ^ 8 = x / 2 ^ (8 * t) % 256 % 2 ^ 8 := by
 have : t = 0 ∨ t = 1 ∨ t = 2 ∨ t = 3 ∨ t = 4 ∨ t = 5 ∨ t = 6 ∨ t = 7 := by omega
 rcases this with h | h | h | h | h | h | h | h <;> rw [h] <;> simp only [Nat.reduceMul, Nat.reducePow] <;> omega
theorem lt38 {s : Nat} (h : s < 2251799813685248) : s / 8192 < 2 ^ 38 := by omega
theorem lt25 {s : Nat} (h : s < 2251799813685248) : s / 67108864 < 2 ^ 25 := by omega
theorem lt12 {s : Nat} (h : s < 2251799813685248) : s / 549755813888 < 2 ^ 12 := by omega
theorem carL_tight {l : List UInt64} (h : l.length = 5) (hb : ∀ x ∈ l, x.toNat < 9223372036854775808) :
  ∃ k0 k1 k2 k3 k4 : UInt64, carL l = [k0, k1, k2, k3, k4] ∧ k0.toNat < 2251799813685268 ∧ k1.toNat < 2251799813685248 ∧ k2.toNat < 2251799813685248 ∧ k3.toNat < 2251799813685248 ∧ k4.toNat < 2251799813685248 := by
 obtain ⟨a, b, c, d, e, rfl⟩ := ex5 h
 simp only [List.mem_cons, List.not_mem_nil, or_false, forall_eq_or_imp, forall_eq] at hb
 obtain ⟨ha, hb, hc, hd, he⟩ := hb
 obtain ⟨m0, m1, m2, m3, m4, q, e1, n1, hq, b0, b1, b2, b3, b4, _⟩ := car1_val ha hb hc hd he
 obtain ⟨k0, k1, k2, k3, k4, q2, e2, n2, hq2, d0, d1, d2, d3, d4, hle⟩ := car1_val (a := m0) (b := m1) (c := m2) (d := m3) (e := m4) (by omega) (by omega) (by omega) (by omega) (by omega)
 have hle := hle b1 b2 b3 b4 (by omega)
 refine ⟨k0, k1, k2, k3, k4, ?_, by omega, d1, d2, d3, d4⟩
 unfold carL; rw [e1, e2]
def qB (m : List UInt64) : UInt64 := shr64 (m.getD 4 0 + shr64 (m.getD 3 0 + shr64 (m.getD 2 0 + shr64 (m.getD 1 0 + shr64 (m.getD 0 0 + 19) 51) 51) 51) 51) 51
def rB (m : List UInt64) : Nat → UInt64
 | 0 => m.getD 0 0 + 19 * qB m
 | i + 1 => m.getD (i + 1) 0 + shr64 (rB m i) 51
def sB (m : List UInt64) (i : Nat) : UInt64 := rB m i &&& 2251799813685247
def w4 (m : List UInt64) : List UInt64 := [sB m 0 ||| shl64 (sB m 1) 51, shr64 (sB m 1) 13 ||| shl64 (sB m 2) 38, shr64 (sB m 2) 26 ||| shl64 (sB m 3) 25, shr64 (sB m 3) 39 ||| shl64 (sB m 4) 12]
def byB (m : List UInt64) : List UInt8 := (List.range 32).map fun j => (shr64 ((w4 m).getD (j / 8) 0) (8 * (j % 8))).toUInt8
theorem nq {x c : Nat} (hx : x < 2251799813685268) (hc : c ≤ 19) : (x + c) / 2251799813685248 ≤ 1 := by omega
theorem nl {x c : Nat} (hx : x < 2251799813685268) (hc : c ≤ 19) : x + c < 18446744073709551616 := by omega
theorem nr1 {r : Nat} (hr : r < 2251799813685300) : r / 2251799813685248 ≤ 1 := by omega
theorem c51q (x c : UInt64) (hx : x.toNat < 2251799813685268) (hc : c.toNat ≤ 19) : (shr64 (x + c) 51).toNat = (x.toNat + c.toNat) / 2251799813685248 ∧ (shr64 (x + c) 51).toNat ≤ 1 := by
 have h : (shr64 (x + c) 51).toNat = (x.toNat + c.toNat) / 2251799813685248 := by rw [shr_n _ _ (by decide), add_n x c (nl hx hc)]
 exact ⟨h, by rw [h]; exact nq hx hc⟩
theorem rstp5 (x r : UInt64) (hx : x.toNat < 2251799813685248) (hr : r.toNat < 2251799813685300) : (x + shr64 r 51).toNat = x.toNat + r.toNat / 2251799813685248 ∧ (x + shr64 r 51).toNat < 2251799813685300 := by
 have h1 : (shr64 r 51).toNat = r.toNat / 2251799813685248 := shr_n r 51 (by decide)
 have h2 := nr1 hr
 have h : (x + shr64 r 51).toNat = x.toNat + r.toNat / 2251799813685248 := by rw [add_n _ _ (by rw [h1]; clear h1; omega), h1]
 exact ⟨h, by rw [h]; clear h h1; omega⟩
theorem byB_val {a b c d e : UInt64} (ha : a.toNat < 2251799813685268) (hb : b.toNat < 2251799813685248) (hc : c.toNat < 2251799813685248) (hd : d.toNat < 2251799813685248) (he : e.toNat < 2251799813685248) :
  byB [a, b, c, d, e] = le32 (nr [a, b, c, d, e]) := by
 obtain ⟨q0, hq0⟩ : ∃ q, q = shr64 (a + 19) 51 := ⟨_, rfl⟩
 obtain ⟨q1, hq1⟩ : ∃ q, q = shr64 (b + q0) 51 := ⟨_, rfl⟩
 obtain ⟨q2, hq2⟩ : ∃ q, q = shr64 (c + q1) 51 := ⟨_, rfl⟩
 obtain ⟨q3, hq3⟩ : ∃ q, q = shr64 (d + q2) 51 := ⟨_, rfl⟩
 obtain ⟨q4, hq4⟩ : ∃ q, q = shr64 (e + q3) 51 := ⟨_, rfl⟩
 have hqB : qB [a, b, c, d, e] = q4 := by rw [hq4, hq3, hq2, hq1, hq0]; rfl
 obtain ⟨v0, l0⟩ := c51q a 19 ha (by decide)
 rw [← hq0] at v0 l0
 rw [show (19 : UInt64).toNat = 19 from rfl] at v0
 obtain ⟨v1, l1⟩ := c51q b q0 (Nat.lt_trans hb (by decide)) (Nat.le_trans l0 (by decide))
 rw [← hq1] at v1 l1
 obtain ⟨v2, l2⟩ := c51q c q1 (Nat.lt_trans hc (by decide)) (Nat.le_trans l1 (by decide))
 rw [← hq2] at v2 l2
 obtain ⟨v3, l3⟩ := c51q d q2 (Nat.lt_trans hd (by decide)) (Nat.le_trans l2 (by decide))
 rw [← hq3] at v3 l3
 obtain ⟨v4, l4⟩ := c51q e q3 (Nat.lt_trans he (by decide)) (Nat.le_trans l3 (by decide))
 rw [← hq4] at v4 l4
 obtain ⟨p, hp⟩ : ∃ p, p = 19 * q4 := ⟨_, rfl⟩
 have hpn : p.toNat = 19 * q4.toNat := by rw [hp]; exact mul_n 19 q4 (by show 19 * _ < _; clear v0 v1 v2 v3 v4; omega)
 have hpl : p.toNat ≤ 19 := by rw [hpn]; clear v0 v1 v2 v3 v4; omega
 obtain ⟨r0, hr0⟩ : ∃ r, r = a + p := ⟨_, rfl⟩
 obtain ⟨r1, hr1⟩ : ∃ r, r = b + shr64 r0 51 := ⟨_, rfl⟩
 obtain ⟨r2, hr2⟩ : ∃ r, r = c + shr64 r1 51 := ⟨_, rfl⟩
 obtain ⟨r3, hr3⟩ : ∃ r, r = d + shr64 r2 51 := ⟨_, rfl⟩
 obtain ⟨r4, hr4⟩ : ∃ r, r = e + shr64 r3 51 := ⟨_, rfl⟩
 have k0 : rB [a, b, c, d, e] 0 = r0 := by rw [hr0, hp, ← hqB]; rfl
 have k1 : rB [a, b, c, d, e] 1 = r1 := by rw [hr1, ← k0]; rfl
 have k2 : rB [a, b, c, d, e] 2 = r2 := by rw [hr2, ← k1]; rfl
 have k3 : rB [a, b, c, d, e] 3 = r3 := by rw [hr3, ← k2]; rfl
 have k4 : rB [a, b, c, d, e] 4 = r4 := by rw [hr4, ← k3]; rfl
 have n0 : r0.toNat = a.toNat + 19 * q4.toNat := by rw [hr0, add_n _ _ (nl ha hpl), hpn]
 have g0 : r0.toNat < 2251799813685300 := by rw [n0]; clear v0 v1 v2 v3 v4; omega
 obtain ⟨n1, g1⟩ := rstp5 b r0 hb g0
 rw [← hr1] at n1 g1
 obtain ⟨n2, g2⟩ := rstp5 c r1 hc g1
 rw [← hr2] at n2 g2
 obtain ⟨n3, g3⟩ := rstp5 d r2 hd g2
 rw [← hr3] at n3 g3
 obtain ⟨n4, g4⟩ := rstp5 e r3 he g3
 rw [← hr4] at n4 g4
 have z0 : (sB [a, b, c, d, e] 0).toNat = r0.toNat % 2251799813685248 := by unfold sB; rw [k0, msk_n]
 have z1 : (sB [a, b, c, d, e] 1).toNat = r1.toNat % 2251799813685248 := by unfold sB; rw [k1, msk_n]
 have z2 : (sB [a, b, c, d, e] 2).toNat = r2.toNat % 2251799813685248 := by unfold sB; rw [k2, msk_n]
 have z3 : (sB [a, b, c, d, e] 3).toNat = r3.toNat % 2251799813685248 := by unfold sB; rw [k3, msk_n]
 have z4 : (sB [a, b, c, d, e] 4).toNat = r4.toNat % 2251799813685248 := by unfold sB; rw [k4, msk_n]
 have ch1 := chain (x0 := a.toNat + 19) (x1 := b.toNat) (x2 := c.toNat) (x3 := d.toNat) (x4 := e.toNat) rfl rfl rfl rfl rfl
 have ch2 := chain n0 n1 n2 n3 n4
 rw [← z0, ← z1, ← z2, ← z3, ← z4] at ch2
 obtain ⟨V, hV, hVl, hV2⟩ := ch2
 obtain ⟨U, _, hUl, hU2⟩ := ch1
 rw [← v0, Nat.add_comm b.toNat, Nat.add_comm q0.toNat, ← v1, ← v2, ← v3, ← v4] at hU2
 have hVr : V = nr [a, b, c, d, e] := by
  unfold nr
  rw [nv_5]
  clear z0 z1 z2 z3 z4 n0 n1 n2 n3 n4 k0 k1 k2 k3 k4 v0 v1 v2 v3 v4 hqB hq0 hq1 hq2 hq3 hq4 hV hp hpn
  refine fin5 (q := q4.toNat) (t := r4.toNat / 2251799813685248) P25519 U rfl ?_ hUl ?_ hVl ?_
  ·
   clear hU2 hV2; omega
  ·
   rw [← hU2]; clear hU2 hV2; omega
  ·
   rw [← hV2]; clear hU2 hV2; omega
 have y0 : (sB [a, b, c, d, e] 0).toNat < 2251799813685248 := by rw [z0]; exact Nat.mod_lt _ (by decide)
 have y1 : (sB [a, b, c, d, e] 1).toNat < 2251799813685248 := by rw [z1]; exact Nat.mod_lt _ (by decide)
 have y2 : (sB [a, b, c, d, e] 2).toNat < 2251799813685248 := by rw [z2]; exact Nat.mod_lt _ (by decide)
 have y3 : (sB [a, b, c, d, e] 3).toNat < 2251799813685248 := by rw [z3]; exact Nat.mod_lt _ (by decide)
 have y4 : (sB [a, b, c, d, e] 4).toNat < 2251799813685248 := by rw [z4]; exact Nat.mod_lt _ (by decide)
 rw [← hVr]
 have hw4 : w4 [a, b, c, d, e] = [sB [a, b, c, d, e] 0 ||| shl64 (sB [a, b, c, d, e] 1) 51, shr64 (sB [a, b, c, d, e] 1) 13 ||| shl64 (sB [a, b, c, d, e] 2) 38, shr64 (sB [a, b, c, d, e] 2) 26 ||| shl64 (sB [a, b, c, d, e] 3) 25, shr64 (sB [a, b, c, d, e] 3) 39 ||| shl64 (sB [a, b, c, d, e] 4) 12] := rfl
 clear z0 z1 z2 z3 z4 n0 n1 n2 n3 n4 k0 k1 k2 k3 k4 hVr hU2 hV2 hUl hVl v0 v1 v2 v3 v4
 generalize sB [a, b, c, d, e] 0 = s0 at *
 generalize sB [a, b, c, d, e] 1 = s1 at *
 generalize sB [a, b, c, d, e] 2 = s2 at *
 generalize sB [a, b, c, d, e] 3 = s3 at *
 generalize sB [a, b, c, d, e] 4 = s4 at *
 have t1 := shl_n s1 51 (by decide)
 have t2 := shl_n s2 38 (by decide)
 have t3 := shl_n s3 25 (by decide)
 have t4 := shl_n s4 12 (by decide)
 have u1 := shr_n s1 13 (by decide)
 have u2 := shr_n s2 26 (by decide)
 have u3 := shr_n s3 39 (by decide)
 rw [show (2 : Nat) ^ 51 = 2251799813685248 from rfl, show (2 : Nat) ^ 64 = 18446744073709551616 from rfl] at t1
 rw [show (2 : Nat) ^ 38 = 274877906944 from rfl, show (2 : Nat) ^ 64 = 18446744073709551616 from rfl] at t2
 rw [show (2 : Nat) ^ 25 = 33554432 from rfl, show (2 : Nat) ^ 64 = 18446744073709551616 from rfl] at t3
 rw [show (2 : Nat) ^ 12 = 4096 from rfl, show (2 : Nat) ^ 64 = 18446744073709551616 from rfl] at t4
 rw [show (2 : Nat) ^ 13 = 8192 from rfl] at u1
 rw [show (2 : Nat) ^ 26 = 67108864 from rfl] at u2
 rw [show (2 : Nat) ^ 39 = 549755813888 from rfl] at u3
 have o0 := or_add s0 (shl64 s1 51) 51 (s1.toNat % 8192) y0 (by rw [t1]; exact Z1 _)
 have o1 := or_add (shr64 s1 13) (shl64 s2 38) 38 (s2.toNat % 67108864) (by rw [u1]; exact lt38 y1) (by rw [t2]; exact Z2 _)
 have o2 := or_add (shr64 s2 26) (shl64 s3 25) 25 (s3.toNat % 549755813888) (by rw [u2]; exact lt25 y2) (by rw [t3]; exact Z3 _)
 have o3 := or_add (shr64 s3 39) (shl64 s4 12) 12 (s4.toNat % 4503599627370496) (by rw [u3]; exact lt12 y3) (by rw [t4]; exact Z4 _)
 rw [t1] at o0
 rw [u1, t2] at o1
 rw [u2, t3] at o2
 rw [u3, t4] at o3
 obtain ⟨l0, l1, l2, l3, hs⟩ := s64 _ _ _ _ _ y0 y1 y2 y3 y4
 obtain ⟨W0, W1, W2, W3⟩ := d64 _ _ _ _ l0 l1 l2 l3 V (hV.trans hs)
 rw [← o0] at W0
 rw [← o1] at W1
 rw [← o2] at W2
 rw [← o3] at W3
 unfold byB le32
 apply List.map_congr_left
 intro j hj
 have hj : j < 32 := List.mem_range.1 hj
 have hWk : ((w4 [a, b, c, d, e]).getD (j / 8) 0).toNat = V / 2 ^ (64 * (j / 8)) % 18446744073709551616 := by
  rw [hw4]
  rcases d32 hj with h | h | h | h <;> rw [h]
  ·
   rw [show (2 : Nat) ^ (64 * 0) = 1 from rfl, Nat.div_one]; exact W0
  ·
   exact W1
  ·
   exact W2
  ·
   exact W3
 apply UInt8.toNat_inj.mp
 rw [UInt64.toNat_toUInt8, shr_n _ _ (d64b j), UInt8.toNat_ofNat', hWk, e256, ← Nat.div_div_eq_div_mul]
 exact by8x _ _ (Nat.mod_lt _ (by decide))
end Go.Sh
namespace Go.Sh
open Go.Proofs
set_option maxHeartbeats 4000000
def smallL (n : UInt32) : List UInt64 := [n.toUInt64, 0, 0, 0, 0]
theorem f22 (n : UInt32) : SCall Tryz.prog 30 [.u32 n] [] (.agg ((smallL n).map .u64)) [] := by
 refine scall_of ttOk (by kernel_rfl : Tryz.prog.funcs[30]? = some Tryz.f30) rfl rfl rfl ?_
 try simp only [List.length_cons, List.length_nil, Nat.zero_add, Nat.reduceAdd]
 refine sw_ok ttOk mixed (by kernel_rfl) ?_
 conv => whnf
 repeat (first | (refine Exists.intro _ (And.intro (sload_all rfl (by rfl)) ?_); conv => whnf) | (refine Exists.intro _ (And.intro (sput_all rfl (by rfl)) ?_); conv => whnf) | (refine Exists.intro _ (And.intro rfl ?_); conv => whnf) | (refine And.intro (by first | (simp; done) | fail) ?_; conv => whnf) | fail)
 refine ⟨[], ?_, rfl, rfl, ?_, rfl⟩
 ·
  (repeat' (first | (refine wk_agg ?_) | (refine wk_cons ?_ ?_))) <;> first | rfl | fail
 ·
  (repeat' (first | exact trivial | fail)) <;> fail
def carI (l : List UInt64) : Nat → List UInt64
 | 0 => l
 | i + 1 => car1 (carI l i)
theorem carI_len {l : List UInt64} (h : l.length = 5) : ∀ i, (carI l i).length = 5
 | 0 => h
 | _ + 1 => rfl
theorem f85 (l : List UInt64) (hl : l.length = 5) : SCall Tryz.prog 49 [.agg (l.map .u64)] [] (.agg ((carL l).map .u64)) [] := by
 refine scall_of ttOk (by kernel_rfl : Tryz.prog.funcs[49]? = some Tryz.f49) rfl rfl rfl ?_
 try simp only [List.length_cons, List.length_nil, Nat.zero_add, Nat.reduceAdd]
 refine sw_ok ttOk mixed (by kernel_rfl) ?_
 conv => whnf
 refine loop_rule ttOk mixed (by kernel_rfl) (ι := { i : Nat // i ≤ 2 }) (fun i => [(1, .p 0 0), (2, .p 1 0), (5, .i (i.1 : Int))]) (fun i => [some (.box ((carI l i.1).map .u64)), some (.box (List.replicate 5 (.u64 0)))]) (fun _ => 2) (fun i => 2 - i.1) ⟨0, by omega⟩ ?_ ?_
 ·
  refine Weak.sel [0, 1] rfl rfl ?_ ?_ rfl rfl
  ·
   (repeat' (first | exact trivial | refine And.intro ?_ ?_ | fail)) <;> first | rfl | fail
  ·
   (repeat' (first | exact trivial | refine And.intro ?_ ?_ | (refine wk_cons ?_ ?_))) <;> first | rfl | exact ren_eq (by first | (simp; done) | fail) (by rfl) | fail
 ·
  rintro ⟨i, hi⟩
  obtain ⟨p, q, r, s, t, h5⟩ := ex5 (carI_len hl i)
  have hs : carI l (i + 1) = car1 [p, q, r, s, t] := by show car1 (carI l i) = _; rw [h5]
  dsimp only
  by_cases hi2 : i < 2
  ·
   have hlt : decide ((i : Int) < 2) = true := by simp; omega
   have hp1 : w64 ((i : Int) + 1) = ((i + 1 : Nat) : Int) := by simp only [w64_eq]; omega
   rw [h5]
   conv => whnf
   first | refine brT (by exact hlt) ?_ | fail
   conv => whnf
   refine loop_rounds ttOk mixed (by kernel_rfl) 6 ?_
   conv => whnf
   repeat (first | (refine brT rfl ?_; conv => whnf) | (refine brF rfl ?_; conv => whnf) | (refine Exists.intro _ (And.intro rfl ?_); conv => whnf) | (refine And.intro (by first | omega | (simp; done) | fail) ?_; conv => whnf) | (refine And.intro (Nat.le_of_ble_eq_true rfl) ?_; conv => whnf) | (refine And.intro ⟨rfl, Nat.le_of_ble_eq_true rfl⟩ ?_; conv => whnf) | (refine And.intro (by kernel_rfl) ?_; conv => whnf) | fail)
   refine ⟨⟨i + 1, by omega⟩, by simp only; omega, ?_⟩
   dsimp only
   rw [hs]
   refine Weak.sel [0, 1] rfl rfl ?_ ?_ rfl rfl
   ·
    (repeat' (first | exact trivial | refine And.intro ?_ ?_ | fail)) <;> first | exact wk_i (by first | exact hp1 | exact hp1.symm | fail) | rfl | fail
   ·
    (repeat' (first | exact trivial | refine And.intro ?_ ?_ | (refine wk_cons ?_ ?_))) <;> first | rfl | fail
  ·
   obtain rfl : i = 2 := by omega
   have hfin : carI l 2 = carL l := rfl
   rw [hfin]
   have hcl := carL_len l
   conv => whnf
   first | refine brF (by rfl) ?_ | fail
   conv => whnf
   repeat (first | (refine Exists.intro _ (And.intro (sload_all rfl (by rfl)) ?_); conv => whnf) | (refine Exists.intro _ (And.intro (sput_all rfl (by rfl)) ?_); conv => whnf) | (refine Exists.intro _ (And.intro rfl ?_); conv => whnf) | (refine And.intro ⟨rfl, Nat.le_of_ble_eq_true rfl⟩ ?_; conv => whnf) | fail)
   refine ⟨[], ?_, rfl, rfl, ?_, rfl⟩
   ·
    (repeat' (first | (refine wk_agg ?_) | (refine wk_cons ?_ ?_))) <;> first | rfl | fail
   ·
    (repeat' (first | exact trivial | fail)) <;> fail
attribute [local irreducible] carL
theorem f26 {x y : List UInt64} (hx : x.length = 5) (hy : y.length = 5) : SCall Tryz.prog 66 [.agg (x.map .u64), .agg (y.map .u64)] [] (.agg ((addL x y).map .u64)) [] := by
 obtain ⟨a, b, c, d, e, rfl⟩ := ex5 hx
 obtain ⟨f, g, h, i, j, rfl⟩ := ex5 hy
 have h85 := f85 [a + f, b + g, c + h, d + i, e + j] rfl
 have hcl := carL_len [a + f, b + g, c + h, d + i, e + j]
 have hadd : addL [a, b, c, d, e] [f, g, h, i, j] = carL [a + f, b + g, c + h, d + i, e + j] := rfl
 rw [hadd]
 refine scall_of ttOk (by kernel_rfl : Tryz.prog.funcs[66]? = some Tryz.f66) rfl rfl rfl ?_
 try simp only [List.length_cons, List.length_nil, Nat.zero_add, Nat.reduceAdd]
 refine sw_ok ttOk mixed (by kernel_rfl) ?_
 conv => whnf
 repeat (first | (refine Exists.intro _ (And.intro (sload_all rfl (by rfl)) ?_); conv => whnf) | (refine Exists.intro _ (And.intro (sput_all rfl (by rfl)) ?_); conv => whnf) | (refine And.intro (by first | omega | (simp; done) | fail) ?_; conv => whnf) | fail)
 refine loop_rounds ttOk mixed (by kernel_rfl) 6 ?_
 conv => whnf
 repeat (first | (refine brT rfl ?_; conv => whnf) | (refine brF rfl ?_; conv => whnf) | (refine Exists.intro _ (And.intro (sload_all rfl (by rfl)) ?_); conv => whnf) | (refine Exists.intro _ (And.intro rfl ?_); conv => whnf) | (refine And.intro (by first | omega | (simp; done) | fail) ?_; conv => whnf) | (refine And.intro (Nat.le_of_ble_eq_true rfl) ?_; conv => whnf) | (refine And.intro ⟨rfl, Nat.le_of_ble_eq_true rfl⟩ ?_; conv => whnf) | fail)
 refine ok1_callF [] [] true (h85) rfl rfl ⟨⟨rfl, by rfl⟩, trivial, by rfl, by first | simp [plainRf, plainR, plainT, plainW], ?_⟩
 conv => whnf
 repeat (first | (refine Exists.intro _ (And.intro (sload_all rfl (by first | rfl | (simp [hcl]; done) | fail)) ?_); conv => whnf) | (refine Exists.intro _ (And.intro (sput_all rfl (by first | rfl | (simp [hcl]; done) | fail)) ?_); conv => whnf) | (refine And.intro (by first | omega | (simp; omega) | fail) ?_; conv => whnf) | fail)
 refine ⟨[], ?_, rfl, rfl, ?_, rfl⟩
 ·
  (repeat' (first | (refine wk_agg ?_) | fail)) <;> first | exact ren_eq (by first | (simp; done) | fail) (by rfl) | fail
 ·
  (repeat' (first | exact trivial | fail)) <;> fail
theorem c4_eq : UInt64.ofNat (Int.toNat 9007199254740988) = 9007199254740988 := by decide
theorem c72_eq : UInt64.ofNat (Int.toNat 72) = 72 := by decide
theorem f85x (a b c d e : UInt64) : SCall Tryz.prog 49 [.agg [.u64 a, .u64 b, .u64 c, .u64 d, .u64 e]] [] (.agg ((carL [a, b, c, d, e]).map .u64)) [] := f85 [a, b, c, d, e] rfl
theorem f27 {x y : List UInt64} (hx : x.length = 5) (hy : y.length = 5) : SCall Tryz.prog 67 [.agg (x.map .u64), .agg (y.map .u64)] [] (.agg ((subL x y).map .u64)) [] := by
 obtain ⟨a, b, c, d, e, rfl⟩ := ex5 hx
 obtain ⟨f, g, h, i, j, rfl⟩ := ex5 hy
 have hcl := fun m0 m1 m2 m3 m4 => carL_len [m0, m1, m2, m3, m4]
 have hsub : subL [a, b, c, d, e] [f, g, h, i, j] = carL [a + (UInt64.ofNat (Int.toNat 9007199254740988) - f) - UInt64.ofNat (Int.toNat 72), b + (UInt64.ofNat (Int.toNat 9007199254740988) - g), c + (UInt64.ofNat (Int.toNat 9007199254740988) - h), d + (UInt64.ofNat (Int.toNat 9007199254740988) - i), e + (UInt64.ofNat (Int.toNat 9007199254740988) - j)] := by
  rw [c4_eq, c72_eq]; rfl
 rw [hsub]
 refine scall_of ttOk (by kernel_rfl : Tryz.prog.funcs[67]? = some Tryz.f67) rfl rfl rfl ?_
 try simp only [List.length_cons, List.length_nil, Nat.zero_add, Nat.reduceAdd]
 refine sw_ok ttOk mixed (by kernel_rfl) ?_
 conv => whnf
 repeat (first | (refine Exists.intro _ (And.intro (sload_all rfl (by rfl)) ?_); conv => whnf) | (refine Exists.intro _ (And.intro (sput_all rfl (by rfl)) ?_); conv => whnf) | (refine And.intro (by first | omega | (simp; done) | fail) ?_; conv => whnf) | fail)
 refine loop_rounds ttOk mixed (by kernel_rfl) 6 ?_
 conv => whnf
 repeat (first | (refine brT rfl ?_; conv => whnf) | (refine brF rfl ?_; conv => whnf) | (refine Exists.intro _ (And.intro (sload_all rfl (by rfl)) ?_); conv => whnf) | (refine Exists.intro _ (And.intro rfl ?_); conv => whnf) | (refine And.intro (by first | omega | (simp; done) | fail) ?_; conv => whnf) | (refine And.intro (Nat.le_of_ble_eq_true rfl) ?_; conv => whnf) | (refine And.intro ⟨rfl, Nat.le_of_ble_eq_true rfl⟩ ?_; conv => whnf) | fail)
 refine ok1_callF [] [] true (f85x _ _ _ _ _) rfl rfl ⟨⟨rfl, by rfl⟩, trivial, by rfl, by first | simp [plainRf, plainR, plainT, plainW], ?_⟩
 conv => whnf
 repeat (first | (refine Exists.intro _ (And.intro (sload_all rfl (by first | rfl | (simp [hcl]; done) | fail)) ?_); conv => whnf) | (refine Exists.intro _ (And.intro (sput_all rfl (by first | rfl | (simp [hcl]; done) | fail)) ?_); conv => whnf) | (refine And.intro ⟨by first | (simp [hcl]; done) | fail, by first | (simp [hcl]; done) | fail⟩ ?_; conv => whnf) | fail)
 refine ⟨[], ?_, rfl, rfl, ?_, rfl⟩
 ·
  (repeat' (first | (refine wk_agg ?_) | fail)) <;> first | exact ren_eq (by first | (simp; done) | fail) (by rfl) | fail
 ·
  (repeat' (first | exact trivial | fail)) <;> fail
theorem m32_n (x : UInt64) : (x &&& 4294967295).toNat = x.toNat % 4294967296 := by
 rw [UInt64.toNat_and]
 exact Nat.and_two_pow_sub_one_eq_mod x.toNat 32
theorem mul64_eq (a b : UInt64) : shr64 a 32 * shr64 b 32 + shr64 (shr64 a 32 * (b &&& 4294967295) + shr64 ((a &&& 4294967295) * (b &&& 4294967295)) 32) 32 + shr64 ((shr64 a 32 * (b &&& 4294967295) + shr64 ((a &&& 4294967295) * (b &&& 4294967295)) 32 &&& 4294967295) + (a &&& 4294967295) * shr64 b 32) 32 = mhi a b := by
 have ha := UInt64.toNat_lt a
 have hb := UInt64.toNat_lt b
 have a1 := shr_n a 32 (by decide)
 have a0 := m32_n a
 have b1 := shr_n b 32 (by decide)
 have b0 := m32_n b
 have eA : a.toNat = a.toNat / 4294967296 * 4294967296 + a.toNat % 4294967296 := by omega
 have eB : b.toNat = b.toNat / 4294967296 * 4294967296 + b.toNat % 4294967296 := by omega
 rw [show (2 : Nat) ^ 32 = 4294967296 from rfl] at a1 b1
 have lA : a.toNat / 4294967296 ≤ 4294967295 := by omega
 have lB : b.toNat / 4294967296 ≤ 4294967295 := by omega
 have kA : a.toNat % 4294967296 ≤ 4294967295 := by omega
 have kB : b.toNat % 4294967296 ≤ 4294967295 := by omega
 apply UInt64.toNat_inj.mp
 rw [mhi_n]
 generalize shr64 a 32 = A1 at *
 generalize a &&& 4294967295 = A0 at *
 generalize shr64 b 32 = B1 at *
 generalize b &&& 4294967295 = B0 at *
 generalize a.toNat / 4294967296 = x1 at *
 generalize a.toNat % 4294967296 = x0 at *
 generalize b.toNat / 4294967296 = y1 at *
 generalize b.toNat % 4294967296 = y0 at *
 have p11 : x1 * y1 ≤ 4294967295 * 4294967295 := Nat.mul_le_mul lA lB
 have p10 : x1 * y0 ≤ 4294967295 * 4294967295 := Nat.mul_le_mul lA kB
 have p01 : x0 * y1 ≤ 4294967295 * 4294967295 := Nat.mul_le_mul kA lB
 have p00 : x0 * y0 ≤ 4294967295 * 4294967295 := Nat.mul_le_mul kA kB
 have n11 := mul_n A1 B1 (by rw [a1, b1]; omega)
 have n10 := mul_n A1 B0 (by rw [a1, b0]; omega)
 have n01 := mul_n A0 B1 (by rw [a0, b1]; omega)
 have n00 := mul_n A0 B0 (by rw [a0, b0]; omega)
 rw [a1, b1] at n11
 rw [a1, b0] at n10
 rw [a0, b1] at n01
 rw [a0, b0] at n00
 have s0 := shr_n (A0 * B0) 32 (by decide)
 rw [show (2 : Nat) ^ 32 = 4294967296 from rfl, n00] at s0
 have nt := add_n (A1 * B0) (shr64 (A0 * B0) 32) (by rw [n10, s0]; omega)
 rw [n10, s0] at nt
 generalize A1 * B0 + shr64 (A0 * B0) 32 = t at *
 have st := shr_n t 32 (by decide)
 have mt := m32_n t
 rw [show (2 : Nat) ^ 32 = 4294967296 from rfl, nt] at st
 rw [nt] at mt
 have nw := add_n (t &&& 4294967295) (A0 * B1) (by rw [mt, n01]; omega)
 rw [mt, n01] at nw
 generalize (t &&& 4294967295) + A0 * B1 = w at *
 have sw := shr_n w 32 (by decide)
 rw [show (2 : Nat) ^ 32 = 4294967296 from rfl, nw] at sw
 have prod : a.toNat * b.toNat = x1 * y1 * 18446744073709551616 + (x1 * y0 + x0 * y1) * 4294967296 + x0 * y0 := by rw [eA, eB]; grind
 rw [prod]
 have r1 := add_n (A1 * B1) (shr64 t 32) (by rw [n11, st]; omega)
 rw [n11, st] at r1
 rw [add_n _ _ (by rw [r1, sw]; omega), r1, sw]
 generalize x1 * y1 = P at *
 generalize x1 * y0 = Q at *
 generalize x0 * y1 = U at *
 generalize x0 * y0 = V at *
 omega
theorem f86 (a b : UInt64) : SCall Tryz.prog 68 [.u64 a, .u64 b] [] (.tup [.u64 (mhi a b), .u64 (a * b)]) [] := by
 have hm := mul64_eq a b
 refine scall_of ttOk (by kernel_rfl : Tryz.prog.funcs[68]? = some Tryz.f68) rfl rfl rfl ?_
 try simp only [List.length_cons, List.length_nil, Nat.zero_add, Nat.reduceAdd]
 refine sw_ok ttOk mixed (by kernel_rfl) ?_
 conv => whnf
 refine ⟨[], ?_, rfl, rfl, ?_, rfl⟩
 ·
  (repeat' (first | (refine wk_tup ?_) | (refine wk_cons ?_ ?_))) <;> first | exact wk_u64 (by first | exact hm | exact hm.symm | fail) | rfl | fail
 ·
  (repeat' (first | exact trivial | fail)) <;> fail
theorem add0 {o : Oper} {R : RL} {H : HL} {L : Nat} {k : K1} {args : Array Operand} {tys : Array TypeId} (a b : UInt64) (ho : o.op = .call ⟨.value (.func 69), args, tys⟩) (hargs : evs R args.toList = some [.u64 a, .u64 b, .u64 0])
  (h : k (some (.tup [.u64 (a + b), .u64 (cy a b)])) [] [] L) : Ok1 Tryz.prog o R H L k :=
 ok1_add64 Tryz.f69 a b 0 (a + b) (cy a b) (by kernel_rfl) (by kernel_rfl) (by kernel_rfl) (by kernel_rfl) (by kernel_rfl) ho rfl hargs (by decide) (by rw [UInt64.toNat_add]; rfl) (by rw [cy_n]; rfl) h
theorem addc {o : Oper} {R : RL} {H : HL} {L : Nat} {k : K1} {args : Array Operand} {tys : Array TypeId} (a b u v : UInt64) (ho : o.op = .call ⟨.value (.func 69), args, tys⟩) (hargs : evs R args.toList = some [.u64 a, .u64 b, .u64 (cy u v)])
  (h : ∀ z, k (some (.tup [.u64 (a + b + cy u v), .u64 z])) [] [] L) : Ok1 Tryz.prog o R H L k := by
 have h1 := UInt64.toNat_lt a
 have h2 := UInt64.toNat_lt b
 have h3 := UInt64.toNat_lt u
 have h4 := UInt64.toNat_lt v
 have hc : (cy u v).toNat ≤ 1 := by rw [cy_n]; omega
 refine ok1_add64 Tryz.f69 a b (cy u v) (a + b + cy u v) (UInt64.ofNat ((a.toNat + b.toNat + (cy u v).toNat) / 18446744073709551616)) (by kernel_rfl) (by kernel_rfl) (by kernel_rfl) (by kernel_rfl) (by kernel_rfl) ho rfl hargs hc ?_ ?_ (h _)
 ·
  rw [UInt64.toNat_add, UInt64.toNat_add]
  show ((a.toNat + b.toNat) % 18446744073709551616 + _) % 18446744073709551616 = _
  omega
 ·
  rw [UInt64.toNat_ofNat', Nat.mod_eq_of_lt]; omega
end Go.Sh
namespace Go.Sh
open Go.Proofs
set_option maxHeartbeats 8000000
def wI (b : List UInt8) (i : Nat) : List UInt64 := (List.range 4).map fun k => wW b k (min 8 (i - 8 * k))
theorem wI_len (b : List UInt8) (i : Nat) : (wI b i).length = 4 := rng_len
theorem wI_0 (b : List UInt8) : wI b 0 = List.replicate 4 0 := rfl
theorem wI_32 (b : List UInt8) : wI b 32 = [wW b 0 8, wW b 1 8, wW b 2 8, wW b 3 8] := rfl
theorem wI_s (b : List UInt8) (i : Nat) (h : i < 32) : (wI b i).set (i / 8) ((wI b i).getD (i / 8) 0 ||| shl64 (b.getD i 0).toUInt64 (8 * (i % 8))) = wI b (i + 1) := by
 unfold wI
 rw [rng_getD (by omega)]
 apply List.ext_getElem?
 intro k
 rw [List.getElem?_set]
 by_cases hk : k < 4
 ·
  rw [List.getElem?_map, List.getElem?_range hk, List.getElem?_map, List.getElem?_range hk]
  simp only [Option.map_some, List.length_map, List.length_range]
  by_cases he : i / 8 = k
  ·
   subst he
   rw [if_pos rfl, if_pos (by omega)]
   have e1 : min 8 (i - 8 * (i / 8)) = i % 8 := by omega
   have e2 : min 8 (i + 1 - 8 * (i / 8)) = i % 8 + 1 := by omega
   rw [e1, e2]
   show some (wW b (i / 8) (i % 8) ||| _) = some (wW b (i / 8) (i % 8) ||| shl64 (b.getD (8 * (i / 8) + i % 8) 0).toUInt64 (8 * (i % 8)))
   rw [show 8 * (i / 8) + i % 8 = i by omega]
  ·
   rw [if_neg he]
   congr 2
   omega
 ·
  have h1 : ((List.range 4).map fun k => wW b k (min 8 (i - 8 * k))).length = 4 := rng_len
  have h2 : ((List.range 4).map fun k => wW b k (min 8 (i + 1 - 8 * k))).length = 4 := rng_len
  rw [if_neg (by omega), List.getElem?_eq_none (by omega), List.getElem?_eq_none (by omega)]
theorem t32 (i : Nat) (h : i < 32) : w64 ((i : Int).tdiv 8) = ((i / 8 : Nat) : Int) ∧ w64 (8 * (i : Int).tmod 8) = ((8 * (i % 8) : Nat) : Int) := by
 have : ∀ i : Nat, i < 32 → w64 ((i : Int).tdiv 8) = ((i / 8 : Nat) : Int) ∧ w64 (8 * (i : Int).tmod 8) = ((8 * (i % 8) : Nat) : Int) := by decide +kernel
 exact this i h
theorem cMf : UInt64.ofNat (Int.toNat 2251799813685247) = 2251799813685247 := by decide
theorem f21 (b : List UInt8) (hb : b.length = 32) : SCall Tryz.prog 50 [.agg (b.map .u8)] [] (.agg ((ofB b).map .u64)) [] := by
 refine scall_of ttOk (by kernel_rfl : Tryz.prog.funcs[50]? = some Tryz.f50) rfl rfl rfl ?_
 try simp only [List.length_cons, List.length_nil, Nat.zero_add, Nat.reduceAdd]
 refine sw_ok ttOk mixed (by kernel_rfl) ?_
 conv => whnf
 repeat (first | (refine Exists.intro _ (And.intro (sload_all rfl (by first | rfl | (simp [hb]; done) | fail)) ?_); conv => whnf) | fail)
 refine loop_rule ttOk mixed (by kernel_rfl) (ι := { i : Nat // i ≤ 32 }) (fun i => [(1, .p 0 0), (2, .p 1 0), (3, .p 2 0), (6, .agg (b.map .u8)), (7, .i (i.1 : Int))]) (fun i => [some (.box (b.map .u8)), some (.box (List.replicate 5 (.u64 0))), some (.box ((wI b i.1).map .u64))]) (fun _ => 3) (fun i => 32 - i.1) ⟨0, by omega⟩ ?_ ?_
 ·
  have hz := wI_0 b
  dsimp only
  rw [hz]
  refine Weak.sel [0, 1, 2] rfl rfl ?_ ?_ rfl rfl
  ·
   (repeat' (first | exact trivial | refine And.intro ?_ ?_ | (refine wk_agg ?_) | fail)) <;> first | rfl | exact ren_eq (by first | (simp; done) | fail) (by rfl) | fail
  ·
   (repeat' (first | exact trivial | exact ren_z64 | refine And.intro ?_ ?_ | (refine wk_cons ?_ ?_))) <;> first | rfl | exact ren_eq (by first | (simp; done) | fail) (by rfl) | fail
 ·
  rintro ⟨i, hi⟩
  dsimp only
  by_cases hi2 : i < 32
  ·
   have hlt : decide ((i : Int) < 32) = true := by simp; omega
   have hp1 : w64 ((i : Int) + 1) = ((i + 1 : Nat) : Int) := by simp only [w64_eq]; omega
   obtain ⟨hd, hm⟩ := t32 i hi2
   have hwl := wI_len b i
   have hst := wI_s b i hi2
   conv => whnf
   first | refine brT (by exact hlt) ?_ | fail
   conv => whnf
   repeat (first | (refine Exists.intro _ (And.intro (sload_u8 (i := i) (by first | rfl | (simp; done) | fail) (by omega)) ?_); conv => whnf) | (refine Exists.intro _ (And.intro (idx_i (m := i) (by rfl)) ?_); conv => whnf) | (refine Exists.intro _ (And.intro (sput_m64 (i := i / 8) (by first | rfl | (simp; done) | fail)) ?_); conv => whnf) | (refine Exists.intro _ (And.intro (sload_u64 (i := i / 8) (by first | rfl | (simp; done) | fail) (by omega)) ?_); conv => whnf) | (refine Exists.intro _ (And.intro (idx_i (m := i / 8) (by first | rfl | omega | fail)) ?_); conv => whnf) | (refine Exists.intro _ (And.intro (shl_i64 (m := 8 * (i % 8)) (by first | rfl | omega | fail)) ?_); conv => whnf) | (refine Exists.intro _ (And.intro rfl ?_); conv => whnf) | (refine And.intro (by first | omega | (simp; omega) | fail) ?_; conv => whnf) | (refine And.intro (by kernel_rfl) ?_; conv => whnf) | fail)
   refine ⟨⟨i + 1, by omega⟩, by simp only; omega, ?_⟩
   refine Weak.sel [0, 1, 2] rfl rfl ?_ ?_ rfl rfl
   ·
    (repeat' (first | exact trivial | refine And.intro ?_ ?_ | (refine wk_agg ?_) | fail)) <;> first | exact wk_i (by first | exact hp1 | exact hp1.symm | fail) | rfl | exact ren_eq (by first | (simp; done) | fail) (by rfl) | fail
   ·
    (repeat' (first | exact trivial | refine And.intro ?_ ?_ | (refine wk_cons ?_ ?_))) <;> first | rfl | exact ren_eq (by first | rfl | (simp; done) | fail) (by rfl) | exact ren_m64 (by exact hst.symm) | fail
  ·
   obtain rfl : i = 32 := by omega
   rw [wI_32]
   obtain ⟨w0, h0⟩ : ∃ w, w = wW b 0 8 := ⟨_, rfl⟩
   obtain ⟨w1, h1⟩ : ∃ w, w = wW b 1 8 := ⟨_, rfl⟩
   obtain ⟨w2, h2⟩ : ∃ w, w = wW b 2 8 := ⟨_, rfl⟩
   obtain ⟨w3, h3⟩ : ∃ w, w = wW b 3 8 := ⟨_, rfl⟩
   have ho : ofB b = [w0 &&& UInt64.ofNat (Int.toNat 2251799813685247), (shr64 w0 51 ||| shl64 w1 13) &&& UInt64.ofNat (Int.toNat 2251799813685247), (shr64 w1 38 ||| shl64 w2 26) &&& UInt64.ofNat (Int.toNat 2251799813685247), (shr64 w2 25 ||| shl64 w3 39) &&& UInt64.ofNat (Int.toNat 2251799813685247), shr64 w3 12 &&& UInt64.ofNat (Int.toNat 2251799813685247)] := by
    rw [cMf, h0, h1, h2, h3]; rfl
   rw [← h0, ← h1, ← h2, ← h3, ho]
   conv => whnf
   first | refine brF (by rfl) ?_ | fail
   conv => whnf
   repeat (first | (refine Exists.intro _ (And.intro (sload_all rfl (by rfl)) ?_); conv => whnf) | (refine Exists.intro _ (And.intro (sput_all rfl (by rfl)) ?_); conv => whnf) | (refine Exists.intro _ (And.intro rfl ?_); conv => whnf) | (refine And.intro (by first | omega | (simp; done) | fail) ?_; conv => whnf) | fail)
   refine ⟨[], ?_, rfl, rfl, ?_, rfl⟩
   ·
    (repeat' (first | (refine wk_agg ?_) | (refine wk_cons ?_ ?_))) <;> first | rfl | fail
   ·
    (repeat' (first | exact trivial | fail)) <;> fail
end Go.Sh
namespace Go.Sh
open Go.Proofs
set_option maxHeartbeats 8000000
def qC (m : List UInt64) : UInt64 := shr64 (m.getD 4 0 + shr64 (m.getD 3 0 + shr64 (m.getD 2 0 + shr64 (m.getD 1 0 + shr64 (m.getD 0 0 + UInt64.ofNat (Int.toNat 19)) 51) 51) 51) 51) 51
def rC (m : List UInt64) : Nat → UInt64
 | 0 => m.getD 0 0 + UInt64.ofNat (Int.toNat 19) * qC m
 | i + 1 => m.getD (i + 1) 0 + shr64 (rC m i) 51
def sC (m : List UInt64) (i : Nat) : UInt64 := rC m i &&& UInt64.ofNat (Int.toNat 2251799813685247)
def w4C (m : List UInt64) : List UInt64 := [sC m 0 ||| shl64 (sC m 1) 51, shr64 (sC m 1) 13 ||| shl64 (sC m 2) 38, shr64 (sC m 2) 26 ||| shl64 (sC m 3) 25, shr64 (sC m 3) 39 ||| shl64 (sC m 4) 12]
theorem c19f : UInt64.ofNat (Int.toNat 19) = 19 := by decide
theorem qC_eq (m : List UInt64) : qC m = qB m := by unfold qC qB; rw [c19f]
theorem rC_eq (m : List UInt64) : ∀ i, rC m i = rB m i
 | 0 => by unfold rC rB; rw [c19f, qC_eq]
 | i + 1 => by unfold rC rB; rw [rC_eq m i]
theorem w4C_eq (m : List UInt64) : w4C m = w4 m := by
 unfold w4C w4 sC sB
 rw [cMf, rC_eq, rC_eq, rC_eq, rC_eq, rC_eq]
def byF (m : List UInt64) (j : Nat) : UInt8 := (shr64 ((w4C m).getD (j / 8) 0) (8 * (j % 8))).toUInt8
theorem byF_all (m : List UInt64) : (List.range 32).map (byF m) = byB m := by unfold byB byF; rw [w4C_eq]
theorem bytes_of {x : List UInt64} (h : Nm x) : ∃ m0 m1 m2 m3 m4, carL x = [m0, m1, m2, m3, m4] ∧ byB [m0, m1, m2, m3, m4] = le32 (nr x) := by
 have hb : ∀ y ∈ x, y.toNat < 9223372036854775808 := fun y hy => Nat.lt_trans (h.2 y hy) (by decide)
 obtain ⟨k0, k1, k2, k3, k4, e, b0, b1, b2, b3, b4⟩ := carL_tight h.1 hb
 refine ⟨k0, k1, k2, k3, k4, e, ?_⟩
 rw [byB_val b0 b1 b2 b3 b4, ← e]
 congr 1
 exact (carL_ok h.1 hb).2
theorem w4C_len (m : List UInt64) : (w4C m).length = 4 := rfl
theorem f25 {x : List UInt64} (hx : Nm x) : SCall Tryz.prog 31 [.agg (x.map .u64)] [] (.agg ((le32 (nr x)).map .u8)) [] := by
 obtain ⟨m0, m1, m2, m3, m4, e, hb⟩ := bytes_of hx
 have h85 := f85 x hx.1
 rw [e] at h85
 rw [← hb]
 obtain ⟨x0, x1, x2, x3, x4, rfl⟩ := ex5 hx.1
 refine scall_of ttOk (by kernel_rfl : Tryz.prog.funcs[31]? = some Tryz.f31) rfl rfl rfl ?_
 try simp only [List.length_cons, List.length_nil, Nat.zero_add, Nat.reduceAdd]
 refine sw_ok ttOk mixed (by kernel_rfl) ?_
 conv => whnf
 repeat (first | (refine Exists.intro _ (And.intro (sload_all rfl (by rfl)) ?_); conv => whnf) | fail)
 refine ok1_callF [] [] true (h85) rfl rfl ⟨⟨rfl, by rfl⟩, trivial, by rfl, by rfl, ?_⟩
 conv => whnf
 repeat (first | (refine Exists.intro _ (And.intro (sload_all rfl (by rfl)) ?_); conv => whnf) | (refine Exists.intro _ (And.intro (sput_all rfl (by rfl)) ?_); conv => whnf) | (refine Exists.intro _ (And.intro rfl ?_); conv => whnf) | (refine And.intro (by first | omega | (simp; done) | fail) ?_; conv => whnf) | fail)
 refine loop_rounds ttOk mixed (by kernel_rfl) 5 ?_
 conv => whnf
 repeat (first | (refine brT rfl ?_; conv => whnf) | (refine brF rfl ?_; conv => whnf) | (refine Exists.intro _ (And.intro rfl ?_); conv => whnf) | (refine And.intro (by first | omega | (simp; done) | fail) ?_; conv => whnf) | (refine And.intro (Nat.le_of_ble_eq_true rfl) ?_; conv => whnf) | fail)
 refine loop_rounds ttOk mixed (by kernel_rfl) 5 ?_
 conv => whnf
 repeat (first | (refine brT rfl ?_; conv => whnf) | (refine brF rfl ?_; conv => whnf) | (refine Exists.intro _ (And.intro (sput_all rfl (by rfl)) ?_); conv => whnf) | (refine Exists.intro _ (And.intro rfl ?_); conv => whnf) | (refine And.intro (by first | omega | (simp; done) | fail) ?_; conv => whnf) | (refine And.intro (Nat.le_of_ble_eq_true rfl) ?_; conv => whnf) | (refine And.intro ⟨rfl, Nat.le_of_ble_eq_true rfl⟩ ?_; conv => whnf) | (refine And.intro (by kernel_rfl) ?_; conv => whnf) | fail)
 obtain ⟨m, hm⟩ : ∃ m, m = [m0, m1, m2, m3, m4] := ⟨_, rfl⟩
 refine loop_rule ttOk mixed (by kernel_rfl) (ι := { j : Nat // j ≤ 32 }) (fun j => [(2, .p 1 0), (8, .p 3 0), (9, .p 4 0), (87, .i (j.1 : Int))]) (fun j => [none, some (.box (List.replicate 32 (.u8 0))), none, some (.box ((w4C m).map .u64)), some (.box ((fil 32 j.1 (byF m) (fun _ => 0)).map .u8))]) (fun _ => 5) (fun j => 32 - j.1) ⟨0, by omega⟩ ?_ ?_
 ·
  have hz : fil 32 0 (byF m) (fun _ => 0) = List.replicate 32 0 := fil_zero ..
  dsimp only
  rw [hz, hm]
  refine Weak.sel [0, 1, 2, 3, 4] rfl rfl ?_ ?_ rfl rfl
  ·
   (repeat' (first | exact trivial | refine And.intro ?_ ?_ | fail)) <;> first | rfl | fail
  ·
   (repeat' (first | exact trivial | exact ren_z8 | refine And.intro ?_ ?_ | (refine wk_cons ?_ ?_))) <;> first | rfl | fail
 ·
  rintro ⟨j, hj⟩
  rw [← hm]
  have hfl := fil_len 32 j (byF m) (fun _ => (0 : UInt8))
  have hwl := w4C_len m
  dsimp only
  by_cases hj2 : j < 32
  ·
   have hlt : decide ((j : Int) < 32) = true := by simp; omega
   have hp1 : w64 ((j : Int) + 1) = ((j + 1 : Nat) : Int) := by simp only [w64_eq]; omega
   obtain ⟨hd, hmm⟩ := t32 j hj2
   have hx : (shr64 ((w4C m).getD (j / 8) 0) (8 * (j % 8))).toUInt8 = byF m j := rfl
   have hst := fil_setx (g := fun _ => (0 : UInt8)) hj2 hx
   conv => whnf
   first | refine brT (by exact hlt) ?_ | fail
   conv => whnf
   repeat (first | (refine Exists.intro _ (And.intro (sput_m8 (i := j) (by first | rfl | (simp; done) | fail)) ?_); conv => whnf) | (refine Exists.intro _ (And.intro (idx_i (m := j) (by rfl)) ?_); conv => whnf) | (refine Exists.intro _ (And.intro (sload_u64 (i := j / 8) (by first | rfl | (simp; done) | fail) (by omega)) ?_); conv => whnf) | (refine Exists.intro _ (And.intro (idx_i (m := j / 8) (by first | rfl | omega | fail)) ?_); conv => whnf) | (refine Exists.intro _ (And.intro (shr_i64 (m := 8 * (j % 8)) (by first | rfl | omega | fail)) ?_); conv => whnf) | (refine Exists.intro _ (And.intro rfl ?_); conv => whnf) | (refine And.intro (by first | omega | (simp; omega) | fail) ?_; conv => whnf) | fail)
   refine ⟨⟨j + 1, by omega⟩, by simp only; omega, ?_⟩
   refine Weak.sel [0, 1, 2, 3, 4] rfl rfl ?_ ?_ rfl rfl
   ·
    (repeat' (first | exact trivial | refine And.intro ?_ ?_ | fail)) <;> first | exact wk_i (by first | exact hp1 | exact hp1.symm | fail) | rfl | fail
   ·
    (repeat' (first | exact trivial | refine And.intro ?_ ?_ | (refine wk_cons ?_ ?_))) <;> first | exact ren_m8 (by first | exact hst | exact hst.symm | fail) | rfl | fail
  ·
   obtain rfl : j = 32 := by omega
   rw [fil_full, byF_all]
   have hbl : (byB m).length = 32 := rng_len
   conv => whnf
   first | refine brF (by rfl) ?_ | fail
   conv => whnf
   repeat (first | (refine Exists.intro _ (And.intro (sload_all rfl (by rfl)) ?_); conv => whnf) | (refine Exists.intro _ (And.intro (sput_all rfl (by rfl)) ?_); conv => whnf) | (refine And.intro (by first | omega | (simp; omega) | fail) ?_; conv => whnf) | fail)
   refine ⟨[], ?_, rfl, rfl, ?_, rfl⟩
   ·
    (repeat' (first | (refine wk_agg ?_) | (refine wk_cons ?_ ?_))) <;> first | rfl | fail
   ·
    (repeat' (first | exact trivial | fail)) <;> fail
end Go.Sh
