/- Equality of arrays and structs; appending to what may not grow; copy; strings and bytes. -/
import Derived.Test.YtaknbogocnkmnaaSh7
namespace Go.Sh
set_option linter.unusedSimpArgs false

/-- The kind of a cell that may be compared. -/
def kd : SV → Option Nat
  | .i _ => some 0
  | .u8 _ => some 1
  | .u16 _ => some 2
  | .u32 _ => some 3
  | .u64 _ => some 4
  | .b _ => some 5
  | .s _ => some 6
  | _ => none

def kdT : TypeDesc → Option Nat
  | .int .i64 => some 0
  | .int .u8 => some 1
  | .int .u16 => some 2
  | .int .u32 => some 3
  | .int .u64 => some 4
  | .bool => some 5
  | .string => some 6
  | _ => none

def eqc : SV → SV → Bool
  | .i a, .i c => a == c
  | .u8 a, .u8 c => a == c
  | .u16 a, .u16 c => a == c
  | .u32 a, .u32 c => a == c
  | .u64 a, .u64 c => a == c
  | .b a, .b c => a == c
  | .s a, .s c => a == c
  | _, _ => false

def eqcs : List SV → List SV → Bool
  | [], [] => true
  | x :: xs, y :: ys => eqc x y && eqcs xs ys
  | _, _ => false

mutual
/-- The kinds of a type's cells, where there is nothing but numbers, truths, texts. -/
def kinds (P : Program) : Nat → TypeId → Option (List Nat)
  | 0, _ => none
  | d + 1, t =>
    match P.underlying t with
    | some (.struct fs) => if P.stoodInHeld t then none else (kindsF P d 0 fs.toList).bind fun ks => if psz P t = some ks.length then some ks else none
    | some (.array n e) => (kinds P d e).bind fun ks => if psz P t = some (n * ks.length) then some (List.replicate n ks).flatten else none
    | some ds => (kdT ds).bind fun k => if psz P t = some 1 then some [k] else none
    | none => none
def kindsF (P : Program) : Nat → Nat → List Field → Option (List Nat)
  | _, _, [] => some []
  | 0, _, _ :: _ => none
  | d + 1, off, f :: fs =>
    if f.name ≠ "_" ∧ f.offset = off then (kinds P d f.type).bind fun ks => (kindsF P d (off + ks.length) fs).map (ks ++ ·) else none
end

def isRow (P : Program) (t : TypeId) : Bool := match P.underlying t with | some (.struct _) => true | some (.array _ _) => true | _ => false

def wrapV (P : Program) (t : TypeId) (vs : List Value) : Value := if isRow P t then .agg ⟨vs⟩ else vs.headD undef

section
variable {P : Program} {ρ ρ' : Ren} {H : Heap} {w w' : World}

theorem kinds_size {d : Nat} {t : TypeId} {ks : List Nat} (h : kinds P d t = some ks) : psz P t = some ks.length := by
  cases d with
  | zero => simp [kinds] at h
  | succ d =>
    simp only [kinds] at h
    split at h
    · split at h
      · cases h
      · obtain ⟨ks', _, h2⟩ := Option.bind_eq_some_iff.1 h
        split at h2
        · cases h2; assumption
        · cases h2
    · obtain ⟨ks', _, h2⟩ := Option.bind_eq_some_iff.1 h
      split at h2
      · cases h2; simpa using ‹_›
      · cases h2
    · obtain ⟨k, _, h2⟩ := Option.bind_eq_some_iff.1 h
      split at h2
      · cases h2; simpa using ‹_›
      · cases h2
    · cases h

theorem kinds_agg {d : Nat} {t : TypeId} {ks : List Nat} (h : kinds P d t = some ks) : pagg P t = some (isRow P t) := by
  cases d with
  | zero => simp [kinds] at h
  | succ d =>
    simp only [kinds] at h
    unfold pagg isRow
    cases hu : P.underlying t with
    | none => rw [hu] at h; cases h
    | some ds => cases ds <;> rfl

theorem run_part {d off : Nat} {t : TypeId} {ks : List Nat} {vs : List Value} (h : kinds P d t = some ks) (hk : 0 < ks.length ∨ isRow P t = true) (hin : off + ks.length ≤ vs.length) :
    (part t ⟨vs⟩ off).run P w = .ok (wrapV P t ((vs.drop off).take ks.length)) w := by
  unfold part wrapV
  rw [Sem.run_bind, run_agg (kinds_agg h), Result.andThen_ok]
  by_cases hr : isRow P t = true
  · simp only [hr, if_true, Sem.run_bind, run_size (kinds_size h), Result.andThen_ok, Sem.run_pure]
    congr 2
    apply Array.toList_inj.1
    simp [List.extract_eq_take_drop]
  · have h0 : 0 < ks.length := hk.resolve_right hr
    simp only [hr, Bool.false_eq_true, if_false]
    have hl : off < vs.length := by omega
    have : (⟨vs⟩ : Array Value)[off]? = some vs[off] := by simp [hl]
    rw [this]
    have e : ((vs.drop off).take ks.length).headD undef = vs[off] := by
      rw [List.headD_eq_head?_getD, List.head?_take, if_neg (by omega), List.head?_drop, List.getElem?_eq_getElem hl]; rfl
    rw [e]; rfl

theorem kd_atom {x : SV} {k : Nat} (h : kd x = some k) : x.atom = true := by cases x <;> first | rfl | (simp [kd] at h)

theorem run_eq_atom {d k : Nat} {t : TypeId} {ds : TypeDesc} {x y : SV} {v u : Value} (hu : P.underlying t = some ds) (hk : kdT ds = some k) (hx : kd x = some k) (hy : kd y = some k) (hv : Rel ρ x v) (huv : Rel ρ y u) :
    (Op.equalIn (d + 1) t v u).run P w = .ok (eqc x y) w := by
  cases ds <;> simp only [kdT] at hk <;> (try (cases hk; done))
  · cases hk
    cases x <;> simp only [kd] at hx <;> (try (cases hx; done))
    cases y <;> simp only [kd] at hy <;> (try (cases hy; done))
    simp only [Rel] at hv huv; subst hv; subst huv
    rw [run_equalIn_bool' w d t _ _ hu]; rfl
  · rename_i ik
    cases ik <;> simp only at hk <;> (try (cases hk; done)) <;> cases hk <;>
      (cases x <;> simp only [kd] at hx <;> (try (cases hx; done))) <;> (cases y <;> simp only [kd] at hy <;> (try (cases hy; done))) <;>
      simp only [Rel] at hv huv <;> subst hv <;> subst huv <;> rw [run_equalIn_int w d t _ _ _ _ hu] <;> congr 1 <;> simp only [eqc]
    · rename_i a c; rw [Bool.eq_iff_iff]; simp [← UInt8.toNat_inj]; omega
    · rename_i a c; rw [Bool.eq_iff_iff]; simp [← UInt16.toNat_inj]; omega
    · rename_i a c; rw [Bool.eq_iff_iff]; simp [← UInt32.toNat_inj]; omega
    · rename_i a c; rw [Bool.eq_iff_iff]; simp [← UInt64.toNat_inj]; omega
  · cases hk
    cases x <;> simp only [kd] at hx <;> (try (cases hx; done))
    cases y <;> simp only [kd] at hy <;> (try (cases hy; done))
    simp only [Rel] at hv huv; subst hv; subst huv
    rw [run_equalIn_string w d t _ _ hu, byteArray_toList, byteArray_toList]; rfl

theorem eqcs_append : ∀ {a b c d : List SV}, a.length = c.length → eqcs (a ++ b) (c ++ d) = (eqcs a c && eqcs b d)
  | [], b, [], d, _ => by simp [eqcs]
  | x :: a, b, y :: c, d, h => by
    simp only [List.cons_append, eqcs]
    rw [eqcs_append (by simpa using h), Bool.and_assoc]
  | [], _, _ :: _, _, h => by simp at h
  | _ :: _, _, [], _, h => by simp at h

def EqOk (P : Program) (ρ : Ren) (d : Nat) (t : TypeId) : Prop :=
  ∀ (w : World) (ks : List Nat) (xs ys : List SV) (vs us : List Value), kinds P d t = some ks → xs.map kd = ks.map some → ys.map kd = ks.map some → Rels ρ xs vs → Rels ρ ys us → ∀ m, d ≤ m →
    (Op.equalIn m t (wrapV P t vs) (wrapV P t us)).run P w = .ok (eqcs xs ys) w

theorem map_len {xs : List SV} {ks : List Nat} (h : xs.map kd = ks.map some) : xs.length = ks.length := by
  have := congrArg List.length h; simpa using this

theorem split_kinds {xs : List SV} {a b : List Nat} (h : xs.map kd = (a ++ b).map some) : (xs.take a.length).map kd = a.map some ∧ (xs.drop a.length).map kd = b.map some := by
  rw [List.map_append] at h
  constructor
  · rw [List.map_take, h]
    exact List.take_left' (by simp)
  · rw [List.map_drop, h]
    exact List.drop_left' (by simp)

theorem eq_fields (m : Nat) (vs us : List Value) : ∀ (fs : List Field) (d off : Nat) (ks : List Nat) (xs ys : List SV), (∀ e < d, ∀ t, EqOk P ρ e t) → d ≤ m → kindsF P d off fs = some ks → xs.map kd = ks.map some → ys.map kd = ks.map some →
    off + ks.length ≤ vs.length → off + ks.length ≤ us.length → Rels ρ xs ((vs.drop off).take ks.length) → Rels ρ ys ((us.drop off).take ks.length) →
    (Op.eqFields m ⟨vs⟩ ⟨us⟩ fs).run P w = .ok (eqcs xs ys) w
  | [], d, off, ks, xs, ys, _, _, h, hx, hy, _, _, _, _ => by
    cases d <;> simp only [kindsF, Option.some.injEq] at h <;> subst h <;> simp at hx hy <;> subst hx <;> subst hy <;> rfl
  | f :: fs, 0, off, ks, xs, ys, _, _, h, hx, hy, _, _, _, _ => by simp [kindsF] at h
  | f :: fs, d + 1, off, ks, xs, ys, ih, hd, h, hx, hy, hv, hu, hrx, hry => by
    simp only [kindsF] at h
    split at h
    · rename_i hf
      obtain ⟨k1, hk1, h2⟩ := Option.bind_eq_some_iff.1 h
      obtain ⟨k2, hk2, rfl⟩ := Option.map_eq_some_iff.1 h2
      obtain ⟨hx1, hx2⟩ := split_kinds hx
      obtain ⟨hy1, hy2⟩ := split_kinds hy
      simp only [List.length_append] at hv hu hrx hry
      have hlx := map_len hx
      have hly := map_len hy
      simp only [List.length_append] at hlx hly
      have r1 := hrx.take k1.length
      have r2 := hrx.drop k1.length
      have r3 := hry.take k1.length
      have r4 := hry.drop k1.length
      rw [List.take_take, Nat.min_eq_left (by omega)] at r1 r3
      rw [List.drop_take, List.drop_drop, Nat.add_sub_cancel_left] at r2 r4
      have hpos : 0 < k1.length ∨ isRow P f.type = true := by
        by_cases h0 : 0 < k1.length
        · exact .inl h0
        · right
          cases d with
          | zero => simp [kinds] at hk1
          | succ d =>
            simp only [kinds] at hk1
            unfold isRow
            split at hk1 <;> rename_i hue
            · rw [hue]
            · rw [hue]
            · obtain ⟨k, _, h3⟩ := Option.bind_eq_some_iff.1 hk1
              split at h3
              · cases h3; simp at h0
              · cases h3
            · cases hk1
      have e1 := run_part (P := P) (w := w) (off := off) (vs := vs) hk1 hpos (by omega)
      have e2 := run_part (P := P) (w := w) (off := off) (vs := us) hk1 hpos (by omega)
      have e3 := ih d (by omega) f.type w k1 (xs.take k1.length) (ys.take k1.length) _ _ hk1 hx1 hy1 r1 r3 m (by omega)
      have e4 := eq_fields m vs us fs d (off + k1.length) k2 (xs.drop k1.length) (ys.drop k1.length) (fun e he => ih e (by omega)) (by omega) hk2 hx2 hy2 (by omega) (by omega) r2 r4
      simp only [Op.eqFields, hf.1, ne_eq, not_false_eq_true, if_true, hf.2, Sem.run_bind, e1, e2, e3, Result.andThen_ok]
      have hsplit : eqcs xs ys = (eqcs (xs.take k1.length) (ys.take k1.length) && eqcs (xs.drop k1.length) (ys.drop k1.length)) := by
        rw [← eqcs_append (by simp; omega), List.take_append_drop, List.take_append_drop]
      rw [hsplit]
      cases hb : eqcs (xs.take k1.length) (ys.take k1.length)
      · simp
      · simp only [Bool.not_true, Bool.false_eq_true, if_false, Bool.true_and, e4]
    · cases h


theorem eq_loop (m : Nat) (e : TypeId) (vs us : List Value) (d : Nat) (ks : List Nat) (ih : EqOk P ρ d e) (hd : d ≤ m) (hk : kinds P d e = some ks) (hpos : 0 < ks.length ∨ isRow P e = true) :
    ∀ (n s : Nat) (xs ys : List SV), xs.map kd = ((List.replicate n ks).flatten).map some → ys.map kd = ((List.replicate n ks).flatten).map some →
      (s + n) * ks.length ≤ vs.length → (s + n) * ks.length ≤ us.length → Rels ρ xs ((vs.drop (s * ks.length)).take (n * ks.length)) → Rels ρ ys ((us.drop (s * ks.length)).take (n * ks.length)) →
      ((forIn (List.range' s n) (none, ()) fun i (_ : Option Bool × Unit) => do
          if (!(← Op.equalIn m e (← part e ⟨vs⟩ (i * ks.length)) (← part e ⟨us⟩ (i * ks.length)))) = true then pure (ForInStep.done (some false, ())) else pure (ForInStep.yield (none, ())) : Sem (Option Bool × Unit)).run P w
        = .ok (if eqcs xs ys then (none, ()) else (some false, ())) w)
  | 0, s, xs, ys, hx, hy, _, _, _, _ => by
    simp at hx hy; subst hx; subst hy; rfl
  | n + 1, s, xs, ys, hx, hy, hv, hu, hrx, hry => by
    rw [List.replicate_succ, List.flatten_cons] at hx hy
    obtain ⟨hx1, hx2⟩ := split_kinds hx
    obtain ⟨hy1, hy2⟩ := split_kinds hy
    have hlx := map_len hx
    have hly := map_len hy
    simp only [List.length_append] at hlx hly
    have hm1 : (s + (n + 1)) * ks.length = s * ks.length + ks.length + n * ks.length := by rw [Nat.add_mul, Nat.add_mul]; omega
    have hm2 : (n + 1) * ks.length = ks.length + n * ks.length := by rw [Nat.add_mul]; omega
    have hm3 : (s + 1) * ks.length = s * ks.length + ks.length := by rw [Nat.add_mul]; omega
    rw [hm1] at hv hu
    rw [hm2] at hrx hry
    have r1 := hrx.take ks.length
    have r2 := hrx.drop ks.length
    have r3 := hry.take ks.length
    have r4 := hry.drop ks.length
    rw [List.take_take, Nat.min_eq_left (by omega)] at r1 r3
    rw [List.drop_take, List.drop_drop, Nat.add_sub_cancel_left] at r2 r4
    have e1 := run_part (P := P) (w := w) (off := s * ks.length) (vs := vs) hk hpos (by omega)
    have e2 := run_part (P := P) (w := w) (off := s * ks.length) (vs := us) hk hpos (by omega)
    have e3 := ih w ks (xs.take ks.length) (ys.take ks.length) _ _ hk hx1 hy1 r1 r3 m hd
    have e4 := eq_loop m e vs us d ks ih hd hk hpos n (s + 1) (xs.drop ks.length) (ys.drop ks.length) hx2 hy2 (by rw [Nat.add_mul, hm3]; omega) (by rw [Nat.add_mul, hm3]; omega) (by rw [hm3]; exact r2) (by rw [hm3]; exact r4)
    have hsplit : eqcs xs ys = (eqcs (xs.take ks.length) (ys.take ks.length) && eqcs (xs.drop ks.length) (ys.drop ks.length)) := by
      rw [← eqcs_append (by simp; omega), List.take_append_drop, List.take_append_drop]
    simp only [List.range'_succ, List.forIn_cons, Sem.run_bind, e1, e2, e3, Result.andThen_ok]
    rw [hsplit]
    cases hb : eqcs (xs.take ks.length) (ys.take ks.length)
    · simp
    · simp only [Bool.not_true, Bool.false_eq_true, if_false, Bool.true_and, Sem.run_pure, Result.andThen_ok]
      exact e4

theorem eq_ok : ∀ (d : Nat) (t : TypeId), EqOk P ρ d t := by
  intro d
  induction d using Nat.strongRecOn with
  | _ d ih =>
    intro t w ks xs ys vs us hk hx hy hrx hry m hm
    cases d with
    | zero => simp [kinds] at hk
    | succ d =>
      obtain ⟨m, rfl⟩ : ∃ m', m = m' + 1 := ⟨m - 1, by omega⟩
      have hsz := kinds_size hk
      have hlx := map_len hx
      have hly := map_len hy
      have hvl := hrx.length
      have hul := hry.length
      simp only [kinds] at hk
      split at hk
      · rename_i fs hu
        split at hk
        · cases hk
        · rename_i hst
          obtain ⟨ks', hks, h2⟩ := Option.bind_eq_some_iff.1 hk
          split at h2
          · cases h2
            have hrow : isRow P t = true := by unfold isRow; rw [hu]
            have hfo : P.fieldsOf t = fs := by unfold Program.fieldsOf; rw [hu]
            simp only [wrapV, hrow, if_true]
            rw [run_equalIn_struct w m t _ _ (by rw [hfo]; exact hu) (by simpa using hst), hfo]
            exact eq_fields m vs us fs.toList d 0 ks xs ys (fun e he t => ih e (by omega) t) (by omega) hks hx hy (by omega) (by omega) (by simpa [← hlx, ← hvl] using hrx) (by simpa [← hly, ← hul] using hry)
          · cases h2
      · rename_i n e hu
        obtain ⟨ks', hks, h2⟩ := Option.bind_eq_some_iff.1 hk
        split at h2
        · cases h2
          have hrow : isRow P t = true := by unfold isRow; rw [hu]
          simp only [wrapV, hrow, if_true]
          have hfl : ((List.replicate n ks').flatten).length = n * ks'.length := by simp
          have hpos : 0 < ks'.length ∨ isRow P e = true := by
            by_cases h0 : 0 < ks'.length
            · exact .inl h0
            · right
              cases d with
              | zero => simp [kinds] at hks
              | succ d =>
                simp only [kinds] at hks
                unfold isRow
                split at hks <;> rename_i hue
                · rw [hue]
                · rw [hue]
                · obtain ⟨k, _, h3⟩ := Option.bind_eq_some_iff.1 hks
                  split at h3
                  · cases h3; simp at h0
                  · cases h3
                · cases hks
          have key := eq_loop (P := P) (ρ := ρ) (w := w) m e vs us d ks' (ih d (by omega) e) (by omega) hks hpos n 0 xs ys hx hy (by rw [Nat.zero_add]; omega) (by rw [Nat.zero_add]; omega)
            (by rw [Nat.zero_mul, List.drop_zero, List.take_of_length_le (by omega)]; exact hrx) (by rw [Nat.zero_mul, List.drop_zero, List.take_of_length_le (by omega)]; exact hry)
          unfold Op.equalIn
          simp only [Sem.run_bind, run_und hu, Result.andThen_ok, run_size (kinds_size hks), Std.Legacy.Range.forIn_eq_forIn_range', Std.Legacy.Range.size, Nat.sub_zero, Nat.add_sub_cancel, Nat.div_one]
          rw [key]
          cases eqcs xs ys <;> simp
        · cases h2
      · rename_i ds hns hna hu
        obtain ⟨k, hkd, h2⟩ := Option.bind_eq_some_iff.1 hk
        split at h2
        · cases h2
          have hrow : isRow P t = false := by
            unfold isRow; rw [hu]
            cases ds <;> first | rfl | exact (hns _ rfl).elim | exact (hna _ _ rfl).elim
          match xs, ys, vs, us, hlx, hly, hvl, hul with
          | [x], [y], [v], [u], _, _, _, _ =>
            simp only [wrapV, hrow, Bool.false_eq_true, if_false, List.headD_cons]
            rw [run_eq_atom hu hkd (by simpa using hx) (by simpa using hy) (Rels.cons_iff.1 hrx).1 (Rels.cons_iff.1 hry).1]
            simp [eqcs]
        · cases h2
      · cases hk

/-- Two arrays or structs by value. -/
theorem lt_eq_agg {o : Oper} {R : Env} {t t2 : TypeId} {x y : Operand} {xs ys : List SV} {ks : List Nat} {ne : Bool} (d : Nat) (ho : o.op = .binOp (if ne then .neq else .eql) t x y t2) (hx : evO R x = some (.agg xs)) (hy : evO R y = some (.agg ys))
    (hk : kinds P d t = some ks) (hd : d ≤ 10000) (hr : isRow P t = true) (hg : P.eqGuardType P.depth t = false) (h1 : xs.map kd = ks.map some) (h2 : ys.map kd = ks.map some) :
    LT P o R H [] [] (some (.b (ne ^^ eqcs xs ys))) := by
  refine LT.pure (by simp [ho]) fun e w ρ hh _ => ?_
  have hx2 := hh x (by simp [ho, Op.operands]) _ hx
  have hy2 := hh y (by simp [ho, Op.operands]) _ hy
  simp only [Rel] at hx2 hy2
  obtain ⟨vs, ev, _, hvs⟩ := hx2
  obtain ⟨us, eu, _, hus⟩ := hy2
  have key := eq_ok (P := P) (ρ := ρ) d t w ks xs ys vs us hk h1 h2 hvs hus 10000 hd
  simp only [wrapV, hr, if_true] at key
  refine ⟨.bool (ne ^^ eqcs xs ys), ?_, by simp only [Rel]⟩
  have hgd := fun op => run_eqGuard_agg (P := P) w op t x y ⟨vs⟩ ⟨us⟩ hg
  cases ne
  · simp only [Bool.false_eq_true, if_false] at ho
    simp only [execOp, ho, ev, eu, Sem.run_bind, hgd, Result.andThen_ok, run_eql_struct, key, Sem.run_pure, Bool.false_xor]
  · simp only [if_true] at ho
    simp only [execOp, ho, ev, eu, Sem.run_bind, hgd, Result.andThen_ok, run_neq_struct, key, Sem.run_pure, Bool.true_xor]

/-- Truths, pointers, functions, slices against one another. -/
def seq : SV → SV → Option Bool
  | .b a, .b c => some (a == c)
  | .p _ _, .pnil => some false
  | .pnil, .p _ _ => some false
  | .pnil, .pnil => some true
  | .fn _ _, .fnil => some false
  | .fnil, .fnil => some true
  | .slnil, .slnil => some true
  | _, _ => none

def seqT : SV → Option Nat
  | .b _ => some 0
  | .p _ _ => some 1
  | .pnil => some 1
  | .fn _ _ => some 2
  | .fnil => some 2
  | .slnil => some 3
  | _ => none
def seqD : TypeDesc → Option Nat
  | .bool => some 0
  | .pointer _ => some 1
  | .func _ _ _ => some 2
  | .slice _ => some 3
  | _ => none

theorem run_seq {t : TypeId} {ds : TypeDesc} {x y : SV} {r : Bool} {v u : Value} (hu : P.underlying t = some ds) (hd : seqD ds = seqT x) (h : seq x y = some r) (hx : Rel ρ x v) (hy : Rel ρ y u) : (Op.equal t v u).run P w = .ok r w := by
  unfold Op.equal
  have e : Op.maxDepth = 9999 + 1 := rfl
  rw [e]
  unfold Op.equalIn
  rw [Sem.run_bind, run_und hu, Result.andThen_ok]
  cases x <;> cases y <;> simp only [seq] at h <;> (try (cases h; done)) <;> simp only [Rel] at hx hy <;> simp only [seqT] at hd <;> cases ds <;> simp only [seqD] at hd <;> (try (cases hd; done)) <;> cases h
  · subst hx; subst hy; rfl
  · obtain ⟨rb, _, rfl⟩ := hx; subst hy; rfl
  · obtain ⟨rb, _, rfl⟩ := hy; subst hx; rfl
  · subst hx; subst hy; rfl
  · subst hx; subst hy; rfl
  · subst hx; subst hy; rfl
  · obtain ⟨cs, rfl, _⟩ := hx; subst hy; rfl

theorem run_eq_plain {ne : Bool} {t : TypeId} {x y : SV} {r : Bool} {v u : Value} (h : seq x y = some r) (hx : Rel ρ x v) (hy : Rel ρ y u) (he : (Op.equal t v u).run P w = .ok r w) :
    (binOp (if ne then .neq else .eql) t v u).run P w = .ok (.bool (ne ^^ r)) w := by
  cases x <;> cases y <;> simp only [seq] at h <;> (try (cases h; done)) <;> simp only [Rel] at hx hy <;>
    first
      | (subst hx; subst hy)
      | (obtain ⟨rb, _, rfl⟩ := hx; subst hy)
      | (obtain ⟨rb, _, rfl⟩ := hy; subst hx)
      | (obtain ⟨cs, rfl, _⟩ := hx; subst hy)
  all_goals (cases ne <;> simp only [binOp, Bool.false_eq_true, if_false, if_true, Sem.run_bind, he, Result.andThen_ok, Sem.run_pure, Bool.false_xor, Bool.true_xor])

theorem lt_eq {o : Oper} {R : Env} {t t2 : TypeId} {x y : Operand} {a b : SV} {ds : TypeDesc} {r ne : Bool} (ho : o.op = .binOp (if ne then .neq else .eql) t x y t2) (hx : evO R x = some a) (hy : evO R y = some b)
    (hu : P.underlying t = some ds) (hd : seqD ds = seqT a) (h : seq a b = some r) : LT P o R H [] [] (some (.b (ne ^^ r))) := by
  refine LT.pure (by simp [ho]) fun e w ρ hh _ => ?_
  have hx2 := hh x (by simp [ho, Op.operands]) _ hx
  have hy2 := hh y (by simp [ho, Op.operands]) _ hy
  obtain ⟨g1, g2⟩ := Rel.plain (by intro l el; subst el; simp [seq] at h) hx2
  exact ⟨.bool (ne ^^ r), by simp only [execOp, ho, Sem.run_bind, run_eqGuard g1 g2, Result.andThen_ok, run_eq_plain h hx2 hy2 (run_seq hu hd h hx2 hy2), Sem.run_pure], by simp only [Rel]⟩

/-! ### append onto what may not grow; copy -/

theorem app_full {o : Oper} {x y : Operand} {t xT el sz by_ id nid k n m : Nat} {z : SV} {b : SB} {ys : List SV} {rb : RB} {e : Operand → Value} (ho : o.op = .call { callee := .builtin .append, args := #[x, y], argTypes := #[t, xT] })
    (hty : AppTy P t xT el sz by_ z) (hx : Rel ρ (.sl id k n sz true) (e x)) (hr : ρ id = some rb) (hb : BRel ρ w rb b) (hin : k + n * sz ≤ b.cells.length) (hsrc : Src P ρ w (e y) sz m ys)
    (hm : (n + m) * by_ ≤ 140737488355328) (hm0 : 0 < m) (hn : ρ nid = none) :
    ∃ v w' ρ', (execOp e o).run P w = .ok (.value v) w' ∧ Chg ρ H w [(nid, some (.row el ((b.cells.drop k).take (n * sz) ++ ys)))] ρ' w' ∧ Rel ρ' (.sl nid 0 (n + m) sz false) v := by
  obtain ⟨i, v, dx, hi, hv, hvs, his, hib, hdx, hdx2⟩ := hty.facts
  have hsrcx : Src P ρ w (e x) sz n ((b.cells.drop k).take (n * sz)) := src_sl hx hr hb hin
  obtain ⟨news, hl, hf, hrn, ha, hlen, _⟩ := hsrc
  obtain ⟨olds, _, hfo, hro, hao, hleno, _⟩ := hsrcx
  have hl0 := hl w.drawn
  have hf1 := hf (w.drawn + 1)
  have hfo1 := hfo (w.drawn + 1)
  simp only [Rel] at hx
  obtain ⟨rb', a, c, hr', he, hnc, hfull, hdis⟩ := hx
  have hc := hfull trivial
  subst hc
  rw [he] at hfo1
  have hg := app_grow (ty := o.type) (a := a) (n := c) (c := c) hty.hT hdx hdx2 hi hv his hl0 hf1 hfo1 (by omega) (by rw [hib]; exact hty.hb0) (by rw [hib]; exact growslice_fits (by omega) hm)
  have hge := grownCap_ge w (c + m) c el
  obtain ⟨g1, g2⟩ := grown_row (ρ := ρ) (w := w) (nid := nid) (el := el) hro hao hrn ha hleno hlen hvs hge
  exact ⟨_, _, _, app_run ho (by rw [he]; exact hg), Chg.new (w.drawn + 1) hn rfl g1, g2⟩

theorem lt_append_full_sl {o : Oper} {R : Env} {x y : Operand} {t xT el sz by_ nid n m id id2 k o2 : Nat} {full2 : Bool} {z : SV} {b b2 : SB} (ho : o.op = .call { callee := .builtin .append, args := #[x, y], argTypes := #[t, xT] })
    (hty : AppTy P t xT el sz by_ z) (hx : evO R x = some (.sl id k n sz true)) (hid : H id = some b) (hin1 : k + n * sz ≤ b.cells.length) (hy : evO R y = some (.sl id2 o2 m sz full2)) (hb : H id2 = some b2) (hin : o2 + m * sz ≤ b2.cells.length)
    (hm : (n + m) * by_ ≤ 140737488355328) (hm0 : 0 < m) (hne : nid ≠ id ∧ nid ≠ id2) :
    LT P o R H [id, id2] [(nid, some (.row el ((b.cells.drop k).take (n * sz) ++ (b2.cells.drop o2).take (m * sz))))] (some (.sl nid 0 (n + m) sz false)) := by
  refine LT.of_run (by simp [ho]) fun e w ρ h1 h2 _ hfresh => ?_
  have hx2 := h1 x (by simp [ho, Op.operands, Call.operands]) _ hx
  have hy2 := h1 y (by simp [ho, Op.operands, Call.operands]) _ hy
  obtain ⟨rb, hr, hbr⟩ := h2 id (by simp) _ hid
  obtain ⟨rb2, hr2, hbr2⟩ := h2 id2 (by simp) b2 hb
  obtain ⟨v, w', ρ', a1, a2, a3⟩ := app_full (w := w) (H := H) (nid := nid) ho hty hx2 hr hbr hin1 (src_sl hy2 hr2 hbr2 hin) hm hm0 (hfresh nid (some (.row el ((b.cells.drop k).take (n * sz) ++ (b2.cells.drop o2).take (m * sz)))) (by simp) (by simpa using hne))
  exact ⟨_, w', ρ', a1, a2, .inl ⟨v, rfl, fun u hu => by cases hu; exact a3⟩⟩

theorem nat_min (a b : Nat) : Nat.min a b = min a b := rfl

/-- copy into a block of one's own. -/
theorem copy_ok {o : Oper} {x y : Operand} {t xT el sz id k n m c : Nat} {full : Bool} {b : SB} {ys : List SV} {rb : RB} {e : Operand → Value} (ho : o.op = .call { callee := .builtin .copy, args := #[x, y], argTypes := #[t, xT] })
    (hT : P.underlying t = some (.slice el)) (hs : psz P el = some sz) (hx : Rel ρ (.sl id k n sz full) (e x)) (hid : H id = some b) (hr : ρ id = some rb) (hb : BRel ρ w rb b) (hown : b.own = true) (hin : k + n * sz ≤ b.cells.length)
    (hsrc : Src P ρ w (e y) sz m ys) (hc : c = min m n) (h0 : 0 < b.cells.length) :
    ∃ w', (execOp e o).run P w = .ok (.value (.int .i64 (c : Int))) w' ∧ Chg ρ H w [(id, some (b.with (sput b.cells k (.agg (ys.take (c * sz))))))] ρ w' := by
  obtain ⟨vs, hl, _, hrv, ha, hlen, hf⟩ := hsrc
  have hf0 := hf c (by omega) w.drawn
  have hl0 := hl w.drawn
  have hcm : c * sz ≤ m * sz := Nat.mul_le_mul_right _ (by omega)
  have hcn : c * sz ≤ n * sz := Nat.mul_le_mul_right _ (by omega)
  have hrel : Rel ρ (.agg (ys.take (c * sz))) (.agg ⟨vs.take (c * sz)⟩) := by
    simp only [Rel]
    refine ⟨_, rfl, ?_, hrv.take _⟩
    simp only [atoms, List.all_eq_true] at ha ⊢
    exact fun y hy => ha y (List.mem_of_mem_take hy)
  have hcl : (SV.agg (ys.take (c * sz))).cells.length = c * sz := by simp [SV.cells]; omega
  obtain ⟨p1, p2, p3⟩ := hb.put (k := k) hown hrel (by simp) (by rw [hcl]; omega) h0
  have hvl := (hrv.take (c * sz)).length
  simp only [Rel] at hx
  obtain ⟨rb', a, cap, hr', he, hnc, hfull, hdis⟩ := hx
  rw [hr] at hr'; cases hr'
  have hcopy : ∀ w', (match a with | some a => (storeCells a (vs.take (c * sz))).run P w | none => Result.ok () w) = .ok () w' → (execOp e o).run P w = .ok (.value (.int .i64 (c : Int))) w' := fun w' hst => by
    simp only [execOp, ho, resolve, invoke, builtin, Sem.run_bind, Sem.run_pure, Result.andThen_ok, List.map_toArray, List.map_cons, List.map_nil, Builtin.copy_, List.getElem?_toArray, List.getElem?_cons_zero, List.getElem?_cons_succ, run_und hT, he, hl0, nat_min, ← hc, run_size hs, hf0]
    cases a with
    | none => simp only at hst; cases hst; rfl
    | some a => simp only at hst; simp only [hst, Result.andThen_ok, Sem.run_bind, Sem.run_pure]; rfl
  by_cases hz : c * sz = 0
  · have hnil : vs.take (c * sz) = [] := by rw [hz]; rfl
    refine ⟨w, hcopy w ?_, ?_⟩
    · rw [hnil]; cases a <;> rfl
    · have : World.putCells w rb.blk (rb.off + k) (Value.cells (.agg ⟨vs.take (c * sz)⟩)).toList = w := by
        show World.putCells w rb.blk (rb.off + k) (vs.take (c * sz)) = w
        rw [hnil, putCells_nil]
      rw [this] at p1 p2
      exact Chg.put hid hr hown p3 p1 p2
  · have hcap : cap ≠ 0 := by
      intro e0
      have : c = 0 := by omega
      exact hz (by rw [this]; simp)
    obtain ⟨hv, ha2, hcapb⟩ := hdis.resolve_left hcap
    obtain ⟨⟨ca, ty, fz, hca, _, hrl, hzz, hsz⟩, _⟩ := hb.cellsAt h0
    rw [hown] at hzz
    have hst := run_puts (P := P) (o := rb.off + k) (vs.take (c * sz)) 0 hca (hzz rfl) (by have := hrl.length; simp at this hvl ⊢; omega) ((hrv.take _).oneCell (by
      simp only [atoms, List.all_eq_true] at ha ⊢
      exact fun y hy => ha y (List.mem_of_mem_take hy)))
    exact ⟨_, hcopy _ (by rw [ha2]; exact hst), Chg.put hid hr hown p3 p1 p2⟩

theorem lt_copy_sl {o : Oper} {R : Env} {x y : Operand} {t xT el sz n m id id2 k o2 c : Nat} {full full2 : Bool} {b b2 : SB} (ho : o.op = .call { callee := .builtin .copy, args := #[x, y], argTypes := #[t, xT] })
    (hT : P.underlying t = some (.slice el)) (hs : psz P el = some sz) (hx : evO R x = some (.sl id k n sz full)) (hid : H id = some b) (hown : b.own = true) (hin1 : k + n * sz ≤ b.cells.length)
    (hy : evO R y = some (.sl id2 o2 m sz full2)) (hb : H id2 = some b2) (hin : o2 + m * sz ≤ b2.cells.length) (hc : c = min m n) (h0 : 0 < b.cells.length) :
    LT P o R H [id, id2] [(id, some (b.with (sput b.cells k (.agg (((b2.cells.drop o2).take (m * sz)).take (c * sz))))))] (some (.i (c : Int))) := by
  refine LT.of_run (by simp [ho]) fun e w ρ h1 h2 _ hfresh => ?_
  have hx2 := h1 x (by simp [ho, Op.operands, Call.operands]) _ hx
  have hy2 := h1 y (by simp [ho, Op.operands, Call.operands]) _ hy
  obtain ⟨rb, hr, hbr⟩ := h2 id (by simp) _ hid
  obtain ⟨rb2, hr2, hbr2⟩ := h2 id2 (by simp) b2 hb
  obtain ⟨w', a1, a2⟩ := copy_ok (w := w) (H := H) ho hT hs hx2 hid hr hbr hown hin1 (src_sl hy2 hr2 hbr2 hin) hc h0
  exact ⟨_, w', ρ, a1, a2, .inl ⟨_, rfl, fun u hu => by cases hu; simp only [Rel]⟩⟩

/-! ### Strings and bytes -/

def bytesOf : List SV → Option (List UInt8)
  | [] => some []
  | .u8 x :: xs => (bytesOf xs).map (x :: ·)
  | _ :: _ => none

theorem bytesOf_map (l : List UInt8) : bytesOf (l.map .u8) = some l := by
  induction l with
  | nil => rfl
  | cons x l ih => simp [bytesOf, ih]

theorem bytesOf_eq {xs : List SV} {l : List UInt8} (h : bytesOf xs = some l) : xs = l.map .u8 := by
  induction xs generalizing l with
  | nil => simp [bytesOf] at h; subst h; rfl
  | cons x xs ih =>
    cases x <;> simp only [bytesOf] at h <;> (try (cases h; done))
    obtain ⟨l', hl, rfl⟩ := Option.map_eq_some_iff.1 h
    rw [ih hl]; rfl

theorem rels_bytes {l : List UInt8} {vs : List Value} (h : Rels ρ (l.map .u8) vs) : vs = (l.map fun b => (b.toNat : Int)).map (Value.int .u8) := by
  induction l generalizing vs with
  | nil => rw [List.map_nil, Rels.nil_iff] at h; subst h; rfl
  | cons x l ih =>
    simp only [List.map_cons, Rels] at h
    obtain ⟨y, ys, rfl, hy, hys⟩ := h
    simp only [Rel] at hy
    subst hy
    rw [ih hys]; rfl

theorem rels_map_u8 (l : List UInt8) : Rels ρ (l.map .u8) ((l.map fun b => (b.toNat : Int)).map (Value.int .u8)) := by
  induction l with
  | nil => exact Rels.nil_iff.2 rfl
  | cons b l ih => exact Rels.cons (by simp only [Rel]) ih

theorem fold_bytes (l : List UInt8) : ∀ s : ByteArray, (l.map fun b => (b.toNat : Int)).foldl (fun r n => r.push (UInt8.ofNat n.toNat)) s = ⟨s.data ++ ⟨l⟩⟩ := by
  induction l with
  | nil => intro s; apply WideShapes.bytes_inj; simp
  | cons x l ih =>
    intro s
    simp only [List.map_cons, List.foldl_cons]
    rw [ih]
    apply WideShapes.bytes_inj
    simp [ByteArray.push]

theorem lt_b2s {o : Oper} {R : Env} {s d el id k n : Nat} {full : Bool} {x : Operand} {b : SB} {l : List UInt8} (ho : o.op = .convert s d x) (hs : P.underlying s = some (.slice el)) (he : P.underlying el = some (.int .u8)) (hd : P.underlying d = some .string)
    (hx : evO R x = some (.sl id k n 1 full)) (hb : H id = some b) (hin : k + n ≤ b.cells.length) (hl : bytesOf ((b.cells.drop k).take n) = some l) : LT P o R H [id] [] (some (.s l)) := by
  refine LT.pure (by simp [ho]) fun e w ρ h1 h2 => ?_
  have hx2 := h1 x (by simp [ho, Op.operands]) _ hx
  obtain ⟨rb, hr, hbr⟩ := h2 id (by simp) b hb
  have hsrc : Src P ρ w (e x) 1 n ((b.cells.drop k).take (n * 1)) := src_sl hx2 hr hbr (by omega)
  obtain ⟨vs, _, hf, hrel, _, hlen, _⟩ := hsrc
  rw [Nat.mul_one, bytesOf_eq hl] at hrel
  have hvs := rels_bytes hrel
  have hf0 := hf w.drawn
  refine ⟨.string ⟨⟨l⟩⟩, ?_, by simp only [Rel]⟩
  simp only [Rel] at hx2
  obtain ⟨rb', a, c, hr', hv, _⟩ := hx2
  rw [hv] at hf0
  have hconv : (convert s d (.slice a n c)).run P w = .ok (.string ⟨⟨l⟩⟩) w := by
    rw [run_convert_bytes_string w s d el a n c hs he hd]
    cases a with
    | none =>
      simp only [Builtin.firstCells, Sem.run_pure] at hf0
      injection hf0 with h3 h4
      have : vs = [] := by have := congrArg Array.toList h3; simpa using this.symm
      subst this
      cases l with
      | nil => rfl
      | cons x l => simp at hvs
    | some a =>
      simp only [Builtin.firstCells, Nat.mul_one] at hf0
      rw [run_bytesToString w a n c (l.map fun b => (b.toNat : Int)) (by rw [hf0, hvs]), fold_bytes]
      congr 2
      apply WideShapes.bytes_inj
      simp
  simp only [execOp, ho, hv, Sem.run_bind, hconv, Result.andThen_ok, Sem.run_pure]

theorem lt_b2s_nil {o : Oper} {R : Env} {s d el : Nat} {x : Operand} (ho : o.op = .convert s d x) (hs : P.underlying s = some (.slice el)) (he : P.underlying el = some (.int .u8)) (hd : P.underlying d = some .string)
    (hx : evO R x = some .slnil) : LT P o R H [] [] (some (.s [])) := by
  refine LT.pure (by simp [ho]) fun e w ρ h1 h2 => ?_
  have hx2 := h1 x (by simp [ho, Op.operands]) _ hx
  simp only [Rel] at hx2
  refine ⟨.string ⟨⟨[]⟩⟩, ?_, by simp only [Rel]⟩
  simp only [execOp, ho, hx2, Sem.run_bind, run_convert_bytes_string w s d el none 0 0 hs he hd, Result.andThen_ok, Sem.run_pure, Conv.bytesToString]
  rfl

theorem lt_s2b {o : Oper} {R : Env} {s d el nid : Nat} {x : Operand} {l : List UInt8} (ho : o.op = .convert s d x) (hs : P.underlying s = some .string) (he : P.underlying el = some (.int .u8)) (hd : P.underlying d = some (.slice el))
    (hx : evO R x = some (.s l)) : LT P o R H [] [(nid, some (.row el (l.map .u8)))] (some (.sl nid 0 l.length 1 false)) := by
  refine LT.of_run (by simp [ho]) fun e w ρ h1 _ _ hfresh => ?_
  have hx2 := h1 x (by simp [ho, Op.operands]) _ hx
  simp only [Rel] at hx2
  obtain ⟨cap, hcap⟩ : ∃ c, grownCap w l.length 0 el = c := ⟨_, rfl⟩
  have hge : l.length ≤ cap := by rw [← hcap]; exact grownCap_ge w l.length 0 el
  let arr : Array Value := (⟨l⟩ : Array UInt8).map (fun b => Value.int .u8 (b.toNat : Int)) ++ Array.replicate (cap - l.length) (.int .u8 0)
  have hsz : arr.size = cap := by simp only [arr, Array.size_append, Array.size_map, List.size_toArray, Array.size_replicate]; omega
  have hch : (choose (.appendCap l.length 0 el)).run P w = .ok cap w.drew := by
    rw [run_choose, ← hcap]; rfl
  have hfrz : (w.drew.alloc (.cells arr el)).freeze ⟨w.heap.size, arr.size, none⟩ 1 = w.drew.alloc (.cells arr el (arr.size, arr.size + 1)) := by
    have hh : ((w.drew.alloc (.cells arr el)).freeze ⟨w.heap.size, arr.size, none⟩ 1).heap = (w.drew.alloc (.cells arr el (arr.size, arr.size + 1))).heap := by
      simp only [World.freeze, World.alloc, World.drew, Nat.one_ne_zero, if_false]
      apply Array.ext_getElem?
      intro j
      rw [Array.getElem?_modify]
      by_cases hj : w.heap.size = j
      · subst hj; simp
      · rw [if_neg hj, Array.getElem?_push, Array.getElem?_push, if_neg (fun e => hj e.symm), if_neg (fun e => hj e.symm)]
    simp only [World.freeze, World.alloc, World.drew, Nat.one_ne_zero, if_false] at hh ⊢
    rw [hh]
  refine ⟨.value (.slice (some ⟨w.heap.size, 0, none⟩) l.length cap), w.drew.alloc (.cells arr el (arr.size, arr.size + 1)), _, ?_,
    Chg.row (w.drawn + 1) (hfresh nid (some (.row el (l.map .u8))) (by simp) (by simp)) (by simp [atoms, SV.atom]) ?_ (by simp only [List.length_map]; omega) (.inr (Nat.le_refl _)), .inl ⟨_, rfl, ?_⟩⟩
  · have hu : (convert s d (.string ⟨⟨l⟩⟩)).run P w = (Conv.stringToBytes el ⟨⟨l⟩⟩).run P w := by
      simp only [convert, Sem.run_bind, run_und hs, run_und hd, run_und he, Result.andThen_ok]
    simp only [execOp, ho, hx2, Sem.run_bind, hu]
    have hss : (⟨⟨l⟩⟩ : ByteArray).size = l.length := rfl
    have hsh : (w.drew.alloc (.cells arr el)).shape? w.heap.size = some (el, arr.size) := by
      have hh := alloc_heap_new w.drew (.cells arr el)
      simp only [World.shape?]
      rw [show (w.drew.alloc (.cells arr el)).heap[w.heap.size]? = some (.cells arr el) from hh]
    have hmark : ∀ W : World, W.shape? w.heap.size = some (el, arr.size) → (markStringish ⟨w.heap.size, 0, none⟩).run P W = .ok () (W.freeze ⟨w.heap.size, arr.size, none⟩ 1) := fun W hW => by
      simp only [markStringish, Sem.run_bind, run_shape, hW, Result.andThen_ok, run_freeze]
    have hnew : (newRow el arr).run P w.drew = .ok ⟨w.heap.size, 0, none⟩ (w.drew.alloc (.cells arr el)) := rfl
    have e1 : (Conv.stringToBytes el ⟨⟨l⟩⟩).run P w = .ok (.slice (some ⟨w.heap.size, 0, none⟩) l.length cap) ((w.drew.alloc (.cells arr el)).freeze ⟨w.heap.size, arr.size, none⟩ 1) := by
      have e2 : Conv.stringToBytes el ⟨⟨l⟩⟩ = (do
        let cap ← choose (.appendCap l.length 0 el)
        let a ← newRow el ((⟨l⟩ : Array UInt8).map (fun b => Value.int .u8 (b.toNat : Int)) ++ Array.replicate (cap - l.length) (.int .u8 0))
        markStringish a
        pure (.slice (some a) l.length cap)) := rfl
      rw [e2]
      simp only [Sem.run_bind, hch, Result.andThen_ok]
      simp only [arr] at hnew hmark hsh ⊢
      simp only [hnew, Result.andThen_ok, hmark _ hsh, Sem.run_pure]
    rw [e1, hfrz]
    rfl
  · rw [List.length_map]
    have : arr.toList.take l.length = (l.map fun b => (b.toNat : Int)).map (Value.int .u8) := by
      simp only [arr, Array.toList_append, Array.toList_map]
      rw [List.take_left' (by simp)]
      simp
    rw [this]
    exact rels_map_u8 l
  · intro u hu2; cases hu2
    simp only [Rel]
    exact ⟨_, _, cap, setR_same _ _ _, rfl, hge, fun h => (by cases h), .inr ⟨rfl, rfl, by simp only; omega⟩⟩
end
end Go.Sh
