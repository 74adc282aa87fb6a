/- A promise about a slice of a block that is only read holds of the slice as a part of a longer block. -/
import Derived.Test.YtaknbogocnkmnaaSh23
namespace Go.Sh
set_option linter.unusedSimpArgs false

theorem rel_plain {ρ ρ' : Ren} {x : SV} {v : Value} (h : plainV x = true) (hr : Rel ρ x v) : Rel ρ' x v := by
  cases x <;> simp only [plainV, Bool.false_eq_true] at h <;> simpa only [Rel] using hr
theorem rels_plain {ρ ρ' : Ren} : ∀ {l : List SV} {vs : List Value}, plainL l = true → Rels ρ l vs → Rels ρ' l vs
  | [], _, _, h => by simpa only [Rels] using h
  | x :: l, vs, hp, h => by
    simp only [plainL, List.all_cons, Bool.and_eq_true] at hp
    simp only [Rels] at h ⊢
    obtain ⟨y, ys, e, hy, hys⟩ := h
    exact ⟨y, ys, e, rel_plain hp.1 hy, rels_plain (by simpa [plainL] using hp.2) hys⟩

def skp (j n : Nat) : List Nat := (List.range n).map fun k => if k = j then 1000000 else k
theorem pull_skp {j n : Nat} {ρ ρ' : Ren} (h : ∀ id, id ≠ j → ρ id = ρ' id) (hj : j ≠ 1000000) : pullR (skp j n) ρ = pullR (skp j n) ρ' := by
  funext k
  simp only [pullR, skp, List.getElem?_map]
  by_cases hk : k < n
  · rw [List.getElem?_range hk]
    simp only [Option.map_some]
    by_cases hkj : k = j
    · rw [if_pos hkj]; exact h _ (fun e => hj e.symm)
    · rw [if_neg hkj]; exact h _ hkj
  · rw [List.getElem?_eq_none (by simp; omega)]; rfl

def shA (j o : Nat) : SV → SV
  | .sl id q n sz f => match Nat.beq id j with | true => .sl id (o + q) n sz f | false => .sl id q n sz f
  | x => x

def isSl (j : Nat) : SV → Bool
  | .sl id _ _ _ _ => Nat.beq id j
  | _ => false
def argOk (j n : Nat) : List SV → Prop
  | [] => True
  | x :: xs => (isSl j x = true ∨ (isSl j x = false ∧ renV (skp j n) x = some x)) ∧ argOk j n xs
def blkOk (j n : Nat) : Nat → HL → Prop
  | _, [] => True
  | k, none :: H => blkOk j n (k + 1) H
  | k, some b :: H => (k = j ∨ plainB b = true ∨ renB (skp j n) b = some b) ∧ blkOk j n (k + 1) H

theorem blkOk_get {j n : Nat} : ∀ {H : HL} {k id : Nat} {b : SB}, blkOk j n k H → hg H id = some b → k + id = j ∨ renB (skp j n) b = some b
  | [], k, id, b, _, h => by simp [hg] at h
  | none :: H, k, 0, b, _, h => by simp [hg] at h
  | none :: H, k, id + 1, b, ho, h => by
    have := blkOk_get (H := H) (k := k + 1) (id := id) ho (by simpa [hg] using h)
    rcases this with e | e
    · exact .inl (by omega)
    · exact .inr e
  | some b1 :: H, k, 0, b, ho, h => by
    have e : b1 = b := by simpa [hg] using h
    subst e
    rcases ho.1 with h1 | h1 | h1
    · exact .inl (by omega)
    · exact .inr (renB_plain _ h1)
    · exact .inr h1
  | some b1 :: H, k, id + 1, b, ho, h => by
    have := blkOk_get (H := H) (k := k + 1) (id := id) ho.2 (by simpa [hg] using h)
    rcases this with e | e
    · exact .inl (by omega)
    · exact .inr e

theorem hg_set {H : HL} {j id : Nat} {b : SB} (hj : j < H.length) : hg (H.set j (some b)) id = if id = j then some b else hg H id := by
  unfold hg
  rw [List.getElem?_set]
  by_cases h : j = id
  · subst h; simp [hj]
  · rw [if_neg h, if_neg (fun e => h e.symm)]

theorem SCall.sub {P : Program} {f : Nat} {args : List SV} {H0 : HL} {ret : SV} {H1 : HL} (h : SCall P f args H0 ret H1) (j o : Nat) (L l0 : List SV) (n : Nat)
    (hj0 : hg H0 j = some (.ro l0)) (hj1 : hg H1 j = some (.ro l0)) (hL : (L.drop o).take l0.length = l0) (hp : plainL L = true) (hp0 : plainL l0 = true) (hjn : j ≠ 1000000)
    (ha : argOk j n args) (hr : renV (skp j n) ret = some ret) (h0 : blkOk j n 0 H0) (h1 : blkOk j n 0 H1) :
    SCall P f (args.map (shA j o)) (H0.set j (some (.ro L))) ret (H1.set j (some (.ro L))) := by
  have hjl0 : j < H0.length := by unfold hg at hj0; rcases Nat.lt_or_ge j H0.length with h | h; exact h; rw [List.getElem?_eq_none h] at hj0; simp at hj0
  have hjl1 : j < H1.length := by unfold hg at hj1; rcases Nat.lt_or_ge j H1.length with h | h; exact h; rw [List.getElem?_eq_none h] at hj1; simp at hj1
  have hlen : l0.length ≤ L.length - o := by have := congrArg List.length hL; simp at this; omega
  refine ⟨h.fn, fun nn ρ w vs hA hH hS hF => ?_⟩
  obtain ⟨rb, hρ, hB⟩ := hH j (.ro L) (by rw [hg_set hjl0, if_pos rfl])
  let rbs : RB := { rb with off := rb.off + o, cap := rb.cap - o }
  let ρs : Ren := fun id => if id = j then some rbs else ρ id
  have hρs : ∀ id, id ≠ j → ρs id = ρ id := fun id hid => if_neg hid
  have hsj : ρs j = some rbs := if_pos rfl
  have tr : ∀ {ρa ρb : Ren} {x : SV} {v : Value}, (∀ id, id ≠ j → ρa id = ρb id) → renV (skp j n) x = some x → Rel ρa x v → Rel ρb x v := by
    intro ρa ρb x v e hx hv
    have h1 := (rel_ren x hx (ρ := ρa)).2 hv
    rw [pull_skp e hjn] at h1
    exact (rel_ren x hx (ρ := ρb)).1 h1
  have trB : ∀ {ρa ρb : Ren} {b : SB} {w : World} {r : RB}, (∀ id, id ≠ j → ρa id = ρb id) → renB (skp j n) b = some b → BRel ρa w r b → BRel ρb w r b := by
    intro ρa ρb b w r e hx hv
    have h1 := (brel_ren hx (ρ := ρa) (w := w) (rb := r)).2 hv
    rw [pull_skp e hjn] at h1
    exact (brel_ren hx).1 h1
  -- the arguments
  have hA' : Rels ρs args vs := by
    have : ∀ (xs : List SV) (us : List Value), argOk j n xs → Rels ρ (xs.map (shA j o)) us → Rels ρs xs us := by
      intro xs
      induction xs with
      | nil => intro us _ h; simpa only [List.map_nil, Rels] using h
      | cons x xs ih =>
        intro us hok h
        simp only [List.map_cons, Rels] at h ⊢
        obtain ⟨y, ys, e, hy, hys⟩ := h
        refine ⟨y, ys, e, ?_, ih ys hok.2 hys⟩
        rcases hok.1 with hx | ⟨hx0, hx⟩
        · cases x with
          | sl id q nn2 sz full =>
            simp only [isSl] at hx
            have hid : id = j := Nat.eq_of_beq_eq_true hx
            subst hid
            simp only [shA, hx, Rel] at hy
            obtain ⟨rb2, a, c, g1, g2, g3, g4, g5⟩ := hy
            rw [hρ] at g1; cases g1
            simp only [Rel]
            refine ⟨rbs, a, c, hsj, g2, g3, g4, ?_⟩
            rcases g5 with g5 | ⟨g5, g6, g7⟩
            · exact .inl g5
            · exact .inr ⟨g5, by rw [g6]; simp only [rbs, Nat.add_assoc], by simp only [rbs]; omega⟩
          | _ => simp [isSl] at hx
        · have e2 : shA j o x = x := by
            cases x <;> first | rfl | (simp only [isSl] at hx0; simp only [shA, hx0])
          rw [e2] at hy
          exact tr (fun id hid => (hρs id hid).symm) hx hy
    exact this args vs ha hA
  -- the block
  have hBs : ∀ {ρ1 : Ren} {w1 : World}, BRel ρ1 w1 rb (.ro L) → BRel ρs w1 rbs (.ro l0) := by
    intro ρ1 w1 hb
    by_cases hl0 : l0 = []
    · exact .inl hl0
    have hpos : 0 < l0.length := List.length_pos_iff.2 hl0
    rcases hb with rfl | ⟨⟨c, t, fz, g1, g2, g3, g4, g5⟩, g6, g7⟩
    · exact absurd (List.eq_nil_of_length_eq_zero (by simpa using hlen)) hl0
    · right
      refine ⟨⟨c, t, fz, g1, ?_, ?_, fun h => (by cases h), ?_⟩, by simp only [rbs]; omega, g7⟩
      · have : ∀ l : List SV, plainL l = true → atoms l = true := by
          intro l; induction l with
          | nil => intro _; rfl
          | cons x xs ih =>
            intro h
            simp only [plainL, List.all_cons, Bool.and_eq_true] at h
            simp only [atoms, List.all_cons, Bool.and_eq_true]
            exact ⟨by cases x <;> simp_all [plainV, SV.atom], by simpa [atoms] using ih (by simpa [plainL] using h.2)⟩
        exact this l0 hp0
      · have := Rels.take l0.length (Rels.drop o g3)
        rw [hL] at this
        have e : List.take l0.length (List.drop o (List.take L.length (List.drop rb.off c.toList))) = List.take l0.length (List.drop rbs.off c.toList) := by
          simp only [rbs]
          rw [List.drop_take, List.drop_drop, List.take_take]
          congr 1; omega
        rw [e] at this
        exact rels_plain hp0 this
      · simp only [rbs]; omega
  have hgt : ∀ {H : HL} {b : SB}, j < H.length → hg (H.set j (some b)) j = some b := fun {H b} hl => by rw [hg_set hl, if_pos rfl]
  have hgo : ∀ {H : HL} {b : SB} {id : Nat}, j < H.length → id ≠ j → hg (H.set j (some b)) id = hg H id := fun {H b id} hl hid => by rw [hg_set hl, if_neg hid]
  have hHs : HRel ρs (hg H0) w := by
    intro id b hb
    by_cases hid : id = j
    · subst hid
      rw [hj0] at hb; cases hb
      exact ⟨rbs, hsj, hBs hB⟩
    · obtain ⟨r, e1, e2⟩ := hH id b (by rw [hgo hjl0 hid]; exact hb)
      exact ⟨r, by rw [hρs id hid]; exact e1, trB (fun id hid => (hρs id hid).symm) ((blkOk_get h0 hb).resolve_left (by omega)) e2⟩
  have hfoot : ∀ k q, foot rbs (.ro l0) k q → foot rb (.ro L) k q := fun k q ⟨e1, e2, e3⟩ => by
    simp only [rbs] at e1 e2 e3
    exact ⟨e1, by omega, by omega⟩
  have hown : ∀ k q, Owned ρs (hg H0) k q → Owned ρ (hg (H0.set j (some (.ro L)))) k q ∧ ¬ foot rb (.ro L) k q := by
    rintro k q ⟨id, b, r, e1, e2, e3, e4⟩
    have hid : id ≠ j := fun e => by subst e; rw [hj0] at e1; cases e1; cases e3
    rw [hρs id hid] at e2
    exact ⟨⟨id, b, r, by rw [hgo hjl0 hid]; exact e1, e2, e3, e4⟩, fun hf => hS id j b (.ro L) r rb hid (by rw [hgo hjl0 hid]; exact e1) (hgt hjl0) e2 hρ e3 k q ⟨e4, hf⟩⟩
  have hSs : Sep ρs (hg H0) := by
    intro i k bi bk ri rk hne hi hk hri hrk hw q p ⟨hfi, hfk⟩
    have hij : i ≠ j := fun e => by subst e; rw [hj0] at hi; cases hi; cases hw
    rw [hρs i hij] at hri
    by_cases hkj : k = j
    · subst hkj
      rw [hj0] at hk; cases hk
      rw [hsj] at hrk; cases hrk
      exact hS i k bi (.ro L) ri rb hne (by rw [hgo hjl0 hij]; exact hi) (hgt hjl0) hri hρ hw q p ⟨hfi, hfoot q p hfk⟩
    · rw [hρs k hkj] at hrk
      exact hS i k bi bk ri rk hne (by rw [hgo hjl0 hij]; exact hi) (by rw [hgo hjl0 hkj]; exact hk) hri hrk hw q p ⟨hfi, hfk⟩
  have hFs : ∀ id, H0.length ≤ id → ρs id = none := fun id hid => by
    rw [hρs id (by omega)]; exact hF id (by simpa using hid)
  refine (h.call nn ρs w vs hA' hHs hSs hFs).mono fun e w' hR => ?_
  cases e with
  | returned v =>
    obtain ⟨ρ1, q1, q2, q3, q4, q5⟩ := hR
    let ρ2 : Ren := fun id => if id = j then some rb else ρ1 id
    have h21 : ∀ id, id ≠ j → ρ2 id = ρ1 id := fun id hid => if_neg hid
    have h2j : ρ2 j = some rb := if_pos rfl
    have hB2 : BRel ρ2 w' rb (.ro L) := by
      rcases hB with hB | ⟨⟨c, t, fz, g1, g2, g3, g4, g5⟩, g6, g7⟩
      · exact .inl hB
      · obtain ⟨c', k1, k2, k3⟩ := q5.fr.blk rb.blk _ g1
        have hsame : ∀ i, rb.off ≤ i → i < rb.off + L.length → c'[i]? = c[i]? := fun i h1 h2 => k3 i fun ho => (hown _ _ ho).2 ⟨rfl, h1, h2⟩
        have e : List.take L.length (List.drop rb.off c'.toList) = List.take L.length (List.drop rb.off c.toList) := by
          apply List.ext_getElem?
          intro i
          by_cases hi : i < L.length
          · rw [List.getElem?_take_of_lt hi, List.getElem?_take_of_lt hi, List.getElem?_drop, List.getElem?_drop, Array.getElem?_toList, Array.getElem?_toList]
            exact hsame _ (by omega) (by omega)
          · rw [List.getElem?_eq_none (by simp; omega), List.getElem?_eq_none (by simp; omega)]
        exact .inr ⟨⟨c', t, fz, k1, g2, by rw [e]; exact rels_plain hp g3, fun h => (by cases h), by omega⟩, g6, g7⟩
    refine ⟨ρ2, tr (fun id hid => (h21 id hid).symm) hr q1, ?_, ?_, ?_, ?_, ?_, ?_⟩
    · intro id b hb
      by_cases hid : id = j
      · subst hid
        rw [hgt hjl1] at hb; cases hb
        exact ⟨rb, h2j, hB2⟩
      · rw [hgo hjl1 hid] at hb
        obtain ⟨r, e1, e2⟩ := q2 id b hb
        exact ⟨r, by rw [h21 id hid]; exact e1, trB (fun id hid => (h21 id hid).symm) ((blkOk_get h1 hb).resolve_left (by omega)) e2⟩
    · intro i k bi bk ri rk hne hi hk hri hrk hw q p ⟨hfi, hfk⟩
      have hij : i ≠ j := fun e => by subst e; rw [hgt hjl1] at hi; cases hi; cases hw
      rw [h21 i hij] at hri
      rw [hgo hjl1 hij] at hi
      by_cases hkj : k = j
      · subst hkj
        rw [hgt hjl1] at hk; cases hk
        rw [h2j] at hrk; cases hrk
        have hb := q5.own q p ⟨i, bi, ri, hi, hri, hw, hfi⟩
        rcases hb with hb | hb
        · exact (hown _ _ hb).2 hfk
        · rcases hB with hB | ⟨⟨c, t, fz, g1, _⟩, _⟩
          · subst hB; have := hfk.2; simp at this; omega
          · have hlt := (Array.getElem?_eq_some_iff.1 g1).1
            have := hfk.1
            omega
      · rw [h21 k hkj] at hrk
        rw [hgo hjl1 hkj] at hk
        exact q3 i k bi bk ri rk hne hi hk hri hrk hw q p ⟨hfi, hfk⟩
    · intro id hid
      rw [List.length_set] at hid
      rw [h21 id (by omega)]; exact q4 id hid
    · intro id hid r hr2
      rw [List.length_set] at hid
      by_cases hij : id = j
      · subst hij; rw [hρ] at hr2; cases hr2; exact h2j
      · rw [h21 id hij]; exact q5.ext id hid r (by rw [hρs id hij]; exact hr2)
    · exact q5.fr.mono (fun k q _ ho => (hown k q ho).1)
    · rintro k q ⟨id, b, r, e1, e2, e3, e4⟩
      have hij : id ≠ j := fun e => by subst e; rw [hgt hjl1] at e1; cases e1; cases e3
      rw [hgo hjl1 hij] at e1
      rw [h21 id hij] at e2
      exact (q5.own k q ⟨id, b, r, e1, e2, e3, e4⟩).imp (fun ho => (hown k q ho).1) (fun h => h)
  | _ => exact hR
end Go.Sh
