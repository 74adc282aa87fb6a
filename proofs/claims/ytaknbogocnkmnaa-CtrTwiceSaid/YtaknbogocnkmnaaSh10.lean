/- A region: carried out in whatever order, it comes to what the text's order comes to. -/
import Derived.Test.YtaknbogocnkmnaaSh9
namespace Go.Sh
set_option linter.unusedSimpArgs false

/-- The marks of loops over iterators, not yet taken. -/
def DfrOk (B : Nat) (ds : List Deferred) (w : World) : Prop :=
  (ds.map (·.target)).Pairwise (fun a b => ∀ r, a = .collected r → b ≠ .collected r) ∧ (∀ d ∈ ds, (∃ r, d = { target := .collected r, args := #[] } ∧ B ≤ r ∧ w.heap[r]? = some (.deferred (some [])))) ∧ B ≤ w.heap.size

structure Sim (N B L : Nat) (ρ : Ren) (R : Env) (H : Heap) (a : Act) (w : World) : Prop where
  size : a.tmps.size = N
  regs : ∀ t v, R t = some v → Rel ρ v (a.tmps.getD t undef)
  heap : HRel ρ H w
  sep : Sep ρ H
  fresh : ∀ id, L ≤ id → ρ id = none
  dfr : DfrOk B a.defers w

/-- What has become of a world, seen from where it began. -/
structure Ev (ρ : Ren) (H : Heap) (w : World) (ρ' : Ren) (H' : Heap) (w' : World) : Prop where
  ext : Ext ρ ρ'
  fr : Fr (Owned ρ H) w w'
  own : ∀ k o, Owned ρ' H' k o → Owned ρ H k o ∨ w.heap.size ≤ k

theorem Ev.refl (ρ : Ren) (H : Heap) (w : World) : Ev ρ H w ρ H w := ⟨Ext.refl _, Fr.refl _ _, fun _ _ h => .inl h⟩
theorem Ev.trans {ρ1 ρ2 ρ3 : Ren} {H1 H2 H3 : Heap} {w1 w2 w3 : World} (h : Ev ρ1 H1 w1 ρ2 H2 w2) (k : Ev ρ2 H2 w2 ρ3 H3 w3) : Ev ρ1 H1 w1 ρ3 H3 w3 :=
  ⟨h.ext.trans k.ext, h.fr.trans k.fr (fun x o hx ho => (h.own x o ho).resolve_right (by omega)),
   fun x o ho => (k.own x o ho).elim (fun h2 => h.own x o h2) (fun h2 => .inr (Nat.le_trans h.fr.size h2))⟩
theorem Evo.ev {ρ ρ' : Ren} {H H' : Heap} {w w' : World} (h : Evo ρ H w ρ' H' w') : Ev ρ H w ρ' H' w' := ⟨h.ext, h.fr, h.own⟩

theorem DfrOk.fr {B : Nat} {ds : List Deferred} {w w' : World} {S : Nat → Nat → Prop} (h : DfrOk B ds w) (hf : Fr S w w') : DfrOk B ds w' :=
  ⟨h.1, fun d hd => by
    obtain ⟨r, e, hb, hr⟩ := h.2.1 d hd
    exact ⟨r, e, hb, (hf.blk _ _ hr).fixed rfl (fun _ _ _ h => by cases h)⟩, Nat.le_trans h.2.2 hf.size⟩

section
variable {P : Program} {ops : Array Oper} {N B : Nat}

/-- One operation's step, out of what it is good for. -/
theorem good_step {o : Oper} {i : Nat} {R Ri : Env} {H Hi : Heap} {e : En} {L L' n : Nat} {r : Option Nat} {ρ : Ren} {a : Act} {w : World} {K : Act → World → Prop} {Q : Exit → Act → World → Prop}
    (hi : ops[i]? = some o) (hg : Good P ops o Ri Hi e) (hN : ∀ d, o.dst = some d → d < N)
    (hR : ∀ t, t ∈ e.lg.rd → R t = Ri t) (hH : ∀ id, (id ∈ e.lg.F ∨ id ∈ e.lg.Wi) → H id = Hi id) (hs : Sim N B L ρ R H a w)
    (hfresh : ∀ id ob, (id, ob) ∈ e.W → id ∉ e.lg.F → ρ id = none) (hL : L ≤ L') (hW : ∀ id ob, (id, ob) ∈ e.W → id < L')
    (hk : ∀ a' w' ρ', Sim N B L' ρ' (appL R (wr e)) (appL H e.W) a' w' → Ev ρ H w ρ' (appL H e.W) w' → (∀ id rb, ρ' id = some rb → ρ id = some rb ∨ ∃ ob, (id, ob) ∈ e.W) → K a' w') :
    wpOpIn (Fw r) n P ops Q i K a w := by
  obtain ⟨hd, hWi, hcase⟩ := hg
  have put : ∀ (rv : Value) (w' : World) (ρ' : Ren), Chg ρ Hi w e.W ρ' w' → (∀ v, e.out = some v → Rel ρ' v rv) → K (a.put o.dst rv) w' := by
    intro rv w' ρ' hc hv
    have hev := hc.evo (H := H) (fun id ob hm => (hH id (.inr (by rw [hWi]; exact List.mem_map.2 ⟨_, hm, rfl⟩))).symm) hs.heap hs.sep
    rw [updW_app] at hev
    refine hk _ _ ρ' ⟨?_, ?_, hev.heap, hev.sep, ?_, ?_⟩ hev.ev hc.dom
    · cases hdst : o.dst <;> simp [Act.put, hdst, hs.size]
    · intro t v ht
      cases hdst : o.dst with
      | none =>
        rw [hdst] at hd
        simp only [wr, hd, appL, List.lookup_nil] at ht
        simp only [Act.put]
        exact (hs.regs t v ht).ext hev.ext
      | some d =>
        rw [hdst] at hd
        have hdN : d < a.tmps.size := by rw [hs.size]; exact hN d hdst
        simp only [wr, hd, appL, List.lookup_cons, List.lookup_nil] at ht
        simp only [Act.put]
        by_cases htd : t = d
        · subst htd
          simp at ht
          rw [Array.getD_eq_getD_getElem?, Array.getElem?_setIfInBounds_self_of_lt hdN]
          exact hv v ht
        · have : (t == d) = false := by simpa using htd
          simp only [this] at ht
          rw [Array.getD_eq_getD_getElem?, Array.getElem?_setIfInBounds_ne (fun e => htd e.symm), ← Array.getD_eq_getD_getElem?]
          exact (hs.regs t v ht).ext hev.ext
    · intro id hid
      cases hr : ρ' id with
      | none => rfl
      | some rb =>
        rcases hc.dom id rb hr with h | ⟨ob, hm⟩
        · rw [hs.fresh id (by omega)] at h; cases h
        · have := hW id ob hm; omega
    · have : (a.put o.dst rv).defers = a.defers := by cases hdst : o.dst <;> simp [Act.put]
      rw [this]
      exact hs.dfr.fr hev.fr
  have hguard : ∀ t, gpass ops o Ri = some t → e.lg.rd = (gslot ops o ++ e.lg.rd.drop (gslot ops o).length) → Region.wanted o (yielded ops a.tmps) = t := by
    intro t ht hrd
    unfold gpass at ht
    unfold Region.wanted
    unfold gslot at hrd
    split at ht
    · rename_i hgd; simp only [hgd]; cases ht; rfl
    · rename_i j want hgd
      simp only [hgd] at hrd ⊢
      cases hsl : (ops[j]?).bind (·.dst) with
      | none => rw [hsl] at ht; cases ht
      | some s =>
        rw [hsl] at ht hrd
        have hmem : s ∈ e.lg.rd := by rw [hrd]; simp
        simp only [Option.bind_some] at ht
        cases hRs : Ri s with
        | none => rw [hRs] at ht; cases ht
        | some v =>
          rw [hRs] at ht
          cases v <;> (try (cases ht; done))
          rename_i b
          have hrel := hs.regs s _ ((hR s hmem).trans hRs)
          simp only [Rel] at hrel
          have hyi : yielded ops a.tmps j = some b := by
            unfold yielded
            rw [hsl, Option.bind_some]
            have hsz : s < a.tmps.size := by
              refine Nat.lt_of_not_le fun hlt => ?_
              rw [Array.getD_eq_getD_getElem?, Array.getElem?_eq_none hlt] at hrel
              cases hrel
            have : a.tmps[s]? = some (.bool b) := by
              rw [Array.getD_eq_getD_getElem?, Array.getElem?_eq_getElem hsz] at hrel
              rw [Array.getElem?_eq_getElem hsz]; exact congrArg some hrel
            rw [this]
          rw [hyi]
          cases ht
          cases b <;> cases want <;> rfl
  unfold wpOpIn
  simp only [hi]
  rcases hcase with ⟨hp, hrd, hlt⟩ | ⟨hp, hrd, hF, hW0, hout⟩
  · have hw := hguard true hp (by rw [hrd]; simp)
    simp only [hw, if_true]
    refine hlt r n a w ρ K Q (fun t ht v hv => hs.regs t v ((hR t (by rw [hrd]; simp [ht])).trans hv)) (fun id hid b hb => ?_) (fun i hi j hj bi bj ri rj hne hbi hbj => ?_) hfresh put
    · exact hs.heap id b ((hH id (.inl hid)).trans hb)
    · exact hs.sep i j bi bj ri rj hne ((hH i (.inl hi)).trans hbi) ((hH j (.inl hj)).trans hbj)
  · have hw := hguard false hp (by rw [hrd]; simp)
    simp only [hw, Bool.false_eq_true, if_false]
    refine ⟨fun _ _ => trivial, put undef w ρ ?_ (fun v hv => by rw [hout] at hv; cases hv)⟩
    rw [hW0]; exact Chg.zero _ _ _

theorem appL_nil {β : Type} (f : Nat → Option β) : appL f [] = f := rfl

/-- In the text's order. -/
theorem region_text {r : Option Nat} {n : Nat} {Q : Exit → Act → World → Prop} {R' : Env} {H' : Heap} {Lf : Nat} (hN : ∀ (i : Nat) (o : Oper) (d : Nat), ops[i]? = some o → o.dst = some d → d < N) :
    ∀ (os : List Oper) (k : Nat) (R : Env) (H : Heap) (L : Nat) (es : List En) (ρ : Ren) (a : Act) (w : World), (∀ j, os[j]? = ops[k + j]?) → RunT P ops os R H L es R' H' Lf → Sim N B L ρ R H a w →
      (∀ a' w' ρ', Sim N B Lf ρ' R' H' a' w' → Ev ρ H w ρ' H' w' → Q .normal a' w') → wpOpsIn (Fw r) n P ops Q (List.range' k os.length) a w
  | [], k, R, H, L, es, ρ, a, w, _, hr, hs, hk => by
    obtain ⟨rfl, rfl, rfl, rfl⟩ := hr
    exact hk a w ρ hs (Ev.refl _ _ _)
  | o :: os, k, R, H, L, es, ρ, a, w, hos, hr, hs, hk => by
    obtain ⟨e, es', L', rfl, hg, hL, hW, hr'⟩ := hr
    have h0 : ops[k]? = some o := by have := hos 0; simpa using this.symm
    rw [List.length_cons, List.range'_succ, wpOpsIn_cons]
    refine good_step (L' := L') h0 hg (fun d hd => hN k o d h0 hd) (fun _ _ => rfl) (fun _ _ => rfl) hs (fun id ob hm hF => hs.fresh id ((hW id ob hm).2 hF)) hL (fun id ob hm => (hW id ob hm).1) ?_
    intro a' w' ρ' hs' hev _
    refine region_text hN os (k + 1) _ _ L' es' ρ' a' w' (fun j => by have := hos (j + 1); simp only [List.getElem?_cons_succ] at this; rw [this]; congr 1; omega) hr' hs' ?_
    intro a2 w2 ρ2 hs2 hev2
    exact hk a2 w2 ρ2 hs2 (hev.trans hev2)

def edgesDown (ops : Array Oper) : Bool := (List.range ops.size).all fun i => match ops[i]? with | some o => o.after.all fun e => !Region.binds .any e || decide (e.on < i) | none => true

theorem lookup_wr {e : En} {t : Nat} (h : ∃ x, (wr e).lookup t = some x) : e.lg.dst = some t := by
  unfold wr at h
  cases hd : e.lg.dst with
  | none => rw [hd] at h; simp at h
  | some d =>
    rw [hd] at h
    obtain ⟨x, hx⟩ := h
    simp only [List.lookup_cons, List.lookup_nil] at hx
    split at hx
    · rename_i e1; simp at e1; rw [e1]
    · cases hx

theorem lookup_W {e : En} (hWi : e.lg.Wi = e.W.map (·.1)) {id : Nat} (h : ∃ x, e.W.lookup id = some x) : id ∈ e.lg.Wi := by
  obtain ⟨x, hx⟩ := h
  rw [hWi]
  exact List.mem_map.2 ⟨_, mem_of_lookup hx, rfl⟩

/-- In whatever order. -/
theorem region_any {r : Option Nat} {n : Nat} {Q : Exit → Act → World → Prop} {R R' : Env} {H H' : Heap} {L L' : Nat} {es : List En} {ρ : Ren} {a : Act} {w : World} {id0 : Nat} (hm : P.follows .mixedOrders = true)
    (hN : ∀ (i : Nat) (o : Oper) (d : Nat), ops[i]? = some o → o.dst = some d → d < N) (hr : RunT P ops ops.toList R H L es R' H' L') (hchk : chk ops (es.map (·.lg)) = true) (hdown : edgesDown ops = true) (hs : Sim N B L ρ R H a w)
    (hk : ∀ a' w' ρ', Sim N B L' ρ' R' H' a' w' → Ev ρ H w ρ' H' w' → Q .normal a' w') : (Code.region id0 ops true).wpIn (Fw r) n P Q a w := by
  obtain ⟨hlen, hR', hH', hLL, hLW, hat⟩ := hr.at
  have hlen' : es.length = ops.size := by rw [hlen]; simp
  -- the state when the operations of S have been carried out
  let RS := fun S : Nat → Bool => foldS S 0 (es.map wr) R
  let HS := fun S : Nat → Bool => foldS S 0 (es.map (·.W)) H
  let DC := fun S : Nat → Bool => ∀ k o, ops[k]? = some o → S k = true → ∀ e ∈ o.after, Region.binds .any e = true → S e.on = true
  have hpair : ∀ i j e f, i < j → es[i]? = some e → es[j]? = some f → clash e.lg f.lg = true → ((Region.before ops).getD j 0).testBit i = true := by
    intro i j e f hij he hf hc
    unfold chk at hchk
    simp only [List.all_eq_true, List.mem_range, List.length_map] at hchk
    have hj : j < es.length := (List.getElem?_eq_some_iff.1 hf).1
    have h1 := hchk j hj i hij
    rw [List.getElem?_map, List.getElem?_map, he, hf] at h1
    simp only [Option.map_some] at h1
    rw [hc] at h1
    simpa using h1
  -- who may touch what
  have agreeR : ∀ (S : Nat → Bool) i o e, DC S → S i = false → ops[i]? = some o → (∀ ed ∈ o.after, Region.binds .any ed = true → S ed.on = true) → es[i]? = some e →
      ∀ t, (t ∈ e.lg.rd ∨ e.lg.dst = some t) → ∀ j f, es[j]? = some f → f.lg.dst = some t → S j = decide (j < i) := by
    intro S i o e hS hi ho hpre he t ht j f hf hfd
    by_cases hji : j < i
    · rw [decide_eq_true hji]
      have hc : clash f.lg e.lg = true := by
        unfold clash
        rw [hfd]
        rcases ht with ht | ht
        · simp [ht]
        · simp [ht]
      have hb := hpair j i f e hji hf he hc
      have h2 := before_spec ops i j hb (fun k => S k || k == i) (fun k o' hk hSk ed hed hbd => by
        simp only [Bool.or_eq_true, beq_iff_eq] at hSk ⊢
        rcases hSk with hSk | hSk
        · exact .inl (hS k o' hk hSk ed hed hbd)
        · subst hSk; rw [ho] at hk; cases hk; exact .inl (hpre ed hed hbd)) (by simp)
      simp only [Bool.or_eq_true, beq_iff_eq] at h2
      exact h2.resolve_right (by omega)
    · rw [decide_eq_false hji]
      by_cases hj : j = i
      · subst hj; exact hi
      · have hij : i < j := by omega
        have hc : clash e.lg f.lg = true := by
          unfold clash
          rw [hfd]
          rcases ht with ht | ht
          · simp [ht]
          · simp [ht]
        have hb := hpair i j e f hij he hf hc
        cases hSj : S j with
        | false => rfl
        | true => have := before_spec ops j i hb S hS hSj; rw [hi] at this; cases this
  have agreeH : ∀ (S : Nat → Bool) i o e, DC S → S i = false → ops[i]? = some o → (∀ ed ∈ o.after, Region.binds .any ed = true → S ed.on = true) → es[i]? = some e →
      ∀ t, (t ∈ e.lg.F ∨ t ∈ e.lg.Wi) → ∀ j f, es[j]? = some f → t ∈ f.lg.Wi → S j = decide (j < i) := by
    intro S i o e hS hi ho hpre he t ht j f hf hfd
    by_cases hji : j < i
    · rw [decide_eq_true hji]
      have hc : clash f.lg e.lg = true := by
        unfold clash
        rw [Bool.or_eq_true]; left; rw [Bool.or_eq_true]; right
        rw [List.any_eq_true]
        exact ⟨t, hfd, by rcases ht with ht | ht <;> simp [ht]⟩
      have hb := hpair j i f e hji hf he hc
      have h2 := before_spec ops i j hb (fun k => S k || k == i) (fun k o' hk hSk ed hed hbd => by
        simp only [Bool.or_eq_true, beq_iff_eq] at hSk ⊢
        rcases hSk with hSk | hSk
        · exact .inl (hS k o' hk hSk ed hed hbd)
        · subst hSk; rw [ho] at hk; cases hk; exact .inl (hpre ed hed hbd)) (by simp)
      simp only [Bool.or_eq_true, beq_iff_eq] at h2
      exact h2.resolve_right (by omega)
    · rw [decide_eq_false hji]
      by_cases hj : j = i
      · subst hj; exact hi
      · have hij : i < j := by omega
        have hc : clash e.lg f.lg = true := by
          unfold clash
          rcases ht with ht | ht
          · rw [Bool.or_eq_true]; right
            rw [List.any_eq_true]
            exact ⟨t, hfd, by simp [ht]⟩
          · rw [Bool.or_eq_true]; left; rw [Bool.or_eq_true]; right
            rw [List.any_eq_true]
            exact ⟨t, ht, by simp [hfd]⟩
        have hb := hpair i j e f hij he hf hc
        cases hSj : S j with
        | false => rfl
        | true => have := before_spec ops j i hb S hS hSj; rw [hi] at this; cases this
  have hgoodWi : ∀ (j : Nat) (f : En), es[j]? = some f → f.lg.Wi = f.W.map (·.1) := by
    intro j f hf
    have hj : j < es.length := (List.getElem?_eq_some_iff.1 hf).1
    obtain ⟨o, ho⟩ : ∃ o, ops.toList[j]? = some o := ⟨_, List.getElem?_eq_getElem (by rw [← hlen]; exact hj)⟩
    obtain ⟨e, Li, h1, _, h3, _⟩ := hat j o ho
    rw [hf] at h1; cases h1
    exact h3.2.1
  have pre : ∀ i, (es.map wr).take i = (es.take i).map wr := fun i => by rw [List.map_take]
  have preH : ∀ i, (es.map (·.W)).take i = (es.take i).map (·.W) := fun i => by rw [List.map_take]
  -- the induction
  have main : ∀ (fuel : Nat) (listed : Array Bool) (ρ1 : Ren) (a1 : Act) (w1 : World), listed.size = ops.size → ((List.range ops.size).filter fun i => !listed.getD i true).length ≤ fuel → DC (fun i => listed.getD i false) →
      Sim N B L' ρ1 (RS fun i => listed.getD i false) (HS fun i => listed.getD i false) a1 w1 → Ev ρ H w ρ1 (HS fun i => listed.getD i false) w1 →
      (∀ id rb, ρ1 id = some rb → ρ id = some rb ∨ ∃ j f ob, listed.getD j false = true ∧ es[j]? = some f ∧ (id, ob) ∈ f.W) →
      wpAnyIn (Fw r) n P .any ops Q fuel listed a1 w1 := by
    intro fuel
    have hready : ∀ listed : Array Bool, listed.size = ops.size → Region.ready .any ops listed = [] → ∀ i, i < ops.size → listed.getD i false = true := by
      intro listed hsz hnil i
      induction i using Nat.strongRecOn with
      | _ i ih =>
        intro hi
        cases hl : listed.getD i false with
        | true => rfl
        | false =>
          exfalso
          have hmem : i ∈ Region.ready .any ops listed := by
            rw [mem_ready]
            refine ⟨?_, ops[i], Array.getElem?_eq_getElem hi, ?_⟩
            · rw [Array.getD_eq_getD_getElem?, Array.getElem?_eq_getElem (by omega)] at hl ⊢
              simpa using hl
            · intro e he
              unfold edgesDown at hdown
              simp only [List.all_eq_true, List.mem_range] at hdown
              have h1 := hdown i hi
              rw [Array.getElem?_eq_getElem hi] at h1
              simp only at h1
              rw [Array.all_eq_true_iff_forall_mem] at h1
              have h2 := h1 e he
              cases hb : Region.binds .any e with
              | false => simp
              | true =>
                rw [hb] at h2
                simp at h2
                simp [ih e.on h2 (by omega)]
          rw [hnil] at hmem; cases hmem
    have hfin : ∀ (listed : Array Bool) (ρ1 : Ren) (a1 : Act) (w1 : World), (∀ i, i < ops.size → listed.getD i false = true) → Sim N B L' ρ1 (RS fun i => listed.getD i false) (HS fun i => listed.getD i false) a1 w1 →
        Ev ρ H w ρ1 (HS fun i => listed.getD i false) w1 → Q .normal a1 w1 := by
      intro listed ρ1 a1 w1 hall hs1 hev1
      have e1 : (RS fun i => listed.getD i false) = R' := by
        rw [hR']
        funext t
        have : (es.map wr).foldl appL R = foldS (fun j => decide (j < 0 + (es.map wr).length)) 0 (es.map wr) R := by rw [foldS_prefix, List.take_length]
        rw [this]
        refine foldS_congr t _ 0 R R rfl (fun j u hu _ => ?_)
        have hj : j < (es.map wr).length := (List.getElem?_eq_some_iff.1 hu).1
        rw [Nat.zero_add, hall j (by simp at hj; omega)]; simp at hj ⊢; exact hj
      have e2 : (HS fun i => listed.getD i false) = H' := by
        rw [hH']
        funext t
        have : (es.map (·.W)).foldl appL H = foldS (fun j => decide (j < 0 + (es.map (·.W)).length)) 0 (es.map (·.W)) H := by rw [foldS_prefix, List.take_length]
        rw [this]
        refine foldS_congr t _ 0 H H rfl (fun j u hu _ => ?_)
        have hj : j < (es.map (·.W)).length := (List.getElem?_eq_some_iff.1 hu).1
        rw [Nat.zero_add, hall j (by simp at hj; omega)]; simp at hj ⊢; exact hj
      rw [e1, e2] at hs1
      rw [e2] at hev1
      exact hk a1 w1 ρ1 hs1 hev1
    induction fuel with
    | zero =>
      intro listed ρ1 a1 w1 hsz hcnt hdc hs1 hev1 _
      have hall : ∀ i, i < ops.size → listed.getD i false = true := by
        intro i hi
        cases hl : listed.getD i false with
        | true => rfl
        | false =>
          exfalso
          have : i ∈ (List.range ops.size).filter fun i => !listed.getD i true := by
            rw [List.mem_filter]
            refine ⟨List.mem_range.2 hi, ?_⟩
            rw [Array.getD_eq_getD_getElem?, Array.getElem?_eq_getElem (by omega)] at hl ⊢
            simpa using hl
          have := List.length_pos_of_mem this
          omega
      refine ⟨?_, hfin listed ρ1 a1 w1 hall hs1 hev1⟩
      rw [List.eq_nil_iff_forall_not_mem]
      intro i hi
      obtain ⟨h1, o, ho, _⟩ := mem_ready.1 hi
      have hio : i < ops.size := (Array.getElem?_eq_some_iff.1 ho).1
      have h2 := hall i hio
      rw [Array.getD_eq_getD_getElem?, Array.getElem?_eq_getElem (by omega)] at h1 h2
      simp only [Option.getD_some] at h1 h2
      rw [h1] at h2; cases h2
    | succ fuel ih =>
      intro listed ρ1 a1 w1 hsz hcnt hdc hs1 hev1 hdom
      refine ⟨fun hnil => hfin listed ρ1 a1 w1 (hready listed hsz hnil) hs1 hev1, fun i hi => ?_⟩
      obtain ⟨hun, o, ho, hpre⟩ := mem_ready.1 hi
      have hio : i < ops.size := (Array.getElem?_eq_some_iff.1 ho).1
      have hSi : listed.getD i false = false := by
        rw [Array.getD_eq_getD_getElem?, Array.getElem?_eq_getElem (by omega)] at hun ⊢
        exact hun
      have hpre' : ∀ ed ∈ o.after, Region.binds .any ed = true → listed.getD ed.on false = true := by
        intro ed hed hb
        have := hpre ed hed
        rw [hb] at this
        simpa using this
      obtain ⟨e, Li, he, hLi, hgood, hfr1, hfr2⟩ := hat i o (by simpa using ho)
      have aR := agreeR (fun i => listed.getD i false) i o e hdc hSi ho hpre' he
      have aH := agreeH (fun i => listed.getD i false) i o e hdc hSi ho hpre' he
      have prefR : ∀ t, (t ∈ e.lg.rd ∨ e.lg.dst = some t) → RS (fun i => listed.getD i false) t = (((es.take i).map wr).foldl appL R) t := by
        intro t ht
        have h1 := foldS_prefix (es.map wr) 0 i R
        rw [pre] at h1
        rw [← h1]
        refine foldS_congr t _ 0 R R rfl (fun j u hu hx => ?_)
        rw [List.getElem?_map] at hu
        obtain ⟨f, hf, rfl⟩ := Option.map_eq_some_iff.1 hu
        simpa using aR t ht j f hf (lookup_wr hx)
      have prefH : ∀ t, (t ∈ e.lg.F ∨ t ∈ e.lg.Wi) → HS (fun i => listed.getD i false) t = (((es.take i).map (·.W)).foldl appL H) t := by
        intro t ht
        have h1 := foldS_prefix (es.map (·.W)) 0 i H
        rw [preH] at h1
        rw [← h1]
        refine foldS_congr t _ 0 H H rfl (fun j u hu hx => ?_)
        rw [List.getElem?_map] at hu
        obtain ⟨f, hf, rfl⟩ := Option.map_eq_some_iff.1 hu
        simpa using aH t ht j f hf (lookup_W (hgoodWi j f hf) hx)
      have hSn : ∀ j, (listed.setIfInBounds i true).getD j false = (listed.getD j false || j == i) := by
        intro j
        rw [Array.getD_eq_getD_getElem?, Array.getD_eq_getD_getElem?]
        by_cases hj : j = i
        · subst hj; rw [Array.getElem?_setIfInBounds_self_of_lt (by omega)]; simp
        · rw [Array.getElem?_setIfInBounds_ne (fun e => hj e.symm)]
          have : (j == i) = false := by simpa using hj
          simp [this]
      have hstep : ∀ {β : Type} (ws : List (List (Nat × Option β))) (f : Nat → Option β) (wi : List (Nat × Option β)), ws[i]? = some wi →
          (∀ t, (∃ x, wi.lookup t = some x) → ∀ j u, ws[j]? = some u → (∃ x, u.lookup t = some x) → listed.getD j false = decide (j < i)) →
          foldS (fun j => (listed.setIfInBounds i true).getD j false) 0 ws f = appL (foldS (fun j => listed.getD j false) 0 ws f) wi := by
        intro β ws f wi hwi hag
        funext t
        cases hl : wi.lookup t with
        | none =>
          have e1 : appL (foldS (fun j => listed.getD j false) 0 ws f) wi t = foldS (fun j => listed.getD j false) 0 ws f t := by simp [appL, hl]
          rw [e1]
          refine foldS_congr t _ 0 f f rfl (fun j u hu hx => ?_)
          rw [Nat.zero_add, hSn]
          by_cases hj : j = i
          · subst hj; rw [hwi] at hu; cases hu; obtain ⟨x, hx⟩ := hx; rw [hl] at hx; cases hx
          · have : (j == i) = false := by simpa using hj
            simp [this]
        | some x =>
          have e1 : appL (foldS (fun j => listed.getD j false) 0 ws f) wi t = x := by simp [appL, hl]
          rw [e1]
          have e2 : foldS (fun j => (listed.setIfInBounds i true).getD j false) 0 ws f t = foldS (fun j => decide (j < 0 + (i + 1))) 0 ws f t := by
            refine foldS_congr t _ 0 f f rfl (fun j u hu hx => ?_)
            rw [Nat.zero_add, hSn, hag t ⟨x, hl⟩ j u hu hx]
            by_cases hj : j = i
            · subst hj; simp
            · have : (j == i) = false := by simpa using hj
              rw [this, Bool.or_false]
              congr 1
              apply propext
              omega
          rw [e2, foldS_prefix]
          have hil : i < ws.length := (List.getElem?_eq_some_iff.1 hwi).1
          rw [List.take_succ_eq_append_getElem hil, List.foldl_append]
          have : ws[i] = wi := by rw [List.getElem?_eq_getElem hil] at hwi; exact Option.some.inj hwi
          simp only [List.foldl_cons, List.foldl_nil, this, appL, hl]
      have eR : RS (fun j => (listed.setIfInBounds i true).getD j false) = appL (RS fun j => listed.getD j false) (wr e) :=
        hstep (es.map wr) R (wr e) (by rw [List.getElem?_map, he]; rfl) (fun t ht j u hu hx => by
          rw [List.getElem?_map] at hu
          obtain ⟨f, hf, rfl⟩ := Option.map_eq_some_iff.1 hu
          exact aR t (.inr (lookup_wr ht)) j f hf (lookup_wr hx))
      have eH : HS (fun j => (listed.setIfInBounds i true).getD j false) = appL (HS fun j => listed.getD j false) e.W :=
        hstep (es.map (·.W)) H e.W (by rw [List.getElem?_map, he]; rfl) (fun t ht j u hu hx => by
          rw [List.getElem?_map] at hu
          obtain ⟨f, hf, rfl⟩ := Option.map_eq_some_iff.1 hu
          exact aH t (.inr (lookup_W (hgoodWi i e he) ht)) j f hf (lookup_W (hgoodWi j f hf) hx))
      refine good_step (L := L') (L' := L') ho hgood (fun d hd => hN i o d ho hd) (fun t ht => prefR t (.inl ht)) (fun t ht => prefH t ht) hs1 ?_ (Nat.le_refl _) (fun id ob hm => hLW e (List.mem_of_getElem? he) id ob hm) ?_
      · intro id ob hmem hF
        cases hρ : ρ1 id with
        | none => rfl
        | some rb =>
          exfalso
          have hidLi := hfr1 id ob hmem hF
          have hidWi : id ∈ e.lg.Wi := by rw [hgood.2.1]; exact List.mem_map.2 ⟨_, hmem, rfl⟩
          rcases hdom id rb hρ with h | ⟨j, f, ob', hj, hf, hm2⟩
          · rw [hs.fresh id (by omega)] at h; cases h
          · have hfWi : id ∈ f.lg.Wi := by rw [hgoodWi j f hf]; exact List.mem_map.2 ⟨_, hm2, rfl⟩
            have h3 := aH id (.inr hidWi) j f hf hfWi
            rw [hj] at h3
            have hji : j < i := by simpa using h3.symm
            have := hfr2 j f hji hf id ob' hm2
            omega
      · intro a2 w2 ρ2 hs2 hev2 hdom2
        refine ih (listed.setIfInBounds i true) ρ2 a2 w2 (by simp [hsz]) ?_ ?_ (by rw [eR, eH]; exact hs2) (by rw [eH]; exact hev1.trans hev2) ?_
        · -- one fewer is left
          have hsub : ∀ l : List Nat, l.Nodup → i ∈ l → (l.filter fun k => !(listed.setIfInBounds i true).getD k true).length + 1 ≤ (l.filter fun k => !listed.getD k true).length := by
            intro l
            have hne : ∀ k, k ≠ i → (listed.setIfInBounds i true).getD k true = listed.getD k true := fun k hk => by
              rw [Array.getD_eq_getD_getElem?, Array.getD_eq_getD_getElem?, Array.getElem?_setIfInBounds_ne (fun e => hk e.symm)]
            have hii : (listed.setIfInBounds i true).getD i true = true := by
              rw [Array.getD_eq_getD_getElem?, Array.getElem?_setIfInBounds_self_of_lt (by omega)]; rfl
            induction l with
            | nil => intro _ h; cases h
            | cons x l ihl =>
              intro hnd hmem
              rw [List.nodup_cons] at hnd
              simp only [List.filter_cons]
              by_cases hx : x = i
              · subst hx
                have heq : (l.filter fun k => !(listed.setIfInBounds x true).getD k true) = l.filter fun k => !listed.getD k true :=
                  List.filter_congr (fun k hk => by rw [hne k (fun e => hnd.1 (e ▸ hk))])
                rw [hii, heq]
                simp [hun]
              · rw [hne x hx]
                have := ihl hnd.2 ((List.mem_cons.1 hmem).resolve_left (fun e => hx e.symm))
                split
                · simp only [List.length_cons]; omega
                · omega
          have := hsub (List.range ops.size) List.nodup_range (List.mem_range.2 hio)
          omega
        · intro k o' hk hSk ed hed hb
          have hSk : (listed.setIfInBounds i true).getD k false = true := hSk
          show (listed.setIfInBounds i true).getD ed.on false = true
          rw [hSn] at hSk ⊢
          simp only [Bool.or_eq_true, beq_iff_eq] at hSk ⊢
          rcases hSk with hSk | hSk
          · exact .inl (hdc k o' hk hSk ed hed hb)
          · subst hSk; rw [ho] at hk; cases hk; exact .inl (hpre' ed hed hb)
        · intro id rb hid
          rcases hdom2 id rb hid with h | ⟨ob, hm2⟩
          · rcases hdom id rb h with h | ⟨j, f, ob', hj, hf, hm3⟩
            · exact .inl h
            · exact .inr ⟨j, f, ob', by rw [hSn, hj]; rfl, hf, hm3⟩
          · exact .inr ⟨i, e, ob, by rw [hSn]; simp, he, hm2⟩
  refine wpIn_region_any hm (main ops.size (Array.replicate ops.size false) ρ a { w with drawn := w.drawn + 1 } (by simp) ?_ ?_ ?_ ?_ (fun id rb h => .inl h))
  · refine Nat.le_trans (List.length_filter_le _ _) (by simp)
  · intro k o hk hSk
    have hSk : (Array.replicate ops.size false).getD k false = true := hSk
    rw [Array.getD_eq_getD_getElem?, Array.getElem?_replicate] at hSk
    split at hSk <;> cases hSk
  · have e0 : (fun i => (Array.replicate ops.size false).getD i false) = fun _ => false := by
      funext i
      rw [Array.getD_eq_getD_getElem?, Array.getElem?_replicate]
      split <;> rfl
    have nof : ∀ {β : Type} (ws : List (List (Nat × Option β))) (k : Nat) (f : Nat → Option β), foldS (fun _ => false) k ws f = f := by
      intro β ws
      induction ws with
      | nil => intro k f; rfl
      | cons x ws ihw => intro k f; simp only [foldS, Bool.false_eq_true, if_false]; exact ihw _ _
    simp only [RS, HS, e0, nof]
    exact ⟨hs.size, hs.regs, hs.heap, hs.sep, fun id hid => hs.fresh id (by omega), hs.dfr⟩
  · have e0 : (fun i => (Array.replicate ops.size false).getD i false) = fun _ => false := by
      funext i
      rw [Array.getD_eq_getD_getElem?, Array.getElem?_replicate]
      split <;> rfl
    have nof : ∀ {β : Type} (ws : List (List (Nat × Option β))) (k : Nat) (f : Nat → Option β), foldS (fun _ => false) k ws f = f := by
      intro β ws
      induction ws with
      | nil => intro k f; rfl
      | cons x ws ihw => intro k f; simp only [foldS, Bool.false_eq_true, if_false]; exact ihw _ _
    simp only [HS, e0, nof]
    exact ⟨Ext.refl _, (Fr.refl _ _).drew, fun _ _ h => .inl h⟩
end
end Go.Sh
