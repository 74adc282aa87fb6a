/- A function's promise, out of its body. -/
import Derived.Test.YtaknbogocnkmnaaSh14
namespace Go.Sh
set_option linter.unusedSimpArgs false

def regs : Nat → List SV → RL
  | _, [] => []
  | k, v :: vs => (k, v) :: regs (k + 1) vs

theorem regs_get : ∀ {vs : List SV} {k t : Nat} {v : SV}, rg (regs k vs) t = some v → k ≤ t ∧ vs[t - k]? = some v
  | [], k, t, v, h => by simp [regs, rg] at h
  | u :: vs, k, t, v, h => by
    simp only [regs, rg, List.lookup_cons] at h
    split at h
    · rename_i e
      have : t = k := by simpa using e
      subst this
      cases h
      exact ⟨Nat.le_refl _, by simp⟩
    · obtain ⟨h1, h2⟩ := regs_get (vs := vs) (k := k + 1) (t := t) h
      refine ⟨by omega, ?_⟩
      rw [show t - k = (t - (k + 1)) + 1 from by omega]
      simpa using h2

/-- The values that a function hands back. -/
def resK (T : TT) (R : RL) (H : HL) : List ResultVar → List SV → (List SV → Prop) → Prop
  | [], acc, K => K acc
  | .tmp t :: rs, acc, K => match lk t R with
    | some v => resK T R H rs (acc ++ [v]) K
    | none => False
  | .cell a t :: rs, acc, K => match lk a R with
    | some (.p id off) => match lk t T with
      | some ti => match hk H id with
        | some b => match Nat.ble 1 ti.sz with
          | true => ∃ v, sload ti.agg ti.sz b.cells off = some v ∧ resK T R H rs (acc ++ [v]) K
          | false => False
        | none => False
      | none => False
    | _ => False

/-- One result, read. -/
def resOne (tmps : Array Value) : ResultVar → Sem Value
  | .tmp t => pure (tmps.getD t undef)
  | .cell p t => do loadVar t (← asAddr (tmps.getD p undef))

theorem resK_ok {T : TT} {P : Program} {N B L : Nat} {ρ : Ren} {R : RL} {H : HL} {a : Act} {w : World} (hT : TOk P T) (hs : Sim N B L ρ (rg R) (hg H) a w) :
    ∀ {rs : List ResultVar} {acc : List SV} {K : List SV → Prop}, resK T R H rs acc K →
      ∃ vs us, (rs.mapM (resOne a.tmps)).run P w = .ok us w ∧ Rels ρ vs us ∧ K (acc ++ vs)
  | [], acc, K, h => ⟨[], [], by simp, Rels.nil_iff.2 rfl, by simpa [resK] using h⟩
  | .tmp t :: rs, acc, K, h => by
    simp only [resK] at h
    split at h
    · rename_i v hv
      obtain ⟨vs, us, h1, h2, h3⟩ := resK_ok hT hs h
      refine ⟨v :: vs, a.tmps.getD t undef :: us, ?_, Rels.cons (hs.regs t v (by rw [rg, ← lk_eq]; exact hv)) h2, by simpa using h3⟩
      simp only [List.mapM_cons, resOne, Sem.run_bind, h1, Sem.run_pure, Result.andThen]
    · exact h.elim
  | .cell p t :: rs, acc, K, h => by
    simp only [resK] at h
    split at h
    · rename_i id off hp
      split at h
      · rename_i ti ht
        split at h
        · rename_i b hb
          split at h
          · rename_i h1
            obtain ⟨v, hv, hk⟩ := h
            obtain ⟨vs, us, g1, g2, g3⟩ := resK_ok hT hs hk
            have ft := hT _ _ ht
            have hpv := hs.regs p (.p id off) (by rw [rg, ← lk_eq]; exact hp)
            simp only [Rel] at hpv
            obtain ⟨rb, hr, he⟩ := hpv
            obtain ⟨rb2, hr2, hbr⟩ := hs.heap id b (hk_some hb)
            rw [hr] at hr2; cases hr2
            have hne : 0 < b.cells.length := by
              have hsz := ble1 h1
              unfold sload at hv
              split at hv
              · split at hv
                · omega
                · cases hv
              · have := (List.getElem?_eq_some_iff.1 hv).1; omega
            obtain ⟨hca, _⟩ := hbr.cellsAt hne
            obtain ⟨x, hx1, hx2⟩ := load_ok (P := P) (w := w) ft.agg ft.sz hca hv
            refine ⟨v :: vs, x :: us, ?_, Rels.cons hx2 g2, by simpa using g3⟩
            have ha : (asAddr (a.tmps.getD p undef)).run P w = .ok ⟨rb.blk, rb.off + off, none⟩ w := by rw [he]; simp [asAddr]
            simp only [List.mapM_cons, resOne, Sem.run_bind, ha, hx1, g1, Sem.run_pure, Result.andThen]
          · exact h.elim
        · exact h.elim
      · exact h.elim
    · exact h.elim

def tupOf : List SV → SV
  | [v] => v
  | vs => .tup vs

theorem results_run {T : TT} {P : Program} {N B L : Nat} {ρ : Ren} {R : RL} {H : HL} {a : Act} {w : World} {fn : Func} {K : List SV → Prop} (hT : TOk P T) (hs : Sim N B L ρ (rg R) (hg H) a w) (h : resK T R H fn.results.toList [] K) :
    ∃ vs v, (results fn a.tmps).run P w = .ok v w ∧ Rel ρ (tupOf vs) v ∧ K vs := by
  obtain ⟨vs, us, h1, h2, h3⟩ := resK_ok hT hs h
  refine ⟨vs, if h : us.length = 1 then us[0] else .tuple ⟨us⟩, ?_, ?_, by simpa using h3⟩
  · have e : results fn a.tmps = (fn.results.mapM (resOne a.tmps) >>= fun vs => pure (if h : vs.size = 1 then vs[0] else .tuple vs)) := by
      unfold results
      congr 1
    rw [e]
    rw [Array.mapM_eq_mapM_toList]
    simp only [Sem.run_bind, map_eq_pure_bind, Sem.run_pure, Result.andThen]
    rw [h1]
    simp only [List.size_toArray, Sem.run_pure]
    by_cases hu : us.length = 1
    · simp [hu]
    · simp [hu]
  · have hl := h2.length
    by_cases hu : us.length = 1
    · rw [dif_pos hu]
      match vs, us, h2, hu with
      | [x], [y], h2, _ => exact (Rels.cons_iff.1 h2).1
      | [], [_], h2, _ => simp at hl
      | _ :: _ :: _, [_], h2, _ => simp at hl
    · rw [dif_neg hu]
      have : tupOf vs = .tup vs := by
        match vs, hl with
        | [], _ => rfl
        | [x], hl => simp at hl; exact absurd hl hu
        | _ :: _ :: _, _ => rfl
      rw [this]
      simp only [Rel]
      exact ⟨us, rfl, h2⟩

structure finOk (A : Nat) (H : HL) (ret : SV) (H1 : HL) (v : SV) : Prop where
  ex : ∃ sel, renV sel ret = some v ∧ Nat.beq sel.length H1.length = true ∧ idOk sel A = true ∧ okH sel H sel H1 ∧ dupOk sel 0 sel H1 = true

def fnPost (T : TT) (fn : Func) (A : Nat) (ret : SV) (H1 : HL) : Exit → RL → HL → Nat → Prop
  | .normal, R, H, _ => resK T R H fn.results.toList [] fun vs => finOk A H ret H1 (tupOf vs)
  | .ret, R, H, _ => resK T R H fn.results.toList [] fun vs => finOk A H ret H1 (tupOf vs)
  | _, _, _, _ => False

/-! ### The marks of loops over iterators -/

structure MarkEq (B : Nat) (w w' : World) : Prop where
  os : w'.os = w.os
  tape : w'.tape = w.tape
  output : w'.output = w.output
  size : w'.heap.size = w.heap.size
  low : ∀ k, k < B → w'.heap[k]? = w.heap[k]?
  cells : ∀ (k : Nat) (c : Array Value) (t : TypeId) (fz : Nat × Nat), w.heap[k]? = some (.cells c t fz) → w'.heap[k]? = some (.cells c t fz)
  loops : ∀ (k : Nat) (r : Loop), w.heap[k]? = some (.loop r) → w'.heap[k]? = some (.loop r)

theorem MarkEq.refl (B : Nat) (w : World) : MarkEq B w w := ⟨rfl, rfl, rfl, rfl, fun _ _ => rfl, fun _ _ _ _ h => h, fun _ _ h => h⟩
theorem MarkEq.trans {B : Nat} {a b c : World} (h : MarkEq B a b) (k : MarkEq B b c) : MarkEq B a c :=
  ⟨k.os.trans h.os, k.tape.trans h.tape, k.output.trans h.output, k.size.trans h.size, fun i hi => (k.low i hi).trans (h.low i hi), fun i c t fz hc => k.cells i c t fz (h.cells i c t fz hc), fun i r hr => k.loops i r (h.loops i r hr)⟩

theorem MarkEq.put {B r : Nat} {w : World} {x : Option (List Deferred)} {o : Obj} (hB : B ≤ r) (h : w.heap[r]? = some (.deferred x)) : MarkEq B w (w.putObj r o) := by
  refine ⟨rfl, rfl, rfl, by simp [World.putObj], fun k hk => ?_, fun k c t fz hc => ?_, fun k q hc => ?_⟩
  · simp only [World.putObj]; rw [Array.getElem?_setIfInBounds_ne (by omega)]
  · have : r ≠ k := fun e => by subst e; rw [h] at hc; cases hc
    simp only [World.putObj]; rw [Array.getElem?_setIfInBounds_ne this]; exact hc
  · have : r ≠ k := fun e => by subst e; rw [h] at hc; cases hc
    simp only [World.putObj]; rw [Array.getElem?_setIfInBounds_ne this]; exact hc

theorem BRel.marks {B : Nat} {ρ : Ren} {w w' : World} {rb : RB} {b : SB} (hm : MarkEq B w w') (h : BRel ρ w rb b) : BRel ρ w' rb b := by
  cases b with
  | obj y =>
    cases y with
    | loop R N ps as_ bd => obtain ⟨r, h1, h2⟩ := h; exact ⟨r, hm.loops _ _ h1, h2⟩
    | pend c => obtain ⟨r, h1, h2⟩ := h; exact ⟨r, hm.loops _ _ h1, h2⟩
  | ro l => exact h.imp id fun ⟨⟨c, t, fz, hb, r⟩, h2⟩ => ⟨⟨c, t, fz, hm.cells _ _ _ _ hb, r⟩, h2⟩
  | box l => obtain ⟨⟨c, t, fz, hb, r⟩, h2⟩ := h; exact ⟨⟨c, t, fz, hm.cells _ _ _ _ hb, r⟩, h2⟩
  | row t l => exact h.imp id fun ⟨hv, c, fz, hb, r⟩ => ⟨hv, c, fz, hm.cells _ _ _ _ hb, r⟩

theorem leaves_marks {F : Fence} {n : Nat} {P : Program} {fn : Func} {tmps : Array Value} {R : Ending → World → Prop} {B : Nat} : ∀ (ds : List Deferred) (w : World), DfrOk B ds w →
    (∀ w', MarkEq B w w' → ∃ v, (results fn tmps).run P w' = .ok v w' ∧ R (.returned v) w') → LeavesInM F n P fn tmps R ds .returning w
  | [], w, _, h => h w (MarkEq.refl _ _)
  | d :: ds, w, hd, h => by
    obtain ⟨hp, hall, hbase⟩ := hd
    obtain ⟨r, rfl, hB, hr⟩ := hall d (List.mem_cons_self ..)
    refine ⟨by simp, .inl ⟨r, w.putObj r (.deferred none), rfl, run_takeDeferred hr, ?_⟩⟩
    have hme : MarkEq B w (w.putObj r (.deferred none)) := MarkEq.put hB hr
    simp only [List.map_cons, List.pairwise_cons] at hp
    refine leaves_marks ds _ ⟨hp.2, fun d hd => ?_, by simpa [World.putObj] using hbase⟩ (fun w' hw' => h w' (hme.trans hw'))
    obtain ⟨r2, e, hB2, hr2⟩ := hall d (List.mem_cons_of_mem _ hd)
    refine ⟨r2, e, hB2, ?_⟩
    have hne : r ≠ r2 := fun e2 => by
      subst e2
      exact hp.1 d.target (List.mem_map_of_mem hd) r rfl (by rw [e])
    simp only [World.putObj]; rw [Array.getElem?_setIfInBounds_ne hne]; exact hr2

theorem Fr.marks {S : Nat → Nat → Prop} {w w1 w2 : World} (h : Fr S w w1) (hm : MarkEq w.heap.size w1 w2) : Fr S w w2 := by
  refine ⟨hm.os.trans h.os, hm.tape.trans h.tape, hm.output.trans h.output, by rw [hm.size]; exact h.size, fun k o ho => ?_⟩
  have hk : k < w.heap.size := (Array.getElem?_eq_some_iff.1 ho).1
  rw [hm.low k hk]
  exact h.blk k o ho

/-- A function's promise, out of its body's walk. -/
theorem scall_of {T : TT} {P : Program} {f : Nat} {fn : Func} {c : Code} {args : List SV} {H0 : HL} {ret : SV} {H1 : HL} (hT : TOk P T) (hf : P.funcs[f]? = some fn) (hb : fn.body = some c)
    (hnm : (fn.name == "runtime.NumGoroutine") = false) (hle : Nat.ble args.length fn.ntmps = true)
    (h : SWp P (· = none) fn.ntmps H0.length c (fnPost T fn H0.length ret H1) (regs 0 args) H0 H0.length) : SCall P f args H0 ret H1 := by
  refine ⟨⟨fn, hf, by rw [hb]; rfl, hnm⟩, fun n ρ w vs hvs hh hs hfr => ?_⟩
  refine callsIn_of_wp_marks hf hb trivial ?_ rfl
  have hlen := hvs.length
  have hle' := Nat.le_of_ble_eq_true hle
  have hsim : Sim fn.ntmps w.heap.size H0.length ρ (rg (regs 0 args)) (hg H0) { tmps := ⟨vs⟩ ++ Array.replicate (fn.ntmps - (⟨vs⟩ : Array Value).size) undef, defers := [] } w := by
    refine ⟨by simp; omega, ?_, hh, hs, hfr, ⟨List.Pairwise.nil, fun d hd => by simp at hd, Nat.le_refl _⟩⟩
    intro t v hv
    obtain ⟨_, h2⟩ := regs_get hv
    obtain ⟨u, hu, hr⟩ := hvs.get h2
    simp only [Nat.sub_zero] at hu
    have htl : t < vs.length := (List.getElem?_eq_some_iff.1 hu).1
    have : (⟨vs⟩ ++ Array.replicate (fn.ntmps - (⟨vs⟩ : Array Value).size) undef : Array Value).getD t undef = u := by
      rw [Array.getD_eq_getD_getElem?, Array.getElem?_append_left (by simpa using htl)]
      simp [hu]
    rw [this]; exact hr
  refine wpIn_mono (h.run none n w.heap.size ρ _ w rfl hsim (Nat.le_refl _)) ?_
  rintro e a' w' ⟨R', H', L', ρ', hq, hl', hs', he'⟩
  have main : resK T R' H' fn.results.toList [] (fun vs => finOk H0.length H' ret H1 (tupOf vs)) → LeavesInM Fence.wide n P fn a'.tmps (CallR ρ H0 w ret H1) a'.defers .returning w' := by
    intro hq
    refine leaves_marks a'.defers w' hs'.dfr (fun w'' hm => ?_)
    have hs2 : Sim fn.ntmps w.heap.size L' ρ' (rg R') (hg H') { a' with defers := [] } w'' :=
      ⟨hs'.size, hs'.regs, fun id b hid => let ⟨rb, h1, h2⟩ := hs'.heap id b hid; ⟨rb, h1, h2.marks hm⟩, hs'.sep, hs'.fresh, ⟨List.Pairwise.nil, fun d hd => by simp at hd, by rw [hm.size]; exact hs'.dfr.2.2⟩⟩
    obtain ⟨us, v, hrun, hrel, sel, g1, g2, g3, g4, g5⟩ := results_run hT hs2 hq
    obtain ⟨k1, k2⟩ := sel_sim (R0 := []) (L0 := H1.length) sel (beqE g2) g3 trivial g4 g5 hs2
    refine ⟨v, hrun, pullR sel ρ', (rel_ren ret g1).2 hrel, k1.heap, k1.sep, k1.fresh, ?_⟩
    have e1 : EvA H0.length ρ (hg H0) w ρ' (hg H') w'' := ⟨he'.ext, he'.fr.marks hm, he'.own⟩
    exact e1.trans k2
  cases e with
  | normal => exact main hq
  | ret => exact main hq
  | _ => exact hq.elim
end Go.Sh
