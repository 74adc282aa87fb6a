/- Loops over iterators: a round, as a call; the statement. -/
import Derived.Test.YtaknbogocnkmnaaSh17
namespace Go.Sh
set_option linter.unusedSimpArgs false

def noObj : HL → Bool
  | [] => true
  | none :: H => noObj H
  | some (.obj _) :: _ => false
  | some _ :: H => noObj H

theorem noObj_get : ∀ {H : HL} {id : Nat} {y : OB}, noObj H = true → hg H id ≠ some (.obj y)
  | [], id, y, _, h => by simp [hg] at h
  | none :: H, 0, y, _, h => by simp [hg] at h
  | none :: H, id + 1, y, hn, h => noObj_get (H := H) (id := id) hn (by simpa [hg] using h)
  | some (.obj _) :: H, id, y, hn, h => by simp [noObj] at hn
  | some (.row _ _) :: H, 0, y, hn, h => by simp [hg] at h
  | some (.box _) :: H, 0, y, hn, h => by simp [hg] at h
  | some (.ro _) :: H, 0, y, hn, h => by simp [hg] at h
  | some (.row _ _) :: H, id + 1, y, hn, h => noObj_get (H := H) (id := id) hn (by simpa [hg] using h)
  | some (.box _) :: H, id + 1, y, hn, h => noObj_get (H := H) (id := id) hn (by simpa [hg] using h)
  | some (.ro _) :: H, id + 1, y, hn, h => noObj_get (H := H) (id := id) hn (by simpa [hg] using h)

/-- A block of cells lies in cells. -/
theorem foot_cells {ρ : Ren} {w : World} {rb : RB} {b : SB} {k o : Nat} (hb : BRel ρ w rb b) (hn : ∀ y, b ≠ .obj y) (hf : foot rb b k o) : ∃ c t fz, w.heap[k]? = some (.cells c t fz) := by
  cases b with
  | obj y => exact absurd rfl (hn y)
  | ro l =>
    rcases hb with rfl | ⟨⟨c, t, fz, hh, _⟩, _⟩
    · have := hf.2; simp at this; omega
    · rw [hf.1]; exact ⟨c, t, fz, hh⟩
  | box l => obtain ⟨⟨c, t, fz, hh, _⟩, _⟩ := hb; rw [hf.1]; exact ⟨c, t, fz, hh⟩
  | row t l =>
    rcases hb with ⟨hv, _⟩ | ⟨_, c, fz, hh, _⟩
    · rw [hf.1] at hv; cases hv
    · rw [hf.2.1]; exact ⟨c, _, fz, hh⟩

/-- Registers, some of them set. -/
def zipR : List Nat → List SV → RL → RL
  | p :: ps, x :: xs, R => zipR ps xs ((p, x) :: R)
  | _, _, R => R

theorem relR_set {ρ : Ren} {R : RL} {tmps : Array Value} {p : Nat} {x : SV} {v : Value} (h : RelR ρ R tmps) (hx : Rel ρ x v) (hp : p < tmps.size) : RelR ρ ((p, x) :: R) (tmps.setIfInBounds p v) := by
  intro t u hu
  simp only [List.lookup_cons] at hu
  cases htp : (t == p) with
  | true =>
    rw [htp] at hu
    have : t = p := by simpa using htp
    subst this
    cases hu
    rw [Array.getD_eq_getD_getElem?, Array.getElem?_setIfInBounds_self_of_lt hp]
    exact hx
  | false =>
    rw [htp] at hu
    have hne : p ≠ t := fun e => by subst e; simp at htp
    have := h t u hu
    rw [Array.getD_eq_getD_getElem?] at this ⊢
    rw [Array.getElem?_setIfInBounds_ne hne]; exact this

theorem relR_zip {ρ : Ren} : ∀ {ps : List Nat} {xs : List SV} {vs : List Value} {R : RL} {tmps : Array Value}, RelR ρ R tmps → Rels ρ xs vs → (∀ p ∈ ps, p < tmps.size) → ps.length = xs.length →
    RelR ρ (zipR ps xs R) ((ps.zip vs).foldl (fun t (q : Nat × Value) => t.setIfInBounds q.1 q.2) tmps) ∧ ((ps.zip vs).foldl (fun t (q : Nat × Value) => t.setIfInBounds q.1 q.2) tmps).size = tmps.size
  | [], xs, vs, R, tmps, h, _, _, hl => by
    have : xs = [] := List.eq_nil_of_length_eq_zero (by simpa using hl.symm)
    subst this
    exact ⟨h, rfl⟩
  | p :: ps, [], vs, R, tmps, h, _, _, hl => by simp at hl
  | p :: ps, x :: xs, vs, R, tmps, h, hv, hp, hl => by
    simp only [Rels] at hv
    obtain ⟨v, vs', rfl, h1, h2⟩ := hv
    have := relR_zip (ps := ps) (relR_set h h1 (hp p (List.mem_cons_self ..))) h2 (fun q hq => by simpa using hp q (List.mem_cons_of_mem _ hq)) (by simpa using hl)
    exact ⟨this.1, by rw [show ((p :: ps).zip (v :: vs')).foldl (fun t (q : Nat × Value) => t.setIfInBounds q.1 q.2) tmps = (ps.zip vs').foldl (fun t (q : Nat × Value) => t.setIfInBounds q.1 q.2) (tmps.setIfInBounds p v) from rfl, this.2]; simp⟩

/-- What a call of a round's yield promises: block 0 is the loop's. -/
structure SYield (P : Program) (args0 : List SV) (H0 : HL) (ret : SV) (H1 : HL) : Prop where
  call : ∀ (r : Option Nat) n ρ w vs rb, Rels ρ args0 vs → HRel ρ (hg H0) w → Sep ρ (hg H0) → (∀ id, H0.length ≤ id → ρ id = none) → ρ 0 = some rb →
    ∃ f tmps as_ bd, (Instr.yield rb.blk ⟨vs⟩).run P w = .ok (.round rb.blk f tmps as_ bd) w ∧ RoundIn (Fw r) n P rb.blk f tmps as_ bd w (CallR ρ H0 w ret H1)

theorem lt_yield {P : Program} {o : Oper} {R : Env} {H : HL} {L : Nat} {x : Operand} {args : Array Operand} {tys : Array TypeId} {id : Nat} {zs args0 : List SV} {ss : List Nat} {H0 H1 : HL} {ret z : SV} {W : Upd} (hl : H.length ≤ L)
    (ho : o.op = .call ⟨.value x, args, tys⟩) (hx : evO R x = some (.yld id)) (hargs : args.toList.map (evO R) = zs.map some) (hc : SYield P args0 H0 ret H1) (hren : renL (id :: ss) args0 = some zs)
    (hlen : (id :: ss).length = H0.length) (hok : okH (id :: ss) H (id :: ss) H0) (hd : dupOk (id :: ss) 0 (id :: ss) H0 = true) (hW : cW (id :: ss ++ newSel L (H1.length - H0.length)) (id :: ss ++ newSel L (H1.length - H0.length)) H0 H1 = some W)
    (hz : renV (id :: ss ++ newSel L (H1.length - H0.length)) ret = some z) : LT P o R (hg H) (id :: ss) W (some z) := by
  refine lt_of_callR hl hlen hok hd hW hz ?_
  intro r n a w ρ next Q hR hH0 hsep0 hfr0 hk
  have hv := eval_callee ho hx hR
  simp only [Rel] at hv
  obtain ⟨rb, hrb, he⟩ := hv
  have hzs := eval_args ho hargs hR
  have hrels : Rels (pullR (id :: ss) ρ) args0 (args.toList.map a.eval) := (rels_ren args0 hren).2 hzs
  obtain ⟨f, tmps, as_, bd, hy, hround⟩ := hc.call r (n - 1) (pullR (id :: ss) ρ) w _ rb hrels hH0 hsep0 hfr0 (by simpa [pullR] using hrb)
  have hrun : (execOp a.eval o).run P w = .ok (.round rb.blk f tmps as_ bd) w := by
    unfold execOp
    simp only [ho, resolve, he, Deferred.ofValue, Sem.run_bind, Sem.run_pure, Result.andThen, invoke]
    rw [show (#[] ++ args.map a.eval) = (⟨args.toList.map a.eval⟩ : Array Value) from Array.toList_inj.1 (by simp)]
    exact hy
  refine ⟨fun _ _ => trivial, ?_⟩
  rw [Oper.semAt_eq _ _ _ (by intro c; rw [ho]; simp), hrun]
  refine ⟨fun h => (by cases h), ?_⟩
  refine hround.mono ?_
  intro e w' hr'
  cases e with
  | panicked c => exact hr'.elim
  | outgrown => exact hr'.elim
  | returned v => exact hk v w' hr'

/-! ### A round, out of its code's walk -/

/-- What lies there at a round's end, told smaller. -/
structure finH (A : Nat) (H : HL) (H1 : HL) : Prop where
  ex : ∃ sel, Nat.beq sel.length H1.length = true ∧ idOk sel A = true ∧ okH sel H sel H1 ∧ dupOk sel 0 sel H1 = true

def jumpOf : Exit → Option Code
  | .ret => some .ret
  | .exit i => some (.exit i)
  | _ => none

/-- What is there behind a round: the loop as it was, or left by a jump. -/
def obEnd (R : RL) (N : Nat) (ps : List Nat) (as_ bd : Code) (ex : Exit) : OB := match jumpOf ex with | some c => .pend c | none => .loop R N ps as_ bd

def retEnd (ex : Exit) : SV := .b (jumpOf ex).isNone

/-- A loop's record is put anew. -/
theorem Fr.putLoop {S : Nat → Nat → Prop} {w : World} {l : Nat} {r r' : Loop} (h : w.heap[l]? = some (.loop r)) (hS : ∃ o, S l o) : Fr S w (w.putObj l (.loop r')) := by
  refine ⟨rfl, rfl, rfl, by simp [World.putObj], fun k o ho => ?_⟩
  by_cases hk : l = k
  · subst hk
    rw [h] at ho; cases ho
    have hlt := (Array.getElem?_eq_some_iff.1 h).1
    simp only [World.putObj]
    rw [Array.getElem?_setIfInBounds_self_of_lt hlt]
    exact .inr ⟨hS, by simp [mutK], _, rfl, rfl⟩
  · simp only [World.putObj]
    rw [Array.getElem?_setIfInBounds_ne hk, ho]
    exact FrO.refl _ _

theorem putLoop_cells {w : World} {l k : Nat} {r r' : Loop} (h : w.heap[l]? = some (.loop r)) {c : Array Value} {t : TypeId} {fz : Nat × Nat} (hc : w.heap[k]? = some (.cells c t fz)) : (w.putObj l (.loop r')).heap[k]? = some (.cells c t fz) := by
  have hne : l ≠ k := fun e => by subst e; rw [h] at hc; cases hc
  simp only [World.putObj]; rw [Array.getElem?_setIfInBounds_ne hne]; exact hc
theorem putLoop_dfr {w : World} {l k : Nat} {r r' : Loop} (h : w.heap[l]? = some (.loop r)) {x : Option (List Deferred)} (hc : w.heap[k]? = some (.deferred x)) : (w.putObj l (.loop r')).heap[k]? = some (.deferred x) := by
  have hne : l ≠ k := fun e => by subst e; rw [h] at hc; cases hc
  simp only [World.putObj]; rw [Array.getElem?_setIfInBounds_ne hne]; exact hc
theorem putLoop_self {w : World} {l : Nat} {r r' : Loop} (h : w.heap[l]? = some (.loop r)) : (w.putObj l (.loop r')).heap[l]? = some (.loop r') := by
  simp only [World.putObj]; rw [Array.getElem?_setIfInBounds_self_of_lt (Array.getElem?_eq_some_iff.1 h).1]

theorem BRel.putLoop {ρ : Ren} {w : World} {l : Nat} {r r' : Loop} {rb : RB} {b : SB} (h : w.heap[l]? = some (.loop r)) (hn : ∀ y, b ≠ .obj y) (hb : BRel ρ w rb b) : BRel ρ (w.putObj l (.loop r')) rb b := by
  cases b with
  | obj y => exact absurd rfl (hn y)
  | ro l => exact hb.imp id fun ⟨⟨c, t, fz, hh, q⟩, h2⟩ => ⟨⟨c, t, fz, putLoop_cells h hh, q⟩, h2⟩
  | box l => obtain ⟨⟨c, t, fz, hh, q⟩, h2⟩ := hb; exact ⟨⟨c, t, fz, putLoop_cells h hh, q⟩, h2⟩
  | row t l => exact hb.imp id fun ⟨hv, c, fz, hh, q⟩ => ⟨hv, c, fz, putLoop_cells h hh, q⟩

theorem Sim.putLoop {N B L : Nat} {ρ : Ren} {R : Env} {H : HL} {a : Act} {w : World} {l : Nat} {r r' : Loop} (h : w.heap[l]? = some (.loop r)) (hn : noObj H = true) (hs : Sim N B L ρ R (hg H) a w) : Sim N B L ρ R (hg H) a (w.putObj l (.loop r')) :=
  ⟨hs.size, hs.regs, fun id b hb => let ⟨rb, h1, h2⟩ := hs.heap id b hb; ⟨rb, h1, h2.putLoop h (fun y e => noObj_get hn (by rw [← e]; exact hb))⟩, hs.sep, hs.fresh,
    ⟨hs.dfr.1, fun d hd => let ⟨k, e, hB, hk⟩ := hs.dfr.2.1 d hd; ⟨k, e, hB, putLoop_dfr h hk⟩, by simpa [World.putObj] using hs.dfr.2.2⟩⟩

theorem hg_cons_succ (x : Option SB) (H : HL) (id : Nat) : hg (x :: H) (id + 1) = hg H id := by simp [hg]
theorem hg_cons_zero (x : Option SB) (H : HL) : hg (x :: H) 0 = x := by cases x <;> simp [hg]

theorem syield_of {P : Program} {R0 : RL} {N : Nat} {ps : List Nat} {as_ bd : Code} {args0 : List SV} {H0t H1t : HL} {ex : Exit} (hex : ex = .normal ∨ ex = .ret ∨ ∃ i, ex = .exit i)
    (hno1 : noObj H1t = true) (hps : ps.length = args0.length) (hpN : ps.all (fun p => Nat.blt p N) = true)
    (hwalk : SWp P (fun _ => True) N (H0t.length + 1) as_ (fun e R H L => e = .normal ∧ noObj H = true ∧ hg H 0 = none ∧ SWp P (fun _ => True) N (H0t.length + 1) bd (fun e _ H _ => e = ex ∧ hg H 0 = none ∧ noObj H = true ∧ finH (H0t.length + 1) H (none :: H1t)) R H L)
      (zipR ps args0 R0) (none :: H0t) (H0t.length + 1)) :
    SYield P args0 (some (.obj (.loop R0 N ps as_ bd)) :: H0t) (retEnd ex) (some (.obj (obEnd R0 N ps as_ bd ex)) :: H1t) := by
  refine ⟨fun rr n ρ w vs rb hvs hh hsep hfr hrb => ?_⟩
  obtain ⟨rb', hrb', hO⟩ := hh 0 _ (hg_cons_zero _ _)
  rw [hrb] at hrb'; cases hrb'
  obtain ⟨r, hl, hst, hpd, hrp, hra, hrbd, hsz, hrel⟩ := hO
  obtain ⟨l, hlb⟩ : ∃ l, l = rb.blk := ⟨_, rfl⟩
  rw [← hlb] at hl ⊢
  have hvl := hvs.length
  have hargsz : (⟨vs⟩ : Array Value).size = r.params.size := by rw [hrp]; simp; omega
  have hy := run_yield (P := P) hl hargsz
  refine ⟨_, _, _, _, hy, ?_⟩
  rw [hra, hrbd]
  -- the heap without the loop
  have hh1 : HRel ρ (hg (none :: H0t)) w := fun id b hb => by
    cases id with
    | zero => rw [hg_cons_zero] at hb; cases hb
    | succ id => rw [hg_cons_succ] at hb; exact hh (id + 1) b (by rw [hg_cons_succ]; exact hb)
  have sub : ∀ id b, hg (none :: H0t) id = some b → hg (some (.obj (.loop R0 N ps as_ bd)) :: H0t) id = some b ∧ id ≠ 0 := fun id b hb => by
    cases id with
    | zero => rw [hg_cons_zero] at hb; cases hb
    | succ id => rw [hg_cons_succ] at hb; exact ⟨by rw [hg_cons_succ]; exact hb, by omega⟩
  have hsep1 : Sep ρ (hg (none :: H0t)) := fun i j bi bj ri rj hne hi hj hri hrj hown => hsep i j bi bj ri rj hne (sub i bi hi).1 (sub j bj hj).1 hri hrj hown
  have hl0 : ∀ o, ¬ Owned ρ (hg (none :: H0t)) l o := by
    rintro o ⟨id, b, rb2, h1, h2, h3, h4⟩
    obtain ⟨g1, g2⟩ := sub id b h1
    exact hsep 0 id _ b rb rb2 (by omega) (hg_cons_zero _ _) g1 hrb h2 rfl l o ⟨hlb, h4⟩
  have hown0 : ∀ k o, Owned ρ (hg (none :: H0t)) k o → Owned ρ (hg (some (.obj (.loop R0 N ps as_ bd)) :: H0t)) k o := by
    rintro k o ⟨id, b, rb2, h1, h2, h3, h4⟩
    exact ⟨id, b, rb2, (sub id b h1).1, h2, h3, h4⟩
  have hownl : Owned ρ (hg (some (.obj (.loop R0 N ps as_ bd)) :: H0t)) l 0 := ⟨0, _, rb, hg_cons_zero _ _, hrb, rfl, hlb⟩
  have hlt : l < w.heap.size := (Array.getElem?_eq_some_iff.1 hl).1
  obtain ⟨hz1, hz2⟩ := relR_zip (ps := ps) (vs := vs) hrel hvs (fun p hp => by
    have := List.all_eq_true.1 hpN p hp
    rw [hsz]; simpa [Nat.blt_eq] using this) hps
  have htm : (r.params.zip ⟨vs⟩).foldl (fun tmps (q : Nat × Value) => tmps.setIfInBounds q.1 q.2) r.tmps = ((ps.zip vs).foldl (fun t (q : Nat × Value) => t.setIfInBounds q.1 q.2) r.tmps) := by
    rw [hrp, ← Array.foldl_toList]; simp
  have hsim : Sim N w.heap.size (H0t.length + 1) ρ (rg (zipR ps args0 R0)) (hg (none :: H0t)) { tmps := ((ps.zip vs).foldl (fun t (q : Nat × Value) => t.setIfInBounds q.1 q.2) r.tmps), defers := [] } w :=
    ⟨by rw [hz2, hsz], fun t v hv => hz1 t v hv, hh1, hsep1, fun id hid => hfr id (by simpa using hid), ⟨List.Pairwise.nil, fun d hd => by simp at hd, Nat.le_refl _⟩⟩
  refine roundIn_of_wpIn trivial ?_
  have e0 : (r.params.zip ⟨vs⟩).foldl (fun tmps x => match x with | (t, a) => tmps.setIfInBounds t a) r.tmps = ((ps.zip vs).foldl (fun t (q : Nat × Value) => t.setIfInBounds q.1 q.2) r.tmps) := htm
  rw [e0]
  refine wpIn_mono (hwalk.run (some l) n w.heap.size ρ _ w trivial hsim (by simp)) ?_
  rintro e a1 w1 ⟨R1, H1, L1, ρ1, ⟨rfl, hno2, hz0, hbody⟩, hl1, hs1, he1⟩
  have hl1' : w1.heap[l]? = some (.loop r) := (he1.fr.blk l _ hl).same (fun o => hl0 o)
  refine ⟨_, run_beginRound hl1' hst, ?_⟩
  obtain ⟨w2, hw2⟩ : ∃ w2, w2 = w1.putObj l (.loop { r with state := .busy }) := ⟨_, rfl⟩
  rw [← hw2]
  have hs2 : Sim N w.heap.size L1 ρ1 (rg R1) (hg H1) a1 w2 := by rw [hw2]; exact hs1.putLoop hl1' hno2
  have hl2 : w2.heap[l]? = some (.loop { r with state := .busy }) := by rw [hw2]; exact putLoop_self hl1'
  refine wpIn_mono (hbody.run (some l) n w.heap.size ρ1 a1 w2 trivial hs2 hl1) ?_
  rintro e a3 w3 ⟨R3, H3, L3, ρ3, ⟨rfl, hz3, hno3, hfin⟩, hl3, hs3, he3⟩
  have hl1n : ∀ o, ¬ Owned ρ1 (hg H1) l o := fun o ho => by
    rcases he1.own l o ho with h | h
    · exact hl0 o h
    · omega
  have hl3' : w3.heap[l]? = some (.loop { r with state := .busy }) := (he3.fr.blk l _ hl2).same hl1n
  obtain ⟨sel, f1, f2, f3, f4⟩ := hfin.ex
  have f1' : sel.length = H1t.length + 1 := by simpa using beqE f1
  have hsel := sel_sim (R0 := []) (L0 := H1t.length + 1) sel f1' f2 trivial f3 f4 hs3
  obtain ⟨k1, k2⟩ := hsel
  -- what the end of the round hands back
  have fin : ∀ jump : Option Code, jump = jumpOf e → ∃ w4, (Instr.endRound l jump).run P w3 = .ok (.bool jump.isNone) w4 ∧ CallR ρ (some (.obj (.loop R0 N ps as_ bd)) :: H0t) w (retEnd e) (some (.obj (obEnd R0 N ps as_ bd e)) :: H1t) (.returned (.bool jump.isNone)) w4 := by
    intro jump hj
    refine ⟨_, run_endRound jump hl3', ?_⟩
    obtain ⟨r4, hr4⟩ : ∃ r4 : Loop, r4 = { r with state := if jump.isNone then .ready else .done, pending := jump } := ⟨_, rfl⟩
    have er4 : ({ ({ r with state := .busy } : Loop) with state := if jump.isNone then .ready else .done, pending := jump } : Loop) = r4 := by rw [hr4]
    rw [er4]
    obtain ⟨w4, hw4⟩ : ∃ w4, w4 = w3.putObj l (.loop r4) := ⟨_, rfl⟩
    rw [← hw4]
    have hl4 : w4.heap[l]? = some (.loop r4) := by rw [hw4]; exact putLoop_self hl3'
    have hext : ∀ id rb2, ρ id = some rb2 → pullR sel ρ3 id = some rb2 := fun id rb2 hid => by
      have hlt2 : id < H0t.length + 1 := by
        by_cases h : id < H0t.length + 1
        · exact h
        · rw [hfr id (by simp; omega)] at hid; cases hid
      exact k2.ext id hlt2 rb2 (he3.ext id hlt2 rb2 (he1.ext id hlt2 rb2 hid))
    have hk0 : noObj (none :: H1t) = true := hno1
    have hheap4 : HRel (pullR sel ρ3) (hg (none :: H1t)) w4 := by
      rw [hw4]
      intro id b hb
      obtain ⟨rb2, g1, g2⟩ := k1.heap id b hb
      exact ⟨rb2, g1, g2.putLoop hl3' (fun y ey => noObj_get hk0 (by rw [← ey]; exact hb))⟩
    have sub1 : ∀ id b, id ≠ 0 → hg (some (.obj (obEnd R0 N ps as_ bd e)) :: H1t) id = some b → hg (none :: H1t) id = some b := fun id b hne hb => by
      cases id with
      | zero => exact absurd rfl hne
      | succ id => rw [hg_cons_succ] at hb ⊢; exact hb
    have hfoot : ∀ id b rb2 o, id ≠ 0 → hg (some (.obj (obEnd R0 N ps as_ bd e)) :: H1t) id = some b → pullR sel ρ3 id = some rb2 → ¬ foot rb2 b l o := by
      intro id b rb2 o hne hb hr hf
      have hb2 := sub1 id b hne hb
      obtain ⟨rb3, g1, g2⟩ := hheap4 id b hb2
      rw [hr] at g1; cases g1
      obtain ⟨c, t, fz, hc⟩ := foot_cells g2 (fun y ey => noObj_get hk0 (by rw [← ey]; exact hb2)) hf
      rw [hl4] at hc; cases hc
    have hfr : Fr (Owned ρ (hg (some (.obj (.loop R0 N ps as_ bd)) :: H0t))) w w4 := by
      have a1 : Fr (Owned ρ (hg (some (.obj (.loop R0 N ps as_ bd)) :: H0t))) w w1 := he1.fr.mono (fun k o _ h => hown0 k o h)
      have a2 : Fr (Owned ρ (hg (some (.obj (.loop R0 N ps as_ bd)) :: H0t))) w w2 := by
        rw [hw2]; exact a1.trans (Fr.putLoop hl1' ⟨0, hownl⟩) (fun _ _ _ h => h)
      have a3 : Fr (Owned ρ (hg (some (.obj (.loop R0 N ps as_ bd)) :: H0t))) w w3 := a2.trans he3.fr (fun k o hk h => by
        rcases he1.own k o h with h | h
        · exact hown0 k o h
        · omega)
      rw [hw4]; exact a3.trans (Fr.putLoop hl3' ⟨0, hownl⟩) (fun _ _ _ h => h)
    have hb0 : ORel (pullR sel ρ3) w4 l (obEnd R0 N ps as_ bd e) := by
      unfold obEnd
      rw [← hj]
      cases jump with
      | none =>
        have : r4 = r := by rw [hr4]; cases r; simp only at hst hpd; subst hst; subst hpd; rfl
        rw [this] at hl4
        exact ⟨r, hl4, hst, hpd, hrp, hra, hrbd, hsz, fun t v hv => (hrel t v hv).ext (fun id rb2 h => hext id rb2 h)⟩
      | some c => exact ⟨r4, hl4, by rw [hr4]; rfl, by rw [hr4]⟩
    refine ⟨pullR sel ρ3, ?_, ?_, ?_, ?_, ?_⟩
    · simp only [retEnd, Rel, hj]
    · intro id b hb
      by_cases h0 : id = 0
      · subst h0
        rw [hg_cons_zero] at hb; cases hb
        exact ⟨rb, hext 0 rb hrb, by rw [hlb] at hb0; exact hb0⟩
      · exact hheap4 id b (sub1 id b h0 hb)
    · intro i j bi bj ri rj hne hi hj' hri hrj hown k o ⟨hfi, hfj⟩
      by_cases h0 : i = 0
      · subst h0
        rw [hg_cons_zero] at hi; cases hi
        rw [hext 0 rb hrb] at hri; cases hri
        have hkl : k = l := by rw [hlb]; exact hfi
        subst hkl
        exact hfoot j bj rj o (fun e => hne e.symm) hj' hrj hfj
      · by_cases h1 : j = 0
        · subst h1
          rw [hg_cons_zero] at hj'; cases hj'
          rw [hext 0 rb hrb] at hrj; cases hrj
          have hkl : k = l := by rw [hlb]; exact hfj
          subst hkl
          exact hfoot i bi ri o h0 hi hri hfi
        · exact k1.sep i j bi bj ri rj hne (sub1 i bi h0 hi) (sub1 j bj h1 hj') hri hrj hown k o ⟨hfi, hfj⟩
    · intro id hid; exact k1.fresh id (by simpa using hid)
    · refine ⟨fun id _ rb2 h => hext id rb2 h, hfr, ?_⟩
      rintro k o ⟨id, b, rb2, h1, h2, h3, h4⟩
      by_cases h0 : id = 0
      · subst h0
        rw [hg_cons_zero] at h1; cases h1
        rw [hext 0 rb hrb] at h2; cases h2
        have hkl : k = l := by rw [hlb]; exact h4
        subst hkl
        exact .inl ⟨0, _, rb, hg_cons_zero _ _, hrb, rfl, hlb⟩
      · rcases k2.own k o ⟨id, b, rb2, sub1 id b h0 h1, h2, h3, h4⟩ with h | h
        · rcases he3.own k o h with h | h
          · rcases he1.own k o h with h | h
            · exact .inl (hown0 k o h)
            · exact .inr h
          · right
            have : w2.heap.size = w1.heap.size := by rw [hw2]; simp [World.putObj]
            have := he1.fr.size
            omega
        · right
          have h1 := he1.fr.size
          have h2 : w2.heap.size = w1.heap.size := by rw [hw2]; simp [World.putObj]
          have h3 := he3.fr.size
          omega
  rcases hex with rfl | rfl | ⟨i, rfl⟩
  · obtain ⟨w4, g1, g2⟩ := fin none rfl
    exact ⟨_, w4, g1, g2⟩
  · obtain ⟨w4, g1, g2⟩ := fin (some .ret) rfl
    exact ⟨_, w4, g1, g2⟩
  · obtain ⟨w4, g1, g2⟩ := fin (some (.exit i)) rfl
    exact ⟨_, w4, g1, g2⟩

/-! ### The statement -/

theorem hg_hput (H : HL) (id : Nat) (ob : Option SB) (i : Nat) : hg (hput H id ob) i = if i = id then ob else hg H i := by
  have h := congrFun (hg_hupd H [(id, ob)]) i
  have e : hput H id ob = hupd H [(id, ob)] := by rw [hput_eq]; rfl
  rw [e, h]
  by_cases hi : i = id
  · subst hi; simp [updW]
  · have : (i == id) = false := by simpa using hi
    simp [updW, List.lookup_cons, this, hi]

theorem hput_le {H : HL} {id L : Nat} {ob : Option SB} (h : H.length ≤ L) (hi : id < L) : (hput H id ob).length ≤ L := by
  have e : hput H id ob = hupd H [(id, ob)] := by rw [hput_eq]; rfl
  rw [e]
  exact hupd_le h (fun i o hm => by simp only [List.mem_singleton, Prod.mk.injEq] at hm; rw [hm.1]; exact hi)

/-- What becomes of the statement, by how the iterator was left. -/
def rangeK (L0 : Nat) (R : RL) (Q : Exit → RL → HL → Nat → Prop) (H : HL) (L : Nat) : Prop :=
  match hk H L0 with
  | some (.obj (.loop _ _ _ _ _)) => Q .normal R (hput H L0 none) L
  | some (.obj (.pend .ret)) => Q .ret R (hput H L0 none) L
  | some (.obj (.pend (.exit i))) => Q (.exit i) R (hput H L0 none) L
  | _ => False

def rangeQ (L0 : Nat) (R : RL) (Q : Exit → RL → HL → Nat → Prop) : Exit → RL → HL → Nat → Prop
  | .normal, _, H, L => rangeK L0 R Q H L
  | .ret, _, H, L => rangeK L0 R Q H L
  | _, _, _, _ => False

theorem leaves_void {P : Program} {fn : Func} (hr : fn.results = #[]) (tmps : Array Value) (w : World) : ∃ v, (results fn tmps).run P w = .ok v w := by
  refine ⟨.tuple #[], ?_⟩
  unfold results
  rw [hr]
  simp

theorem range_rule {P : Program} {N A : Nat} {g : Operand} {ps : List Nat} {as_ bd : Code} {Q : Exit → RL → HL → Nat → Prop} {R : RL} {H : HL} {L : Nat} {gf : Nat} {caps : List SV} {fn : Func} {c : Code}
    (hg0 : ev R g = some (.fn gf caps)) (hle : Nat.ble H.length L = true) (hA : Nat.ble A L = true) (hf : P.funcs[gf]? = some fn) (hb : fn.body = some c) (hnm : (fn.name == "runtime.NumGoroutine") = false) (hres : fn.results = #[]) (hnt : Nat.ble (caps.length + 1) fn.ntmps = true)
    (hwalk : SWp P (· = none) fn.ntmps (L + 1) c (rangeQ L R Q) (regs 0 (.yld L :: caps)) (hput H L (some (.obj (.loop R N ps as_ bd)))) (L + 1)) :
    SWp P (· = none) N A (.rangeFunc g ⟨ps⟩ as_ bd) Q R H L := by
  refine ⟨fun r n B ρ a w hM hs hl => ?_⟩
  subst hM
  have hHL := Nat.le_of_ble_eq_true hle
  have hgv : Rel ρ (.fn gf caps) (a.eval g) := by
    cases g with
    | tmp t => exact hs.regs t _ (by rw [rg, ← lk_eq]; exact hg0)
    | const u => exact (ofVal_rel hg0).1
    | func f => simp only [ev, Option.some.injEq] at hg0; cases hg0; simp only [Rel]; exact ⟨[], rfl, Rels.nil_iff.2 rfl⟩
    | global g => cases hg0
  simp only [Rel] at hgv
  obtain ⟨cs, hge, hcaps⟩ := hgv
  refine wpIn_rangeFunc ?_
  intro fid _
  obtain ⟨r0, hr0⟩ : ∃ r0 : Loop, r0 = { state := .ready, pending := none, fn := fid, tmps := a.tmps, params := ⟨ps⟩, assign := as_, body := bd, defers := w.heap.size } := ⟨_, rfl⟩
  obtain ⟨w1, hw1⟩ : ∃ w1, w1 = (w.alloc (.deferred (some []))).alloc (.loop r0) := ⟨_, rfl⟩
  have hL1 : w1.heap[w.heap.size + 1]? = some (.loop r0) := by
    rw [hw1]; have := World.alloc_heap_new (w.alloc (.deferred (some []))) (.loop r0); rwa [World.size_alloc] at this
  have hD1 : w1.heap[w.heap.size]? = some (.deferred (some [])) := by
    rw [hw1]; exact (RowKit.Below.heap_alloc _ _ _ (by simp)).trans (World.alloc_heap_new w _)
  have hfr1 : ∀ S, Fr S w w1 := fun S => by
    rw [hw1]; exact (Fr.alloc S w _).trans (Fr.alloc S _ _) (fun _ _ _ h => h)
  have hsz1 : w1.heap.size = w.heap.size + 2 := by rw [hw1]; simp
  have hfok : FnOk P gf := ⟨fn, hf, by rw [hb]; rfl, hnm⟩
  refine ⟨w.heap.size + 1, [{ target := .collected w.heap.size, args := #[] }], w1, { target := .fn (.func gf) ⟨cs⟩, args := #[.func (.yield (w.heap.size + 1)) #[] #[]] }, w1, gf,
    #[.func (.yield (w.heap.size + 1)) #[] #[]] ++ ⟨cs⟩, w1, ?_, ?_, fun _ _ => trivial, ?_, fun h => (by cases h), ?_⟩
  · rw [hw1, hr0]; exact run_enterLoop_outer _ _ _ _ _
  · simp only [resolve, hge]
    simp [go_sem]
  · simp only [invoke, run_callFunc hfok]
  · -- the iterator
    obtain ⟨ρ1, hρ1⟩ : ∃ ρ1 : Ren, ρ1 = setR ρ L ⟨w.heap.size + 1, 0, 0, false⟩ := ⟨_, rfl⟩
    have hρL : ρ1 L = some ⟨w.heap.size + 1, 0, 0, false⟩ := by rw [hρ1]; simp [setR]
    have hρne : ∀ id, id ≠ L → ρ1 id = ρ id := fun id h => by rw [hρ1]; simp [setR, h]
    have hfresh := hs.fresh
    have hext : Ext ρ ρ1 := fun id rb h => by
      have : id ≠ L := fun e => by subst e; rw [hfresh id (Nat.le_refl _)] at h; cases h
      rw [hρne id this]; exact h
    have hgp : ∀ id, hg (hput H L (some (.obj (.loop R N ps as_ bd)))) id = if id = L then some (.obj (.loop R N ps as_ bd)) else hg H id := fun id => by
      rw [hg_hput]
    have hlowH : ∀ id b, hg H id = some b → id ≠ L := fun id b h e => by
      subst e
      have := hk_lt hHL (by rw [hk_eq]; exact h)
      omega
    have hheap1 : HRel ρ1 (hg (hput H L (some (.obj (.loop R N ps as_ bd))))) w1 := by
      intro id b hb2
      rw [hgp] at hb2
      by_cases h : id = L
      · rw [if_pos h] at hb2; cases hb2; subst h
        exact ⟨_, hρL, r0, hL1, by rw [hr0], by rw [hr0], by rw [hr0], by rw [hr0], by rw [hr0], by rw [hr0]; exact hs.size, fun t v hv => by
          have := hs.regs t v hv
          rw [hr0]; exact this.ext hext⟩
      · rw [if_neg h] at hb2
        obtain ⟨rb, g1, g2⟩ := hs.heap id b hb2
        exact ⟨rb, hext _ _ g1, (g2.frame (hfr1 (fun _ _ => False)) (fun _ _ _ h => h)).ext hext⟩
    have hsep1 : Sep ρ1 (hg (hput H L (some (.obj (.loop R N ps as_ bd))))) := by
      intro i j bi bj ri rj hne hi hj hri hrj hown k o ⟨hfi, hfj⟩
      rw [hgp] at hi hj
      have low : ∀ id b rb, id ≠ L → hg H id = some b → ρ1 id = some rb → foot rb b k o → k < w.heap.size := fun id b rb hid hb2 hr hf => by
        rw [hρne id hid] at hr
        obtain ⟨rb2, g1, g2⟩ := hs.heap id b hb2
        rw [hr] at g1; cases g1
        exact g2.foot_lt hf
      by_cases h1 : i = L
      · rw [if_pos h1] at hi; cases hi
        by_cases h2 : j = L
        · exact hne (h1.trans h2.symm)
        · rw [if_neg h2] at hj
          have := low j bj rj h2 hj hrj hfj
          subst h1; rw [hρL] at hri; cases hri
          have : k = w.heap.size + 1 := hfi
          omega
      · rw [if_neg h1] at hi
        by_cases h2 : j = L
        · rw [if_pos h2] at hj; cases hj
          have := low i bi ri h1 hi hri hfi
          subst h2; rw [hρL] at hrj; cases hrj
          have : k = w.heap.size + 1 := hfj
          omega
        · rw [if_neg h2] at hj
          rw [hρne i h1] at hri
          rw [hρne j h2] at hrj
          exact hs.sep i j bi bj ri rj hne hi hj hri hrj hown k o ⟨hfi, hfj⟩
    have hvs : Rels ρ1 (.yld L :: caps) (.func (.yield (w.heap.size + 1)) #[] #[] :: cs) :=
      Rels.cons (by simp only [Rel]; exact ⟨_, hρL, rfl⟩) (Rels.ext hext caps hcaps)
    have hargsz : (#[.func (.yield (w.heap.size + 1)) #[] #[]] ++ ⟨cs⟩ : Array Value) = ⟨.func (.yield (w.heap.size + 1)) #[] #[] :: cs⟩ := by simp
    rw [hargsz]
    have hcl := hcaps.length
    have hnt' := Nat.le_of_ble_eq_true hnt
    have hsim : Sim fn.ntmps w1.heap.size (L + 1) ρ1 (rg (regs 0 (.yld L :: caps))) (hg (hput H L (some (.obj (.loop R N ps as_ bd)))))
        { tmps := (⟨.func (.yield (w.heap.size + 1)) #[] #[] :: cs⟩ : Array Value) ++ Array.replicate (fn.ntmps - (⟨.func (.yield (w.heap.size + 1)) #[] #[] :: cs⟩ : Array Value).size) undef, defers := [] } w1 := by
      refine ⟨by simp; omega, ?_, hheap1, hsep1, fun id hid => ?_, ⟨List.Pairwise.nil, fun d hd => by simp at hd, Nat.le_refl _⟩⟩
      · intro t v hv
        obtain ⟨_, h2⟩ := regs_get hv
        obtain ⟨u, hu, hr⟩ := hvs.get h2
        simp only [Nat.sub_zero] at hu
        have htl : t < (Value.func (Fn.yield (w.heap.size + 1)) #[] #[] :: cs).length := (List.getElem?_eq_some_iff.1 hu).1
        rw [Array.getD_eq_getD_getElem?, Array.getElem?_append_left (by simpa using htl)]
        simp only [List.getElem?_toArray, hu]
        exact hr
      · rw [hρne id (by omega)]; exact hfresh id (by omega)
    refine callsIn_of_wp_marks hf hb trivial ?_ rfl
    have hlen1 : (hput H L (some (.obj (.loop R N ps as_ bd)))).length ≤ L + 1 := hput_le (by omega) (by omega)
    refine wpIn_mono (hwalk.run none (n - 1) w1.heap.size ρ1 _ w1 rfl hsim hlen1) ?_
    rintro e a' w2 ⟨R2, H2, L2, ρ2, hq, hl2, hs2, he2⟩
    have main : rangeK L R Q H2 L2 → LeavesInM (Fw none) (n - 1) P fn a'.tmps (rangePost (Fw none) n P (w.heap.size + 1) (fun e a' w' => ∃ R' H' L' ρ', Q e R' H' L' ∧ H'.length ≤ L' ∧ Sim N B L' ρ' (rg R') (hg H') a' w' ∧ EvA A ρ (hg H) w ρ' (hg H') w')
        { a with defers := [{ target := .collected w.heap.size, args := #[] }] ++ a.defers }) a'.defers .returning w2 := by
      intro hq
      refine leaves_marks a'.defers w2 hs2.dfr (fun w3 hm => ?_)
      obtain ⟨v, hv⟩ := leaves_void (P := P) hres a'.tmps w3
      refine ⟨v, hv, ?_⟩
      have hAL := Nat.le_of_ble_eq_true hA
      have hρ2L : ρ2 L = some ⟨w.heap.size + 1, 0, 0, false⟩ := he2.ext L (by omega) _ hρL
      -- the record, behind the iterator
      have hrec : ∃ y, hg H2 L = some (.obj y) := by
        unfold rangeK at hq
        rw [hk_eq] at hq
        cases hh : hg H2 L with
        | none => rw [hh] at hq; exact hq.elim
        | some b => cases b with
          | obj y => exact ⟨y, rfl⟩
          | _ => rw [hh] at hq; exact hq.elim
      obtain ⟨y, hy⟩ := hrec
      obtain ⟨rb, hrb, hO⟩ := hs2.heap L _ hy
      rw [hρ2L] at hrb; cases hrb
      have hloop : ∃ r3 : Loop, w3.heap[w.heap.size + 1]? = some (.loop r3) ∧ r3.state ≠ .busy ∧ r3.pending = (match y with | .loop _ _ _ _ _ => none | .pend c => some c) := by
        cases y with
        | loop R3 N3 ps3 a3 b3 => obtain ⟨r3, g1, g2, g3, _⟩ := hO; exact ⟨r3, hm.loops _ _ g1, by rw [g2]; simp, g3⟩
        | pend c3 => obtain ⟨r3, g1, g2, g3⟩ := hO; exact ⟨r3, hm.loops _ _ g1, by rw [g2]; simp, g3⟩
      obtain ⟨r3, hr3, hnb, hpd⟩ := hloop
      obtain ⟨w4, hw4⟩ : ∃ w4, w4 = w3.putObj (w.heap.size + 1) (.loop { r3 with state := .exhausted }) := ⟨_, rfl⟩
      have hend := run_endLoop (P := P) hr3 hnb
      rw [← hw4] at hend
      -- the heap without the record
      have hgp2 : ∀ id, hg (hput H2 L none) id = if id = L then none else hg H2 id := fun id => by rw [hg_hput]
      have sub : ∀ id b, hg (hput H2 L none) id = some b → id ≠ L ∧ hg H2 id = some b := fun id b h => by
        rw [hgp2] at h
        by_cases e : id = L
        · rw [if_pos e] at h; cases h
        · rw [if_neg e] at h; exact ⟨e, h⟩
      have hobj : ∀ id y2, hg (hput H2 L none) id = some (.obj y2) → ∃ rb, ρ2 id = some rb ∧ rb.blk ≠ w.heap.size + 1 := fun id y2 h => by
        obtain ⟨hne, h2⟩ := sub id _ h
        obtain ⟨rb, g1, g2⟩ := hs2.heap id _ h2
        refine ⟨rb, g1, fun e => ?_⟩
        exact hs2.sep L id _ _ _ rb (fun e => hne e.symm) hy h2 hρ2L g1 rfl (w.heap.size + 1) 0 ⟨rfl, e.symm⟩
      have hheap4 : HRel ρ2 (hg (hput H2 L none)) w4 := by
        intro id b hb2
        obtain ⟨hne, h2⟩ := sub id b hb2
        obtain ⟨rb, g1, g2⟩ := hs2.heap id b h2
        refine ⟨rb, g1, ?_⟩
        rw [hw4]
        have g3 := g2.marks hm
        cases b with
        | obj y2 =>
          obtain ⟨rb3, q1, q2⟩ := hobj id y2 hb2
          rw [g1] at q1; cases q1
          have keep : (w3.putObj (w.heap.size + 1) (.loop { r3 with state := .exhausted })).heap[rb.blk]? = w3.heap[rb.blk]? := World.putObj_heap_other q2
          cases y2 with
          | loop R3 N3 ps3 a3 b3 => obtain ⟨r5, k1, k2⟩ := g3; exact ⟨r5, by rw [keep]; exact k1, k2⟩
          | pend c3 => obtain ⟨r5, k1, k2⟩ := g3; exact ⟨r5, by rw [keep]; exact k1, k2⟩
        | row t l => exact g3.putLoop hr3 (fun _ e => by cases e)
        | box l => exact g3.putLoop hr3 (fun _ e => by cases e)
        | ro l => exact g3.putLoop hr3 (fun _ e => by cases e)
      have hfr4 : Fr (Owned ρ (hg H)) w w4 := by
        have a2 : Fr (Owned ρ (hg H)) w w2 := (hfr1 _).trans he2.fr (fun k o hk h => by
          obtain ⟨id, b, rb, g1, g2, g3, g4⟩ := h
          rw [hgp] at g1
          by_cases e : id = L
          · rw [if_pos e] at g1; cases g1
            subst e; rw [hρL] at g2; cases g2
            have : k = w.heap.size + 1 := g4
            omega
          · rw [if_neg e] at g1
            rw [hρne id e] at g2
            exact ⟨id, b, rb, g1, g2, g3, g4⟩)
        have a3 : Fr (Owned ρ (hg H)) w w3 := by
          refine ⟨hm.os.trans a2.os, hm.tape.trans a2.tape, hm.output.trans a2.output, by rw [hm.size]; exact a2.size, fun k o ho => ?_⟩
          have hk : k < w.heap.size := (Array.getElem?_eq_some_iff.1 ho).1
          rw [hm.low k (by omega)]
          exact a2.blk k o ho
        refine ⟨by rw [hw4]; exact a3.os, by rw [hw4]; exact a3.tape, by rw [hw4]; exact a3.output, by rw [hw4]; simpa [World.putObj] using a3.size, fun k o ho => ?_⟩
        have hk : k < w.heap.size := (Array.getElem?_eq_some_iff.1 ho).1
        rw [hw4, World.putObj_heap_other (by omega)]
        exact a3.blk k o ho
      have hD4 : w4.heap[w.heap.size]? = some (.deferred (some [])) := by
        have d2 : w2.heap[w.heap.size]? = some (.deferred (some [])) := (he2.fr.blk _ _ hD1).fixed rfl (fun _ _ _ h => by cases h)
        have d3 : w3.heap[w.heap.size]? = some (.deferred (some [])) := by rw [hm.low _ (by omega)]; exact d2
        rw [hw4]; exact putLoop_dfr hr3 d3
      have hown4 : ∀ k o, Owned ρ2 (hg (hput H2 L none)) k o → Owned ρ (hg H) k o ∨ w.heap.size ≤ k := by
        rintro k o ⟨id, b, rb, g1, g2, g3, g4⟩
        obtain ⟨hne, h2⟩ := sub id b g1
        rcases he2.own k o ⟨id, b, rb, h2, g2, g3, g4⟩ with h | h
        · obtain ⟨id2, b2, rb2, q1, q2, q3, q4⟩ := h
          rw [hgp] at q1
          by_cases e : id2 = L
          · rw [if_pos e] at q1; cases q1
            subst e; rw [hρL] at q2; cases q2
            have : k = w.heap.size + 1 := q4
            exact .inr (by omega)
          · rw [if_neg e] at q1
            rw [hρne id2 e] at q2
            exact .inl ⟨id2, b2, rb2, q1, q2, q3, q4⟩
        · exact .inr (by omega)
      have hextA : ∀ id rb, ρ id = some rb → ρ2 id = some rb := fun id rb h => by
        have hid : id < L := by
          by_cases e : id < L
          · exact e
          · rw [hfresh id (by omega)] at h; cases h
        exact he2.ext id (by omega) rb (hext id rb h)
      have hsim4 : Sim N B L2 ρ2 (rg R) (hg (hput H2 L none)) { a with defers := [{ target := .collected w.heap.size, args := #[] }] ++ a.defers } w4 := by
        refine ⟨hs.size, fun t v hv => (hs.regs t v hv).ext (fun id rb h => hextA id rb h), hheap4, fun i j bi bj ri rj hne hi hj hri hrj hown => hs2.sep i j bi bj ri rj hne (sub i bi hi).2 (sub j bj hj).2 hri hrj hown, hs2.fresh, ?_⟩
        have hd0 : DfrOk B a.defers w4 := hs.dfr.fr hfr4
        refine ⟨?_, fun d hd => ?_, hd0.2.2⟩
        · simp only [List.singleton_append, List.map_cons, List.pairwise_cons]
          refine ⟨fun t ht k hk => ?_, hd0.1⟩
          cases hk
          intro e
          obtain ⟨d, hd, rfl⟩ := List.mem_map.1 ht
          obtain ⟨q, e2, _, hq2⟩ := hs.dfr.2.1 d hd
          rw [e2] at e
          simp only [Target.collected.injEq] at e
          subst e
          have := (Array.getElem?_eq_some_iff.1 hq2).1
          omega
        · rcases List.mem_append.1 hd with h | h
          · simp only [List.mem_singleton] at h
            subst h
            exact ⟨w.heap.size, rfl, hs.dfr.2.2, hD4⟩
          · exact hd0.2.1 d h
      have hev4 : EvA A ρ (hg H) w ρ2 (hg (hput H2 L none)) w4 := ⟨fun id _ rb h => hextA id rb h, hfr4, hown4⟩
      have hlen4 : (hput H2 L none).length ≤ L2 := hput_le hl2 (by have := hk_lt hl2 (by rw [hk_eq]; exact hy); omega)
      refine ⟨r3.pending, w4, hend, ?_⟩
      rw [hpd]
      unfold rangeK at hq
      rw [hk_eq, hy] at hq
      cases y with
      | loop R3 N3 ps3 a3 b3 => exact ⟨R, _, L2, ρ2, hq, hlen4, hsim4, hev4⟩
      | pend c3 =>
        cases c3 with
        | ret => exact wpIn_ret ⟨R, _, L2, ρ2, hq, hlen4, hsim4, hev4⟩
        | exit i => exact wpIn_exit ⟨R, _, L2, ρ2, hq, hlen4, hsim4, hev4⟩
        | _ => exact hq.elim
    cases e with
    | normal => exact main hq
    | ret => exact main hq
    | _ => exact hq.elim
end Go.Sh
