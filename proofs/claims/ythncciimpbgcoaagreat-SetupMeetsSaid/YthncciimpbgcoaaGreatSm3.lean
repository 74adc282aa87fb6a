/- Merged for a claim: Sh17, Sh21, Sh19, Sh22, Sh30, M1, Sh23, Sh24, Sh25, Sh26, Sh27, M2, R1, R2, M3, R3, M4, R4, M6, R5, R6, R7, Sh28, M0, Sh29, Sh31, M7, M5, Sh32, Sh34, Sh35, Sh18. -/
import Derived.Laws.Externs
import Derived.Lib.MakeNoZero
import Derived.MapKept
import Derived.Test.YthncciimpbgcoaaGreatRows
import Derived.ProofKit
import Derived.OpenShut
import Derived.JoinedCond
import Derived.Carry
import Derived.Test.YthncciimpbgcoaaGreatSm2
set_option linter.unusedSimpArgs false
set_option linter.unusedVariables false
namespace Go.Sh
def plainV : SV → Bool
 | .i _ => true
 | .u8 _ => true
 | .u16 _ => true
 | .u32 _ => true
 | .u64 _ => true
 | .b _ => true
 | .s _ => true
 | .pnil => true
 | .slnil => true
 | .fnil => true
 | .mnil => true
 | .lit _ => true
 | _ => false
def plainL (l : List SV) : Bool := l.all plainV
theorem renV_plain (sel : List Nat) {x : SV} (h : plainV x = true) : renV sel x = some x := by cases x <;> first | rfl | cases h
theorem renL_plain (sel : List Nat) : ∀ {l : List SV}, plainL l = true → renL sel l = some l
 | [], _ => rfl
 | x :: l, h => by
  simp only [plainL, List.all_cons, Bool.and_eq_true] at h
  simp only [renL, renV_plain sel h.1, renL_plain sel (l := l) h.2]
@[simp] theorem plainL_u8 (l : List UInt8) : plainL (l.map .u8) = true := by simp [plainL, plainV]
@[simp] theorem plainL_u64 (l : List UInt64) : plainL (l.map .u64) = true := by simp [plainL, plainV]
@[simp] theorem plainL_u32 (l : List UInt32) : plainL (l.map .u32) = true := by simp [plainL, plainV]
@[simp] theorem plainL_i (l : List Int) : plainL (l.map .i) = true := by simp [plainL, plainV]
@[simp] theorem plainL_app (a b : List SV) : plainL (a ++ b) = (plainL a && plainL b) := by simp [plainL]
@[simp] theorem plainL_cons (a : SV) (b : List SV) : plainL (a :: b) = (plainV a && plainL b) := by simp [plainL]
@[simp] theorem plainL_nil : plainL [] = true := rfl
@[simp] theorem plainV_u8 (x : UInt8) : plainV (.u8 x) = true := rfl
@[simp] theorem plainV_u32 (x : UInt32) : plainV (.u32 x) = true := rfl
@[simp] theorem plainV_u64 (x : UInt64) : plainV (.u64 x) = true := rfl
@[simp] theorem plainV_i (x : Int) : plainV (.i x) = true := rfl
@[simp] theorem plainV_b (x : Bool) : plainV (.b x) = true := rfl
theorem ren_eq {sel : List Nat} {l l' : List SV} (hp : plainL l = true) (h : l = l') : renL sel l = some l' := by rw [renL_plain sel hp, h]
theorem idx_i {n : Int} {m : Nat} (h : n = (m : Int)) : idxOf (.i n) = some m := by
 subst h; simp [idxOf]
theorem take_all {α : Type} {l : List α} {n : Nat} (h : n = l.length) : l.take n = l := by subst h; simp
@[simp] theorem take_map_len {α : Type} (f : α → SV) (l : List α) : (l.map f).take l.length = l.map f := take_all (by simp)
@[simp] theorem cells_row (t : Nat) (l : List SV) : (SB.row t l).cells = l := rfl
@[simp] theorem cells_box (l : List SV) : (SB.box l).cells = l := rfl
@[simp] theorem cells_ro (l : List SV) : (SB.ro l).cells = l := rfl
@[simp] theorem cells_u8 (x : UInt8) : (SV.u8 x).cells = [.u8 x] := rfl
@[simp] theorem cells_u32 (x : UInt32) : (SV.u32 x).cells = [.u32 x] := rfl
@[simp] theorem cells_u64 (x : UInt64) : (SV.u64 x).cells = [.u64 x] := rfl
@[simp] theorem cells_i (x : Int) : (SV.i x).cells = [.i x] := rfl
@[simp] theorem cells_s (x : List UInt8) : (SV.s x).cells = [.s x] := rfl
@[simp] theorem cells_agg (x : List SV) : (SV.agg x).cells = x := rfl
@[simp] theorem reps_u8 (n : Nat) (x : SV) : reps n [x] = List.replicate n x := rfl
@[simp] theorem sput_u8 (l : List SV) (k : Nat) (x : UInt8) : sput l k (.u8 x) = l.set k (.u8 x) := rfl
@[simp] theorem sput_u32 (l : List SV) (k : Nat) (x : UInt32) : sput l k (.u32 x) = l.set k (.u32 x) := rfl
@[simp] theorem sput_u64 (l : List SV) (k : Nat) (x : UInt64) : sput l k (.u64 x) = l.set k (.u64 x) := rfl
@[simp] theorem sput_i (l : List SV) (k : Nat) (x : Int) : sput l k (.i x) = l.set k (.i x) := rfl
def plainB : SB → Bool
 | .row _ l => plainL l
 | .box l => plainL l
 | .ro l => plainL l
 | .obj _ => false
 | .ext _ => true
@[simp] theorem plainB_row (t : Nat) (l : List SV) : plainB (.row t l) = plainL l := rfl
@[simp] theorem plainB_box (l : List SV) : plainB (.box l) = plainL l := rfl
@[simp] theorem plainB_ro (l : List SV) : plainB (.ro l) = plainL l := rfl
def cWp : List Nat → HL → HL → Option Upd
 | s :: ss, some b0 :: H0, ob :: H1 => match cWp ss H0 H1 with
  | some W => match b0.own with
   | false => some W
   | true => match ob with
    | none => some ((s, none) :: W)
    | some b => match b.own with
     | true => some ((s, some b) :: W)
     | false => none
  | none => none
 | s :: ss, [], ob :: H1 => match cWp ss [] H1 with
  | some W => match ob with
   | none => some ((s, none) :: W)
   | some b => match b.own with
    | true => some ((s, some b) :: W)
    | false => none
  | none => none
 | [], [], [] => some []
 | _, _, _ => none
theorem renB_plain (sel : List Nat) {b : SB} (h : plainB b = true) : renB sel b = some b := by
 cases b <;> simp only [plainB, Bool.false_eq_true] at h <;> first | rfl | simp only [renB, renL_plain sel h]
def plainHf : List Bool → HL → Bool
 | true :: fs, some b :: H => plainB b && plainHf fs H
 | _ :: fs, _ :: H => plainHf fs H
 | _, _ => true
def renBf (f : Bool) (sel : List Nat) (b : SB) : Option SB := match f with | true => some b | false => renB sel b
def cWf (sel : List Nat) : List Bool → List Nat → HL → HL → Option Upd
 | f :: fs, s :: ss, some b0 :: H0, ob :: H1 => match cWf sel fs ss H0 H1 with
  | some W => match b0.own with
   | false => some W
   | true => match ob with
    | none => some ((s, none) :: W)
    | some b => match b.own with
     | true => match renBf f sel b with | some b' => some ((s, some b') :: W) | none => none
     | false => none
  | none => none
 | f :: fs, s :: ss, [], ob :: H1 => match cWf sel fs ss [] H1 with
  | some W => match ob with
   | none => some ((s, none) :: W)
   | some b => match b.own with
    | true => match renBf f sel b with | some b' => some ((s, some b') :: W) | none => none
    | false => none
  | none => none
 | _, [], [], [] => some []
 | _, _, _, _ => none
theorem renBf_eq {f : Bool} {sel : List Nat} {b b' : SB} (hp : f = true → plainB b = true) (h : renBf f sel b = some b') : renB sel b = some b' := by
 cases f with
 | false => exact h
 | true => rw [renB_plain sel (hp rfl)]; exact h
theorem cWf_eq (sel : List Nat) : ∀ (fs : List Bool) (ss : List Nat) (H0 H1 : HL) (W : Upd), plainHf fs H1 = true → cWf sel fs ss H0 H1 = some W → cW sel ss H0 H1 = some W
 | f :: fs, s :: ss, some b0 :: H0, ob :: H1, W, hp, h => by
  have hp1 : plainHf fs H1 = true := by
   cases f <;> cases ob <;> simp only [plainHf, Bool.and_eq_true] at hp <;> first | exact hp | exact hp.2
  simp only [cWf] at h
  split at h
  ·
   rename_i W' hW
   have ih := cWf_eq sel fs ss H0 H1 W' hp1 hW
   simp only [cW, ih]
   split at h
   ·
    rename_i hown; simp only [hown]; exact h
   ·
    rename_i hown
    simp only [hown]
    split at h
    ·
     exact h
    ·
     rename_i b
     split at h
     ·
      rename_i hbo
      simp only [hbo]
      split at h
      ·
       rename_i b' hb'
       rw [renBf_eq (fun e => by subst e; simp only [plainHf, Bool.and_eq_true] at hp; exact hp.1) hb']
       exact h
      ·
       cases h
     ·
      cases h
  ·
   cases h
 | f :: fs, s :: ss, [], ob :: H1, W, hp, h => by
  have hp1 : plainHf fs H1 = true := by
   cases f <;> cases ob <;> simp only [plainHf, Bool.and_eq_true] at hp <;> first | exact hp | exact hp.2
  simp only [cWf] at h
  split at h
  ·
   rename_i W' hW
   have ih := cWf_eq sel fs ss [] H1 W' hp1 hW
   simp only [cW, ih]
   split at h
   ·
    exact h
   ·
    rename_i b
    split at h
    ·
     rename_i hbo
     simp only [hbo]
     split at h
     ·
      rename_i b' hb'
      rw [renBf_eq (fun e => by subst e; simp only [plainHf, Bool.and_eq_true] at hp; exact hp.1) hb']
      exact h
     ·
      cases h
    ·
     cases h
  ·
   cases h
 | [], [], [], [], W, _, h => by simp only [cWf, Option.some.injEq] at h; subst h; rfl
 | _ :: _, [], [], [], W, _, h => by simp only [cWf, Option.some.injEq] at h; subst h; rfl
 | [], [], [], _ :: _, W, _, h => by simp [cWf] at h
 | _ :: _, [], [], _ :: _, W, _, h => by simp [cWf] at h
 | [], [], _ :: _, _, W, _, h => by simp [cWf] at h
 | _ :: _, [], _ :: _, _, W, _, h => by simp [cWf] at h
 | [], _ :: _, _, _, W, _, h => by simp [cWf] at h
 | _ :: _, _ :: _, [], [], W, _, h => by simp [cWf] at h
 | _ :: _, _ :: _, none :: _, _, W, _, h => by simp [cWf] at h
 | _ :: _, _ :: _, some _ :: _, [], W, _, h => by simp [cWf] at h
def plainW : SV → Bool
 | .agg l => plainL l
 | x => plainV x
def plainT : List SV → Bool
 | [] => true
 | x :: xs => plainW x && plainT xs
def plainR : SV → Bool
 | .tup l => plainT l
 | x => plainW x
theorem renV_plainW (sel : List Nat) {x : SV} (h : plainW x = true) : renV sel x = some x := by
 cases x <;> first | exact renV_plain sel h | (simp only [plainW] at h; simp only [renV, renL_plain sel h])
theorem renL_plainT (sel : List Nat) : ∀ {l : List SV}, plainT l = true → renL sel l = some l
 | [], _ => rfl
 | x :: l, h => by
  simp only [plainT, Bool.and_eq_true] at h
  simp only [renL, renV_plainW sel h.1, renL_plainT sel (l := l) h.2]
theorem renV_plainR (sel : List Nat) {x : SV} (h : plainR x = true) : renV sel x = some x := by
 cases x <;> first | exact renV_plainW sel h | (simp only [plainR] at h; simp only [renV, renL_plainT sel h])
def renVf (f : Bool) (sel : List Nat) (x : SV) : Option SV := match f with | true => some x | false => renV sel x
def plainRf (f : Bool) (x : SV) : Bool := match f with | true => plainR x | false => true
def sopCallF (fl : List Bool) (rf : Bool) (R : RL) (H : HL) (L : Nat) (x : Operand) (args : List Operand) (f : Nat) (sel : List Nat) (args0 : List SV) (H0 : HL) (ret : SV) (H1 : HL) (k : K1) : Prop :=
 (match ev R x with
  | some (.fn g caps) => match evs R args with
   | some zs => g = f ∧ renL sel args0 = some (zs ++ caps)
   | none => False
  | _ => False) ∧ okH sel H sel H0 ∧ plainHf fl H1 = true ∧ plainRf rf ret = true ∧
 match Nat.beq sel.length H0.length with
 | true => match dupOk sel 0 sel H0 with
  | true => match cWf (sel ++ newSel L (H1.length - H0.length)) fl (sel ++ newSel L (H1.length - H0.length)) H0 H1 with
   | some W => match renVf rf (sel ++ newSel L (H1.length - H0.length)) ret with
    | some z => k (some z) W sel (L + (H1.length - H0.length))
    | none => False
   | none => False
  | false => False
 | false => False
theorem ok1_callF {P : Program} {o : Oper} {R : RL} {H : HL} {L : Nat} {k : K1} {x : Operand} {args : Array Operand} {tys : Array TypeId} {f : Nat} {args0 : List SV} {H0 H1 : HL} {ret : SV} (sel : List Nat) (fl : List Bool) (rf : Bool)
  (hc : SCall P f args0 H0 ret H1) (ho : o.op = .call ⟨.value x, args, tys⟩) (hle : Nat.ble H.length L = true) (h : sopCallF fl rf R H L x args.toList f sel args0 H0 ret H1 k) : Ok1 P o R H L k := by
 obtain ⟨h1, h2, hp, hr, h3⟩ := h
 refine ok1_call sel hc ho hle ⟨h1, h2, ?_⟩
 cases hl : Nat.beq sel.length H0.length with
 | false => rw [hl] at h3; exact h3.elim
 | true =>
  rw [hl] at h3
  simp only at h3 ⊢
  cases hd : dupOk sel 0 sel H0 with
  | false => rw [hd] at h3; exact h3.elim
  | true =>
   rw [hd] at h3
   simp only at h3 ⊢
   cases hw : cWf (sel ++ newSel L (H1.length - H0.length)) fl (sel ++ newSel L (H1.length - H0.length)) H0 H1 with
   | none => rw [hw] at h3; exact h3.elim
   | some W =>
    rw [hw] at h3
    rw [cWf_eq _ _ _ _ _ _ hp hw]
    cases rf with
    | false => exact h3
    | true =>
     simp only [plainRf] at hr
     simp only [renV_plainR _ hr]
     exact h3
end Go.Sh
namespace Go.Sh
def noObj : HL → Bool
 | [] => true
 | none :: H => noObj H
 | some (.obj _) :: _ => false
 | some _ :: H => noObj H
theorem noObj_get : ∀ {H : HL} {id : Nat} {y : OB}, noObj H = true → hg H id ≠ some (.obj y)
 | [], id, y, _, h => by simp [hg] at h
 | none :: H, 0, y, _, h => by simp [hg] at h
 | none :: H, id + 1, y, hn, h => noObj_get (H := H) (id := id) hn (by simpa [hg] using h)
 | some (.obj _) :: H, id, y, hn, h => by simp [noObj] at hn
 | some (.row _ _) :: H, 0, y, hn, h => by simp [hg] at h
 | some (.box _) :: H, 0, y, hn, h => by simp [hg] at h
 | some (.ro _) :: H, 0, y, hn, h => by simp [hg] at h
 | some (.ext _) :: H, 0, y, hn, h => by simp [hg] at h
 | some (.row _ _) :: H, id + 1, y, hn, h => noObj_get (H := H) (id := id) hn (by simpa [hg] using h)
 | some (.box _) :: H, id + 1, y, hn, h => noObj_get (H := H) (id := id) hn (by simpa [hg] using h)
 | some (.ro _) :: H, id + 1, y, hn, h => noObj_get (H := H) (id := id) hn (by simpa [hg] using h)
 | some (.ext _) :: H, id + 1, y, hn, h => noObj_get (H := H) (id := id) hn (by simpa [hg] using h)
theorem foot_cells {ρ : Ren} {w : World} {rb : RB} {b : SB} {k o : Nat} (hb : BRel ρ w rb b) (hn : ∀ y, b ≠ .obj y) (hf : foot rb b k o) : ∃ x, w.heap[k]? = some x ∧ mutK x ≠ 1 := by
 cases b with
 | obj y => exact absurd rfl (hn y)
 | ext y => exact YRel.foot_mut hb hf
 | ro l =>
  rcases hb with rfl | ⟨⟨c, t, fz, hh, _⟩, _⟩
  ·
   have := hf.2; simp at this; omega
  ·
   rw [hf.1]; exact ⟨_, hh, by simp [mutK]⟩
 | box l => obtain ⟨⟨c, t, fz, hh, _⟩, _⟩ := hb; rw [hf.1]; exact ⟨_, hh, by simp [mutK]⟩
 | row t l =>
  rcases hb with ⟨hv, _⟩ | ⟨_, c, fz, hh, _⟩
  ·
   rw [hf.1] at hv; cases hv
  ·
   rw [hf.2.1]; exact ⟨_, hh, by simp [mutK]⟩
def zipR : List Nat → List SV → RL → RL
 | p :: ps, x :: xs, R => zipR ps xs ((p, x) :: R)
 | _, _, R => R
theorem relR_set {ρ : Ren} {R : RL} {tmps : Array Value} {p : Nat} {x : SV} {v : Value} (h : RelR ρ R tmps) (hx : Rel ρ x v) (hp : p < tmps.size) : RelR ρ ((p, x) :: R) (tmps.setIfInBounds p v) := by
 intro t u hu
 simp only [List.lookup_cons] at hu
 cases htp : (t == p) with
 | true =>
  rw [htp] at hu
  have : t = p := by simpa using htp
  subst this
  cases hu
  rw [Array.getD_eq_getD_getElem?, Array.getElem?_setIfInBounds_self_of_lt hp]
  exact hx
 | false =>
  rw [htp] at hu
  have hne : p ≠ t := fun e => by subst e; simp at htp
  have := h t u hu
  rw [Array.getD_eq_getD_getElem?] at this ⊢
  rw [Array.getElem?_setIfInBounds_ne hne]; exact this
theorem relR_zip {ρ : Ren} : ∀ {ps : List Nat} {xs : List SV} {vs : List Value} {R : RL} {tmps : Array Value}, RelR ρ R tmps → Rels ρ xs vs → (∀ p ∈ ps, p < tmps.size) → ps.length = xs.length →
  RelR ρ (zipR ps xs R) ((ps.zip vs).foldl (fun t (q : Nat × Value) => t.setIfInBounds q.1 q.2) tmps) ∧ ((ps.zip vs).foldl (fun t (q : Nat × Value) => t.setIfInBounds q.1 q.2) tmps).size = tmps.size
 | [], xs, vs, R, tmps, h, _, _, hl => by
  have : xs = [] := List.eq_nil_of_length_eq_zero (by simpa using hl.symm)
  subst this
  exact ⟨h, rfl⟩
 | p :: ps, [], vs, R, tmps, h, _, _, hl => by simp at hl
 | p :: ps, x :: xs, vs, R, tmps, h, hv, hp, hl => by
  simp only [Rels] at hv
  obtain ⟨v, vs', rfl, h1, h2⟩ := hv
  have := relR_zip (ps := ps) (relR_set h h1 (hp p (List.mem_cons_self ..))) h2 (fun q hq => by simpa using hp q (List.mem_cons_of_mem _ hq)) (by simpa using hl)
  exact ⟨this.1, by rw [show ((p :: ps).zip (v :: vs')).foldl (fun t (q : Nat × Value) => t.setIfInBounds q.1 q.2) tmps = (ps.zip vs').foldl (fun t (q : Nat × Value) => t.setIfInBounds q.1 q.2) (tmps.setIfInBounds p v) from rfl, this.2]; simp⟩
structure SYield (P : Program) (args0 : List SV) (H0 : HL) (ret : SV) (H1 : HL) : Prop where
 call : ∀ (r : Option Nat) n ρ w vs rb, Rels ρ args0 vs → HRel ρ (hg H0) w → Sep ρ (hg H0) → (∀ id, H0.length ≤ id → ρ id = none) → ρ 0 = some rb →
  ∃ f tmps as_ bd, (Instr.yield rb.blk ⟨vs⟩).run P w = .ok (.round rb.blk f tmps as_ bd) w ∧ RoundIn (Fw r) n P rb.blk f tmps as_ bd w (CallR ρ H0 w ret H1)
theorem lt_yield {P : Program} {o : Oper} {R : Env} {H : HL} {L : Nat} {x : Operand} {args : Array Operand} {tys : Array TypeId} {id : Nat} {zs args0 : List SV} {ss : List Nat} {H0 H1 : HL} {ret z : SV} {W : Upd} (hl : H.length ≤ L)
  (ho : o.op = .call ⟨.value x, args, tys⟩) (hx : evO R x = some (.yld id)) (hargs : args.toList.map (evO R) = zs.map some) (hc : SYield P args0 H0 ret H1) (hren : renL (id :: ss) args0 = some zs)
  (hlen : (id :: ss).length = H0.length) (hok : okH (id :: ss) H (id :: ss) H0) (hd : dupOk (id :: ss) 0 (id :: ss) H0 = true) (hW : cW (id :: ss ++ newSel L (H1.length - H0.length)) (id :: ss ++ newSel L (H1.length - H0.length)) H0 H1 = some W)
  (hz : renV (id :: ss ++ newSel L (H1.length - H0.length)) ret = some z) : LT P o R (hg H) (id :: ss) W (some z) := by
 refine lt_of_callR hl hlen hok hd hW hz ?_
 intro r n a w ρ next Q hR hH0 hsep0 hfr0 hk
 have hv := eval_callee ho hx hR
 simp only [Rel] at hv
 obtain ⟨rb, hrb, he⟩ := hv
 have hzs := eval_args ho hargs hR
 have hrels : Rels (pullR (id :: ss) ρ) args0 (args.toList.map a.eval) := (rels_ren args0 hren).2 hzs
 obtain ⟨f, tmps, as_, bd, hy, hround⟩ := hc.call r (n - 1) (pullR (id :: ss) ρ) w _ rb hrels hH0 hsep0 hfr0 (by simpa [pullR] using hrb)
 have hrun : (execOp a.eval o).run P w = .ok (.round rb.blk f tmps as_ bd) w := by
  unfold execOp
  simp only [ho, resolve, he, Deferred.ofValue, Sem.run_bind, Sem.run_pure, Result.andThen, invoke]
  rw [show (#[] ++ args.map a.eval) = (⟨args.toList.map a.eval⟩ : Array Value) from Array.toList_inj.1 (by simp)]
  exact hy
 refine ⟨fun _ _ => trivial, ?_⟩
 rw [Oper.semAt_eq _ _ _ (by intro c; rw [ho]; simp), hrun]
 refine ⟨fun h => (by cases h), ?_⟩
 refine hround.mono ?_
 intro e w' hr'
 cases e with
 | panicked c => exact hr'.elim
 | outgrown => exact hr'.elim
 | returned v => exact hk v w' hr'
structure finH (A : Nat) (H : HL) (H1 : HL) : Prop where
 ex : ∃ sel, Nat.beq sel.length H1.length = true ∧ idOk sel A = true ∧ okH sel H sel H1 ∧ dupOk sel 0 sel H1 = true
def jumpOf : Exit → Option Code
 | .ret => some .ret
 | .exit i => some (.exit i)
 | _ => none
def obEnd (R : RL) (N : Nat) (ps : List Nat) (as_ bd : Code) (ex : Exit) : OB := match jumpOf ex with | some c => .pend c | none => .loop R N ps as_ bd
def retEnd (ex : Exit) : SV := .b (jumpOf ex).isNone
theorem Fr.putLoop {S : Nat → Nat → Prop} {w : World} {l : Nat} {r r' : Loop} (h : w.heap[l]? = some (.loop r)) (hS : ∃ o, S l o) : Fr S w (w.putObj l (.loop r')) := by
 refine ⟨rfl, rfl, rfl, by simp [World.putObj], fun k o ho => ?_⟩
 by_cases hk : l = k
 ·
  subst hk
  rw [h] at ho; cases ho
  have hlt := (Array.getElem?_eq_some_iff.1 h).1
  simp only [World.putObj]
  rw [Array.getElem?_setIfInBounds_self_of_lt hlt]
  exact .inr ⟨hS, by simp [mutK], _, rfl, rfl⟩
 ·
  simp only [World.putObj]
  rw [Array.getElem?_setIfInBounds_ne hk, ho]
  exact FrO.refl _ _
theorem putLoop_cells {w : World} {l k : Nat} {r r' : Loop} (h : w.heap[l]? = some (.loop r)) {c : Array Value} {t : TypeId} {fz : Nat × Nat} (hc : w.heap[k]? = some (.cells c t fz)) : (w.putObj l (.loop r')).heap[k]? = some (.cells c t fz) := by
 have hne : l ≠ k := fun e => by subst e; rw [h] at hc; cases hc
 simp only [World.putObj]; rw [Array.getElem?_setIfInBounds_ne hne]; exact hc
theorem putLoop_dfr {w : World} {l k : Nat} {r r' : Loop} (h : w.heap[l]? = some (.loop r)) {x : Option (List Deferred)} (hc : w.heap[k]? = some (.deferred x)) : (w.putObj l (.loop r')).heap[k]? = some (.deferred x) := by
 have hne : l ≠ k := fun e => by subst e; rw [h] at hc; cases hc
 simp only [World.putObj]; rw [Array.getElem?_setIfInBounds_ne hne]; exact hc
theorem putLoop_self {w : World} {l : Nat} {r r' : Loop} (h : w.heap[l]? = some (.loop r)) : (w.putObj l (.loop r')).heap[l]? = some (.loop r') := by
 simp only [World.putObj]; rw [Array.getElem?_setIfInBounds_self_of_lt (Array.getElem?_eq_some_iff.1 h).1]
theorem putLoop_mut {w : World} {l k : Nat} {r r' : Loop} {x : Obj} (h : w.heap[l]? = some (.loop r)) (hx : 2 ≤ mutK x) (hc : w.heap[k]? = some x) : (w.putObj l (.loop r')).heap[k]? = some x := by
 have hne : l ≠ k := fun e => by subst e; rw [h] at hc; cases hc; simp [mutK] at hx
 simp only [World.putObj]; rw [Array.getElem?_setIfInBounds_ne hne]; exact hc
theorem BRel.putLoop {ρ : Ren} {w : World} {l : Nat} {r r' : Loop} {rb : RB} {b : SB} (h : w.heap[l]? = some (.loop r)) (hn : ∀ y, b ≠ .obj y) (hb : BRel ρ w rb b) : BRel ρ (w.putObj l (.loop r')) rb b := by
 cases b with
 | obj y => exact absurd rfl (hn y)
 | ext y =>
  cases y with
  | fam l => exact fun e he => ⟨(hb e he).1, (hb e he).2.imp id fun ⟨⟨c, t, fz, hh, q⟩, h2⟩ => ⟨⟨c, t, fz, putLoop_cells h hh, q⟩, h2⟩⟩
  | lit o => exact ⟨hb.1, putLoop_mut h hb.1.1 hb.2⟩
  | locd r o => exact ⟨hb.1, putLoop_mut h hb.1.1 hb.2⟩
 | ro l => exact hb.imp id fun ⟨⟨c, t, fz, hh, q⟩, h2⟩ => ⟨⟨c, t, fz, putLoop_cells h hh, q⟩, h2⟩
 | box l => obtain ⟨⟨c, t, fz, hh, q⟩, h2⟩ := hb; exact ⟨⟨c, t, fz, putLoop_cells h hh, q⟩, h2⟩
 | row t l => exact hb.imp id fun ⟨hv, c, fz, hh, q⟩ => ⟨hv, c, fz, putLoop_cells h hh, q⟩
theorem Sim.putLoop {N B L : Nat} {ρ : Ren} {R : Env} {H : HL} {a : Act} {w : World} {l : Nat} {r r' : Loop} (h : w.heap[l]? = some (.loop r)) (hn : noObj H = true) (hs : Sim N B L ρ R (hg H) a w) : Sim N B L ρ R (hg H) a (w.putObj l (.loop r')) :=
 ⟨hs.size, hs.regs, fun id b hb => let ⟨rb, h1, h2⟩ := hs.heap id b hb; ⟨rb, h1, h2.putLoop h (fun y e => noObj_get hn (by rw [← e]; exact hb))⟩, hs.sep, hs.fresh,
  ⟨hs.dfr.1, fun d hd => let ⟨k, e, hB, hk⟩ := hs.dfr.2.1 d hd; ⟨k, e, hB, putLoop_dfr h hk⟩, by simpa [World.putObj] using hs.dfr.2.2⟩⟩
theorem hg_cons_succ (x : Option SB) (H : HL) (id : Nat) : hg (x :: H) (id + 1) = hg H id := by simp [hg]
theorem hg_cons_zero (x : Option SB) (H : HL) : hg (x :: H) 0 = x := by cases x <;> simp [hg]
theorem syield_of {P : Program} {R0 : RL} {N : Nat} {ps : List Nat} {as_ bd : Code} {args0 : List SV} {H0t H1t : HL} {ex : Exit} (hex : ex = .normal ∨ ex = .ret ∨ ∃ i, ex = .exit i)
  (hno1 : noObj H1t = true) (hps : ps.length = args0.length) (hpN : ps.all (fun p => Nat.blt p N) = true)
  (hwalk : SWp P (fun _ => True) N (H0t.length + 1) as_ (fun e R H L => e = .normal ∧ noObj H = true ∧ hg H 0 = none ∧ SWp P (fun _ => True) N (H0t.length + 1) bd (fun e _ H _ => e = ex ∧ hg H 0 = none ∧ noObj H = true ∧ finH (H0t.length + 1) H (none :: H1t)) R H L)
   (zipR ps args0 R0) (none :: H0t) (H0t.length + 1)) :
  SYield P args0 (some (.obj (.loop R0 N ps as_ bd)) :: H0t) (retEnd ex) (some (.obj (obEnd R0 N ps as_ bd ex)) :: H1t) := by
 refine ⟨fun rr n ρ w vs rb hvs hh hsep hfr hrb => ?_⟩
 obtain ⟨rb', hrb', hO⟩ := hh 0 _ (hg_cons_zero _ _)
 rw [hrb] at hrb'; cases hrb'
 obtain ⟨r, hl, hst, hpd, hrp, hra, hrbd, hsz, hrel⟩ := hO
 obtain ⟨l, hlb⟩ : ∃ l, l = rb.blk := ⟨_, rfl⟩
 rw [← hlb] at hl ⊢
 have hvl := hvs.length
 have hargsz : (⟨vs⟩ : Array Value).size = r.params.size := by rw [hrp]; simp; omega
 have hy := run_yield (P := P) hl hargsz
 refine ⟨_, _, _, _, hy, ?_⟩
 rw [hra, hrbd]
 have hh1 : HRel ρ (hg (none :: H0t)) w := fun id b hb => by
  cases id with
  | zero => rw [hg_cons_zero] at hb; cases hb
  | succ id => rw [hg_cons_succ] at hb; exact hh (id + 1) b (by rw [hg_cons_succ]; exact hb)
 have sub : ∀ id b, hg (none :: H0t) id = some b → hg (some (.obj (.loop R0 N ps as_ bd)) :: H0t) id = some b ∧ id ≠ 0 := fun id b hb => by
  cases id with
  | zero => rw [hg_cons_zero] at hb; cases hb
  | succ id => rw [hg_cons_succ] at hb; exact ⟨by rw [hg_cons_succ]; exact hb, by omega⟩
 have hsep1 : Sep ρ (hg (none :: H0t)) := fun i j bi bj ri rj hne hi hj hri hrj hown => hsep i j bi bj ri rj hne (sub i bi hi).1 (sub j bj hj).1 hri hrj hown
 have hl0 : ∀ o, ¬ Owned ρ (hg (none :: H0t)) l o := by
  rintro o ⟨id, b, rb2, h1, h2, h3, h4⟩
  obtain ⟨g1, g2⟩ := sub id b h1
  exact hsep 0 id _ b rb rb2 (by omega) (hg_cons_zero _ _) g1 hrb h2 rfl l o ⟨hlb, h4⟩
 have hown0 : ∀ k o, Owned ρ (hg (none :: H0t)) k o → Owned ρ (hg (some (.obj (.loop R0 N ps as_ bd)) :: H0t)) k o := by
  rintro k o ⟨id, b, rb2, h1, h2, h3, h4⟩
  exact ⟨id, b, rb2, (sub id b h1).1, h2, h3, h4⟩
 have hownl : Owned ρ (hg (some (.obj (.loop R0 N ps as_ bd)) :: H0t)) l 0 := ⟨0, _, rb, hg_cons_zero _ _, hrb, rfl, hlb⟩
 have hlt : l < w.heap.size := (Array.getElem?_eq_some_iff.1 hl).1
 obtain ⟨hz1, hz2⟩ := relR_zip (ps := ps) (vs := vs) hrel hvs (fun p hp => by
  have := List.all_eq_true.1 hpN p hp
  rw [hsz]; simpa [Nat.blt_eq] using this) hps
 have htm : (r.params.zip ⟨vs⟩).foldl (fun tmps (q : Nat × Value) => tmps.setIfInBounds q.1 q.2) r.tmps = ((ps.zip vs).foldl (fun t (q : Nat × Value) => t.setIfInBounds q.1 q.2) r.tmps) := by
  rw [hrp, ← Array.foldl_toList]; simp
 have hsim : Sim N w.heap.size (H0t.length + 1) ρ (rg (zipR ps args0 R0)) (hg (none :: H0t)) { tmps := ((ps.zip vs).foldl (fun t (q : Nat × Value) => t.setIfInBounds q.1 q.2) r.tmps), defers := [] } w :=
  ⟨by rw [hz2, hsz], fun t v hv => hz1 t v hv, hh1, hsep1, fun id hid => hfr id (by simpa using hid), ⟨List.Pairwise.nil, fun d hd => by simp at hd, Nat.le_refl _⟩⟩
 refine roundIn_of_wpIn trivial ?_
 have e0 : (r.params.zip ⟨vs⟩).foldl (fun tmps x => match x with | (t, a) => tmps.setIfInBounds t a) r.tmps = ((ps.zip vs).foldl (fun t (q : Nat × Value) => t.setIfInBounds q.1 q.2) r.tmps) := htm
 rw [e0]
 refine wpIn_mono (hwalk.run (some l) n w.heap.size ρ _ w trivial hsim (by simp)) ?_
 rintro e a1 w1 ⟨R1, H1, L1, ρ1, ⟨rfl, hno2, hz0, hbody⟩, hl1, hs1, he1⟩
 have hl1' : w1.heap[l]? = some (.loop r) := (he1.fr.blk l _ hl).same (fun o => hl0 o)
 refine ⟨_, run_beginRound hl1' hst, ?_⟩
 obtain ⟨w2, hw2⟩ : ∃ w2, w2 = w1.putObj l (.loop { r with state := .busy }) := ⟨_, rfl⟩
 rw [← hw2]
 have hs2 : Sim N w.heap.size L1 ρ1 (rg R1) (hg H1) a1 w2 := by rw [hw2]; exact hs1.putLoop hl1' hno2
 have hl2 : w2.heap[l]? = some (.loop { r with state := .busy }) := by rw [hw2]; exact putLoop_self hl1'
 refine wpIn_mono (hbody.run (some l) n w.heap.size ρ1 a1 w2 trivial hs2 hl1) ?_
 rintro e a3 w3 ⟨R3, H3, L3, ρ3, ⟨rfl, hz3, hno3, hfin⟩, hl3, hs3, he3⟩
 have hl1n : ∀ o, ¬ Owned ρ1 (hg H1) l o := fun o ho => by
  rcases he1.own l o ho with h | h
  ·
   exact hl0 o h
  ·
   omega
 have hl3' : w3.heap[l]? = some (.loop { r with state := .busy }) := (he3.fr.blk l _ hl2).same hl1n
 obtain ⟨sel, f1, f2, f3, f4⟩ := hfin.ex
 have f1' : sel.length = H1t.length + 1 := by simpa using beqE f1
 have hsel := sel_sim (R0 := []) (L0 := H1t.length + 1) sel f1' f2 trivial f3 f4 hs3
 obtain ⟨k1, k2⟩ := hsel
 have fin : ∀ jump : Option Code, jump = jumpOf e → ∃ w4, (Instr.endRound l jump).run P w3 = .ok (.bool jump.isNone) w4 ∧ CallR ρ (some (.obj (.loop R0 N ps as_ bd)) :: H0t) w (retEnd e) (some (.obj (obEnd R0 N ps as_ bd e)) :: H1t) (.returned (.bool jump.isNone)) w4 := by
  intro jump hj
  refine ⟨_, run_endRound jump hl3', ?_⟩
  obtain ⟨r4, hr4⟩ : ∃ r4 : Loop, r4 = { r with state := if jump.isNone then .ready else .done, pending := jump } := ⟨_, rfl⟩
  have er4 : ({ ({ r with state := .busy } : Loop) with state := if jump.isNone then .ready else .done, pending := jump } : Loop) = r4 := by rw [hr4]
  rw [er4]
  obtain ⟨w4, hw4⟩ : ∃ w4, w4 = w3.putObj l (.loop r4) := ⟨_, rfl⟩
  rw [← hw4]
  have hl4 : w4.heap[l]? = some (.loop r4) := by rw [hw4]; exact putLoop_self hl3'
  have hext : ∀ id rb2, ρ id = some rb2 → pullR sel ρ3 id = some rb2 := fun id rb2 hid => by
   have hlt2 : id < H0t.length + 1 := by
    by_cases h : id < H0t.length + 1
    ·
     exact h
    ·
     rw [hfr id (by simp; omega)] at hid; cases hid
   exact k2.ext id hlt2 rb2 (he3.ext id hlt2 rb2 (he1.ext id hlt2 rb2 hid))
  have hk0 : noObj (none :: H1t) = true := hno1
  have hheap4 : HRel (pullR sel ρ3) (hg (none :: H1t)) w4 := by
   rw [hw4]
   intro id b hb
   obtain ⟨rb2, g1, g2⟩ := k1.heap id b hb
   exact ⟨rb2, g1, g2.putLoop hl3' (fun y ey => noObj_get hk0 (by rw [← ey]; exact hb))⟩
  have sub1 : ∀ id b, id ≠ 0 → hg (some (.obj (obEnd R0 N ps as_ bd e)) :: H1t) id = some b → hg (none :: H1t) id = some b := fun id b hne hb => by
   cases id with
   | zero => exact absurd rfl hne
   | succ id => rw [hg_cons_succ] at hb ⊢; exact hb
  have hfoot : ∀ id b rb2 o, id ≠ 0 → hg (some (.obj (obEnd R0 N ps as_ bd e)) :: H1t) id = some b → pullR sel ρ3 id = some rb2 → ¬ foot rb2 b l o := by
   intro id b rb2 o hne hb hr hf
   have hb2 := sub1 id b hne hb
   obtain ⟨rb3, g1, g2⟩ := hheap4 id b hb2
   rw [hr] at g1; cases g1
   obtain ⟨x, hc, hx⟩ := foot_cells g2 (fun y ey => noObj_get hk0 (by rw [← ey]; exact hb2)) hf
   rw [hl4] at hc; cases hc; exact hx rfl
  have hfr : Fr (Owned ρ (hg (some (.obj (.loop R0 N ps as_ bd)) :: H0t))) w w4 := by
   have a1 : Fr (Owned ρ (hg (some (.obj (.loop R0 N ps as_ bd)) :: H0t))) w w1 := he1.fr.mono (fun k o _ h => hown0 k o h)
   have a2 : Fr (Owned ρ (hg (some (.obj (.loop R0 N ps as_ bd)) :: H0t))) w w2 := by
    rw [hw2]; exact a1.trans (Fr.putLoop hl1' ⟨0, hownl⟩) (fun _ _ _ h => h)
   have a3 : Fr (Owned ρ (hg (some (.obj (.loop R0 N ps as_ bd)) :: H0t))) w w3 := a2.trans he3.fr (fun k o hk h => by
    rcases he1.own k o h with h | h
    ·
     exact hown0 k o h
    ·
     omega)
   rw [hw4]; exact a3.trans (Fr.putLoop hl3' ⟨0, hownl⟩) (fun _ _ _ h => h)
  have hb0 : ORel (pullR sel ρ3) w4 l (obEnd R0 N ps as_ bd e) := by
   unfold obEnd
   rw [← hj]
   cases jump with
   | none =>
    have : r4 = r := by rw [hr4]; cases r; simp only at hst hpd; subst hst; subst hpd; rfl
    rw [this] at hl4
    exact ⟨r, hl4, hst, hpd, hrp, hra, hrbd, hsz, fun t v hv => (hrel t v hv).ext (fun id rb2 h => hext id rb2 h)⟩
   | some c => exact ⟨r4, hl4, by rw [hr4]; rfl, by rw [hr4]⟩
  refine ⟨pullR sel ρ3, ?_, ?_, ?_, ?_, ?_⟩
  ·
   simp only [retEnd, Rel, hj]
  ·
   intro id b hb
   by_cases h0 : id = 0
   ·
    subst h0
    rw [hg_cons_zero] at hb; cases hb
    exact ⟨rb, hext 0 rb hrb, by rw [hlb] at hb0; exact hb0⟩
   ·
    exact hheap4 id b (sub1 id b h0 hb)
  ·
   intro i j bi bj ri rj hne hi hj' hri hrj hown k o ⟨hfi, hfj⟩
   by_cases h0 : i = 0
   ·
    subst h0
    rw [hg_cons_zero] at hi; cases hi
    rw [hext 0 rb hrb] at hri; cases hri
    have hkl : k = l := by rw [hlb]; exact hfi
    subst hkl
    exact hfoot j bj rj o (fun e => hne e.symm) hj' hrj hfj
   ·
    by_cases h1 : j = 0
    ·
     subst h1
     rw [hg_cons_zero] at hj'; cases hj'
     rw [hext 0 rb hrb] at hrj; cases hrj
     have hkl : k = l := by rw [hlb]; exact hfj
     subst hkl
     exact hfoot i bi ri o h0 hi hri hfi
    ·
     exact k1.sep i j bi bj ri rj hne (sub1 i bi h0 hi) (sub1 j bj h1 hj') hri hrj hown k o ⟨hfi, hfj⟩
  ·
   intro id hid; exact k1.fresh id (by simpa using hid)
  ·
   refine ⟨fun id _ rb2 h => hext id rb2 h, hfr, ?_⟩
   rintro k o ⟨id, b, rb2, h1, h2, h3, h4⟩
   by_cases h0 : id = 0
   ·
    subst h0
    rw [hg_cons_zero] at h1; cases h1
    rw [hext 0 rb hrb] at h2; cases h2
    have hkl : k = l := by rw [hlb]; exact h4
    subst hkl
    exact .inl ⟨0, _, rb, hg_cons_zero _ _, hrb, rfl, hlb⟩
   ·
    rcases k2.own k o ⟨id, b, rb2, sub1 id b h0 h1, h2, h3, h4⟩ with h | h
    ·
     rcases he3.own k o h with h | h
     ·
      rcases he1.own k o h with h | h
      ·
       exact .inl (hown0 k o h)
      ·
       exact .inr h
     ·
      right
      have : w2.heap.size = w1.heap.size := by rw [hw2]; simp [World.putObj]
      have := he1.fr.size
      omega
    ·
     right
     have h1 := he1.fr.size
     have h2 : w2.heap.size = w1.heap.size := by rw [hw2]; simp [World.putObj]
     have h3 := he3.fr.size
     omega
 rcases hex with rfl | rfl | ⟨i, rfl⟩
 ·
  obtain ⟨w4, g1, g2⟩ := fin none rfl
  exact ⟨_, w4, g1, g2⟩
 ·
  obtain ⟨w4, g1, g2⟩ := fin (some .ret) rfl
  exact ⟨_, w4, g1, g2⟩
 ·
  obtain ⟨w4, g1, g2⟩ := fin (some (.exit i)) rfl
  exact ⟨_, w4, g1, g2⟩
theorem hg_hput (H : HL) (id : Nat) (ob : Option SB) (i : Nat) : hg (hput H id ob) i = if i = id then ob else hg H i := by
 have h := congrFun (hg_hupd H [(id, ob)]) i
 have e : hput H id ob = hupd H [(id, ob)] := by rw [hput_eq]; rfl
 rw [e, h]
 by_cases hi : i = id
 ·
  subst hi; simp [updW]
 ·
  have : (i == id) = false := by simpa using hi
  simp [updW, List.lookup_cons, this, hi]
theorem hput_le {H : HL} {id L : Nat} {ob : Option SB} (h : H.length ≤ L) (hi : id < L) : (hput H id ob).length ≤ L := by
 have e : hput H id ob = hupd H [(id, ob)] := by rw [hput_eq]; rfl
 rw [e]
 exact hupd_le h (fun i o hm => by simp only [List.mem_singleton, Prod.mk.injEq] at hm; rw [hm.1]; exact hi)
def rangeK (L0 : Nat) (R : RL) (Q : Exit → RL → HL → Nat → Prop) (H : HL) (L : Nat) : Prop :=
 match hk H L0 with
 | some (.obj (.loop _ _ _ _ _)) => Q .normal R (hput H L0 none) L
 | some (.obj (.pend .ret)) => Q .ret R (hput H L0 none) L
 | some (.obj (.pend (.exit i))) => Q (.exit i) R (hput H L0 none) L
 | _ => False
def rangeQ (L0 : Nat) (R : RL) (Q : Exit → RL → HL → Nat → Prop) : Exit → RL → HL → Nat → Prop
 | .normal, _, H, L => rangeK L0 R Q H L
 | .ret, _, H, L => rangeK L0 R Q H L
 | _, _, _, _ => False
theorem leaves_void {P : Program} {fn : Func} (hr : fn.results = #[]) (tmps : Array Value) (w : World) : ∃ v, (results fn tmps).run P w = .ok v w := by
 refine ⟨.tuple #[], ?_⟩
 unfold results
 rw [hr]
 simp
theorem range_rule {P : Program} {N A : Nat} {g : Operand} {ps : List Nat} {as_ bd : Code} {Q : Exit → RL → HL → Nat → Prop} {R : RL} {H : HL} {L : Nat} {gf : Nat} {caps : List SV} {fn : Func} {c : Code}
  (hg0 : ev R g = some (.fn gf caps)) (hle : Nat.ble H.length L = true) (hA : Nat.ble A L = true) (hf : P.funcs[gf]? = some fn) (hb : fn.body = some c) (hnm : (fn.name == "runtime.NumGoroutine") = false) (hres : fn.results = #[]) (hnt : Nat.ble (caps.length + 1) fn.ntmps = true)
  (hwalk : SWp P (· = none) fn.ntmps (L + 1) c (rangeQ L R Q) (regs 0 (.yld L :: caps)) (hput H L (some (.obj (.loop R N ps as_ bd)))) (L + 1)) :
  SWp P (· = none) N A (.rangeFunc g ⟨ps⟩ as_ bd) Q R H L := by
 refine ⟨fun r n B ρ a w hM hs hl => ?_⟩
 subst hM
 have hHL := Nat.le_of_ble_eq_true hle
 have hgv : Rel ρ (.fn gf caps) (a.eval g) := by
  cases g with
  | tmp t => exact hs.regs t _ (by rw [rg, ← lk_eq]; exact hg0)
  | const u => exact (ofVal_rel hg0).1
  | func f => simp only [ev, Option.some.injEq] at hg0; cases hg0; simp only [Rel]; exact ⟨[], rfl, Rels.nil_iff.2 rfl⟩
  | global g => cases hg0
 simp only [Rel] at hgv
 obtain ⟨cs, hge, hcaps⟩ := hgv
 refine wpIn_rangeFunc ?_
 intro fid _
 obtain ⟨r0, hr0⟩ : ∃ r0 : Loop, r0 = { state := .ready, pending := none, fn := fid, tmps := a.tmps, params := ⟨ps⟩, assign := as_, body := bd, defers := w.heap.size } := ⟨_, rfl⟩
 obtain ⟨w1, hw1⟩ : ∃ w1, w1 = (w.alloc (.deferred (some []))).alloc (.loop r0) := ⟨_, rfl⟩
 have hL1 : w1.heap[w.heap.size + 1]? = some (.loop r0) := by
  rw [hw1]; have := World.alloc_heap_new (w.alloc (.deferred (some []))) (.loop r0); rwa [World.size_alloc] at this
 have hD1 : w1.heap[w.heap.size]? = some (.deferred (some [])) := by
  rw [hw1]; exact (RowKit.Below.heap_alloc _ _ _ (by simp)).trans (World.alloc_heap_new w _)
 have hfr1 : ∀ S, Fr S w w1 := fun S => by
  rw [hw1]; exact (Fr.alloc S w _).trans (Fr.alloc S _ _) (fun _ _ _ h => h)
 have hsz1 : w1.heap.size = w.heap.size + 2 := by rw [hw1]; simp
 have hfok : FnOk P gf := ⟨fn, hf, by rw [hb]; rfl, hnm⟩
 refine ⟨w.heap.size + 1, [{ target := .collected w.heap.size, args := #[] }], w1, { target := .fn (.func gf) ⟨cs⟩, args := #[.func (.yield (w.heap.size + 1)) #[] #[]] }, w1, gf,
  #[.func (.yield (w.heap.size + 1)) #[] #[]] ++ ⟨cs⟩, w1, ?_, ?_, fun _ _ => trivial, ?_, fun h => (by cases h), ?_⟩
 ·
  rw [hw1, hr0]; exact run_enterLoop_outer _ _ _ _ _
 ·
  simp only [resolve, hge]
  simp [go_sem]
 ·
  simp only [invoke, run_callFunc hfok]
 ·
  obtain ⟨ρ1, hρ1⟩ : ∃ ρ1 : Ren, ρ1 = setR ρ L ⟨w.heap.size + 1, 0, 0, false⟩ := ⟨_, rfl⟩
  have hρL : ρ1 L = some ⟨w.heap.size + 1, 0, 0, false⟩ := by rw [hρ1]; simp [setR]
  have hρne : ∀ id, id ≠ L → ρ1 id = ρ id := fun id h => by rw [hρ1]; simp [setR, h]
  have hfresh := hs.fresh
  have hext : Ext ρ ρ1 := fun id rb h => by
   have : id ≠ L := fun e => by subst e; rw [hfresh id (Nat.le_refl _)] at h; cases h
   rw [hρne id this]; exact h
  have hgp : ∀ id, hg (hput H L (some (.obj (.loop R N ps as_ bd)))) id = if id = L then some (.obj (.loop R N ps as_ bd)) else hg H id := fun id => by
   rw [hg_hput]
  have hlowH : ∀ id b, hg H id = some b → id ≠ L := fun id b h e => by
   subst e
   have := hk_lt hHL (by rw [hk_eq]; exact h)
   omega
  have hheap1 : HRel ρ1 (hg (hput H L (some (.obj (.loop R N ps as_ bd))))) w1 := by
   intro id b hb2
   rw [hgp] at hb2
   by_cases h : id = L
   ·
    rw [if_pos h] at hb2; cases hb2; subst h
    exact ⟨_, hρL, r0, hL1, by rw [hr0], by rw [hr0], by rw [hr0], by rw [hr0], by rw [hr0], by rw [hr0]; exact hs.size, fun t v hv => by
     have := hs.regs t v hv
     rw [hr0]; exact this.ext hext⟩
   ·
    rw [if_neg h] at hb2
    obtain ⟨rb, g1, g2⟩ := hs.heap id b hb2
    exact ⟨rb, hext _ _ g1, (g2.frame (hfr1 (fun _ _ => False)) (fun _ _ _ h => h)).ext hext⟩
  have hsep1 : Sep ρ1 (hg (hput H L (some (.obj (.loop R N ps as_ bd))))) := by
   intro i j bi bj ri rj hne hi hj hri hrj hown k o ⟨hfi, hfj⟩
   rw [hgp] at hi hj
   have low : ∀ id b rb, id ≠ L → hg H id = some b → ρ1 id = some rb → foot rb b k o → k < w.heap.size := fun id b rb hid hb2 hr hf => by
    rw [hρne id hid] at hr
    obtain ⟨rb2, g1, g2⟩ := hs.heap id b hb2
    rw [hr] at g1; cases g1
    exact g2.foot_lt hf
   by_cases h1 : i = L
   ·
    rw [if_pos h1] at hi; cases hi
    by_cases h2 : j = L
    ·
     exact hne (h1.trans h2.symm)
    ·
     rw [if_neg h2] at hj
     have := low j bj rj h2 hj hrj hfj
     subst h1; rw [hρL] at hri; cases hri
     have : k = w.heap.size + 1 := hfi
     omega
   ·
    rw [if_neg h1] at hi
    by_cases h2 : j = L
    ·
     rw [if_pos h2] at hj; cases hj
     have := low i bi ri h1 hi hri hfi
     subst h2; rw [hρL] at hrj; cases hrj
     have : k = w.heap.size + 1 := hfj
     omega
    ·
     rw [if_neg h2] at hj
     rw [hρne i h1] at hri
     rw [hρne j h2] at hrj
     exact hs.sep i j bi bj ri rj hne hi hj hri hrj hown k o ⟨hfi, hfj⟩
  have hvs : Rels ρ1 (.yld L :: caps) (.func (.yield (w.heap.size + 1)) #[] #[] :: cs) :=
   Rels.cons (by simp only [Rel]; exact ⟨_, hρL, rfl⟩) (Rels.ext hext caps hcaps)
  have hargsz : (#[.func (.yield (w.heap.size + 1)) #[] #[]] ++ ⟨cs⟩ : Array Value) = ⟨.func (.yield (w.heap.size + 1)) #[] #[] :: cs⟩ := by simp
  rw [hargsz]
  have hcl := hcaps.length
  have hnt' := Nat.le_of_ble_eq_true hnt
  have hsim : Sim fn.ntmps w1.heap.size (L + 1) ρ1 (rg (regs 0 (.yld L :: caps))) (hg (hput H L (some (.obj (.loop R N ps as_ bd)))))
    { tmps := (⟨.func (.yield (w.heap.size + 1)) #[] #[] :: cs⟩ : Array Value) ++ Array.replicate (fn.ntmps - (⟨.func (.yield (w.heap.size + 1)) #[] #[] :: cs⟩ : Array Value).size) undef, defers := [] } w1 := by
   refine ⟨by simp; omega, ?_, hheap1, hsep1, fun id hid => ?_, ⟨List.Pairwise.nil, fun d hd => by simp at hd, Nat.le_refl _⟩⟩
   ·
    intro t v hv
    obtain ⟨_, h2⟩ := regs_get hv
    obtain ⟨u, hu, hr⟩ := hvs.get h2
    simp only [Nat.sub_zero] at hu
    have htl : t < (Value.func (Fn.yield (w.heap.size + 1)) #[] #[] :: cs).length := (List.getElem?_eq_some_iff.1 hu).1
    rw [Array.getD_eq_getD_getElem?, Array.getElem?_append_left (by simpa using htl)]
    simp only [List.getElem?_toArray, hu]
    exact hr
   ·
    rw [hρne id (by omega)]; exact hfresh id (by omega)
  refine callsIn_of_wp_marks hf hb trivial ?_ rfl
  have hlen1 : (hput H L (some (.obj (.loop R N ps as_ bd)))).length ≤ L + 1 := hput_le (by omega) (by omega)
  refine wpIn_mono (hwalk.run none (n - 1) w1.heap.size ρ1 _ w1 rfl hsim hlen1) ?_
  rintro e a' w2 ⟨R2, H2, L2, ρ2, hq, hl2, hs2, he2⟩
  have main : rangeK L R Q H2 L2 → LeavesInM (Fw none) (n - 1) P fn a'.tmps (rangePost (Fw none) n P (w.heap.size + 1) (fun e a' w' => ∃ R' H' L' ρ', Q e R' H' L' ∧ H'.length ≤ L' ∧ Sim N B L' ρ' (rg R') (hg H') a' w' ∧ EvA A ρ (hg H) w ρ' (hg H') w')
    { a with defers := [{ target := .collected w.heap.size, args := #[] }] ++ a.defers }) a'.defers .returning w2 := by
   intro hq
   refine leaves_marks a'.defers w2 hs2.dfr (fun w3 hm => ?_)
   obtain ⟨v, hv⟩ := leaves_void (P := P) hres a'.tmps w3
   refine ⟨v, hv, ?_⟩
   have hAL := Nat.le_of_ble_eq_true hA
   have hρ2L : ρ2 L = some ⟨w.heap.size + 1, 0, 0, false⟩ := he2.ext L (by omega) _ hρL
   have hrec : ∃ y, hg H2 L = some (.obj y) := by
    unfold rangeK at hq
    rw [hk_eq] at hq
    cases hh : hg H2 L with
    | none => rw [hh] at hq; exact hq.elim
    | some b => cases b with
     | obj y => exact ⟨y, rfl⟩
     | _ => rw [hh] at hq; exact hq.elim
   obtain ⟨y, hy⟩ := hrec
   obtain ⟨rb, hrb, hO⟩ := hs2.heap L _ hy
   rw [hρ2L] at hrb; cases hrb
   have hloop : ∃ r3 : Loop, w3.heap[w.heap.size + 1]? = some (.loop r3) ∧ r3.state ≠ .busy ∧ r3.pending = (match y with | .loop _ _ _ _ _ => none | .pend c => some c) := by
    cases y with
    | loop R3 N3 ps3 a3 b3 => obtain ⟨r3, g1, g2, g3, _⟩ := hO; exact ⟨r3, hm.loops _ _ g1, by rw [g2]; simp, g3⟩
    | pend c3 => obtain ⟨r3, g1, g2, g3⟩ := hO; exact ⟨r3, hm.loops _ _ g1, by rw [g2]; simp, g3⟩
   obtain ⟨r3, hr3, hnb, hpd⟩ := hloop
   obtain ⟨w4, hw4⟩ : ∃ w4, w4 = w3.putObj (w.heap.size + 1) (.loop { r3 with state := .exhausted }) := ⟨_, rfl⟩
   have hend := run_endLoop (P := P) hr3 hnb
   rw [← hw4] at hend
   have hgp2 : ∀ id, hg (hput H2 L none) id = if id = L then none else hg H2 id := fun id => by rw [hg_hput]
   have sub : ∀ id b, hg (hput H2 L none) id = some b → id ≠ L ∧ hg H2 id = some b := fun id b h => by
    rw [hgp2] at h
    by_cases e : id = L
    ·
     rw [if_pos e] at h; cases h
    ·
     rw [if_neg e] at h; exact ⟨e, h⟩
   have hobj : ∀ id y2, hg (hput H2 L none) id = some (.obj y2) → ∃ rb, ρ2 id = some rb ∧ rb.blk ≠ w.heap.size + 1 := fun id y2 h => by
    obtain ⟨hne, h2⟩ := sub id _ h
    obtain ⟨rb, g1, g2⟩ := hs2.heap id _ h2
    refine ⟨rb, g1, fun e => ?_⟩
    exact hs2.sep L id _ _ _ rb (fun e => hne e.symm) hy h2 hρ2L g1 rfl (w.heap.size + 1) 0 ⟨rfl, e.symm⟩
   have hheap4 : HRel ρ2 (hg (hput H2 L none)) w4 := by
    intro id b hb2
    obtain ⟨hne, h2⟩ := sub id b hb2
    obtain ⟨rb, g1, g2⟩ := hs2.heap id b h2
    refine ⟨rb, g1, ?_⟩
    rw [hw4]
    have g3 := g2.marks hm
    cases b with
    | obj y2 =>
     obtain ⟨rb3, q1, q2⟩ := hobj id y2 hb2
     rw [g1] at q1; cases q1
     have keep : (w3.putObj (w.heap.size + 1) (.loop { r3 with state := .exhausted })).heap[rb.blk]? = w3.heap[rb.blk]? := World.putObj_heap_other q2
     cases y2 with
     | loop R3 N3 ps3 a3 b3 => obtain ⟨r5, k1, k2⟩ := g3; exact ⟨r5, by rw [keep]; exact k1, k2⟩
     | pend c3 => obtain ⟨r5, k1, k2⟩ := g3; exact ⟨r5, by rw [keep]; exact k1, k2⟩
    | row t l => exact g3.putLoop hr3 (fun _ e => by cases e)
    | box l => exact g3.putLoop hr3 (fun _ e => by cases e)
    | ro l => exact g3.putLoop hr3 (fun _ e => by cases e)
    | ext y => exact g3.putLoop hr3 (fun _ e => by cases e)
   have hfr4 : Fr (Owned ρ (hg H)) w w4 := by
    have a2 : Fr (Owned ρ (hg H)) w w2 := (hfr1 _).trans he2.fr (fun k o hk h => by
     obtain ⟨id, b, rb, g1, g2, g3, g4⟩ := h
     rw [hgp] at g1
     by_cases e : id = L
     ·
      rw [if_pos e] at g1; cases g1
      subst e; rw [hρL] at g2; cases g2
      have : k = w.heap.size + 1 := g4
      omega
     ·
      rw [if_neg e] at g1
      rw [hρne id e] at g2
      exact ⟨id, b, rb, g1, g2, g3, g4⟩)
    have a3 : Fr (Owned ρ (hg H)) w w3 := by
     refine ⟨hm.os.trans a2.os, hm.tape.trans a2.tape, hm.output.trans a2.output, by rw [hm.size]; exact a2.size, fun k o ho => ?_⟩
     have hk : k < w.heap.size := (Array.getElem?_eq_some_iff.1 ho).1
     rw [hm.low k (by omega)]
     exact a2.blk k o ho
    refine ⟨by rw [hw4]; exact a3.os, by rw [hw4]; exact a3.tape, by rw [hw4]; exact a3.output, by rw [hw4]; simpa [World.putObj] using a3.size, fun k o ho => ?_⟩
    have hk : k < w.heap.size := (Array.getElem?_eq_some_iff.1 ho).1
    rw [hw4, World.putObj_heap_other (by omega)]
    exact a3.blk k o ho
   have hD4 : w4.heap[w.heap.size]? = some (.deferred (some [])) := by
    have d2 : w2.heap[w.heap.size]? = some (.deferred (some [])) := (he2.fr.blk _ _ hD1).fixed rfl (fun _ _ _ h => by cases h)
    have d3 : w3.heap[w.heap.size]? = some (.deferred (some [])) := by rw [hm.low _ (by omega)]; exact d2
    rw [hw4]; exact putLoop_dfr hr3 d3
   have hown4 : ∀ k o, Owned ρ2 (hg (hput H2 L none)) k o → Owned ρ (hg H) k o ∨ w.heap.size ≤ k := by
    rintro k o ⟨id, b, rb, g1, g2, g3, g4⟩
    obtain ⟨hne, h2⟩ := sub id b g1
    rcases he2.own k o ⟨id, b, rb, h2, g2, g3, g4⟩ with h | h
    ·
     obtain ⟨id2, b2, rb2, q1, q2, q3, q4⟩ := h
     rw [hgp] at q1
     by_cases e : id2 = L
     ·
      rw [if_pos e] at q1; cases q1
      subst e; rw [hρL] at q2; cases q2
      have : k = w.heap.size + 1 := q4
      exact .inr (by omega)
     ·
      rw [if_neg e] at q1
      rw [hρne id2 e] at q2
      exact .inl ⟨id2, b2, rb2, q1, q2, q3, q4⟩
    ·
     exact .inr (by omega)
   have hextA : ∀ id rb, ρ id = some rb → ρ2 id = some rb := fun id rb h => by
    have hid : id < L := by
     by_cases e : id < L
     ·
      exact e
     ·
      rw [hfresh id (by omega)] at h; cases h
    exact he2.ext id (by omega) rb (hext id rb h)
   have hsim4 : Sim N B L2 ρ2 (rg R) (hg (hput H2 L none)) { a with defers := [{ target := .collected w.heap.size, args := #[] }] ++ a.defers } w4 := by
    refine ⟨hs.size, fun t v hv => (hs.regs t v hv).ext (fun id rb h => hextA id rb h), hheap4, fun i j bi bj ri rj hne hi hj hri hrj hown => hs2.sep i j bi bj ri rj hne (sub i bi hi).2 (sub j bj hj).2 hri hrj hown, hs2.fresh, ?_⟩
    have hd0 : DfrOk B a.defers w4 := hs.dfr.fr hfr4
    refine ⟨?_, fun d hd => ?_, hd0.2.2⟩
    ·
     simp only [List.singleton_append, List.map_cons, List.pairwise_cons]
     refine ⟨fun t ht k hk => ?_, hd0.1⟩
     cases hk
     intro e
     obtain ⟨d, hd, rfl⟩ := List.mem_map.1 ht
     obtain ⟨q, e2, _, hq2⟩ := hs.dfr.2.1 d hd
     rw [e2] at e
     simp only [Target.collected.injEq] at e
     subst e
     have := (Array.getElem?_eq_some_iff.1 hq2).1
     omega
    ·
     rcases List.mem_append.1 hd with h | h
     ·
      simp only [List.mem_singleton] at h
      subst h
      exact ⟨w.heap.size, rfl, hs.dfr.2.2, hD4⟩
     ·
      exact hd0.2.1 d h
   have hev4 : EvA A ρ (hg H) w ρ2 (hg (hput H2 L none)) w4 := ⟨fun id _ rb h => hextA id rb h, hfr4, hown4⟩
   have hlen4 : (hput H2 L none).length ≤ L2 := hput_le hl2 (by have := hk_lt hl2 (by rw [hk_eq]; exact hy); omega)
   refine ⟨r3.pending, w4, hend, ?_⟩
   rw [hpd]
   unfold rangeK at hq
   rw [hk_eq, hy] at hq
   cases y with
   | loop R3 N3 ps3 a3 b3 => exact ⟨R, _, L2, ρ2, hq, hlen4, hsim4, hev4⟩
   | pend c3 =>
    cases c3 with
    | ret => exact wpIn_ret ⟨R, _, L2, ρ2, hq, hlen4, hsim4, hev4⟩
    | exit i => exact wpIn_exit ⟨R, _, L2, ρ2, hq, hlen4, hsim4, hev4⟩
    | _ => exact hq.elim
  cases e with
  | normal => exact main hq
  | ret => exact main hq
  | _ => exact hq.elim
end Go.Sh
namespace Go.Sh
theorem sload_map {α : Type} (f : α → SV) (d : α) {l : List α} {k i : Nat} (hk : k = i) (h : i < l.length) : sload false 1 (l.map f) k = some (f (l.getD i d)) := by
 subst hk
 simp [sload, h]
theorem sload_u8 {l : List UInt8} {k i : Nat} (hk : k = i) (h : i < l.length) : sload false 1 (l.map .u8) k = some (.u8 (l.getD i 0)) := sload_map _ _ hk h
theorem sload_u32 {l : List UInt32} {k i : Nat} (hk : k = i) (h : i < l.length) : sload false 1 (l.map .u32) k = some (.u32 (l.getD i 0)) := sload_map _ _ hk h
theorem sload_u64 {l : List UInt64} {k i : Nat} (hk : k = i) (h : i < l.length) : sload false 1 (l.map .u64) k = some (.u64 (l.getD i 0)) := sload_map _ _ hk h
theorem sload_all {l : List SV} {k sz : Nat} (hk : k = 0) (h : l.length = sz) : sload true sz l k = some (.agg l) := by
 subst hk; subst h
 simp only [sload, if_true]
 rw [if_pos (by omega), List.drop_zero, List.take_of_length_le (Nat.le_refl _)]
@[simp] theorem sput_agg_whole {l m : List SV} (h : m.length = l.length) : sput l 0 (.agg m) = m := by
 simp [sput, h]
theorem sput_all {l m : List SV} {k : Nat} (hk : k = 0) (h : m.length = l.length) : sput l k (.agg m) = m := by subst hk; exact sput_agg_whole h
theorem sput_m8 {l : List UInt8} {k i : Nat} {x : UInt8} (hk : k = i) : sput (l.map .u8) k (.u8 x) = (l.set i x).map .u8 := by subst hk; simp [sput, List.map_set]
theorem sput_m32 {l : List UInt32} {k i : Nat} {x : UInt32} (hk : k = i) : sput (l.map .u32) k (.u32 x) = (l.set i x).map .u32 := by subst hk; simp [sput, List.map_set]
theorem sput_m64 {l : List UInt64} {k i : Nat} {x : UInt64} (hk : k = i) : sput (l.map .u64) k (.u64 x) = (l.set i x).map .u64 := by subst hk; simp [sput, List.map_set]
theorem sload_end {l : List SV} {x : SV} {k : Nat} (hk : k = l.length) : sload false 1 (l ++ [x]) k = some x := by
 subst hk; simp [sload]
theorem sput_end {l : List SV} {x y : SV} {k : Nat} (hk : k = l.length) (hy : y.atom = true) : sput (l ++ [x]) k y = l ++ [y] := by
 subst hk
 cases y <;> first | (simp [SV.atom] at hy; done) | simp [sput]
theorem plainL_rep (n : Nat) {x : SV} (h : plainV x = true) : plainL (List.replicate n x) = true := by
 simp only [plainL, List.all_eq_true]; intro y hy; rw [List.eq_of_mem_replicate hy]; exact h
theorem ren_z8 {sel : List Nat} {n : Nat} {x : UInt8} : renL sel ((List.replicate n x).map .u8) = some (List.replicate n (.u8 x)) := by rw [List.map_replicate]; exact renL_plain sel (plainL_rep n rfl)
theorem ren_z32 {sel : List Nat} {n : Nat} {x : UInt32} : renL sel ((List.replicate n x).map .u32) = some (List.replicate n (.u32 x)) := by rw [List.map_replicate]; exact renL_plain sel (plainL_rep n rfl)
theorem ren_z64 {sel : List Nat} {n : Nat} {x : UInt64} : renL sel ((List.replicate n x).map .u64) = some (List.replicate n (.u64 x)) := by rw [List.map_replicate]; exact renL_plain sel (plainL_rep n rfl)
theorem ren_app {sel : List Nat} {a b c : List SV} (ha : plainL a = true) (h : renL sel b = some c) : renL sel (a ++ b) = some (a ++ c) := by
 induction a with
 | nil => exact h
 | cons x a ih =>
  simp only [plainL_cons, Bool.and_eq_true] at ha
  simp only [List.cons_append, renL, renV_plain sel ha.1, ih ha.2]
theorem ren_app2 {sel : List Nat} {a a' b c : List SV} (ha : plainL a = true) (e : a = a') (h : renL sel b = some c) : renL sel (a ++ b) = some (a' ++ c) := by subst e; exact ren_app ha h
theorem wk_i {sel : List Nat} {n m : Int} (h : n = m) : renV sel (.i n) = some (.i m) := by subst h; rfl
theorem wk_u64 {sel : List Nat} {n m : UInt64} (h : n = m) : renV sel (.u64 n) = some (.u64 m) := by subst h; rfl
theorem wk_b {sel : List Nat} {n m : Bool} (h : n = m) : renV sel (.b n) = some (.b m) := by subst h; rfl
theorem wk_sl {sel : List Nat} {i j o o' n n' z : Nat} {f : Bool} (hi : sel[i]? = some j) (ho : o = o') (hn : n = n') : renV sel (.sl i o n z f) = some (.sl j o' n' z f) := by subst ho; subst hn; simp only [renV, hi]
theorem wk_tup {sel : List Nat} {l m : List SV} (h : renL sel l = some m) : renV sel (.tup l) = some (.tup m) := by simp only [renV, h]
theorem wk_agg {sel : List Nat} {l m : List SV} (h : renL sel l = some m) : renV sel (.agg l) = some (.agg m) := by simp only [renV, h]
theorem wk_cons {sel : List Nat} {x y : SV} {l m : List SV} (h : renV sel x = some y) (k : renL sel l = some m) : renL sel (x :: l) = some (y :: m) := by simp only [renL, h, k]
theorem wk_nil {sel : List Nat} : renL sel [] = some [] := rfl
theorem evb_i {R : RL} {d : Nat} {x : Operand} {n : Int} {m : Nat} (h : ev R x = some (.i n)) (hn : n = (m : Int)) : evb R d (some x) = some m := by
 subst hn; simp [evb, h, idxOf]
end Go.Sh
namespace Go.Sh
def sopYield (fl : List Bool) (R : RL) (H : HL) (L : Nat) (x : Operand) (args : List Operand) (id : Nat) (ss : List Nat) (args0 : List SV) (H0 : HL) (ret : SV) (H1 : HL) (k : K1) : Prop :=
 (match ev R x with
  | some (.yld i) => match evs R args with
   | some zs => i = id ∧ renL (id :: ss) args0 = some zs
   | none => False
  | _ => False) ∧ okH (id :: ss) H (id :: ss) H0 ∧ plainHf fl H1 = true ∧
 match Nat.beq (id :: ss).length H0.length with
 | true => match dupOk (id :: ss) 0 (id :: ss) H0 with
  | true => match cWf (id :: ss ++ newSel L (H1.length - H0.length)) fl (id :: ss ++ newSel L (H1.length - H0.length)) H0 H1 with
   | some W => match renV (id :: ss ++ newSel L (H1.length - H0.length)) ret with
    | some z => k (some z) W (id :: ss) (L + (H1.length - H0.length))
    | none => False
   | none => False
  | false => False
 | false => False
theorem ok1_yield {P : Program} {o : Oper} {R : RL} {H : HL} {L : Nat} {k : K1} {x : Operand} {args : Array Operand} {tys : Array TypeId} {args0 : List SV} {H0 H1 : HL} {ret : SV} (id : Nat) (ss : List Nat) (fl : List Bool)
  (hc : SYield P args0 H0 ret H1) (ho : o.op = .call ⟨.value x, args, tys⟩) (hle : Nat.ble H.length L = true) (h : sopYield fl R H L x args.toList id ss args0 H0 ret H1 k) : Ok1 P o R H L k := by
 have hl := Nat.le_of_ble_eq_true hle
 obtain ⟨h1, h2, hp, h3⟩ := h
 split at h1
 ·
  rename_i i hx
  split at h1
  ·
   rename_i zs hzs
   obtain ⟨rfl, hren⟩ := h1
   split at h3
   ·
    rename_i hlen
    split at h3
    ·
     rename_i hd
     split at h3
     ·
      rename_i W hWf
      split at h3
      ·
       rename_i z hz
       have hW := cWf_eq _ _ _ _ _ _ hp hWf
       obtain ⟨w1, w2, w3, w4, w5⟩ := cW_spec hW
       refine ⟨_, _, _, _, lt_yield hl ho (ev_some hx) (evs_eq hzs) hc hren (beqE hlen) h2 hd hW hz, by omega, ?_, h3⟩
       intro j ob hm
       obtain ⟨q, hj, hent⟩ := w3 j ob hm
       have hl0 := beqE hlen
       by_cases hjs : q < H0.length
       ·
        rw [List.getElem?_append_left (by omega)] at hj
        obtain ⟨b0, hb0⟩ := w5 q hjs
        obtain ⟨s, b, e1, e2, _⟩ := okH_get h2 hb0
        rw [hj] at e1; cases e1
        have := hk_lt hl (by rw [hk_eq]; exact e2 : hk H _ = some b)
        exact ⟨by omega, fun hn => absurd (List.mem_of_getElem? hj) hn⟩
       ·
        rw [List.getElem?_append_right (by omega), newSel_get] at hj
        split at hj
        ·
         have := Option.some.inj hj
         exact ⟨by omega, fun _ => by omega⟩
        ·
         cases hj
      ·
       exact h3.elim
     ·
      exact h3.elim
    ·
     exact h3.elim
   ·
    exact h3.elim
  ·
   exact h1.elim
 ·
  exact h1.elim
end Go.Sh
namespace Go.Sh
theorem rels_nil {ρ : Ren} {id o sz : Nat} {fl : Bool} {rb : RB} (hr : ρ id = some rb) {bs : List SV} : ∀ {xs : List SV} {vs : List Value}, Rels ρ (xs ++ .slnil :: bs) vs → Rels ρ (xs ++ .sl id o 0 sz fl :: bs) vs
 | [], vs, h => by
  simp only [List.nil_append, Rels, Rel] at h ⊢
  obtain ⟨y, ys, rfl, rfl, h2⟩ := h
  exact ⟨_, ys, rfl, ⟨rb, none, 0, hr, rfl, Nat.le_refl _, fun _ => rfl, .inl rfl⟩, h2⟩
 | a :: xs, vs, h => by
  simp only [List.cons_append, Rels] at h ⊢
  obtain ⟨y, ys, rfl, h1, h2⟩ := h
  exact ⟨y, ys, rfl, h1, rels_nil hr h2⟩
theorem SCall.nil {P : Program} {f : Nat} {ret : SV} {H0 H1 : HL} (xs : List SV) {bs : List SV} {id o sz : Nat} {fl : Bool} {b : SB} (h : SCall P f (xs ++ .sl id o 0 sz fl :: bs) H0 ret H1) (hid : hk H0 id = some b) : SCall P f (xs ++ .slnil :: bs) H0 ret H1 := by
 refine ⟨h.fn, fun n ρ w vs hv hH hS hf => h.call n ρ w vs ?_ hH hS hf⟩
 rw [hk_eq] at hid
 obtain ⟨rb, hr, _⟩ := hH id b hid
 exact rels_nil hr hv
end Go.Sh
namespace Go.Sh
open Go.Proofs
set_option maxHeartbeats 8000000
def turn_n (x : UInt32) (n : Nat) : UInt32 := shr32 x n ||| shl32 x (32 - n)
def big_n (x : UInt32) (a b c : Nat) : UInt32 := turn_n x a ^^^ turn_n x b ^^^ turn_n x c
def small_n (x : UInt32) (a b c : Nat) : UInt32 := turn_n x a ^^^ turn_n x b ^^^ shr32 x c
def win_n (b : List UInt8) : Nat → List UInt32
 | 0 => List.replicate 64 0
 | i + 1 => (win_n b i).set (i / 4) (shl32 ((win_n b i).getD (i / 4) 0) 8 ||| (b.getD i 0).toUInt32)
def wex_n (b : List UInt8) : Nat → List UInt32
 | 0 => win_n b 64
 | t + 1 => (wex_n b t).set (t + 16) (small_n ((wex_n b t).getD (t + 14) 0) 17 19 10 + (wex_n b t).getD (t + 9) 0 + small_n ((wex_n b t).getD (t + 1) 0) 7 18 3 + (wex_n b t).getD t 0)
def rnd_n (x : List UInt32) (k w : UInt32) : List UInt32 :=
 let p := x.getD 7 0 + big_n (x.getD 4 0) 6 11 25 + ((x.getD 4 0 &&& x.getD 5 0) ^^^ (~~~ (x.getD 4 0) &&& x.getD 6 0)) + k + w
 let q := big_n (x.getD 0 0) 2 13 22 + ((x.getD 0 0 &&& x.getD 1 0) ^^^ (x.getD 0 0 &&& x.getD 2 0) ^^^ (x.getD 1 0 &&& x.getD 2 0))
 [p + q, x.getD 0 0, x.getD 1 0, x.getD 2 0, x.getD 3 0 + p, x.getD 4 0, x.getD 5 0, x.getD 6 0]
def rnds_n (k : List UInt32) (h : List UInt32) (b : List UInt8) : Nat → List UInt32
 | 0 => h
 | t + 1 => rnd_n (rnds_n k h b t) (k.getD t 0) ((wex_n b (64 - 16)).getD t 0)
def addw_n (h x : List UInt32) : Nat → List UInt32
 | 0 => h
 | i + 1 => (addw_n h x i).set i ((addw_n h x i).getD i 0 + x.getD i 0)
def comp_n (k : List UInt32) (h : List UInt32) (b : List UInt8) : List UInt32 := addw_n h (rnds_n k h b 64) 8
def blks_n (k h : List UInt32) (D : List UInt8) : Nat → List UInt32
 | 0 => h
 | j + 1 => comp_n k (blks_n k h D j) ((D.drop (64 * j)).take 64)
theorem win_len_n (b : List UInt8) : ∀ i, (win_n b i).length = 64
 | 0 => List.length_replicate
 | i + 1 => by unfold win_n; rw [List.length_set]; exact win_len_n b i
theorem wex_len_n (b : List UInt8) : ∀ i, (wex_n b i).length = 64
 | 0 => win_len_n b _
 | i + 1 => by unfold wex_n; rw [List.length_set]; exact wex_len_n b i
theorem rnds_len_n {k h : List UInt32} (hh : h.length = 8) (b : List UInt8) : ∀ i, (rnds_n k h b i).length = 8
 | 0 => hh
 | i + 1 => rfl
theorem addw_len_n {h : List UInt32} (hh : h.length = 8) (x : List UInt32) : ∀ i, (addw_n h x i).length = 8
 | 0 => hh
 | i + 1 => by unfold addw_n; rw [List.length_set]; exact addw_len_n hh x i
theorem comp_len_n (k : List UInt32) {h : List UInt32} (hh : h.length = 8) (b : List UInt8) : (comp_n k h b).length = 8 := addw_len_n hh _ _
theorem blks_len_n (k : List UInt32) {h : List UInt32} (hh : h.length = 8) (D : List UInt8) : ∀ j, (blks_n k h D j).length = 8
 | 0 => hh
 | j + 1 => comp_len_n k (blks_len_n k hh D j) _
def pz_n (n : Nat) : Nat := (56 + (64 - 1) * (n + 1)) % 64
def lset_n (n : Nat) : Nat → List UInt8
 | 0 => List.replicate (2 * 4) 0
 | i + 1 => (lset_n n i).set (2 * 4 - 1 - i) (shr64 (shl64 (UInt64.ofNat n) 3) (8 * i)).toUInt8
def lenb_n (n : Nat) : List UInt8 := lset_n n 8
def padw_n (T : List UInt8) : List UInt8 := T ++ [128] ++ List.replicate (pz_n T.length) 0 ++ lenb_n T.length
def outl_n (h : List UInt32) : Nat → List UInt8
 | 0 => []
 | m + 1 => outl_n h m ++ [(shr32 (h.getD (m / 4) 0) (8 * (4 - 1 - m % 4))).toUInt8]
def outb_n (h : List UInt32) : List UInt8 := outl_n h (8 * 4)
def hash_n (k h : List UInt32) (T : List UInt8) : List UInt8 := outb_n (blks_n k h (padw_n T) ((padw_n T).length / 64))
end Go.Sh
namespace Go.Sh
variable {α : Type}
def fil (n i : Nat) (f g : Nat → α) : List α := (List.range n).map (fun j => if j < i then f j else g j)
theorem fil_len (n i : Nat) (f g : Nat → α) : (fil n i f g).length = n := by simp [fil]
theorem fil_zero (n : Nat) (f : Nat → α) (z : α) : fil n 0 f (fun _ => z) = List.replicate n z := by
 apply List.ext_getElem?; intro j; by_cases h : j < n <;> simp [fil, h]
theorem fil_full (n : Nat) (f g : Nat → α) : fil n n f g = (List.range n).map f := by
 unfold fil; apply List.map_congr_left; intro j hj; rw [if_pos (by simpa using hj)]
theorem fil_getD {n i j : Nat} {f g : Nat → α} {d : α} (h : j < n) : (fil n i f g).getD j d = if j < i then f j else g j := by
 rw [List.getD_eq_getElem?_getD]; simp [fil, h]
theorem fil_set {n i : Nat} {f g : Nat → α} (h : i < n) : (fil n i f g).set i (f i) = fil n (i + 1) f g := by
 apply List.ext_getElem?; intro j
 rw [List.getElem?_set]
 by_cases hj : i = j
 ·
  subst hj; simp [fil, h]
 ·
  rw [if_neg hj]
  by_cases h2 : j < n
  ·
   simp only [fil, List.getElem?_map, List.getElem?_range h2, Option.map_some]
   by_cases h3 : j < i
   ·
    rw [if_pos h3, if_pos (by omega)]
   ·
    rw [if_neg h3, if_neg (by omega)]
  ·
   simp [fil, h2]
theorem fil_setx {n i : Nat} {f g : Nat → α} {x : α} (h : i < n) (hx : x = f i) : (fil n i f g).set i x = fil n (i + 1) f g := by subst hx; exact fil_set h
theorem fil_of_list {n : Nat} {f : Nat → α} {l : List α} {d : α} (h : l.length = n) : fil n 0 f (fun j => l.getD j d) = l := by
 apply List.ext_getElem?; intro j
 by_cases h2 : j < n
 ·
  simp only [fil, List.getElem?_map, List.getElem?_range h2, Option.map_some, Nat.not_lt_zero, if_false]
  rw [List.getD_eq_getElem?_getD, List.getElem?_eq_getElem (by omega)]; rfl
 ·
  rw [List.getElem?_eq_none (by simp [fil_len]; omega), List.getElem?_eq_none (by omega)]
theorem rng_getD {n j : Nat} {f : Nat → α} {d : α} (h : j < n) : ((List.range n).map f).getD j d = f j := by
 rw [List.getD_eq_getElem?_getD]; simp [h]
theorem rng_len {n : Nat} {f : Nat → α} : ((List.range n).map f).length = n := by simp
theorem ren_m8 {sel : List Nat} {l m : List UInt8} (h : l = m) : renL sel (l.map .u8) = some (m.map .u8) := by subst h; exact renL_plain sel (plainL_u8 l)
theorem ren_m32 {sel : List Nat} {l m : List UInt32} (h : l = m) : renL sel (l.map .u32) = some (m.map .u32) := by subst h; exact renL_plain sel (plainL_u32 l)
theorem ren_m64 {sel : List Nat} {l m : List UInt64} (h : l = m) : renL sel (l.map .u64) = some (m.map .u64) := by subst h; exact renL_plain sel (plainL_u64 l)
end Go.Sh
namespace Go.Sh
theorem rel_plain {ρ ρ' : Ren} {x : SV} {v : Value} (h : plainV x = true) (hr : Rel ρ x v) : Rel ρ' x v := by
 cases x <;> simp only [plainV, Bool.false_eq_true] at h <;> simpa only [Rel] using hr
theorem rels_plain {ρ ρ' : Ren} : ∀ {l : List SV} {vs : List Value}, plainL l = true → Rels ρ l vs → Rels ρ' l vs
 | [], _, _, h => by simpa only [Rels] using h
 | x :: l, vs, hp, h => by
  simp only [plainL, List.all_cons, Bool.and_eq_true] at hp
  simp only [Rels] at h ⊢
  obtain ⟨y, ys, e, hy, hys⟩ := h
  exact ⟨y, ys, e, rel_plain hp.1 hy, rels_plain (by simpa [plainL] using hp.2) hys⟩
def skp (j n : Nat) : List Nat := (List.range n).map fun k => if k = j then 1000000 else k
theorem pull_skp {j n : Nat} {ρ ρ' : Ren} (h : ∀ id, id ≠ j → ρ id = ρ' id) (hj : j ≠ 1000000) : pullR (skp j n) ρ = pullR (skp j n) ρ' := by
 funext k
 simp only [pullR, skp, List.getElem?_map]
 by_cases hk : k < n
 ·
  rw [List.getElem?_range hk]
  simp only [Option.map_some]
  by_cases hkj : k = j
  ·
   rw [if_pos hkj]; exact h _ (fun e => hj e.symm)
  ·
   rw [if_neg hkj]; exact h _ hkj
 ·
  rw [List.getElem?_eq_none (by simp; omega)]; rfl
def shA (j o : Nat) : SV → SV
 | .sl id q n sz f => match Nat.beq id j with | true => .sl id (o + q) n sz f | false => .sl id q n sz f
 | x => x
def isSl (j : Nat) : SV → Bool
 | .sl id _ _ _ _ => Nat.beq id j
 | _ => false
def argOk (j n : Nat) : List SV → Prop
 | [] => True
 | x :: xs => (isSl j x = true ∨ (isSl j x = false ∧ renV (skp j n) x = some x)) ∧ argOk j n xs
def blkOk (j n : Nat) : Nat → HL → Prop
 | _, [] => True
 | k, none :: H => blkOk j n (k + 1) H
 | k, some b :: H => (k = j ∨ plainB b = true ∨ renB (skp j n) b = some b) ∧ blkOk j n (k + 1) H
theorem blkOk_get {j n : Nat} : ∀ {H : HL} {k id : Nat} {b : SB}, blkOk j n k H → hg H id = some b → k + id = j ∨ renB (skp j n) b = some b
 | [], k, id, b, _, h => by simp [hg] at h
 | none :: H, k, 0, b, _, h => by simp [hg] at h
 | none :: H, k, id + 1, b, ho, h => by
  have := blkOk_get (H := H) (k := k + 1) (id := id) ho (by simpa [hg] using h)
  rcases this with e | e
  ·
   exact .inl (by omega)
  ·
   exact .inr e
 | some b1 :: H, k, 0, b, ho, h => by
  have e : b1 = b := by simpa [hg] using h
  subst e
  rcases ho.1 with h1 | h1 | h1
  ·
   exact .inl (by omega)
  ·
   exact .inr (renB_plain _ h1)
  ·
   exact .inr h1
 | some b1 :: H, k, id + 1, b, ho, h => by
  have := blkOk_get (H := H) (k := k + 1) (id := id) ho.2 (by simpa [hg] using h)
  rcases this with e | e
  ·
   exact .inl (by omega)
  ·
   exact .inr e
theorem hg_set {H : HL} {j id : Nat} {b : SB} (hj : j < H.length) : hg (H.set j (some b)) id = if id = j then some b else hg H id := by
 unfold hg
 rw [List.getElem?_set]
 by_cases h : j = id
 ·
  subst h; simp [hj]
 ·
  rw [if_neg h, if_neg (fun e => h e.symm)]
theorem SCall.sub {P : Program} {f : Nat} {args : List SV} {H0 : HL} {ret : SV} {H1 : HL} (h : SCall P f args H0 ret H1) (j o : Nat) (L l0 : List SV) (n : Nat)
  (hj0 : hg H0 j = some (.ro l0)) (hj1 : hg H1 j = some (.ro l0)) (hL : (L.drop o).take l0.length = l0) (hp : plainL L = true) (hp0 : plainL l0 = true) (hjn : j ≠ 1000000)
  (ha : argOk j n args) (hr : renV (skp j n) ret = some ret) (h0 : blkOk j n 0 H0) (h1 : blkOk j n 0 H1) :
  SCall P f (args.map (shA j o)) (H0.set j (some (.ro L))) ret (H1.set j (some (.ro L))) := by
 have hjl0 : j < H0.length := by unfold hg at hj0; rcases Nat.lt_or_ge j H0.length with h | h; exact h; rw [List.getElem?_eq_none h] at hj0; simp at hj0
 have hjl1 : j < H1.length := by unfold hg at hj1; rcases Nat.lt_or_ge j H1.length with h | h; exact h; rw [List.getElem?_eq_none h] at hj1; simp at hj1
 have hlen : l0.length ≤ L.length - o := by have := congrArg List.length hL; simp at this; omega
 refine ⟨h.fn, fun nn ρ w vs hA hH hS hF => ?_⟩
 obtain ⟨rb, hρ, hB⟩ := hH j (.ro L) (by rw [hg_set hjl0, if_pos rfl])
 let rbs : RB := { rb with off := rb.off + o, cap := rb.cap - o }
 let ρs : Ren := fun id => if id = j then some rbs else ρ id
 have hρs : ∀ id, id ≠ j → ρs id = ρ id := fun id hid => if_neg hid
 have hsj : ρs j = some rbs := if_pos rfl
 have tr : ∀ {ρa ρb : Ren} {x : SV} {v : Value}, (∀ id, id ≠ j → ρa id = ρb id) → renV (skp j n) x = some x → Rel ρa x v → Rel ρb x v := by
  intro ρa ρb x v e hx hv
  have h1 := (rel_ren x hx (ρ := ρa)).2 hv
  rw [pull_skp e hjn] at h1
  exact (rel_ren x hx (ρ := ρb)).1 h1
 have trB : ∀ {ρa ρb : Ren} {b : SB} {w : World} {r : RB}, (∀ id, id ≠ j → ρa id = ρb id) → renB (skp j n) b = some b → BRel ρa w r b → BRel ρb w r b := by
  intro ρa ρb b w r e hx hv
  have h1 := (brel_ren hx (ρ := ρa) (w := w) (rb := r)).2 hv
  rw [pull_skp e hjn] at h1
  exact (brel_ren hx).1 h1
 have hA' : Rels ρs args vs := by
  have : ∀ (xs : List SV) (us : List Value), argOk j n xs → Rels ρ (xs.map (shA j o)) us → Rels ρs xs us := by
   intro xs
   induction xs with
   | nil => intro us _ h; simpa only [List.map_nil, Rels] using h
   | cons x xs ih =>
    intro us hok h
    simp only [List.map_cons, Rels] at h ⊢
    obtain ⟨y, ys, e, hy, hys⟩ := h
    refine ⟨y, ys, e, ?_, ih ys hok.2 hys⟩
    rcases hok.1 with hx | ⟨hx0, hx⟩
    ·
     cases x with
     | sl id q nn2 sz full =>
      simp only [isSl] at hx
      have hid : id = j := Nat.eq_of_beq_eq_true hx
      subst hid
      simp only [shA, hx, Rel] at hy
      obtain ⟨rb2, a, c, g1, g2, g3, g4, g5⟩ := hy
      rw [hρ] at g1; cases g1
      simp only [Rel]
      refine ⟨rbs, a, c, hsj, g2, g3, g4, ?_⟩
      rcases g5 with g5 | ⟨g5, g6, g7⟩
      ·
       exact .inl g5
      ·
       exact .inr ⟨g5, by rw [g6]; simp only [rbs, Nat.add_assoc], by simp only [rbs]; omega⟩
     | _ => simp [isSl] at hx
    ·
     have e2 : shA j o x = x := by
      cases x <;> first | rfl | (simp only [isSl] at hx0; simp only [shA, hx0])
     rw [e2] at hy
     exact tr (fun id hid => (hρs id hid).symm) hx hy
  exact this args vs ha hA
 have hBs : ∀ {ρ1 : Ren} {w1 : World}, BRel ρ1 w1 rb (.ro L) → BRel ρs w1 rbs (.ro l0) := by
  intro ρ1 w1 hb
  by_cases hl0 : l0 = []
  ·
   exact .inl hl0
  have hpos : 0 < l0.length := List.length_pos_iff.2 hl0
  rcases hb with rfl | ⟨⟨c, t, fz, g1, g2, g3, g4, g5⟩, g6, g7⟩
  ·
   exact absurd (List.eq_nil_of_length_eq_zero (by simpa using hlen)) hl0
  ·
   right
   refine ⟨⟨c, t, fz, g1, ?_, ?_, fun h => (by cases h), ?_⟩, by simp only [rbs]; omega, g7⟩
   ·
    have : ∀ l : List SV, plainL l = true → atoms l = true := by
     intro l; induction l with
     | nil => intro _; rfl
     | cons x xs ih =>
      intro h
      simp only [plainL, List.all_cons, Bool.and_eq_true] at h
      simp only [atoms, List.all_cons, Bool.and_eq_true]
      exact ⟨by cases x <;> simp_all [plainV, SV.atom], by simpa [atoms] using ih (by simpa [plainL] using h.2)⟩
    exact this l0 hp0
   ·
    have := Rels.take l0.length (Rels.drop o g3)
    rw [hL] at this
    have e : List.take l0.length (List.drop o (List.take L.length (List.drop rb.off c.toList))) = List.take l0.length (List.drop rbs.off c.toList) := by
     simp only [rbs]
     rw [List.drop_take, List.drop_drop, List.take_take]
     congr 1; omega
    rw [e] at this
    exact rels_plain hp0 this
   ·
    simp only [rbs]; omega
 have hgt : ∀ {H : HL} {b : SB}, j < H.length → hg (H.set j (some b)) j = some b := fun {H b} hl => by rw [hg_set hl, if_pos rfl]
 have hgo : ∀ {H : HL} {b : SB} {id : Nat}, j < H.length → id ≠ j → hg (H.set j (some b)) id = hg H id := fun {H b id} hl hid => by rw [hg_set hl, if_neg hid]
 have hHs : HRel ρs (hg H0) w := by
  intro id b hb
  by_cases hid : id = j
  ·
   subst hid
   rw [hj0] at hb; cases hb
   exact ⟨rbs, hsj, hBs hB⟩
  ·
   obtain ⟨r, e1, e2⟩ := hH id b (by rw [hgo hjl0 hid]; exact hb)
   exact ⟨r, by rw [hρs id hid]; exact e1, trB (fun id hid => (hρs id hid).symm) ((blkOk_get h0 hb).resolve_left (by omega)) e2⟩
 have hfoot : ∀ k q, foot rbs (.ro l0) k q → foot rb (.ro L) k q := fun k q ⟨e1, e2, e3⟩ => by
  simp only [rbs] at e1 e2 e3
  exact ⟨e1, by omega, by omega⟩
 have hown : ∀ k q, Owned ρs (hg H0) k q → Owned ρ (hg (H0.set j (some (.ro L)))) k q ∧ ¬ foot rb (.ro L) k q := by
  rintro k q ⟨id, b, r, e1, e2, e3, e4⟩
  have hid : id ≠ j := fun e => by subst e; rw [hj0] at e1; cases e1; cases e3
  rw [hρs id hid] at e2
  exact ⟨⟨id, b, r, by rw [hgo hjl0 hid]; exact e1, e2, e3, e4⟩, fun hf => hS id j b (.ro L) r rb hid (by rw [hgo hjl0 hid]; exact e1) (hgt hjl0) e2 hρ e3 k q ⟨e4, hf⟩⟩
 have hSs : Sep ρs (hg H0) := by
  intro i k bi bk ri rk hne hi hk hri hrk hw q p ⟨hfi, hfk⟩
  have hij : i ≠ j := fun e => by subst e; rw [hj0] at hi; cases hi; cases hw
  rw [hρs i hij] at hri
  by_cases hkj : k = j
  ·
   subst hkj
   rw [hj0] at hk; cases hk
   rw [hsj] at hrk; cases hrk
   exact hS i k bi (.ro L) ri rb hne (by rw [hgo hjl0 hij]; exact hi) (hgt hjl0) hri hρ hw q p ⟨hfi, hfoot q p hfk⟩
  ·
   rw [hρs k hkj] at hrk
   exact hS i k bi bk ri rk hne (by rw [hgo hjl0 hij]; exact hi) (by rw [hgo hjl0 hkj]; exact hk) hri hrk hw q p ⟨hfi, hfk⟩
 have hFs : ∀ id, H0.length ≤ id → ρs id = none := fun id hid => by
  rw [hρs id (by omega)]; exact hF id (by simpa using hid)
 refine (h.call nn ρs w vs hA' hHs hSs hFs).mono fun e w' hR => ?_
 cases e with
 | returned v =>
  obtain ⟨ρ1, q1, q2, q3, q4, q5⟩ := hR
  let ρ2 : Ren := fun id => if id = j then some rb else ρ1 id
  have h21 : ∀ id, id ≠ j → ρ2 id = ρ1 id := fun id hid => if_neg hid
  have h2j : ρ2 j = some rb := if_pos rfl
  have hB2 : BRel ρ2 w' rb (.ro L) := by
   rcases hB with hB | ⟨⟨c, t, fz, g1, g2, g3, g4, g5⟩, g6, g7⟩
   ·
    exact .inl hB
   ·
    obtain ⟨c', fz', k1, k2, _, k3⟩ := q5.fr.blk rb.blk _ g1
    have hsame : ∀ i, rb.off ≤ i → i < rb.off + L.length → c'[i]? = c[i]? := fun i h1 h2 => k3 i fun ho => (hown _ _ ho).2 ⟨rfl, h1, h2⟩
    have e : List.take L.length (List.drop rb.off c'.toList) = List.take L.length (List.drop rb.off c.toList) := by
     apply List.ext_getElem?
     intro i
     by_cases hi : i < L.length
     ·
      rw [List.getElem?_take_of_lt hi, List.getElem?_take_of_lt hi, List.getElem?_drop, List.getElem?_drop, Array.getElem?_toList, Array.getElem?_toList]
      exact hsame _ (by omega) (by omega)
     ·
      rw [List.getElem?_eq_none (by simp; omega), List.getElem?_eq_none (by simp; omega)]
    exact .inr ⟨⟨c', t, fz', k1, g2, by rw [e]; exact rels_plain hp g3, fun h => (by cases h), by omega⟩, g6, g7⟩
  refine ⟨ρ2, tr (fun id hid => (h21 id hid).symm) hr q1, ?_, ?_, ?_, ?_, ?_, ?_⟩
  ·
   intro id b hb
   by_cases hid : id = j
   ·
    subst hid
    rw [hgt hjl1] at hb; cases hb
    exact ⟨rb, h2j, hB2⟩
   ·
    rw [hgo hjl1 hid] at hb
    obtain ⟨r, e1, e2⟩ := q2 id b hb
    exact ⟨r, by rw [h21 id hid]; exact e1, trB (fun id hid => (h21 id hid).symm) ((blkOk_get h1 hb).resolve_left (by omega)) e2⟩
  ·
   intro i k bi bk ri rk hne hi hk hri hrk hw q p ⟨hfi, hfk⟩
   have hij : i ≠ j := fun e => by subst e; rw [hgt hjl1] at hi; cases hi; cases hw
   rw [h21 i hij] at hri
   rw [hgo hjl1 hij] at hi
   by_cases hkj : k = j
   ·
    subst hkj
    rw [hgt hjl1] at hk; cases hk
    rw [h2j] at hrk; cases hrk
    have hb := q5.own q p ⟨i, bi, ri, hi, hri, hw, hfi⟩
    rcases hb with hb | hb
    ·
     exact (hown _ _ hb).2 hfk
    ·
     rcases hB with hB | ⟨⟨c, t, fz, g1, _⟩, _⟩
     ·
      subst hB; have := hfk.2; simp at this; omega
     ·
      have hlt := (Array.getElem?_eq_some_iff.1 g1).1
      have := hfk.1
      omega
   ·
    rw [h21 k hkj] at hrk
    rw [hgo hjl1 hkj] at hk
    exact q3 i k bi bk ri rk hne hi hk hri hrk hw q p ⟨hfi, hfk⟩
  ·
   intro id hid
   rw [List.length_set] at hid
   rw [h21 id (by omega)]; exact q4 id hid
  ·
   intro id hid r hr2
   rw [List.length_set] at hid
   by_cases hij : id = j
   ·
    subst hij; rw [hρ] at hr2; cases hr2; exact h2j
   ·
    rw [h21 id hij]; exact q5.ext id hid r (by rw [hρs id hij]; exact hr2)
  ·
   exact q5.fr.mono (fun k q _ ho => (hown k q ho).1)
  ·
   rintro k q ⟨id, b, r, e1, e2, e3, e4⟩
   have hij : id ≠ j := fun e => by subst e; rw [hgt hjl1] at e1; cases e1; cases e3
   rw [hgo hjl1 hij] at e1
   rw [h21 id hij] at e2
   exact (q5.own k q ⟨id, b, r, e1, e2, e3, e4⟩).imp (fun ho => (hown k q ho).1) (fun h => h)
 | _ => exact hR
end Go.Sh
namespace Go.Sh
def renHs (sel : List Nat) : HL → HL → Prop
 | [], [] => True
 | none :: a, none :: b => renHs sel a b
 | some x :: a, some y :: b => (y.own = x.own ∧ match x.own with | true => renB sel x = some y | false => True) ∧ renHs sel a b
 | _, _ => False
theorem cW_renHs {sel : List Nat} : ∀ (ss : List Nat) (H0 H1 H1r : HL) (W : Upd), renHs sel H1 H1r → cWp ss H0 H1r = some W → cW sel ss H0 H1 = some W
 | s :: ss, some b0 :: H0, none :: H1, none :: H1r, W, h, hw => by
  simp only [renHs] at h
  simp only [cWp] at hw
  split at hw
  ·
   rename_i W2 hw2
   simp only [cW, cW_renHs ss H0 H1 H1r W2 h hw2]
   exact hw
  ·
   cases hw
 | s :: ss, some b0 :: H0, some x :: H1, some y :: H1r, W, h, hw => by
  simp only [renHs] at h
  obtain ⟨⟨h1, h2⟩, h3⟩ := h
  simp only [cWp] at hw
  split at hw
  ·
   rename_i W2 hw2
   simp only [cW, cW_renHs ss H0 H1 H1r W2 h3 hw2]
   cases hb : b0.own with
   | false => rw [hb] at hw; exact hw
   | true =>
    rw [hb] at hw
    simp only at hw ⊢
    rw [h1] at hw
    cases hx : x.own with
    | true => rw [hx] at h2 hw; simp only at h2 hw ⊢; rw [h2]; exact hw
    | false => rw [hx] at hw; cases hw
  ·
   cases hw
 | s :: ss, [], none :: H1, none :: H1r, W, h, hw => by
  simp only [renHs] at h
  simp only [cWp] at hw
  split at hw
  ·
   rename_i W2 hw2
   simp only [cW, cW_renHs ss [] H1 H1r W2 h hw2]
   exact hw
  ·
   cases hw
 | s :: ss, [], some x :: H1, some y :: H1r, W, h, hw => by
  simp only [renHs] at h
  obtain ⟨⟨h1, h2⟩, h3⟩ := h
  simp only [cWp] at hw
  split at hw
  ·
   rename_i W2 hw2
   simp only [cW, cW_renHs ss [] H1 H1r W2 h3 hw2]
   rw [h1] at hw
   cases hx : x.own with
   | true => rw [hx] at h2 hw; simp only at h2 hw ⊢; rw [h2]; exact hw
   | false => rw [hx] at hw; cases hw
  ·
   cases hw
 | [], [], [], [], W, _, hw => by simpa only [cW, cWp] using hw
 | _, _, [], _ :: _, _, h, _ => by simp only [renHs] at h
 | _, _, _ :: _, [], _, h, _ => by simp [renHs] at h
 | _, _, none :: _, some _ :: _, _, h, _ => by simp only [renHs] at h
 | _, _, some _ :: _, none :: _, _, h, _ => by simp only [renHs] at h
 | [], _ :: _, [], [], _, _, hw => by simp [cWp] at hw
 | [], _, none :: _, none :: _, _, _, hw => by simp [cWp] at hw
 | [], _, some _ :: _, some _ :: _, _, _, hw => by simp [cWp] at hw
 | _ :: _, none :: _, _, _, _, _, hw => by simp [cWp] at hw
 | _ :: _, [], [], [], _, _, hw => by simp [cWp] at hw
 | _ :: _, some _ :: _, [], [], _, _, hw => by simp [cWp] at hw
theorem rb_boxa {sel : List Nat} {a b c : List SV} (ha : plainL a = true) (h : renL sel b = some c) : renB sel (.box (a ++ b)) = some (.box (a ++ c)) := by
 simp only [renB, ren_app ha h]
def sopCallE (H1r : HL) (z : SV) (R : RL) (H : HL) (L : Nat) (x : Operand) (args : List Operand) (f : Nat) (sel : List Nat) (args0 : List SV) (H0 : HL) (ret : SV) (H1 : HL) (k : K1) : Prop :=
 (match ev R x with
  | some (.fn g caps) => match evs R args with
   | some zs => g = f ∧ renL sel args0 = some (zs ++ caps)
   | none => False
  | _ => False) ∧ okH sel H sel H0 ∧ renHs (sel ++ newSel L (H1.length - H0.length)) H1 H1r ∧ renV (sel ++ newSel L (H1.length - H0.length)) ret = some z ∧
 match Nat.beq sel.length H0.length with
 | true => match dupOk sel 0 sel H0 with
  | true => match cWp (sel ++ newSel L (H1.length - H0.length)) H0 H1r with
   | some W => k (some z) W sel (L + (H1.length - H0.length))
   | none => False
  | false => False
 | false => False
theorem ok1_callE {P : Program} {o : Oper} {R : RL} {H : HL} {L : Nat} {k : K1} {x : Operand} {args : Array Operand} {tys : Array TypeId} {f : Nat} {args0 : List SV} {H0 H1 : HL} {ret : SV} (sel : List Nat) (H1r : HL) (z : SV)
  (hc : SCall P f args0 H0 ret H1) (ho : o.op = .call ⟨.value x, args, tys⟩) (hle : Nat.ble H.length L = true) (h : sopCallE H1r z R H L x args.toList f sel args0 H0 ret H1 k) : Ok1 P o R H L k := by
 obtain ⟨h1, h2, hp, hr, h3⟩ := h
 refine ok1_call sel hc ho hle ⟨h1, h2, ?_⟩
 cases hl : Nat.beq sel.length H0.length with
 | false => rw [hl] at h3; exact h3.elim
 | true =>
  rw [hl] at h3
  simp only at h3 ⊢
  cases hd : dupOk sel 0 sel H0 with
  | false => rw [hd] at h3; exact h3.elim
  | true =>
   rw [hd] at h3
   simp only at h3 ⊢
   cases hw : cWp (sel ++ newSel L (H1.length - H0.length)) H0 H1r with
   | none => rw [hw] at h3; exact h3.elim
   | some W =>
    rw [hw] at h3
    rw [cW_renHs _ _ _ _ _ hp hw]
    simp only [hr]
    exact h3
end Go.Sh
namespace Go.Sh
section
variable {P : Program} {ρ : Ren} {H : Heap} {w : World}
theorem zeroCells_one (v : Value) (n : Nat) : (Builtin.zeroCells #[v] n).toList = List.replicate n v := by
 apply List.ext_getElem?
 intro j
 unfold Builtin.zeroCells
 by_cases h : j < n
 ·
  simp [h, Nat.mod_one]
 ·
  simp [h]
end
end Go.Sh
namespace Go.Sh
theorem range_named {P : Program} {N A : Nat} {g : Operand} {ps : List Nat} {as_ bd : Code} {Q : Exit → RL → HL → Nat → Prop} {R : RL} {H : HL} {L : Nat} {gf : Nat} {caps : List SV} {fn : Func} {c : Code}
  (hg0 : ev R g = some (.fn gf caps)) (hle : Nat.ble H.length L = true) (hA : Nat.ble A L = true) (hf : P.funcs[gf]? = some fn) (hb : fn.body = some c) (hnm : (fn.name == "runtime.NumGoroutine") = false) (hres : fn.results = #[]) (hnt : Nat.ble (caps.length + 1) fn.ntmps = true)
  (hwalk : ∀ a b, a = as_ → b = bd → SWp P (· = none) fn.ntmps (L + 1) c (rangeQ L R Q) (regs 0 (.yld L :: caps)) (hput H L (some (.obj (.loop R N ps a b)))) (L + 1)) :
  SWp P (· = none) N A (.rangeFunc g ⟨ps⟩ as_ bd) Q R H L := range_rule hg0 hle hA hf hb hnm hres hnt (hwalk _ _ rfl rfl)
end Go.Sh
namespace Go.Sh
open Go.Proofs
set_option maxHeartbeats 8000000
theorem mshr_32 {a : UInt32} {n : Int} {m : Nat} (h : n = (m : Int)) : snum .shr (.u32 a) (.i n) = some (.u32 (shr32 a m)) := by
 subst h; simp [snum, cnt, sshr]
theorem mshl_32 {a : UInt32} {n : Int} {m : Nat} (h : n = (m : Int)) : snum .shl (.u32 a) (.i n) = some (.u32 (shl32 a m)) := by
 subst h; simp [snum, cnt, sshl]
theorem mshr_64 {a : UInt64} {n : Int} {m : Nat} (h : n = (m : Int)) : snum .shr (.u64 a) (.i n) = some (.u64 (shr64 a m)) := by
 subst h; simp [snum, cnt, sshr]
def mach_n (ih ik : Nat) : List SV := [.sl ih 0 8 1 false, .sl ik 0 64 1 false, .i 4, .i 2, .i 13, .i 22, .i 6, .i 11, .i 25, .i 7, .i 18, .i 3, .i 17, .i 19, .i 10]
theorem f162 (x : UInt32) (n : Nat) (hn : n ≤ 32) (hl kl : List UInt32) : SCall Tryz.prog 110 [.p 0 0, .u32 x, .i (n : Int)] [some (.ro (mach_n 1 2)), some (.ro (hl.map .u32)), some (.ro (kl.map .u32))] (.u32 (turn_n x n)) [some (.ro (mach_n 1 2)), some (.ro (hl.map .u32)), some (.ro (kl.map .u32))] := by
 have h : w64 (w64 (8 * 4) - (n : Int)) = ((32 - n : Nat) : Int) := by simp only [w64_eq]; omega
 have e : (shr32 x (n : Int).toNat ||| shl32 x (32 - n)) = turn_n x n := by rw [Int.toNat_natCast]; rfl
 refine scall_of ttOk (by kernel_rfl : Tryz.prog.funcs[110]? = some Tryz.f110) rfl rfl rfl ?_
 try simp only [List.length_cons, List.length_nil, Nat.zero_add, Nat.reduceAdd]
 refine sw_ok ttOk mixed (by kernel_rfl) ?_
 conv => whnf
 repeat (first | (refine Exists.intro _ (And.intro rfl ?_); conv => whnf) | fail)
 refine ⟨_, mshl_32 h, ?_⟩
 conv => whnf
 repeat (first | (refine And.intro (by kernel_rfl) ?_; conv => whnf) | fail)
 rw [e]
 refine ⟨[0, 1, 2], ?_, rfl, rfl, ?_, rfl⟩
 ·
  (repeat' (fail)) <;> first | rfl | fail
 ·
  (repeat' (first | exact trivial | refine And.intro ?_ ?_ | (refine wk_cons ?_ ?_))) <;> first | rfl | exact ren_eq (by first | (simp; done) | fail) (by rfl) | fail
theorem f155 (x : UInt32) (a b c : Nat) (ha : a ≤ 32) (hb : b ≤ 32) (hc : c ≤ 32) (hl kl : List UInt32) : SCall Tryz.prog 107 [.p 0 0, .u32 x, .agg [.i (a : Int), .i (b : Int), .i (c : Int)]] [some (.ro (mach_n 1 2)), some (.ro (hl.map .u32)), some (.ro (kl.map .u32))] (.u32 (big_n x a b c)) [some (.ro (mach_n 1 2)), some (.ro (hl.map .u32)), some (.ro (kl.map .u32))] := by
 unfold big_n
 have q1 := f162 x a ha hl kl
 have q2 := f162 x b hb hl kl
 have q3 := f162 x c hc hl kl
 refine scall_of ttOk (by kernel_rfl : Tryz.prog.funcs[107]? = some Tryz.f107) rfl rfl rfl ?_
 try simp only [List.length_cons, List.length_nil, Nat.zero_add, Nat.reduceAdd]
 refine sw_ok ttOk mixed (by kernel_rfl) ?_
 conv => whnf
 repeat (first | (refine Exists.intro _ (And.intro rfl ?_); conv => whnf) | (refine And.intro (by omega) ?_; conv => whnf) | fail)
 refine ok1_callF [0, 1, 2] [false, false, false] true (q1) rfl rfl ⟨⟨rfl, by rfl⟩, by (repeat' (first | exact trivial | refine And.intro ?_ ?_)) <;> first | rfl | exact ren_eq (by first | (simp; done) | fail) (by rfl) | fail, by rfl, by rfl, ?_⟩
 conv => whnf
 repeat (first | (refine Exists.intro _ (And.intro rfl ?_); conv => whnf) | (refine And.intro (by omega) ?_; conv => whnf) | fail)
 refine ok1_callF [0, 1, 2] [false, false, false] true (q2) rfl rfl ⟨⟨rfl, by rfl⟩, by (repeat' (first | exact trivial | refine And.intro ?_ ?_)) <;> first | rfl | exact ren_eq (by first | (simp; done) | fail) (by rfl) | fail, by rfl, by rfl, ?_⟩
 conv => whnf
 repeat (first | (refine Exists.intro _ (And.intro rfl ?_); conv => whnf) | (refine And.intro (by omega) ?_; conv => whnf) | fail)
 refine ok1_callF [0, 1, 2] [false, false, false] true (q3) rfl rfl ⟨⟨rfl, by rfl⟩, by (repeat' (first | exact trivial | refine And.intro ?_ ?_)) <;> first | rfl | exact ren_eq (by first | (simp; done) | fail) (by rfl) | fail, by rfl, by rfl, ?_⟩
 conv => whnf
 repeat (first | (refine And.intro (by kernel_rfl) ?_; conv => whnf) | fail)
 refine ⟨[0, 1, 2], ?_, rfl, rfl, ?_, rfl⟩
 ·
  (repeat' (fail)) <;> first | rfl | fail
 ·
  (repeat' (first | exact trivial | refine And.intro ?_ ?_ | (refine wk_cons ?_ ?_))) <;> first | rfl | exact ren_eq (by first | (simp; done) | fail) (by rfl) | fail
theorem f154 (x : UInt32) (a b c : Nat) (ha : a ≤ 32) (hb : b ≤ 32) (hl kl : List UInt32) : SCall Tryz.prog 106 [.p 0 0, .u32 x, .agg [.i (a : Int), .i (b : Int), .i (c : Int)]] [some (.ro (mach_n 1 2)), some (.ro (hl.map .u32)), some (.ro (kl.map .u32))] (.u32 (small_n x a b c)) [some (.ro (mach_n 1 2)), some (.ro (hl.map .u32)), some (.ro (kl.map .u32))] := by
 unfold small_n
 have q1 := f162 x a ha hl kl
 have q2 := f162 x b hb hl kl
 have e : shr32 x (c : Int).toNat = shr32 x c := by rw [Int.toNat_natCast]
 refine scall_of ttOk (by kernel_rfl : Tryz.prog.funcs[106]? = some Tryz.f106) rfl rfl rfl ?_
 try simp only [List.length_cons, List.length_nil, Nat.zero_add, Nat.reduceAdd]
 refine sw_ok ttOk mixed (by kernel_rfl) ?_
 conv => whnf
 repeat (first | (refine Exists.intro _ (And.intro rfl ?_); conv => whnf) | (refine And.intro (by omega) ?_; conv => whnf) | fail)
 refine ok1_callF [0, 1, 2] [false, false, false] true (q1) rfl rfl ⟨⟨rfl, by rfl⟩, by (repeat' (first | exact trivial | refine And.intro ?_ ?_)) <;> first | rfl | exact ren_eq (by first | (simp; done) | fail) (by rfl) | fail, by rfl, by rfl, ?_⟩
 conv => whnf
 repeat (first | (refine Exists.intro _ (And.intro rfl ?_); conv => whnf) | (refine And.intro (by omega) ?_; conv => whnf) | fail)
 refine ok1_callF [0, 1, 2] [false, false, false] true (q2) rfl rfl ⟨⟨rfl, by rfl⟩, by (repeat' (first | exact trivial | refine And.intro ?_ ?_)) <;> first | rfl | exact ren_eq (by first | (simp; done) | fail) (by rfl) | fail, by rfl, by rfl, ?_⟩
 conv => whnf
 repeat (first | (refine Exists.intro _ (And.intro rfl ?_); conv => whnf) | (refine And.intro (by omega) ?_; conv => whnf) | (refine And.intro (by kernel_rfl) ?_; conv => whnf) | fail)
 rw [e]
 refine ⟨[0, 1, 2], ?_, rfl, rfl, ?_, rfl⟩
 ·
  (repeat' (fail)) <;> first | rfl | fail
 ·
  (repeat' (first | exact trivial | refine And.intro ?_ ?_ | (refine wk_cons ?_ ?_))) <;> first | rfl | exact ren_eq (by first | (simp; done) | fail) (by rfl) | fail
end Go.Sh
namespace Go.Sh
open Go.Proofs
set_option maxHeartbeats 4000000
def emb_n (x : UInt32) : UInt64 := x.toUInt64
def cutv_n (x : UInt64) : UInt64 := x % 4294967296
theorem cutv_n_eq (x : UInt64) : cutv_n x = emb_n x.toUInt32 := by
 apply UInt64.toNat_inj.1
 unfold cutv_n emb_n
 rw [UInt64.toNat_mod, UInt32.toNat_toUInt64, UInt64.toNat_toUInt32]; rfl
theorem emb_n_nat (x : UInt32) : (emb_n x).toNat = x.toNat := by unfold emb_n; rw [UInt32.toNat_toUInt64]
theorem or_plus {a b k : Nat} (h : a < 2 ^ k) : b * 2 ^ k + a = (b * 2 ^ k) ||| a := by
 rw [← Nat.shiftLeft_eq]; exact Nat.shiftLeft_add_eq_or_of_lt h b
theorem pw_toNat {n : Nat} (h : n < 64) : (UInt64.ofNat (2 ^ n)).toNat = 2 ^ n := by
 rw [UInt64.toNat_ofNat', Nat.mod_eq_of_lt]
 exact Nat.pow_lt_pow_right (by decide) h
theorem turn_n_eq (x : UInt32) (n : Nat) (h1 : 1 ≤ n) (h2 : n ≤ 31) : emb_n x / UInt64.ofNat (2 ^ n) + cutv_n (emb_n x * UInt64.ofNat (2 ^ (32 - n))) = emb_n (turn_n x n) := by
 apply UInt64.toNat_inj.1
 have hx := UInt32.toNat_lt x
 have hp : 2 ^ n * 2 ^ (32 - n) = 4294967296 := by rw [← Nat.pow_add, show n + (32 - n) = 32 by omega]
 have hpn : 0 < 2 ^ n := Nat.two_pow_pos n
 have hpm : 0 < 2 ^ (32 - n) := Nat.two_pow_pos _
 have e1 : (emb_n x / UInt64.ofNat (2 ^ n)).toNat = x.toNat / 2 ^ n := by rw [UInt64.toNat_div, emb_n_nat, pw_toNat (by omega)]
 have hm : x.toNat * 2 ^ (32 - n) < 18446744073709551616 := by
  have : 2 ^ (32 - n) ≤ 2 ^ 32 := Nat.pow_le_pow_right (by decide) (by omega)
  calc x.toNat * 2 ^ (32 - n) < 4294967296 * 2 ^ (32 - n) := Nat.mul_lt_mul_of_pos_right hx hpm
   _ ≤ 4294967296 * 2 ^ 32 := Nat.mul_le_mul_left _ this
   _ = 18446744073709551616 := by decide
 have e2 : (cutv_n (emb_n x * UInt64.ofNat (2 ^ (32 - n)))).toNat = x.toNat * 2 ^ (32 - n) % 4294967296 := by
  unfold cutv_n
  have hr : x.toNat * 2 ^ (32 - n) % 2 ^ 64 = x.toNat * 2 ^ (32 - n) := Nat.mod_eq_of_lt hm
  rw [UInt64.toNat_mod, UInt64.toNat_mul, emb_n_nat, pw_toNat (by omega), hr]; rfl
 have e3 : (shr32 x n).toNat = x.toNat / 2 ^ n := by
  unfold shr32
  rw [if_pos (by omega), UInt32.toNat_shiftRight, UInt32.toNat_ofNat', show n % 2 ^ 32 % 32 = n by omega, Nat.shiftRight_eq_div_pow]
 have e4 : (shl32 x (32 - n)).toNat = x.toNat * 2 ^ (32 - n) % 4294967296 := by
  unfold shl32
  rw [if_pos (by omega), UInt32.toNat_shiftLeft, UInt32.toNat_ofNat', show (32 - n) % 2 ^ 32 % 32 = 32 - n by omega, Nat.shiftLeft_eq]
 have e5 : x.toNat * 2 ^ (32 - n) % 4294967296 = (x.toNat % 2 ^ n) * 2 ^ (32 - n) := by
  rw [← hp, Nat.mul_mod_mul_right]
 have hdl : x.toNat / 2 ^ n < 2 ^ (32 - n) := by
  rw [Nat.div_lt_iff_lt_mul hpn, Nat.mul_comm, hp]; exact hx
 have hml : x.toNat % 2 ^ n < 2 ^ n := Nat.mod_lt _ hpn
 have hsum : x.toNat / 2 ^ n + (x.toNat % 2 ^ n) * 2 ^ (32 - n) < 4294967296 := by
  have : (x.toNat % 2 ^ n) * 2 ^ (32 - n) + 2 ^ (32 - n) ≤ 2 ^ n * 2 ^ (32 - n) := by
   rw [← Nat.succ_mul]; exact Nat.mul_le_mul_right _ hml
  omega
 have e6 : (turn_n x n).toNat = x.toNat / 2 ^ n ||| (x.toNat % 2 ^ n) * 2 ^ (32 - n) := by
  unfold turn_n
  rw [UInt32.toNat_or, e3, e4, e5]
 rw [UInt64.toNat_add, e1, e2, e5, emb_n_nat, e6, Nat.mod_eq_of_lt (by omega), Nat.add_comm, or_plus hdl, Nat.or_comm]
theorem shr_n_eq (x : UInt32) (n : Nat) (h2 : n ≤ 31) : emb_n x / UInt64.ofNat (2 ^ n) = emb_n (shr32 x n) := by
 apply UInt64.toNat_inj.1
 rw [UInt64.toNat_div, emb_n_nat, emb_n_nat, pw_toNat (by omega)]
 unfold shr32
 rw [if_pos (by omega), UInt32.toNat_shiftRight, UInt32.toNat_ofNat', show n % 2 ^ 32 % 32 = n by omega, Nat.shiftRight_eq_div_pow]
theorem emb_n_xor (x y : UInt32) : emb_n x ^^^ emb_n y = emb_n (x ^^^ y) := by
 apply UInt64.toNat_inj.1
 rw [UInt64.toNat_xor, emb_n_nat, emb_n_nat, emb_n_nat, UInt32.toNat_xor]
theorem emb_n_and (x y : UInt32) : emb_n x &&& emb_n y = emb_n (x &&& y) := by
 apply UInt64.toNat_inj.1
 rw [UInt64.toNat_and, emb_n_nat, emb_n_nat, emb_n_nat, UInt32.toNat_and]
theorem cut_n_emb (x : UInt32) : (emb_n x).toUInt32 = x := by
 apply UInt32.toNat_inj.1
 rw [UInt64.toNat_toUInt32, emb_n_nat]; exact Nat.mod_eq_of_lt (UInt32.toNat_lt x)
end Go.Sh
namespace Go.Sh
open Go.Proofs
set_option maxHeartbeats 4000000
theorem pow_s (i : Nat) : UInt64.ofNat (Int.toNat 2) * UInt64.ofNat (2 ^ i) = UInt64.ofNat (2 ^ (i + 1)) := by
 rw [show UInt64.ofNat (Int.toNat 2) = UInt64.ofNat 2 from rfl, ← UInt64.ofNat_mul, Nat.pow_succ, Nat.mul_comm]
theorem f147 (n : Nat) (hn : n < 64) : SCall Tryz.prog 85 [.i (n : Int)] [] (.u64 (UInt64.ofNat (2 ^ n))) [] := by
 refine scall_of ttOk (by kernel_rfl : Tryz.prog.funcs[85]? = some Tryz.f85) rfl rfl rfl ?_
 try simp only [List.length_cons, List.length_nil, Nat.zero_add, Nat.reduceAdd]
 refine sw_ok ttOk mixed (by kernel_rfl) ?_
 conv => whnf
 refine loop_rule ttOk mixed (by kernel_rfl) (ι := { i : Nat // i ≤ n }) (fun i => [(0, .i n), (3, .u64 (UInt64.ofNat (2 ^ i.1))), (4, .i (i.1 : Int))]) (fun i => []) (fun _ => 0) (fun i => n - i.1) ⟨0, by omega⟩ ?_ ?_
 ·
  refine Weak.sel [] rfl rfl ?_ ?_ rfl rfl
  ·
   (repeat' (first | exact trivial | refine And.intro ?_ ?_ | fail)) <;> first | rfl | fail
  ·
   (repeat' (first | exact trivial | fail)) <;> fail
 ·
  rintro ⟨i, hi⟩
  dsimp only
  have hs := pow_s i
  obtain ⟨X, hX⟩ : ∃ X, X = UInt64.ofNat (2 ^ i) := ⟨_, rfl⟩
  rw [← hX] at hs ⊢
  by_cases hi2 : i < n
  ·
   have hlt : decide ((i : Int) < (n : Int)) = true := by simp; omega
   have hp : w64 ((i : Int) + 1) = ((i + 1 : Nat) : Int) := by simp only [w64_eq]; omega
   conv => whnf
   first | refine brT (by exact hlt) ?_ | fail
   conv => whnf
   refine ⟨⟨i + 1, by omega⟩, by simp only; omega, ?_⟩
   dsimp only
   rw [← hs]
   refine Weak.sel [] rfl rfl ?_ ?_ rfl rfl
   ·
    (repeat' (first | exact trivial | refine And.intro ?_ ?_ | fail)) <;> first | exact wk_i (by first | exact hp | exact hp.symm | fail) | rfl | fail
   ·
    (repeat' (first | exact trivial | fail)) <;> fail
  ·
   obtain rfl : i = n := by omega
   have hlt : decide ((i : Int) < (i : Int)) = false := by simp
   rw [← hX]
   conv => whnf
   first | refine brF (by exact hlt) ?_ | fail
   conv => whnf
   refine ⟨[], ?_, rfl, rfl, ?_, rfl⟩
   ·
    (repeat' (fail)) <;> first | rfl | fail
   ·
    (repeat' (first | exact trivial | fail)) <;> fail
theorem f149_n (x : UInt64) : SCall Tryz.prog 87 [.u64 x, .i 32] [] (.u64 (cutv_n x)) [] := by
 have q := f147 32 (by decide)
 have e : UInt64.ofNat (2 ^ 32) = 4294967296 := rfl
 rw [e] at q
 refine scall_of ttOk (by kernel_rfl : Tryz.prog.funcs[87]? = some Tryz.f87) rfl rfl rfl ?_
 try simp only [List.length_cons, List.length_nil, Nat.zero_add, Nat.reduceAdd]
 refine sw_ok ttOk mixed (by kernel_rfl) ?_
 conv => whnf
 repeat (first | (refine brF rfl ?_; conv => whnf) | fail)
 refine ok1_callF [] [] true (q) rfl rfl ⟨⟨rfl, by rfl⟩, trivial, by rfl, by rfl, ?_⟩
 conv => whnf
 repeat (first | (refine Exists.intro _ (And.intro rfl ?_); conv => whnf) | fail)
 refine ⟨[], ?_, rfl, rfl, ?_, rfl⟩
 ·
  (repeat' (fail)) <;> first | rfl | fail
 ·
  (repeat' (first | exact trivial | fail)) <;> fail
theorem sarith_quo64 {a c : UInt64} (h : c ≠ 0) : sarith .quo (.u64 a) (.u64 c) = some (.u64 (a / c)) := by simp [sarith, h]
theorem pow_nz {n : Nat} (h : n < 64) : UInt64.ofNat (2 ^ n) ≠ 0 := by
 intro e
 have := congrArg UInt64.toNat e
 rw [pw_toNat h] at this
 have h2 := Nat.two_pow_pos n
 simp at this
theorem f164_n (x : UInt32) (n : Nat) (h1 : 1 ≤ n) (h2 : n ≤ 31) : SCall Tryz.prog 105 [.u64 (emb_n x), .i (n : Int), .i 32] [] (.u64 (emb_n (turn_n x n))) [] := by
 have q1 := f147 n (by omega)
 have q2 := f147 (32 - n) (by omega)
 have hn : w64 (32 - (n : Int)) = ((32 - n : Nat) : Int) := by simp only [w64_eq]; omega
 have q3 := f149_n (emb_n x * UInt64.ofNat (2 ^ (32 - n)))
 have hnz := pow_nz (n := n) (by omega)
 rw [← turn_n_eq x n h1 h2]
 rw [← hn] at q2
 obtain ⟨X, hX⟩ : ∃ X, X = emb_n x := ⟨_, rfl⟩
 obtain ⟨P1, hP1⟩ : ∃ X, X = UInt64.ofNat (2 ^ n) := ⟨_, rfl⟩
 obtain ⟨P2, hP2⟩ : ∃ X, X = UInt64.ofNat (2 ^ (32 - n)) := ⟨_, rfl⟩
 rw [← hX, ← hP2] at q3
 rw [← hP1] at q1 hnz
 rw [← hP2] at q2
 rw [← hX, ← hP1, ← hP2]
 refine scall_of ttOk (by kernel_rfl : Tryz.prog.funcs[105]? = some Tryz.f105) rfl rfl rfl ?_
 try simp only [List.length_cons, List.length_nil, Nat.zero_add, Nat.reduceAdd]
 refine sw_ok ttOk mixed (by kernel_rfl) ?_
 conv => whnf
 refine ok1_callF [] [] true (q1) rfl rfl ⟨⟨rfl, by rfl⟩, trivial, by rfl, by rfl, ?_⟩
 conv => whnf
 refine ⟨_, sarith_quo64 hnz, ?_⟩
 conv => whnf
 refine ok1_callF [] [] true (q2) rfl rfl ⟨⟨rfl, by rfl⟩, trivial, by rfl, by rfl, ?_⟩
 conv => whnf
 refine ok1_callF [] [] true (q3) rfl rfl ⟨⟨rfl, by rfl⟩, trivial, by rfl, by rfl, ?_⟩
 conv => whnf
 repeat (first | (refine And.intro (by kernel_rfl) ?_; conv => whnf) | fail)
 refine ⟨[], ?_, rfl, rfl, ?_, rfl⟩
 ·
  (repeat' (fail)) <;> first | rfl | fail
 ·
  (repeat' (first | exact trivial | fail)) <;> fail
theorem f160_n_f (x : UInt32) (a b c : Nat) (ha : 1 ≤ a) (ha2 : a ≤ 31) (hb : 1 ≤ b) (hb2 : b ≤ 31) (hc : 1 ≤ c) (hc2 : c ≤ 31) : SCall Tryz.prog 98 [.u64 (emb_n x), .i (a : Int), .i (b : Int), .i (c : Int), .i 32, .b false] [] (.u64 (emb_n (big_n x a b c))) [] := by
 have q0 := f147 c (by omega)
 have q1 := f164_n x c hc hc2
 have q2 := f164_n x a ha ha2
 have q3 := f164_n x b hb hb2
 have hnz := pow_nz (n := c) (by omega)
 have e : emb_n (big_n x a b c) = emb_n (turn_n x a) ^^^ emb_n (turn_n x b) ^^^ emb_n (turn_n x c) := by
  rw [emb_n_xor, emb_n_xor]; rfl
 rw [e]
 refine scall_of ttOk (by kernel_rfl : Tryz.prog.funcs[98]? = some Tryz.f98) rfl rfl rfl ?_
 try simp only [List.length_cons, List.length_nil, Nat.zero_add, Nat.reduceAdd]
 refine sw_ok ttOk mixed (by kernel_rfl) ?_
 conv => whnf
 refine ok1_callF [] [] true (q0) rfl rfl ⟨⟨rfl, by rfl⟩, trivial, by rfl, by rfl, ?_⟩
 conv => whnf
 refine ⟨_, sarith_quo64 hnz, ?_⟩
 conv => whnf
 repeat (first | (refine brT rfl ?_; conv => whnf) | fail)
 refine ok1_callF [] [] true (q1) rfl rfl ⟨⟨rfl, by rfl⟩, trivial, by rfl, by rfl, ?_⟩
 conv => whnf
 refine ok1_callF [] [] true (q2) rfl rfl ⟨⟨rfl, by rfl⟩, trivial, by rfl, by rfl, ?_⟩
 conv => whnf
 refine ok1_callF [] [] true (q3) rfl rfl ⟨⟨rfl, by rfl⟩, trivial, by rfl, by rfl, ?_⟩
 conv => whnf
 refine ⟨[], ?_, rfl, rfl, ?_, rfl⟩
 ·
  (repeat' (fail)) <;> first | rfl | fail
 ·
  (repeat' (first | exact trivial | fail)) <;> fail
theorem f160_n_t (x : UInt32) (a b c : Nat) (ha : 1 ≤ a) (ha2 : a ≤ 31) (hb : 1 ≤ b) (hb2 : b ≤ 31) (hc : 1 ≤ c) (hc2 : c ≤ 31) : SCall Tryz.prog 98 [.u64 (emb_n x), .i (a : Int), .i (b : Int), .i (c : Int), .i 32, .b true] [] (.u64 (emb_n (small_n x a b c))) [] := by
 have q0 := f147 c (by omega)
 have q2 := f164_n x a ha ha2
 have q3 := f164_n x b hb hb2
 have hnz := pow_nz (n := c) (by omega)
 have hs := shr_n_eq x c hc2
 have e : emb_n (small_n x a b c) = emb_n (turn_n x a) ^^^ emb_n (turn_n x b) ^^^ (emb_n x / UInt64.ofNat (2 ^ c)) := by
  rw [emb_n_xor, hs, emb_n_xor]; rfl
 rw [e]
 refine scall_of ttOk (by kernel_rfl : Tryz.prog.funcs[98]? = some Tryz.f98) rfl rfl rfl ?_
 try simp only [List.length_cons, List.length_nil, Nat.zero_add, Nat.reduceAdd]
 refine sw_ok ttOk mixed (by kernel_rfl) ?_
 conv => whnf
 refine ok1_callF [] [] true (q0) rfl rfl ⟨⟨rfl, by rfl⟩, trivial, by rfl, by rfl, ?_⟩
 conv => whnf
 refine ⟨_, sarith_quo64 hnz, ?_⟩
 conv => whnf
 repeat (first | (refine brF rfl ?_; conv => whnf) | fail)
 refine ok1_callF [] [] true (q2) rfl rfl ⟨⟨rfl, by rfl⟩, trivial, by rfl, by rfl, ?_⟩
 conv => whnf
 refine ok1_callF [] [] true (q3) rfl rfl ⟨⟨rfl, by rfl⟩, trivial, by rfl, by rfl, ?_⟩
 conv => whnf
 refine ⟨[], ?_, rfl, rfl, ?_, rfl⟩
 ·
  (repeat' (fail)) <;> first | rfl | fail
 ·
  (repeat' (first | exact trivial | fail)) <;> fail
theorem f150_n_0 (x : UInt32) : SCall Tryz.prog 88 [.i 0, .u64 (emb_n x), .i 32] [] (.u64 (emb_n (big_n x 2 13 22))) [] := by
 have q := f160_n_f x 2 13 22 (by decide) (by decide) (by decide) (by decide) (by decide) (by decide)
 refine scall_of ttOk (by kernel_rfl : Tryz.prog.funcs[88]? = some Tryz.f88) rfl rfl rfl ?_
 try simp only [List.length_cons, List.length_nil, Nat.zero_add, Nat.reduceAdd]
 refine sw_ok ttOk mixed (by kernel_rfl) ?_
 conv => whnf
 repeat (first | (refine brT rfl ?_; conv => whnf) | fail)
 refine ok1_callF [] [] true (q) rfl rfl ⟨⟨rfl, by rfl⟩, trivial, by rfl, by rfl, ?_⟩
 conv => whnf
 refine ⟨[], ?_, rfl, rfl, ?_, rfl⟩
 ·
  (repeat' (fail)) <;> first | rfl | fail
 ·
  (repeat' (first | exact trivial | fail)) <;> fail
theorem f150_n_1 (x : UInt32) : SCall Tryz.prog 88 [.i 1, .u64 (emb_n x), .i 32] [] (.u64 (emb_n (big_n x 6 11 25))) [] := by
 have q := f160_n_f x 6 11 25 (by decide) (by decide) (by decide) (by decide) (by decide) (by decide)
 refine scall_of ttOk (by kernel_rfl : Tryz.prog.funcs[88]? = some Tryz.f88) rfl rfl rfl ?_
 try simp only [List.length_cons, List.length_nil, Nat.zero_add, Nat.reduceAdd]
 refine sw_ok ttOk mixed (by kernel_rfl) ?_
 conv => whnf
 repeat (first | (refine brT rfl ?_; conv => whnf) | (refine brF rfl ?_; conv => whnf) | fail)
 refine ok1_callF [] [] true (q) rfl rfl ⟨⟨rfl, by rfl⟩, trivial, by rfl, by rfl, ?_⟩
 conv => whnf
 refine ⟨[], ?_, rfl, rfl, ?_, rfl⟩
 ·
  (repeat' (fail)) <;> first | rfl | fail
 ·
  (repeat' (first | exact trivial | fail)) <;> fail
theorem f150_n_2 (x : UInt32) : SCall Tryz.prog 88 [.i 2, .u64 (emb_n x), .i 32] [] (.u64 (emb_n (small_n x 7 18 3))) [] := by
 have q := f160_n_t x 7 18 3 (by decide) (by decide) (by decide) (by decide) (by decide) (by decide)
 refine scall_of ttOk (by kernel_rfl : Tryz.prog.funcs[88]? = some Tryz.f88) rfl rfl rfl ?_
 try simp only [List.length_cons, List.length_nil, Nat.zero_add, Nat.reduceAdd]
 refine sw_ok ttOk mixed (by kernel_rfl) ?_
 conv => whnf
 repeat (first | (refine brT rfl ?_; conv => whnf) | (refine brF rfl ?_; conv => whnf) | fail)
 refine ok1_callF [] [] true (q) rfl rfl ⟨⟨rfl, by rfl⟩, trivial, by rfl, by rfl, ?_⟩
 conv => whnf
 refine ⟨[], ?_, rfl, rfl, ?_, rfl⟩
 ·
  (repeat' (fail)) <;> first | rfl | fail
 ·
  (repeat' (first | exact trivial | fail)) <;> fail
theorem f150_n_3 (x : UInt32) : SCall Tryz.prog 88 [.i 3, .u64 (emb_n x), .i 32] [] (.u64 (emb_n (small_n x 17 19 10))) [] := by
 have q := f160_n_t x 17 19 10 (by decide) (by decide) (by decide) (by decide) (by decide) (by decide)
 refine scall_of ttOk (by kernel_rfl : Tryz.prog.funcs[88]? = some Tryz.f88) rfl rfl rfl ?_
 try simp only [List.length_cons, List.length_nil, Nat.zero_add, Nat.reduceAdd]
 refine sw_ok ttOk mixed (by kernel_rfl) ?_
 conv => whnf
 repeat (first | (refine brT rfl ?_; conv => whnf) | (refine brF rfl ?_; conv => whnf) | fail)
 refine ok1_callF [] [] true (q) rfl rfl ⟨⟨rfl, by rfl⟩, trivial, by rfl, by rfl, ?_⟩
 conv => whnf
 refine ⟨[], ?_, rfl, rfl, ?_, rfl⟩
 ·
  (repeat' (fail)) <;> first | rfl | fail
 ·
  (repeat' (first | exact trivial | fail)) <;> fail
end Go.Sh
namespace Go.Sh
open Go.Proofs
set_option maxHeartbeats 8000000
theorem tdiv4 : ∀ i : Nat, i < 64 → w64 ((i : Int).tdiv 4) = ((i / 4 : Nat) : Int) := by decide +kernel
theorem wp1i (i : Nat) (h : i < 1000) : w64 ((i : Int) + 1) = ((i + 1 : Nat) : Int) := by simp only [w64_eq]; omega
theorem wm16 (t a : Nat) (h : t < 1000) (ha : a ≤ 16) : w64 (((t + 16 : Nat) : Int) - (a : Int)) = ((t + (16 - a) : Nat) : Int) := by simp only [w64_eq]; omega
theorem ex8u {α : Type} {l : List α} (h : l.length = 8) : ∃ a b c d e f g i, l = [a, b, c, d, e, f, g, i] := by
 match l, h with
 | [a, b, c, d, e, f, g, i], _ => exact ⟨a, b, c, d, e, f, g, i, rfl⟩
theorem win_n_z (b : List UInt8) : win_n b 0 = List.replicate 64 0 := rfl
theorem win_n_s (b : List UInt8) (i : Nat) : win_n b (i + 1) = (win_n b i).set (i / 4) (shl32 ((win_n b i).getD (i / 4) 0) (UInt64.ofNat (Int.toNat 8)).toNat ||| (b.getD i 0).toUInt32) := rfl
theorem wex_n_z (b : List UInt8) : wex_n b 0 = win_n b 64 := rfl
theorem wex_n_s (b : List UInt8) (t : Nat) : wex_n b (t + 1) = (wex_n b t).set (t + 16) (small_n ((wex_n b t).getD (t + 14) 0) 17 19 10 + (wex_n b t).getD (t + 9) 0 + small_n ((wex_n b t).getD (t + 1) 0) 7 18 3 + (wex_n b t).getD t 0) := rfl
theorem rnds_n_z (k h : List UInt32) (b : List UInt8) : rnds_n k h b 0 = h := rfl
theorem rnds_n_s (k h : List UInt32) (b : List UInt8) (t : Nat) : rnds_n k h b (t + 1) = rnd_n (rnds_n k h b t) (k.getD t 0) ((wex_n b (64 - 16)).getD t 0) := rfl
theorem addw_n_z (h x : List UInt32) : addw_n h x 0 = h := rfl
theorem addw_n_s (h x : List UInt32) (i : Nat) : addw_n h x (i + 1) = (addw_n h x i).set i ((addw_n h x i).getD i 0 + x.getD i 0) := rfl
theorem comp_n_e (k h : List UInt32) (b : List UInt8) : comp_n k h b = addw_n h (rnds_n k h b 64) 8 := rfl
section
attribute [local irreducible] win_n wex_n rnds_n addw_n comp_n big_n small_n
theorem f139 (h k : List UInt32) (b : List UInt8) (hh : h.length = 8) (hk : k.length = 64) (hb : b.length = 64) (fl : Bool) : SCall Tryz.prog 102 [.p 0 0, .sl 3 0 64 1 fl] [some (.ro (mach_n 1 2)), some (.row 29 (h.map .u32)), some (.ro (k.map .u32)), some (.ro (b.map .u8))] (.tup []) [some (.ro (mach_n 1 2)), some (.row 29 ((comp_n k h b).map .u32)), some (.ro (k.map .u32)), some (.ro (b.map .u8))] := by
 rw [comp_n_e]
 refine scall_of ttOk (by kernel_rfl : Tryz.prog.funcs[102]? = some Tryz.f102) rfl rfl rfl ?_
 try simp only [List.length_cons, List.length_nil, Nat.zero_add, Nat.reduceAdd]
 refine sw_ok ttOk mixed (by kernel_rfl) ?_
 conv => whnf
 repeat (first | (refine Exists.intro _ (And.intro rfl ?_); conv => whnf) | (refine And.intro ⟨by omega, by decide⟩ ?_; conv => whnf) | fail)
 refine loop_rule ttOk mixed (by kernel_rfl) (ι := { i : Nat // i ≤ 64 }) (fun i => [(0, .p 0 0), (1, .sl 3 0 64 1 fl), (4, .sl 4 0 64 1 true), (24, .i 64), (25, .i (i.1 : Int))]) (fun i => [some (.ro (mach_n 1 2)), some (.row 29 (h.map .u32)), some (.ro (k.map .u32)), some (.ro (b.map .u8)), some (.row 29 ((win_n b i.1).map .u32))]) (fun _ => 5) (fun i => 64 - i.1) ⟨0, by omega⟩ ?_ ?_
 ·
  have hz := win_n_z b
  dsimp only
  rw [hz]
  refine Weak.sel [0, 1, 2, 3, 4] rfl rfl ?_ ?_ rfl rfl
  ·
   (repeat' (first | exact trivial | refine And.intro ?_ ?_ | fail)) <;> first | rfl | fail
  ·
   (repeat' (first | exact trivial | exact ren_z32 | refine And.intro ?_ ?_ | (refine wk_cons ?_ ?_))) <;> first | rfl | exact ren_eq (by first | (simp; done) | fail) (by rfl) | fail
 ·
  rintro ⟨i, hi⟩
  dsimp only
  have hwl := win_len_n b i
  by_cases hi2 : i < 64
  ·
   have hd := tdiv4 i hi2
   have hi4 : i / 4 < 64 := by omega
   have hlt : decide ((i : Int) < 64) = true := by simp; omega
   have hp := wp1i i (by omega)
   have hs := win_n_s b i
   conv => whnf
   first | refine brT (by exact hlt) ?_ | fail
   conv => whnf
   repeat (first | (refine Exists.intro _ (And.intro (idx_i (m := i / 4) (by first | rfl | omega | fail)) ?_); conv => whnf) | (refine Exists.intro _ (And.intro (sput_m32 (i := i / 4) (by first | rfl | omega | fail)) ?_); conv => whnf) | (refine Exists.intro _ (And.intro (sload_u32 (i := i / 4) (by first | rfl | omega | fail) (by omega)) ?_); conv => whnf) | (refine Exists.intro _ (And.intro (sload_u8 (i := i) (by first | rfl | omega | fail) (by omega)) ?_); conv => whnf) | (refine Exists.intro _ (And.intro (idx_i (m := i) (by rfl)) ?_); conv => whnf) | (refine Exists.intro _ (And.intro rfl ?_); conv => whnf) | (refine And.intro (by first | omega | (simp; omega) | fail) ?_; conv => whnf) | (refine And.intro (by kernel_rfl) ?_; conv => whnf) | fail)
   refine ⟨⟨i + 1, by omega⟩, by simp only; omega, ?_⟩
   dsimp only
   rw [hs]
   refine Weak.sel [0, 1, 2, 3, 4] rfl rfl ?_ ?_ rfl rfl
   ·
    (repeat' (first | exact trivial | refine And.intro ?_ ?_ | fail)) <;> first | exact wk_i (by first | exact hp | exact hp.symm | fail) | rfl | fail
   ·
    (repeat' (first | exact trivial | refine And.intro ?_ ?_ | (refine wk_cons ?_ ?_))) <;> first | rfl | exact ren_eq (by first | (simp; done) | fail) (by rfl) | exact ren_m32 (by rfl) | fail
  ·
   obtain rfl : i = 64 := by omega
   conv => whnf
   first | refine brF (by rfl) ?_ | fail
   conv => whnf
   refine loop_rule ttOk mixed (by kernel_rfl) (ι := { t : Nat // t ≤ 64 - 16 }) (fun t => [(0, .p 0 0), (4, .sl 4 0 64 1 true), (6, .i ((t.1 + 16 : Nat) : Int))]) (fun t => [some (.ro (mach_n 1 2)), some (.row 29 (h.map .u32)), some (.ro (k.map .u32)), some (.ro (b.map .u8)), some (.row 29 ((wex_n b t.1).map .u32))]) (fun _ => 5) (fun t => 64 - t.1) ⟨0, by omega⟩ ?_ ?_
   ·
    have hz := wex_n_z b
    dsimp only
    rw [hz]
    refine Weak.sel [0, 1, 2, 3, 4] rfl rfl ?_ ?_ rfl rfl
    ·
     (repeat' (first | exact trivial | refine And.intro ?_ ?_ | fail)) <;> first | rfl | fail
    ·
     (repeat' (first | exact trivial | refine And.intro ?_ ?_ | (refine wk_cons ?_ ?_))) <;> first | rfl | exact ren_eq (by first | (simp; done) | fail) (by rfl) | fail
   ·
    rintro ⟨t, ht⟩
    dsimp only
    have hwl := wex_len_n b t
    by_cases ht2 : t < 64 - 16
    ·
     have hlt : decide (((t + 16 : Nat) : Int) < 64) = true := by simp; omega
     have h14 : w64 (((t + 16 : Nat) : Int) - 2) = ((t + 14 : Nat) : Int) := wm16 t 2 (by omega) (by omega)
     have h9 : w64 (((t + 16 : Nat) : Int) - 7) = ((t + 9 : Nat) : Int) := wm16 t 7 (by omega) (by omega)
     have h1 : w64 (((t + 16 : Nat) : Int) - 15) = ((t + 1 : Nat) : Int) := wm16 t 15 (by omega) (by omega)
     have h0 : w64 (((t + 16 : Nat) : Int) - 16) = ((t : Nat) : Int) := wm16 t 16 (by omega) (by omega)
     have hp : w64 (((t + 16 : Nat) : Int) + 1) = ((t + 1 + 16 : Nat) : Int) := by simp only [w64_eq]; omega
     have hs := wex_n_s b t
     obtain ⟨X, hX⟩ : ∃ X, X = wex_n b t := ⟨_, rfl⟩
     rw [← hX] at hs hwl ⊢
     have qa := f154 (X.getD (t + 14) 0) 17 19 10 (by omega) (by omega) h k
     have qb := f154 (X.getD (t + 1) 0) 7 18 3 (by omega) (by omega) h k
     conv => whnf
     first | refine brT (by exact hlt) ?_ | fail
     conv => whnf
     repeat (first | (refine Exists.intro _ (And.intro (sload_u32 (i := t + 14) (by first | rfl | omega | fail) (by omega)) ?_); conv => whnf) | (refine Exists.intro _ (And.intro (idx_i (m := t + 14) (by first | rfl | omega | fail)) ?_); conv => whnf) | (refine Exists.intro _ (And.intro rfl ?_); conv => whnf) | (refine And.intro (by omega) ?_; conv => whnf) | fail)
     refine ok1_callF [0, 1, 2] [false, false, false] true (qa) rfl rfl ⟨⟨rfl, by rfl⟩, by (repeat' (first | exact trivial | refine And.intro ?_ ?_)) <;> first | rfl | exact ren_eq (by first | (simp; done) | fail) (by rfl) | fail, by rfl, by rfl, ?_⟩
     conv => whnf
     repeat (first | (refine Exists.intro _ (And.intro (sload_u32 (i := t + 9) (by first | rfl | omega | fail) (by omega)) ?_); conv => whnf) | (refine Exists.intro _ (And.intro (idx_i (m := t + 9) (by first | rfl | omega | fail)) ?_); conv => whnf) | (refine Exists.intro _ (And.intro (sload_u32 (i := t + 1) (by first | rfl | omega | fail) (by omega)) ?_); conv => whnf) | (refine Exists.intro _ (And.intro (idx_i (m := t + 1) (by first | rfl | omega | fail)) ?_); conv => whnf) | (refine Exists.intro _ (And.intro rfl ?_); conv => whnf) | (refine And.intro (by omega) ?_; conv => whnf) | fail)
     refine ok1_callF [0, 1, 2] [false, false, false] true (qb) rfl rfl ⟨⟨rfl, by rfl⟩, by (repeat' (first | exact trivial | refine And.intro ?_ ?_)) <;> first | rfl | exact ren_eq (by first | (simp; done) | fail) (by rfl) | fail, by rfl, by rfl, ?_⟩
     conv => whnf
     repeat (first | (refine Exists.intro _ (And.intro (sload_u32 (i := t) (by first | rfl | omega | fail) (by omega)) ?_); conv => whnf) | (refine Exists.intro _ (And.intro (idx_i (m := t) (by first | rfl | omega | fail)) ?_); conv => whnf) | (refine Exists.intro _ (And.intro (sput_m32 (i := t + 16) (by first | rfl | omega | fail)) ?_); conv => whnf) | (refine Exists.intro _ (And.intro (idx_i (m := t + 16) (by rfl)) ?_); conv => whnf) | (refine And.intro (by first | omega | (simp; omega) | fail) ?_; conv => whnf) | (refine And.intro (by kernel_rfl) ?_; conv => whnf) | fail)
     refine ⟨⟨t + 1, by omega⟩, by simp only; omega, ?_⟩
     dsimp only
     rw [hs]
     refine Weak.sel [0, 1, 2, 3, 4] rfl rfl ?_ ?_ rfl rfl
     ·
      (repeat' (first | exact trivial | refine And.intro ?_ ?_ | fail)) <;> first | exact wk_i (by first | exact hp | exact hp.symm | fail) | rfl | fail
     ·
      (repeat' (first | exact trivial | refine And.intro ?_ ?_ | (refine wk_cons ?_ ?_))) <;> first | rfl | exact ren_eq (by first | (simp; done) | fail) (by rfl) | exact ren_m32 (by rfl) | fail
    ·
     obtain rfl : t = 64 - 16 := by omega
     conv => whnf
     first | refine brF (by rfl) ?_ | fail
     conv => whnf
     repeat (first | (refine Exists.intro _ (And.intro rfl ?_); conv => whnf) | (refine And.intro (by first | omega | (simp; done) | (simp; omega) | fail) ?_; conv => whnf) | (refine And.intro (by kernel_rfl) ?_; conv => whnf) | fail)
     refine loop_rule ttOk mixed (by kernel_rfl) (ι := { t : Nat // t ≤ 64 }) (fun t => [(0, .p 0 0), (4, .sl 4 0 64 1 true), (7, .p 5 0), (108, .sl 2 0 64 1 false), (109, .i 64), (110, .i (t.1 : Int))]) (fun t => [some (.ro (mach_n 1 2)), some (.row 29 (h.map .u32)), some (.ro (k.map .u32)), some (.ro (b.map .u8)), some (.row 29 ((wex_n b (64 - 16)).map .u32)), some (.box ((rnds_n k h b t.1).map .u32))]) (fun _ => 6) (fun t => 64 - t.1) ⟨0, by omega⟩ ?_ ?_
     ·
      have hz := rnds_n_z k h b
      dsimp only
      rw [hz]
      obtain ⟨h0, h1, h2, h3, h4, h5, h6, h7, rfl⟩ := ex8u hh
      refine Weak.sel [0, 1, 2, 3, 4, 5] rfl rfl ?_ ?_ rfl rfl
      ·
       (repeat' (first | exact trivial | refine And.intro ?_ ?_ | fail)) <;> first | rfl | fail
      ·
       (repeat' (first | exact trivial | refine And.intro ?_ ?_ | (refine wk_cons ?_ ?_))) <;> first | rfl | exact ren_eq (by first | (simp; done) | fail) (by rfl) | fail
     ·
      rintro ⟨t, ht⟩
      dsimp only
      have hrl := rnds_len_n (k := k) hh b t
      by_cases ht3 : t < 64
      ·
       have hlt : decide ((t : Int) < 64) = true := by simp; omega
       have hs := rnds_n_s k h b t
       have hp := wp1i t (by omega)
       obtain ⟨X, hX⟩ : ∃ X, X = rnds_n k h b t := ⟨_, rfl⟩
       obtain ⟨Y, hY⟩ : ∃ Y, Y = wex_n b (64 - 16) := ⟨_, rfl⟩
       rw [← hX, ← hY] at hs
       rw [← hX] at hrl
       rw [← hY] at hwl
       rw [← hX, ← hY]
       clear hX hY
       obtain ⟨x0, x1, x2, x3, x4, x5, x6, x7, rfl⟩ := ex8u hrl
       have qa := f155 x4 6 11 25 (by omega) (by omega) (by omega) h k
       have qb := f155 x0 2 13 22 (by omega) (by omega) (by omega) h k
       conv => whnf
       first | refine brT (by exact hlt) ?_ | fail
       conv => whnf
       repeat (first | (refine Exists.intro _ (And.intro (sload_u32 (i := t) (by first | rfl | omega | fail) (by omega)) ?_); conv => whnf) | (refine Exists.intro _ (And.intro (idx_i (m := t) (by rfl)) ?_); conv => whnf) | (refine Exists.intro _ (And.intro rfl ?_); conv => whnf) | (refine And.intro (by omega) ?_; conv => whnf) | (refine And.intro (by kernel_rfl) ?_; conv => whnf) | fail)
       refine ok1_callF [0, 1, 2] [false, false, false] true (qa) rfl rfl ⟨⟨rfl, by rfl⟩, by (repeat' (first | exact trivial | refine And.intro ?_ ?_)) <;> first | rfl | exact ren_eq (by first | (simp; done) | fail) (by rfl) | fail, by rfl, by rfl, ?_⟩
       conv => whnf
       repeat (first | (refine Exists.intro _ (And.intro (sload_u32 (i := t) (by first | rfl | omega | fail) (by omega)) ?_); conv => whnf) | (refine Exists.intro _ (And.intro (idx_i (m := t) (by rfl)) ?_); conv => whnf) | (refine Exists.intro _ (And.intro rfl ?_); conv => whnf) | (refine And.intro (by omega) ?_; conv => whnf) | (refine And.intro (by kernel_rfl) ?_; conv => whnf) | fail)
       refine ok1_callF [0, 1, 2] [false, false, false] true (qb) rfl rfl ⟨⟨rfl, by rfl⟩, by (repeat' (first | exact trivial | refine And.intro ?_ ?_)) <;> first | rfl | exact ren_eq (by first | (simp; done) | fail) (by rfl) | fail, by rfl, by rfl, ?_⟩
       conv => whnf
       repeat (first | (refine Exists.intro _ (And.intro (sput_all rfl (by rfl)) ?_); conv => whnf) | (refine Exists.intro _ (And.intro rfl ?_); conv => whnf) | (refine And.intro (by first | omega | (simp; done) | fail) ?_; conv => whnf) | fail)
       refine ⟨⟨t + 1, by omega⟩, by simp only; omega, ?_⟩
       dsimp only
       rw [hs]
       refine Weak.sel [0, 1, 2, 3, 4, 5] rfl rfl ?_ ?_ rfl rfl
       ·
        (repeat' (first | exact trivial | refine And.intro ?_ ?_ | fail)) <;> first | exact wk_i (by first | exact hp | exact hp.symm | fail) | rfl | fail
       ·
        (repeat' (first | exact trivial | refine And.intro ?_ ?_ | (refine wk_cons ?_ ?_))) <;> first | rfl | exact ren_eq (by first | (simp; done) | fail) (by rfl) | fail
      ·
       obtain rfl : t = 64 := by omega
       conv => whnf
       first | refine brF (by rfl) ?_ | fail
       conv => whnf
       refine loop_rule ttOk mixed (by kernel_rfl) (ι := { i : Nat // i ≤ 8 }) (fun i => [(0, .p 0 0), (7, .p 5 0), (189, .i (i.1 : Int))]) (fun i => [some (.ro (mach_n 1 2)), some (.row 29 ((addw_n h (rnds_n k h b 64) i.1).map .u32)), some (.ro (k.map .u32)), some (.ro (b.map .u8)), none, some (.ro ((rnds_n k h b 64).map .u32))]) (fun _ => 6) (fun i => 8 - i.1) ⟨0, by omega⟩ ?_ ?_
       ·
        have hz := addw_n_z h (rnds_n k h b 64)
        dsimp only
        rw [hz]
        refine Weak.sel [0, 1, 2, 3, 4, 5] rfl rfl ?_ ?_ rfl rfl
        ·
         (repeat' (first | exact trivial | refine And.intro ?_ ?_ | fail)) <;> first | rfl | fail
        ·
         (repeat' (first | exact trivial | refine And.intro ?_ ?_ | (refine wk_cons ?_ ?_))) <;> first | rfl | exact ren_eq (by first | (simp; done) | fail) (by rfl) | fail
       ·
        rintro ⟨i, hi⟩
        dsimp only
        have hal := addw_len_n hh (rnds_n k h b 64) i
        by_cases hi3 : i < 8
        ·
         have hlt : decide ((i : Int) < 8) = true := by simp; omega
         have hs := addw_n_s h (rnds_n k h b 64) i
         have hp := wp1i i (by omega)
         conv => whnf
         first | refine brT (by exact hlt) ?_ | fail
         conv => whnf
         repeat (first | (refine Exists.intro _ (And.intro (sput_m32 (i := i) (by first | rfl | omega | fail)) ?_); conv => whnf) | (refine Exists.intro _ (And.intro (sload_u32 (i := i) (by first | rfl | omega | (simp; done) | fail) (by omega)) ?_); conv => whnf) | (refine Exists.intro _ (And.intro (idx_i (m := i) (by rfl)) ?_); conv => whnf) | (refine Exists.intro _ (And.intro rfl ?_); conv => whnf) | (refine And.intro (by first | omega | (simp; omega) | fail) ?_; conv => whnf) | (refine And.intro (by kernel_rfl) ?_; conv => whnf) | fail)
         refine ⟨⟨i + 1, by omega⟩, by simp only; omega, ?_⟩
         dsimp only
         rw [hs]
         refine Weak.sel [0, 1, 2, 3, 4, 5] rfl rfl ?_ ?_ rfl rfl
         ·
          (repeat' (first | exact trivial | refine And.intro ?_ ?_ | fail)) <;> first | exact wk_i (by first | exact hp | exact hp.symm | fail) | rfl | fail
         ·
          (repeat' (first | exact trivial | refine And.intro ?_ ?_ | (refine wk_cons ?_ ?_))) <;> first | rfl | exact ren_eq (by first | (simp; done) | fail) (by rfl) | exact ren_m32 (by rfl) | fail
        ·
         obtain rfl : i = 8 := by omega
         conv => whnf
         first | refine brF (by rfl) ?_ | fail
         conv => whnf
         refine ⟨[0, 1, 2, 3], ?_, rfl, rfl, ?_, rfl⟩
         ·
          (repeat' (first | (refine wk_tup ?_) | fail)) <;> first | rfl | fail
         ·
          (repeat' (first | exact trivial | refine And.intro ?_ ?_ | (refine wk_cons ?_ ?_))) <;> first | rfl | exact ren_eq (by first | (simp; done) | fail) (by rfl) | fail
end
section
end
end Go.Sh
namespace Go.Sh
open Go.Proofs
set_option maxHeartbeats 4000000
theorem full_n (x : UInt32) : cutv_n (UInt64.ofNat (Int.toNat 18446744073709551615)) - emb_n x = emb_n (~~~ x) := by
 apply UInt64.toNat_inj.1
 have e : cutv_n (UInt64.ofNat (Int.toNat 18446744073709551615)) = 4294967295 := by decide
 have hx := UInt32.toNat_lt x
 rw [e, UInt64.toNat_sub_of_le _ _ (by rw [UInt64.le_iff_toNat_le, emb_n_nat]; show x.toNat ≤ 4294967295; omega), emb_n_nat, emb_n_nat, UInt32.toNat_not]
 show 4294967295 - x.toNat = 4294967296 - 1 - x.toNat
 omega
theorem sum2_n (a b : UInt32) : cutv_n (emb_n a + emb_n b) = emb_n (a + b) := by
 rw [cutv_n_eq, UInt64.toUInt32_add, cut_n_emb, cut_n_emb]
theorem sum5_n (a b c d e : UInt32) : cutv_n (emb_n a + emb_n b + emb_n c + emb_n d + emb_n e) = emb_n (a + b + c + d + e) := by
 rw [cutv_n_eq]; simp only [UInt64.toUInt32_add, cut_n_emb]
theorem sum4_n (a b c d : UInt32) : cutv_n (emb_n a + emb_n b + emb_n c + emb_n d) = emb_n (a + b + c + d) := by
 rw [cutv_n_eq]; simp only [UInt64.toUInt32_add, cut_n_emb]
def emL_n (x : List UInt32) : List UInt64 := x.map emb_n
theorem emL_len_n (x : List UInt32) : (emL_n x).length = x.length := List.length_map ..
section
attribute [local irreducible] emb_n cutv_n big_n
theorem f151_n (x : List UInt32) (hx : x.length = 8) (k w : UInt32) (f : Bool) : SCall Tryz.prog 89 [.sl 0 0 8 1 f, .u64 (emb_n k), .u64 (emb_n w), .i 32] [some (.ro ((emL_n x).map .u64))] (.sl 1 0 8 1 true) [some (.ro ((emL_n x).map .u64)), some (.row 81 ((emL_n (rnd_n x k w)).map .u64))] := by
 obtain ⟨x0, x1, x2, x3, x4, x5, x6, x7, rfl⟩ := ex8u hx
 have qf := f149_n (UInt64.ofNat (Int.toNat 18446744073709551615))
 have hfull := full_n x4
 obtain ⟨F, hF⟩ : ∃ F, F = cutv_n (UInt64.ofNat (Int.toNat 18446744073709551615)) := ⟨_, rfl⟩
 rw [← hF] at qf hfull
 have q1 := f150_n_1 x4
 have q0 := f150_n_0 x0
 obtain ⟨B4, hB4⟩ : ∃ b, b = big_n x4 6 11 25 := ⟨_, rfl⟩
 obtain ⟨B0, hB0⟩ : ∃ b, b = big_n x0 2 13 22 := ⟨_, rfl⟩
 rw [← hB4] at q1
 rw [← hB0] at q0
 have r1 := f149_n (emb_n x7 + emb_n B4 + emb_n ((x4 &&& x5) ^^^ (~~~ x4 &&& x6)) + emb_n k + emb_n w)
 rw [sum5_n] at r1
 have r2 := f149_n (emb_n B0 + emb_n ((x0 &&& x1) ^^^ (x0 &&& x2) ^^^ (x1 &&& x2)))
 rw [sum2_n] at r2
 have hrn : rnd_n [x0, x1, x2, x3, x4, x5, x6, x7] k w = [x7 + B4 + ((x4 &&& x5) ^^^ (~~~ x4 &&& x6)) + k + w + (B0 + ((x0 &&& x1) ^^^ (x0 &&& x2) ^^^ (x1 &&& x2))), x0, x1, x2, x3 + (x7 + B4 + ((x4 &&& x5) ^^^ (~~~ x4 &&& x6)) + k + w), x4, x5, x6] := by rw [hB4, hB0]; rfl
 rw [hrn]
 obtain ⟨p, hp⟩ : ∃ p, p = x7 + B4 + ((x4 &&& x5) ^^^ (~~~ x4 &&& x6)) + k + w := ⟨_, rfl⟩
 obtain ⟨q, hq⟩ : ∃ q, q = B0 + ((x0 &&& x1) ^^^ (x0 &&& x2) ^^^ (x1 &&& x2)) := ⟨_, rfl⟩
 rw [← hp, ← hq]
 rw [← hp] at r1
 rw [← hq] at r2
 have r3 := f149_n (emb_n p + emb_n q)
 rw [sum2_n] at r3
 have r4 := f149_n (emb_n x3 + emb_n p)
 rw [sum2_n] at r4
 clear hB4 hB0 hp hq hrn hF
 refine scall_of ttOk (by kernel_rfl : Tryz.prog.funcs[89]? = some Tryz.f89) rfl rfl rfl ?_
 try simp only [List.length_cons, List.length_nil, Nat.zero_add, Nat.reduceAdd]
 refine sw_ok ttOk mixed (by kernel_rfl) ?_
 conv => whnf
 refine ok1_callF [] [] true (qf) rfl rfl ⟨⟨rfl, by rfl⟩, trivial, by rfl, by rfl, ?_⟩
 conv => whnf
 repeat (first | (refine Exists.intro _ (And.intro rfl ?_); conv => whnf) | (refine And.intro (by omega) ?_; conv => whnf) | fail)
 refine ok1_callF [] [] true (q1) rfl rfl ⟨⟨rfl, by rfl⟩, trivial, by rfl, by rfl, ?_⟩
 conv => whnf
 repeat (first | (refine Exists.intro _ (And.intro rfl ?_); conv => whnf) | (refine And.intro (by omega) ?_; conv => whnf) | fail)
 rw [hfull, emb_n_and x4 x5, emb_n_and (~~~ x4) x6, emb_n_xor (x4 &&& x5) (~~~ x4 &&& x6)]
 refine ok1_callF [] [] true (r1) rfl rfl ⟨⟨rfl, by rfl⟩, trivial, by rfl, by rfl, ?_⟩
 conv => whnf
 repeat (first | (refine Exists.intro _ (And.intro rfl ?_); conv => whnf) | (refine And.intro (by omega) ?_; conv => whnf) | (refine And.intro (by kernel_rfl) ?_; conv => whnf) | fail)
 refine ok1_callF [] [] true (q0) rfl rfl ⟨⟨rfl, by rfl⟩, trivial, by rfl, by rfl, ?_⟩
 conv => whnf
 repeat (first | (refine Exists.intro _ (And.intro rfl ?_); conv => whnf) | (refine And.intro (by omega) ?_; conv => whnf) | fail)
 rw [emb_n_and x0 x1, emb_n_and x0 x2, emb_n_xor (x0 &&& x1) (x0 &&& x2), emb_n_and x1 x2, emb_n_xor ((x0 &&& x1) ^^^ (x0 &&& x2)) (x1 &&& x2)]
 refine ok1_callF [] [] true (r2) rfl rfl ⟨⟨rfl, by rfl⟩, trivial, by rfl, by rfl, ?_⟩
 conv => whnf
 repeat (first | (refine And.intro (by kernel_rfl) ?_; conv => whnf) | fail)
 refine ok1_callF [] [] true (r3) rfl rfl ⟨⟨rfl, by rfl⟩, trivial, by rfl, by rfl, ?_⟩
 conv => whnf
 repeat (first | (refine Exists.intro _ (And.intro rfl ?_); conv => whnf) | (refine And.intro (by omega) ?_; conv => whnf) | fail)
 refine ok1_callF [] [] true (r4) rfl rfl ⟨⟨rfl, by rfl⟩, trivial, by rfl, by rfl, ?_⟩
 conv => whnf
 repeat (first | (refine Exists.intro _ (And.intro rfl ?_); conv => whnf) | (refine And.intro (by omega) ?_; conv => whnf) | (refine And.intro (by kernel_rfl) ?_; conv => whnf) | fail)
 refine ⟨[0, 1], ?_, rfl, rfl, ?_, rfl⟩
 ·
  (repeat' (fail)) <;> first | rfl | fail
 ·
  (repeat' (first | exact trivial | refine And.intro ?_ ?_ | (refine wk_cons ?_ ?_))) <;> first | rfl | fail
end
section
end
end Go.Sh
namespace Go.Sh
open Go.Proofs
set_option maxHeartbeats 8000000
theorem blks_add_n (k h : List UInt32) (D : List UInt8) (a : Nat) : ∀ b, blks_n k h D (a + b) = blks_n k (blks_n k h D a) (D.drop (64 * a)) b
 | 0 => rfl
 | b + 1 => by
  show comp_n k (blks_n k h D (a + b)) ((D.drop (64 * (a + b))).take 64) = comp_n k (blks_n k (blks_n k h D a) (D.drop (64 * a)) b) (((D.drop (64 * a)).drop (64 * b)).take 64)
  rw [blks_add_n k h D a b, List.drop_drop, Nat.mul_add]
theorem blks_app_n (k h : List UInt32) (D X : List UInt8) : ∀ j, 64 * j ≤ D.length → blks_n k h (D ++ X) j = blks_n k h D j
 | 0, _ => rfl
 | j + 1, hj => by
  show comp_n k (blks_n k h (D ++ X) j) (((D ++ X).drop (64 * j)).take 64) = comp_n k (blks_n k h D j) ((D.drop (64 * j)).take 64)
  rw [blks_app_n k h D X j (by omega), List.drop_append_of_le_length (by omega), List.take_append_of_le_length (by simp; omega)]
def rest_n (T : List UInt8) : List UInt8 := T.drop (64 * (T.length / 64))
def st_n (k h : List UInt32) (T : List UInt8) : List UInt32 := blks_n k h T (T.length / 64)
theorem rest_len_n (T : List UInt8) : (rest_n T).length = T.length % 64 := by unfold rest_n; rw [List.length_drop]; omega
theorem st_len_n (k : List UInt32) {h : List UInt32} (hh : h.length = 8) (T : List UInt8) : (st_n k h T).length = 8 := blks_len_n k hh _ _
theorem feed_n (k h : List UInt32) (T X : List UInt8) (j : Nat) : blks_n k (st_n k h T) (rest_n T ++ X) j = blks_n k h (T ++ X) (T.length / 64 + j) := by
 have h1 : 64 * (T.length / 64) ≤ T.length := by omega
 rw [blks_add_n, blks_app_n k h T X _ h1, List.drop_append_of_le_length h1]; rfl
theorem feed_st_n (k h : List UInt32) (T X : List UInt8) : blks_n k (st_n k h T) (rest_n T ++ X) ((rest_n T ++ X).length / 64) = st_n k h (T ++ X) := by
 rw [feed_n]; unfold st_n; congr 1
 rw [List.length_append, List.length_append, rest_len_n]; omega
theorem feed_rest_n (T X : List UInt8) : (rest_n T ++ X).drop (64 * ((rest_n T ++ X).length / 64)) = rest_n (T ++ X) := by
 have h1 : 64 * (T.length / 64) ≤ T.length := by omega
 have e : rest_n T ++ X = (T ++ X).drop (64 * (T.length / 64)) := by rw [List.drop_append_of_le_length h1]; rfl
 rw [e, List.drop_drop]; unfold rest_n; congr 1
 rw [List.length_drop, List.length_append]; omega
theorem st_nil_n (k h : List UInt32) : st_n k h [] = h := rfl
theorem rest_nil_n : rest_n [] = [] := rfl
theorem pz_rest_n (T : List UInt8) : pz_n (rest_n T).length = pz_n T.length := by rw [rest_len_n]; unfold pz_n; omega
theorem lset_len_n (n : Nat) : ∀ i, (lset_n n i).length = 8
 | 0 => List.length_replicate
 | i + 1 => by unfold lset_n; rw [List.length_set]; exact lset_len_n n i
def last_n (T : List UInt8) : List UInt8 := rest_n T ++ [128] ++ List.replicate (pz_n T.length) 0 ++ lenb_n T.length
theorem last_len_n (T : List UInt8) : (last_n T).length = 64 * ((last_n T).length / 64) := by
 have h : (last_n T).length = T.length % 64 + 1 + pz_n T.length + 8 := by
  unfold last_n lenb_n
  rw [List.length_append, List.length_append, List.length_append, lset_len_n, rest_len_n, List.length_replicate]; rfl
 have h2 : (last_n T).length % 64 = 0 := by rw [h]; unfold pz_n; omega
 omega
theorem last_st_n (k h : List UInt32) (T : List UInt8) : outb_n (blks_n k (st_n k h T) (last_n T) ((last_n T).length / 64)) = hash_n k h T := by
 have e : last_n T = rest_n T ++ ([128] ++ List.replicate (pz_n T.length) 0 ++ lenb_n T.length) := by unfold last_n; simp only [List.append_assoc]
 have e2 : T ++ ([128] ++ List.replicate (pz_n T.length) 0 ++ lenb_n T.length) = padw_n T := by unfold padw_n; simp only [List.append_assoc]
 unfold hash_n
 rw [e, feed_st_n, e2]; rfl
theorem outl_len_n (h : List UInt32) : ∀ m, (outl_n h m).length = m
 | 0 => rfl
 | m + 1 => by unfold outl_n; rw [List.length_append, outl_len_n h m]; rfl
theorem hash_len_n (k h : List UInt32) (T : List UInt8) : (hash_n k h T).length = 32 := outl_len_n _ _
theorem padz_no_n {r j : Nat} (h : j < pz_n r) : (r + 1 + j + 8) % 64 ≠ 0 := by unfold pz_n at h; omega
theorem padz_yes_n (r : Nat) : (r + 1 + pz_n r + 8) % 64 = 0 := by unfold pz_n; omega
theorem u64_add_i (a b : Nat) (h : a + b < 2 ^ 62) : UInt64.ofNat a + u64i (b : Int) = UInt64.ofNat (a + b) := by
 have : u64i (b : Int) = UInt64.ofNat b := by
  unfold u64i; congr 1; omega
 rw [this, ← UInt64.ofNat_add]
end Go.Sh
namespace Go.Sh
open Go.Proofs
set_option maxHeartbeats 4000000
theorem mul8 (N : Nat) : UInt64.ofNat (Int.toNat 8) * UInt64.ofNat N = shl64 (UInt64.ofNat N) 3 := by
 apply UInt64.toNat_inj.1
 unfold shl64
 rw [if_pos (by decide), UInt64.toNat_shiftLeft, UInt64.toNat_mul]
 show 8 * (UInt64.ofNat N).toNat % 2 ^ 64 = ((UInt64.ofNat N).toNat <<< 3) % 2 ^ 64
 rw [Nat.shiftLeft_eq]; congr 1; omega
theorem shr_step (y : UInt64) (j : Nat) : shr64 y (8 * j) / UInt64.ofNat (Int.toNat 256) = shr64 y (8 * (j + 1)) := by
 apply UInt64.toNat_inj.1
 have hy := UInt64.toNat_lt y
 have sh : ∀ n, n < 64 → (shr64 y n).toNat = y.toNat / 2 ^ n := fun n hn => by
  unfold shr64
  rw [if_pos hn, UInt64.toNat_shiftRight, UInt64.toNat_ofNat', show n % 2 ^ 64 % 64 = n by omega, Nat.shiftRight_eq_div_pow]
 have sz : ∀ n, 64 ≤ n → shr64 y n = 0 := fun n hn => by unfold shr64; rw [if_neg (by omega)]
 rw [UInt64.toNat_div]
 show (shr64 y (8 * j)).toNat / 256 = _
 by_cases h1 : 8 * (j + 1) < 64
 ·
  rw [sh _ (by omega), sh _ h1, Nat.div_div_eq_div_mul, show 8 * (j + 1) = 8 * j + 8 by omega, Nat.pow_add]
 ·
  rw [sz (8 * (j + 1)) (by omega)]
  by_cases h2 : 8 * j < 64
  ·
   have hj : j = 7 := by omega
   subst hj
   rw [sh _ h2, Nat.div_div_eq_div_mul]
   show y.toNat / 18446744073709551616 = 0
   exact Nat.div_eq_of_lt hy
  ·
   rw [sz (8 * j) (by omega)]; rfl
theorem mod256 (x : UInt64) : (x % UInt64.ofNat (Int.toNat 256)).toUInt8 = x.toUInt8 := by
 apply UInt8.toNat_inj.1
 rw [UInt64.toNat_toUInt8, UInt64.toNat_toUInt8, UInt64.toNat_mod]
 show x.toNat % 256 % 256 = x.toNat % 256
 omega
theorem sarith_quo64b {a c : UInt64} (h : c ≠ 0) : sarith .quo (.u64 a) (.u64 c) = some (.u64 (a / c)) := by simp [sarith, h]
theorem rcat8 {E b : List UInt8} {o n m : Nat} (hn : n = E.length - o) (hm : m = b.length) : List.take (n * 1) (List.drop o (E.map SV.u8)) ++ List.take (m * 1) (List.drop 0 (b.map SV.u8)) = (E.drop o ++ b).map SV.u8 := by
 subst hn; subst hm
 rw [Nat.mul_one, Nat.mul_one, List.drop_zero, List.take_of_length_le (l := b.map SV.u8) (by rw [List.length_map]; exact Nat.le_refl _), List.take_of_length_le (by rw [List.length_drop, List.length_map]; exact Nat.le_refl _), List.map_append, List.map_drop]
theorem rpz_no_n {r j : Nat} (h : j < pz_n r) : (r + 1 + j) % 64 ≠ 56 := by unfold pz_n at h; omega
theorem rpz_yes_n (r : Nat) : (r + 1 + pz_n r) % 64 = 56 := by unfold pz_n; omega
theorem rlenb_n (N : Nat) : lset_n N 8 = lenb_n N := rfl
theorem rlset_z_n (N : Nat) : lset_n N 0 = List.replicate 8 0 := rfl
theorem rlset_s_n (N i : Nat) : lset_n N (i + 1) = (lset_n N i).set (8 - 1 - i) (shr64 (shl64 (UInt64.ofNat N) 3) (8 * i)).toUInt8 := rfl
section
attribute [local irreducible] pz_n lset_n
theorem f148_n (T : List UInt8) (hT : T.length < 100000000000000) (f : Bool) : SCall Tryz.prog 86 [.sl 0 0 T.length 1 f, .i 32] [some (.ro (T.map .u8))] (.sl 1 0 (padw_n T).length 1 false) [some (.ro (T.map .u8)), some (.row 5 ((padw_n T).map .u8))] := by
 have hz0 : 0 + T.length = T.length := Nat.zero_add _
 have hu : u64i (T.length : Int) = UInt64.ofNat T.length := by unfold u64i; congr 1; omega
 have hm8 := mul8 T.length
 have hpl : pz_n T.length < 64 := by unfold pz_n; exact Nat.mod_lt _ (by decide)
 have hbk : List.take ((0 + T.length) * ti5.sz) (List.drop 0 (List.take (0 * ti5.sz) (List.drop 0 (reps 0 (SV.u8 0).cells)) ++ List.take (T.length * ti5.sz) (List.drop 0 (SB.ro (List.map SV.u8 T)).cells))) ++ List.take (1 * ti5.sz) (List.drop 0 (SB.row 5 (sput (reps 1 (SV.u8 0).cells) (0 * ti5.sz) (SV.u8 (UInt8.ofNat (Int.toNat 128))))).cells) = (T ++ [128]).map SV.u8 := by
  show List.take ((0 + T.length) * 1) (([] : List SV) ++ List.take (T.length * 1) (T.map SV.u8)) ++ [SV.u8 128] = _
  simp
 refine scall_of ttOk (by kernel_rfl : Tryz.prog.funcs[86]? = some Tryz.f86) rfl rfl rfl ?_
 try simp only [List.length_cons, List.length_nil, Nat.zero_add, Nat.reduceAdd]
 refine sw_ok ttOk mixed (by kernel_rfl) ?_
 conv => whnf
 repeat (first | (refine Exists.intro _ (And.intro rfl ?_); conv => whnf) | (refine And.intro (by first | omega | (simp [ti5]; omega)) ?_; conv => whnf) | fail)
 rw [hbk, hz0]
 refine loop_rule ttOk mixed (by kernel_rfl) (ι := { j : Nat // j ≤ pz_n T.length }) (fun j => [(0, .sl 0 0 T.length 1 f), (1, .i 32), (5, .sl 1 0 (T.length + 1 + j.1) 1 false)]) (fun j => [some (.ro (T.map .u8)), some (.row 5 ((T ++ [128] ++ List.replicate j.1 0).map .u8))]) (fun _ => 2) (fun j => pz_n T.length - j.1) ⟨0, by omega⟩ ?_ ?_
 ·
  have hz : T ++ [128] ++ List.replicate 0 0 = T ++ [128] := List.append_nil _
  dsimp only
  rw [hz]
  refine Weak.sel [0, 4] rfl rfl ?_ ?_ rfl rfl
  ·
   (repeat' (first | exact trivial | refine And.intro ?_ ?_ | fail)) <;> first | rfl | fail
  ·
   (repeat' (first | exact trivial | refine And.intro ?_ ?_ | fail)) <;> first | rfl | exact ren_eq (by first | (simp; done) | fail) (by rfl) | fail
 ·
  rintro ⟨j, hj⟩
  dsimp only
  obtain ⟨Y, hY⟩ : ∃ Y, Y = T ++ [128] ++ List.replicate j 0 := ⟨_, rfl⟩
  have hYl : Y.length = T.length + 1 + j := by rw [hY, List.length_append, List.length_append, List.length_replicate]; rfl
  have hYs : T ++ [128] ++ List.replicate (j + 1) 0 = Y ++ [0] := by rw [hY, List.replicate_succ', List.append_assoc]; simp
  have hap : (Y ++ [0]).map SV.u8 = List.take ((T.length + 1 + j) * 1) (List.drop 0 (Y.map SV.u8)) ++ List.take (1 * 1) (List.drop 0 [SV.u8 0]) := (rcat8 (o := 0) (n := T.length + 1 + j) (E := Y) (b := [0]) (by omega) rfl).symm
  have hmod : (((T.length + 1 + j : Nat) : Int)).tmod 64 = (((T.length + 1 + j) % 64 : Nat) : Int) := rfl
  by_cases hj2 : j < pz_n T.length
  ·
   have hno := rpz_no_n hj2
   have hcd : ((((T.length + 1 + j : Nat) : Int)).tmod (w64 (2 * 32)) != w64 (w64 (2 * 32) - w64 (Int.tdiv 32 4))) = true := by
    rw [show w64 (2 * 32) = 64 from by decide, show w64 (64 - w64 (Int.tdiv 32 4)) = 56 from by decide, hmod]
    simp; omega
   rw [← hY]
   conv => whnf
   repeat (first | (refine Exists.intro _ (And.intro rfl ?_); conv => whnf) | fail)
   first | refine brT (by exact hcd) ?_ | fail
   conv => whnf
   repeat (first | (refine Exists.intro _ (And.intro rfl ?_); conv => whnf) | (refine And.intro (by first | omega | (simp [ti5]; omega)) ?_; conv => whnf) | fail)
   refine ⟨⟨j + 1, by omega⟩, by simp only; omega, ?_⟩
   dsimp only
   rw [hYs]
   refine Weak.sel [0, 3] rfl rfl ?_ ?_ rfl rfl
   ·
    (repeat' (first | exact trivial | refine And.intro ?_ ?_ | fail)) <;> first | rfl | fail
   ·
    (repeat' (first | exact trivial | exact ren_eq (plainL_u8 _) hap | refine And.intro ?_ ?_ | fail)) <;> first | rfl | exact ren_eq (by first | (simp; done) | fail) (by rfl) | fail
  ·
   obtain rfl : j = pz_n T.length := by omega
   have hyes := rpz_yes_n T.length
   have hcd : ((((T.length + 1 + pz_n T.length : Nat) : Int)).tmod (w64 (2 * 32)) != w64 (w64 (2 * 32) - w64 (Int.tdiv 32 4))) = false := by
    rw [show w64 (2 * 32) = 64 from by decide, show w64 (64 - w64 (Int.tdiv 32 4)) = 56 from by decide, hmod, hyes]
    rfl
   rw [← hY]
   conv => whnf
   repeat (first | (refine Exists.intro _ (And.intro rfl ?_); conv => whnf) | fail)
   first | refine brF (by exact hcd) ?_ | fail
   conv => whnf
   repeat (first | (refine Exists.intro _ (And.intro rfl ?_); conv => whnf) | (refine And.intro ⟨by decide, by decide⟩ ?_; conv => whnf) | fail)
   obtain ⟨y, hy⟩ : ∃ y, y = shl64 (UInt64.ofNat T.length) 3 := ⟨_, rfl⟩
   have h7 : UInt64.ofNat (Int.toNat 8) * u64i (T.length : Int) = shr64 y (8 * 0) := by
    rw [hu, hm8, ← hy]; unfold shr64; simp
   refine loop_rule ttOk mixed (by kernel_rfl) (ι := { i : Nat // i ≤ 8 }) (fun i => [(5, .sl 1 0 (T.length + 1 + pz_n T.length) 1 false), (6, .sl 2 0 8 1 true), (7, .u64 (shr64 y (8 * i.1))), (8, .i (8 - 1 - (i.1 : Int)))]) (fun i => [some (.ro (T.map .u8)), some (.row 5 (Y.map .u8)), some (.row 5 ((lset_n T.length i.1).map .u8))]) (fun _ => 3) (fun i => 8 - i.1) ⟨0, by omega⟩ ?_ ?_
   ·
    have hz := rlset_z_n T.length
    dsimp only
    rw [hz, ← h7]
    refine Weak.sel [0, 1, 2] rfl rfl ?_ ?_ rfl rfl
    ·
     (repeat' (first | exact trivial | refine And.intro ?_ ?_ | fail)) <;> first | rfl | fail
    ·
     (repeat' (first | exact trivial | exact ren_z8 | refine And.intro ?_ ?_ | fail)) <;> first | rfl | exact ren_eq (by first | (simp; done) | fail) (by rfl) | fail
   ·
    rintro ⟨i, hi⟩
    dsimp only
    have hll := lset_len_n T.length i
    by_cases hi8 : i < 8
    ·
     have hlt : decide ((8 - 1 - (i : Int)) ≥ 0) = true := by simp; omega
     have hid : 8 - 1 - (i : Int) = ((8 - 1 - i : Nat) : Int) := by omega
     have hp : w64 (8 - 1 - (i : Int) - 1) = 8 - 1 - ((i + 1 : Nat) : Int) := by simp only [w64_eq]; omega
     have hs := rlset_s_n T.length i
     rw [← hy] at hs
     have hst := shr_step y i
     have hm := mod256 (shr64 y (8 * i))
     have hiZ : 8 - 1 - i < 8 := by omega
     conv => whnf
     first | refine brT (by exact hlt) ?_ | fail
     conv => whnf
     repeat (first | (refine Exists.intro _ (And.intro (sput_m8 (i := 8 - 1 - i) (by first | rfl | omega | fail)) ?_); conv => whnf) | (refine Exists.intro _ (And.intro (idx_i (m := 8 - 1 - i) (by first | rfl | omega | fail)) ?_); conv => whnf) | (refine Exists.intro _ (And.intro rfl ?_); conv => whnf) | (refine And.intro (by first | omega | (simp; omega) | fail) ?_; conv => whnf) | fail)
     rw [hm, hst]
     refine ⟨⟨i + 1, by omega⟩, by simp only; omega, ?_⟩
     dsimp only
     rw [hs]
     refine Weak.sel [0, 1, 2] rfl rfl ?_ ?_ rfl rfl
     ·
      (repeat' (first | exact trivial | refine And.intro ?_ ?_ | fail)) <;> first | exact wk_i (by first | exact hp | exact hp.symm | fail) | rfl | fail
     ·
      (repeat' (first | exact trivial | refine And.intro ?_ ?_ | fail)) <;> first | rfl | exact ren_eq (by first | (simp; done) | fail) (by rfl) | exact ren_m8 (by rfl) | fail
    ·
     obtain rfl : i = 8 := by omega
     have hap5 : (Y ++ lset_n T.length 8).map SV.u8 = List.take ((T.length + 1 + pz_n T.length) * 1) (List.drop 0 (Y.map SV.u8)) ++ List.take (8 * 1) (List.drop 0 ((lset_n T.length 8).map SV.u8)) := (rcat8 (o := 0) (n := T.length + 1 + pz_n T.length) (E := Y) (b := lset_n T.length 8) (by omega) hll.symm).symm
     have hpw : padw_n T = Y ++ lset_n T.length 8 := by rw [hY, rlenb_n]; rfl
     have hpl2 : (padw_n T).length = T.length + 1 + pz_n T.length + 8 := by rw [hpw, List.length_append, hYl, hll]
     rw [hpl2, hpw]
     conv => whnf
     first | refine brF (by rfl) ?_ | fail
     conv => whnf
     repeat (first | (refine And.intro (by first | omega | (simp [ti5]; omega)) ?_; conv => whnf) | fail)
     refine ⟨[0, 3], ?_, rfl, rfl, ?_, rfl⟩
     ·
      (repeat' (fail)) <;> first | rfl | fail
     ·
      (repeat' (first | exact trivial | exact ren_eq (plainL_u8 _) hap5 | refine And.intro ?_ ?_ | fail)) <;> first | rfl | exact ren_eq (by first | (simp; done) | fail) (by rfl) | fail
end
section
end
end Go.Sh
namespace Go.Sh
open Go.Proofs
set_option maxHeartbeats 8000000
set_option maxRecDepth 100000
def firstL : List UInt64 := [7640891576956012808, 13503953896175478587, 4354685564936845355, 11912009170470909681,
 5840696475078001361, 11170449401992604703, 2270897969802886507, 6620516959819538809]
def consL : List UInt64 := [4794697086780616226, 8158064640168781261, 13096744586834688815, 16840607885511220156,
 4131703408338449720, 6480981068601479193, 10538285296894168987, 12329834152419229976,
 15566598209576043074, 1334009975649890238, 2608012711638119052, 6128411473006802146,
 8268148722764581231, 9286055187155687089, 11230858885718282805, 13951009754708518548,
 16472876342353939154, 17275323862435702243, 1135362057144423861, 2597628984639134821,
 3308224258029322869, 5365058923640841347, 6679025012923562964, 8573033837759648693,
 10970295158949994411, 12119686244451234320, 12683024718118986047, 13788192230050041572,
 14330467153632333762, 15395433587784984357, 489312712824947311, 1452737877330783856,
 2861767655752347644, 3322285676063803686, 5560940570517711597, 5996557281743188959,
 7280758554555802590, 8532644243296465576, 9350256976987008742, 10552545826968843579,
 11727347734174303076, 12113106623233404929, 14000437183269869457, 14369950271660146224,
 15101387698204529176, 15463397548674623760, 17586052441742319658, 1182934255886127544,
 1847814050463011016, 2177327727835720531, 2830643537854262169, 3796741975233480872,
 4115178125766777443, 5681478168544905931, 6601373596472566643, 7507060721942968483,
 8399075790359081724, 8693463985226723168, 9568029438360202098, 10144078919501101548,
 10430055236837252648, 11840083180663258601, 13761210420658862357, 14299343276471374635,
 14566680578165727644, 15097957966210449927, 16922976911328602910, 17689382322260857208,
 500013540394364858, 748580250866718886, 1242879168328830382, 1977374033974150939,
 2944078676154940804, 3659926193048069267, 4368137639120453308, 4836135668995329356,
 5532061633213252278, 6448918945643986474, 6902733635092675308, 7801388544844847127]
def up (x : UInt64) : UInt32 := (shr64 x 32).toUInt32
def h0_n : List UInt32 := firstL.map up
def k0_n : List UInt32 := (consL.take 64).map up
theorem h0_n_len : h0_n.length = 8 := rfl
theorem k0_n_len : k0_n.length = 64 := rfl
theorem f137 : SCall Tryz.prog 100 [] [] (.sl 0 0 8 1 true) [some (.row 81 (firstL.map .u64))] := by
 refine scall_of ttOk (by kernel_rfl : Tryz.prog.funcs[100]? = some Tryz.f100) rfl rfl rfl ?_
 try simp only [List.length_cons, List.length_nil, Nat.zero_add, Nat.reduceAdd]
 refine sw_ok ttOk mixed (by kernel_rfl) ?_
 conv => whnf
 repeat (first | (refine Exists.intro _ (And.intro rfl ?_); conv => whnf) | fail)
 refine ⟨[0], ?_, rfl, rfl, ?_, rfl⟩
 ·
  (repeat' (fail)) <;> first | rfl | fail
 ·
  (repeat' (first | exact trivial | refine And.intro ?_ ?_ | (refine wk_cons ?_ ?_))) <;> first | rfl | fail
theorem f138 : SCall Tryz.prog 101 [] [] (.sl 0 0 80 1 true) [some (.row 81 (consL.map .u64))] := by
 refine scall_of ttOk (by kernel_rfl : Tryz.prog.funcs[101]? = some Tryz.f101) rfl rfl rfl ?_
 try simp only [List.length_cons, List.length_nil, Nat.zero_add, Nat.reduceAdd]
 refine sw_ok ttOk mixed (by kernel_rfl) ?_
 conv => whnf
 repeat (first | (refine Exists.intro _ (And.intro rfl ?_); conv => whnf) | fail)
 refine ⟨[0], ?_, rfl, rfl, ?_, rfl⟩
 ·
  (repeat' (fail)) <;> first | rfl | fail
 ·
  (repeat' (first | exact trivial | refine And.intro ?_ ?_ | (refine wk_cons ?_ ?_))) <;> first | rfl | fail
theorem up_s (L : List UInt64) (i : Nat) (h : i < L.length) : (L.take (i + 1)).map up = (L.take i).map up ++ [up (L.getD i 0)] := by
 rw [List.take_succ_eq_append_getElem h, List.map_append, List.getD_eq_getElem?_getD, List.getElem?_eq_getElem h]; rfl
theorem f136 (L : List UInt64) (n : Nat) (hn : n ≤ L.length) (hn2 : n < 1000) (f : Bool) : SCall Tryz.prog 99 [.sl 0 0 n 1 f] [some (.ro (L.map .u64))] (.sl 1 0 n 1 false) [some (.ro (L.map .u64)), some (.row 29 (((L.take n).map up).map .u32))] := by
 refine scall_of ttOk (by kernel_rfl : Tryz.prog.funcs[99]? = some Tryz.f99) rfl rfl rfl ?_
 try simp only [List.length_cons, List.length_nil, Nat.zero_add, Nat.reduceAdd]
 refine sw_ok ttOk mixed (by kernel_rfl) ?_
 conv => whnf
 refine SWp.weak (Weak.virt 3 29 1 rfl) ?_
 refine loop_rule ttOk mixed (by kernel_rfl) (ι := { i : Nat // i ≤ n }) (fun i => [(3, .sl 1 0 i.1 1 false), (6, .sl 0 0 n 1 f), (7, .i n), (8, .i (i.1 : Int))]) (fun i => [some (.ro (L.map .u64)), some (.row 29 (((L.take i.1).map up).map .u32))]) (fun _ => 2) (fun i => n - i.1) ⟨0, by omega⟩ ?_ ?_
 ·
  refine Weak.sel [0, 1] rfl rfl ?_ ?_ rfl rfl
  ·
   (repeat' (first | exact trivial | refine And.intro ?_ ?_ | fail)) <;> first | rfl | fail
  ·
   (repeat' (first | exact trivial | refine And.intro ?_ ?_ | fail)) <;> first | rfl | exact ren_eq (by first | (simp; done) | fail) (by rfl) | fail
 ·
  rintro ⟨i, hi⟩
  dsimp only
  have hl : ((L.take i).map up).length = i := by rw [List.length_map, List.length_take]; omega
  by_cases hi2 : i < n
  ·
   have hlt : decide ((i : Int) < (n : Int)) = true := by simp; omega
   have hs := up_s L i (by omega)
   have hp : w64 ((i : Int) + 1) = ((i + 1 : Nat) : Int) := by simp only [w64_eq]; omega
   conv => whnf
   first | refine brT (by exact hlt) ?_ | fail
   conv => whnf
   repeat (first | (refine Exists.intro _ (And.intro (sload_u64 (i := i) (by first | rfl | omega | fail) (by omega)) ?_); conv => whnf) | (refine Exists.intro _ (And.intro (idx_i (m := i) (by rfl)) ?_); conv => whnf) | (refine Exists.intro _ (And.intro rfl ?_); conv => whnf) | (refine And.intro (by omega) ?_; conv => whnf) | (refine And.intro ⟨by first | (simp [hl]; omega) | fail, by first | (simp [hl]; done) | fail, by first | (show _ * 4 ≤ _; omega) | fail⟩ ?_; conv => whnf) | fail)
   refine ⟨⟨i + 1, by omega⟩, by simp only; omega, ?_⟩
   have hap : ((L.take (i + 1)).map up).map SV.u32 = List.take (i * 1) (List.drop 0 (((L.take i).map up).map SV.u32)) ++ List.take (1 * 1) (List.drop 0 [SV.u32 (up (L.getD i 0))]) := by
    rw [hs, List.map_append, Nat.mul_one, List.drop_zero, List.take_of_length_le (l := ((L.take i).map up).map SV.u32) (by rw [List.length_map, hl]; exact Nat.le_refl _)]; rfl
   refine Weak.sel [0, 3] rfl rfl ?_ ?_ rfl rfl
   ·
    (repeat' (first | exact trivial | refine And.intro ?_ ?_ | fail)) <;> first | exact wk_i (by first | exact hp | exact hp.symm | fail) | rfl | fail
   ·
    (repeat' (first | exact trivial | exact ren_eq (plainL_u32 _) hap | refine And.intro ?_ ?_ | fail)) <;> first | rfl | exact ren_eq (by first | (simp; done) | fail) (by rfl) | fail
  ·
   obtain rfl : i = n := by omega
   have hlt : decide ((i : Int) < (i : Int)) = false := by simp
   conv => whnf
   first | refine brF (by exact hlt) ?_ | fail
   conv => whnf
   refine ⟨[0, 1], ?_, rfl, rfl, ?_, rfl⟩
   ·
    (repeat' (fail)) <;> first | rfl | fail
   ·
    (repeat' (first | exact trivial | refine And.intro ?_ ?_ | fail)) <;> first | rfl | exact ren_eq (by first | (simp; done) | fail) (by rfl) | exact ren_m32 (by rfl) | fail
theorem f101 : SCall Tryz.prog 92 [] [] (.p 0 0) [some (.box (mach_n 1 2)), some (.row 29 (h0_n.map .u32)), some (.row 29 (k0_n.map .u32))] := by
 have q1 := f136 firstL 8 (by decide) (by decide) true
 have q2 := f136 consL 64 (by decide) (by decide) false
 have e1 : (firstL.take 8).map up = h0_n := rfl
 have e2 : (consL.take 64).map up = k0_n := rfl
 rw [e1] at q1
 rw [e2] at q2
 refine scall_of ttOk (by kernel_rfl : Tryz.prog.funcs[92]? = some Tryz.f92) rfl rfl rfl ?_
 try simp only [List.length_cons, List.length_nil, Nat.zero_add, Nat.reduceAdd]
 refine sw_ok ttOk mixed (by kernel_rfl) ?_
 conv => whnf
 refine ok1_callF [] [true] false (f137) rfl rfl ⟨⟨rfl, by rfl⟩, trivial, by rfl, by rfl, ?_⟩
 conv => whnf
 refine ok1_callF [0] [false, true] false (q1) rfl rfl ⟨⟨rfl, by rfl⟩, by (repeat' (first | exact trivial | refine And.intro ?_ ?_)) <;> first | rfl | fail, by rfl, by rfl, ?_⟩
 conv => whnf
 refine ok1_callF [] [true] false (f138) rfl rfl ⟨⟨rfl, by rfl⟩, trivial, by rfl, by rfl, ?_⟩
 conv => whnf
 repeat (first | (refine Exists.intro _ (And.intro rfl ?_); conv => whnf) | (refine And.intro (by omega) ?_; conv => whnf) | fail)
 refine ok1_callF [2] [false, true] false (q2) rfl rfl ⟨⟨rfl, by rfl⟩, by (repeat' (first | exact trivial | refine And.intro ?_ ?_)) <;> first | rfl | fail, by rfl, by rfl, ?_⟩
 conv => whnf
 repeat (first | (refine Exists.intro _ (And.intro rfl ?_); conv => whnf) | fail)
 refine ⟨[4, 1, 3], ?_, rfl, rfl, ?_, rfl⟩
 ·
  (repeat' (fail)) <;> first | rfl | fail
 ·
  (repeat' (first | exact trivial | refine And.intro ?_ ?_ | (refine wk_cons ?_ ?_))) <;> first | rfl | fail
end Go.Sh
namespace Go.Sh
open Go.Proofs
set_option maxHeartbeats 4000000
def wf_n (b : List UInt8) (t : Nat) : Nat → UInt32
 | 0 => 0
 | m + 1 => shl32 (wf_n b t m) 8 ||| (b.getD (4 * t + m) 0).toUInt32
theorem wf_s_n (b : List UInt8) (t m : Nat) : wf_n b t (m + 1) = shl32 (wf_n b t m) 8 ||| (b.getD (4 * t + m) 0).toUInt32 := rfl
theorem win_wf_n (b : List UInt8) (t : Nat) (ht : t < 16) : ∀ i, i ≤ 64 → (win_n b i).getD t 0 = wf_n b t (min 4 (i - 4 * t))
 | 0, _ => by
  have e : min 4 (0 - 4 * t) = 0 := by omega
  rw [e]
  show (List.replicate 64 (0 : UInt32)).getD t 0 = 0
  rw [List.getD_eq_getElem?_getD, List.getElem?_replicate_of_lt (by omega)]; rfl
 | i + 1, hi => by
  have ih := win_wf_n b t ht i (by omega)
  have hl := win_len_n b i
  show ((win_n b i).set (i / 4) (shl32 ((win_n b i).getD (i / 4) 0) 8 ||| (b.getD i 0).toUInt32)).getD t 0 = _
  by_cases h : i / 4 = t
  ·
   have hit : i / 4 < (win_n b i).length := by rw [hl]; omega
   rw [List.getD_eq_getElem?_getD, ← h, List.getElem?_set_self hit]
   show shl32 ((win_n b i).getD (i / 4) 0) 8 ||| (b.getD i 0).toUInt32 = _
   rw [h, ih, show min 4 (i - 4 * t) = i - 4 * t by omega, show min 4 (i + 1 - 4 * t) = (i - 4 * t) + 1 by omega, wf_s_n, show 4 * t + (i - 4 * t) = i by omega]
  ·
   rw [List.getD_eq_getElem?_getD, List.getElem?_set_ne h, ← List.getD_eq_getElem?_getD, ih]
   congr 1; omega
theorem win_word_n (b : List UInt8) (t : Nat) (ht : t < 16) : (win_n b 64).getD t 0 = wf_n b t 4 := by
 rw [win_wf_n b t ht 64 (Nat.le_refl _)]; congr 1; omega
theorem wf_lt_n (b : List UInt8) (t : Nat) : ∀ m, m ≤ 4 → (wf_n b t m).toNat < 2 ^ (8 * m)
 | 0, _ => by show 0 < 2 ^ 0; decide
 | m + 1, hm => by
  have ih := wf_lt_n b t m (by omega)
  have hb : (b.getD (4 * t + m) 0).toNat < 2 ^ 8 := UInt8.toNat_lt _
  rw [wf_s_n]
  have hs : (shl32 (wf_n b t m) 8).toNat < 2 ^ (8 * (m + 1)) := by
   unfold shl32
   rw [if_pos (by decide), UInt32.toNat_shiftLeft]
   show ((wf_n b t m).toNat <<< 8) % 2 ^ 32 < _
   refine Nat.lt_of_le_of_lt (Nat.mod_le _ _) ?_
   rw [Nat.shiftLeft_eq, show 8 * (m + 1) = 8 * m + 8 by omega, Nat.pow_add]
   exact Nat.mul_lt_mul_of_pos_right ih (by decide)
  rw [UInt32.toNat_or]
  refine Nat.or_lt_two_pow hs ?_
  refine Nat.lt_of_lt_of_le (m := 2 ^ 8) ?_ (Nat.pow_le_pow_right (by decide) (by omega))
  first | (rw [UInt8.toNat_toUInt32]; exact hb) | (rw [UInt8.toNat_toUInt64]; exact hb)
theorem wf_ref_n (b : List UInt8) (t m : Nat) (hm : m < 4) : UInt64.ofNat (Int.toNat 256) * emb_n (wf_n b t m) + (b.getD (4 * t + m) 0).toUInt64 = emb_n (wf_n b t (m + 1)) := by
 have hlt := wf_lt_n b t m (by omega)
 have hb : (b.getD (4 * t + m) 0).toNat < 2 ^ 8 := UInt8.toNat_lt _
 have hp : 2 ^ (8 * m) ≤ 2 ^ 24 := Nat.pow_le_pow_right (by decide) (by omega)
 have hx : (wf_n b t m).toNat < 2 ^ 24 := Nat.lt_of_lt_of_le hlt hp
 apply UInt64.toNat_inj.1
 have e0 : ∀ x : UInt32, (emb_n x).toNat = x.toNat := fun x => by first | exact emb_n_nat x | rfl
 have hsh : (shl32 (wf_n b t m) 8).toNat = (wf_n b t m).toNat * 2 ^ 8 := by
  unfold shl32
  rw [if_pos (by decide), UInt32.toNat_shiftLeft]
  show ((wf_n b t m).toNat <<< 8) % 2 ^ 32 = _
  rw [Nat.shiftLeft_eq, Nat.mod_eq_of_lt]
  exact Nat.lt_of_lt_of_le (Nat.mul_lt_mul_of_pos_right hx (by decide)) (by decide)
 rw [UInt64.toNat_add, UInt64.toNat_mul, e0, e0, wf_s_n, UInt32.toNat_or, hsh]
 have hbn : ((b.getD (4 * t + m) 0).toUInt32).toNat = (b.getD (4 * t + m) 0).toNat := by first | exact UInt8.toNat_toUInt32 _ | exact UInt8.toNat_toUInt64 _
 rw [hbn]
 try rw [UInt8.toNat_toUInt64]
 rw [← or_plus hb]
 have e256 : (UInt64.ofNat (Int.toNat 256)).toNat = 256 := by decide
 rw [e256]
 have hmul : (wf_n b t m).toNat * 2 ^ 8 + 2 ^ 8 ≤ 2 ^ 24 * 2 ^ 8 := by
  rw [← Nat.succ_mul]; exact Nat.mul_le_mul_right _ hx
 have hc : 2 ^ 24 * 2 ^ 8 ≤ 18446744073709551616 := by decide
 have h8 : (2 : Nat) ^ 8 = 256 := rfl
 rw [h8] at hmul hc hb ⊢
 rw [Nat.mod_eq_of_lt (a := 256 * (wf_n b t m).toNat) (by omega), Nat.mod_eq_of_lt (by omega)]
 omega
theorem wex_take_n (b : List UInt8) (t : Nat) (ht : t < 64 - 16) : (wex_n b (t + 1)).take (t + 1 + 16) = (wex_n b t).take (t + 16) ++ [(wex_n b (t + 1)).getD (t + 16) 0] := by
 have hl := wex_len_n b t
 have hl1 := wex_len_n b (t + 1)
 rw [show t + 1 + 16 = (t + 16) + 1 by omega, List.take_succ_eq_append_getElem (by omega)]
 congr 1
 ·
  show ((wex_n b t).set (t + 16) _).take (t + 16) = _
  rw [List.take_set_of_le (Nat.le_refl _)]
 ·
  rw [List.getD_eq_getElem?_getD, List.getElem?_eq_getElem (by omega)]; rfl
theorem wex_new_n (b : List UInt8) (t : Nat) (ht : t < 64 - 16) : (wex_n b (t + 1)).getD (t + 16) 0 = small_n ((wex_n b t).getD (t + 14) 0) 17 19 10 + (wex_n b t).getD (t + 9) 0 + small_n ((wex_n b t).getD (t + 1) 0) 7 18 3 + (wex_n b t).getD t 0 := by
 have hl := wex_len_n b t
 show ((wex_n b t).set (t + 16) _).getD (t + 16) 0 = _
 rw [List.getD_eq_getElem?_getD, List.getElem?_set_self (by omega)]; rfl
theorem wex_old_n (b : List UInt8) (t i : Nat) (ht : t ≤ 64 - 16) (hi : i < t + 16) : ((wex_n b t).take (t + 16)).getD i 0 = (wex_n b t).getD i 0 := by
 rw [List.getD_eq_getElem?_getD, List.getD_eq_getElem?_getD, List.getElem?_take_of_lt hi]
end Go.Sh
namespace Go.Sh
open Go.Proofs
set_option maxHeartbeats 4000000
set_option maxRecDepth 100000
theorem f145 : SCall Tryz.prog 83 [] [] (.sl 0 0 8 1 true) [some (.row 81 (firstL.map .u64))] := by
 refine scall_of ttOk (by kernel_rfl : Tryz.prog.funcs[83]? = some Tryz.f83) rfl rfl rfl ?_
 try simp only [List.length_cons, List.length_nil, Nat.zero_add, Nat.reduceAdd]
 refine sw_ok ttOk mixed (by kernel_rfl) ?_
 conv => whnf
 repeat (first | (refine Exists.intro _ (And.intro rfl ?_); conv => whnf) | fail)
 refine ⟨[0], ?_, rfl, rfl, ?_, rfl⟩
 ·
  (repeat' (fail)) <;> first | rfl | fail
 ·
  (repeat' (first | exact trivial | refine And.intro ?_ ?_ | (refine wk_cons ?_ ?_))) <;> first | rfl | fail
theorem f146 : SCall Tryz.prog 84 [] [] (.sl 0 0 80 1 true) [some (.row 81 (consL.map .u64))] := by
 refine scall_of ttOk (by kernel_rfl : Tryz.prog.funcs[84]? = some Tryz.f84) rfl rfl rfl ?_
 try simp only [List.length_cons, List.length_nil, Nat.zero_add, Nat.reduceAdd]
 refine sw_ok ttOk mixed (by kernel_rfl) ?_
 conv => whnf
 repeat (first | (refine Exists.intro _ (And.intro rfl ?_); conv => whnf) | fail)
 refine ⟨[0], ?_, rfl, rfl, ?_, rfl⟩
 ·
  (repeat' (fail)) <;> first | rfl | fail
 ·
  (repeat' (first | exact trivial | refine And.intro ?_ ?_ | (refine wk_cons ?_ ?_))) <;> first | rfl | fail
def down_n : UInt64 := 4294967296
def down_w : UInt64 := 1
theorem dv_n (x : UInt64) : x / down_n = emb_n (up x) := by
 have h := shr_step x 0
 apply UInt64.toNat_inj.1
 have hx := UInt64.toNat_lt x
 rw [UInt64.toNat_div, emb_n_nat]
 unfold up shr64
 rw [if_pos (by decide), UInt64.toNat_toUInt32, UInt64.toNat_shiftRight]
 show x.toNat / 4294967296 = (x.toNat >>> 32) % 2 ^ 32
 rw [Nat.shiftRight_eq_div_pow]
 show x.toNat / 4294967296 = x.toNat / 4294967296 % 4294967296
 omega
theorem h0e_n : emL_n h0_n = firstL.map (fun x => x / down_n) := by
 unfold emL_n h0_n
 rw [List.map_map]
 apply List.map_congr_left
 intro x _
 exact (dv_n x).symm
theorem k0e_n (t : Nat) (ht : t < 64) : consL.getD t 0 / down_n = emb_n (k0_n.getD t 0) := by
 rw [dv_n]; congr 1
 unfold k0_n
 have hl : t < consL.length := by show t < 80; omega
 rw [List.getD_eq_getElem?_getD, List.getD_eq_getElem?_getD, List.getElem?_map, List.getElem?_take_of_lt ht, List.getElem?_eq_getElem hl]; rfl
end Go.Sh
namespace Go.Sh
open Go.Proofs
set_option maxHeartbeats 4000000
set_option maxRecDepth 100000
theorem ix3 (a c m : Nat) (h : a + c + m < 1000000000000000000) : w64 (w64 ((a : Int) + (c : Int)) + (m : Int)) = ((a + (c + m) : Nat) : Int) := by
 rw [w64_of (n := (a : Int) + (c : Int)) (by omega) (by omega), w64_of (by omega) (by omega)]; omega
def vf : Nat → Bool
 | 0 => false
 | _ + 1 => true
theorem rwp (i : Nat) (h : i < 100000) : w64 ((i : Int) + 1) = ((i + 1 : Nat) : Int) := by simp only [w64_eq]; omega
theorem padw_len_n (T : List UInt8) : (padw_n T).length = 64 * ((padw_n T).length / 64) := by
 have h : (padw_n T).length = T.length + 1 + pz_n T.length + 8 := by
  unfold padw_n lenb_n
  rw [List.length_append, List.length_append, List.length_append, lset_len_n, List.length_replicate]; rfl
 have h2 := padz_yes_n T.length
 omega
theorem rws_s_n (b : List UInt8) (t : Nat) : (List.range (t + 1)).map (fun s => emb_n (wf_n b s 4)) = (List.range t).map (fun s => emb_n (wf_n b s 4)) ++ [emb_n (wf_n b t 4)] := by rw [List.range_succ, List.map_append]; rfl
theorem rws_16_n (b : List UInt8) : (List.range 16).map (fun s => emb_n (wf_n b s 4)) = emL_n ((wex_n b 0).take (0 + 16)) := by
 unfold emL_n
 have hl := win_len_n b 64
 apply List.ext_getElem
 ·
  simp [wex_len_n]
 ·
  intro i h1 h2
  have hi : i < 16 := by simpa using h1
  rw [List.getElem_map, List.getElem_map, List.getElem_range, List.getElem_take]
  have e := win_word_n b i hi
  rw [← e, List.getD_eq_getElem?_getD, List.getElem?_eq_getElem (by omega)]; rfl
theorem hfil_n : fil 8 8 (fun j => firstL.getD j 0 / down_n) (fun j => firstL.getD j 0) = emL_n h0_n := by
 rw [fil_full, h0e_n]; rfl
theorem hfil0_n : fil 8 0 (fun j => firstL.getD j 0 / down_n) (fun j => firstL.getD j 0) = firstL := rfl
theorem blks0_n (D : List UInt8) : blks_n k0_n h0_n D 0 = h0_n := rfl
theorem blkss_n (D : List UInt8) (j : Nat) : blks_n k0_n h0_n D (j + 1) = comp_n k0_n (blks_n k0_n h0_n D j) ((D.drop (64 * j)).take 64) := rfl
theorem wfz_n (b : List UInt8) (t : Nat) : emb_n (wf_n b t 0) = UInt64.ofNat (Int.toNat 0) := by unfold wf_n emb_n; decide
theorem emL_get_n (x : List UInt32) (i : Nat) (h : i < x.length) : (emL_n x).getD i 0 = emb_n (x.getD i 0) := by
 unfold emL_n
 rw [List.getD_eq_getElem?_getD, List.getD_eq_getElem?_getD, List.getElem?_map, List.getElem?_eq_getElem h]; rfl
theorem rout_z_n (H : List UInt32) : outl_n H (4 * 0) = [] := rfl
theorem rout_s_n (H : List UInt32) (i m : Nat) (hm : m < 4) : outl_n H (4 * i + (m + 1)) = outl_n H (4 * i + m) ++ [(shr32 (H.getD i 0) (8 * (4 - 1 - m))).toUInt8] := by
 show outl_n H (4 * i + m) ++ [(shr32 (H.getD ((4 * i + m) / 4) 0) (8 * (4 - 1 - (4 * i + m) % 4))).toUInt8] = _
 rw [show (4 * i + m) / 4 = i by omega, show 4 - 1 - (4 * i + m) % 4 = 4 - 1 - m by omega]
theorem rhash_n (T : List UInt8) : outl_n (blks_n k0_n h0_n (padw_n T) ((padw_n T).length / 64)) (4 * 8) = hash_n k0_n h0_n T := rfl
theorem emb_u8_n (x : UInt32) : (emb_n x).toUInt8 = x.toUInt8 := by
 apply UInt8.toNat_inj.1
 have e0 : (emb_n x).toNat = x.toNat := by exact emb_n_nat x
 rw [UInt64.toNat_toUInt8, e0]
 first | exact (UInt32.toNat_toUInt8 x).symm | fail
theorem tix_n : ∀ t : Nat, t < 16 → w64 (Int.tdiv (w64 ((t : Int) * 32)) 8) = ((4 * t : Nat) : Int) := by decide +kernel
section
attribute [local irreducible] padw_n blks_n hash_n outb_n outl_n wex_n wf_n rnds_n addw_n comp_n firstL consL down_n emb_n h0_n k0_n
theorem f133_n (T : List UInt8) (hT : T.length < 100000000000000) (f : Bool) : SCall Tryz.prog 74 [.sl 0 0 T.length 1 f, .i 32] [some (.ro (T.map .u8))] (.sl 1 0 32 1 false) [some (.ro (T.map .u8)), some (.row 5 ((hash_n k0_n h0_n T).map .u8))] := by
 have qp := f147 (64 - 32) (by decide)
 have hdn : UInt64.ofNat (2 ^ (64 - 32)) = down_n := by unfold down_n; rfl
 rw [hdn] at qp
 have hd1 : UInt64.ofNat (Int.toNat 1) = down_w := by unfold down_w; rfl
 have q8 := f148_n T hT f
 have hf8 := hfil_n
 have hf0 := hfil0_n
 have hfl : firstL.length = 8 := by unfold firstL; rfl
 have hcl : consL.length = 80 := by unfold consL; rfl
 refine scall_of ttOk (by kernel_rfl : Tryz.prog.funcs[74]? = some Tryz.f74) rfl rfl rfl ?_
 try simp only [List.length_cons, List.length_nil, Nat.zero_add, Nat.reduceAdd]
 refine sw_ok ttOk mixed (by kernel_rfl) ?_
 conv => whnf
 repeat (first | (refine brT rfl ?_; conv => whnf) | fail)
 refine ok1_callF [] [true] false (f145) rfl rfl ⟨⟨rfl, by rfl⟩, trivial, by first | simp [plainHf, plainB], by rfl, ?_⟩
 conv => whnf
 refine ok1_callF [] [true] false (f146) rfl rfl ⟨⟨rfl, by rfl⟩, trivial, by first | simp [plainHf, plainB], by rfl, ?_⟩
 conv => whnf
 refine ok1_callF [] [] true (qp) rfl rfl ⟨⟨rfl, by rfl⟩, trivial, by rfl, by rfl, ?_⟩
 conv => whnf
 repeat (first | (refine brF rfl ?_; conv => whnf) | fail)
 try rw [hd1]
 refine loop_rule ttOk mixed (by kernel_rfl) (ι := { i : Nat // i ≤ 8 }) (fun i => [(0, .sl 0 0 T.length 1 f), (1, .i 32), (5, .i 64), (6, .sl 1 0 8 1 true), (7, .sl 2 0 80 1 true), (8, .u64 down_n), (9, .i (i.1 : Int))]) (fun i => [some (.ro (T.map .u8)), some (.row 81 ((fil 8 i.1 (fun j => firstL.getD j 0 / down_n) (fun j => firstL.getD j 0)).map .u64)), some (.ro (consL.map .u64))]) (fun _ => 3) (fun i => 8 - i.1) ⟨0, by omega⟩ ?_ ?_
 ·
  dsimp only
  rw [hf0]
  refine Weak.sel [0, 1, 2] rfl rfl ?_ ?_ rfl rfl
  ·
   (repeat' (first | exact trivial | refine And.intro ?_ ?_ | fail)) <;> first | rfl | fail
  ·
   (repeat' (first | exact trivial | refine And.intro ?_ ?_ | fail)) <;> first | rfl | exact ren_eq (by first | (simp; done) | fail) (by rfl) | fail
 ·
  rintro ⟨i, hi⟩
  dsimp only
  have hfln := fil_len 8 i (fun j => firstL.getD j 0 / down_n) (fun j => firstL.getD j 0)
  by_cases hi8 : i < 8
  ·
   have hlt : decide ((i : Int) < 8) = true := by simp; omega
   have hp := rwp i (by omega)
   have hx : (fil 8 i (fun j => firstL.getD j 0 / down_n) (fun j => firstL.getD j 0)).getD i 0 / down_n = (fun j => firstL.getD j 0 / down_n) i := by
    rw [fil_getD hi8, if_neg (by omega)]
   have hs := fil_setx (f := fun j => firstL.getD j 0 / down_n) (g := fun j => firstL.getD j 0) hi8 hx
   have hdz : down_n ≠ 0 := by unfold down_n; decide
   conv => whnf
   first | refine brT (by exact hlt) ?_ | fail
   conv => whnf
   repeat (first | (refine Exists.intro _ (And.intro (sload_u64 (i := i) (by first | rfl | omega | fail) (by omega)) ?_); conv => whnf) | (refine Exists.intro _ (And.intro (idx_i (m := i) (by rfl)) ?_); conv => whnf) | (refine And.intro (by omega) ?_; conv => whnf) | fail)
   refine ⟨_, sarith_quo64b hdz, ?_⟩
   conv => whnf
   repeat (first | (refine Exists.intro _ (And.intro (sput_m64 (i := i) (by first | rfl | omega | fail)) ?_); conv => whnf) | (refine Exists.intro _ (And.intro (idx_i (m := i) (by rfl)) ?_); conv => whnf) | (refine And.intro (by omega) ?_; conv => whnf) | (refine And.intro ⟨by exact @rfl Nat _, by first | (simp only [hfln, ti5_sz, ti81_sz, List.length_map, List.length_set]; omega) | fail⟩ ?_; conv => whnf) | fail)
   refine ⟨⟨i + 1, by omega⟩, by simp only; omega, ?_⟩
   dsimp only
   rw [← hs]
   refine Weak.sel [0, 1, 2] rfl rfl ?_ ?_ rfl rfl
   ·
    (repeat' (first | exact trivial | refine And.intro ?_ ?_ | fail)) <;> first | exact wk_i (by first | exact hp | exact hp.symm | fail) | rfl | fail
   ·
    (repeat' (first | exact trivial | refine And.intro ?_ ?_ | fail)) <;> first | rfl | exact ren_eq (by first | (simp; done) | fail) (by rfl) | exact ren_m64 (by rfl) | fail
  ·
   obtain rfl : i = 8 := by omega
   rw [hf8]
   conv => whnf
   first | refine brF (by rfl) ?_ | fail
   conv => whnf
   refine ok1_callF [0] [false, true] false (q8) rfl rfl ⟨⟨rfl, by rfl⟩, by (repeat' (first | exact trivial | refine And.intro ?_ ?_)) <;> first | exact ren_eq (by first | (simp; done) | fail) (by rfl) | fail, by first | simp [plainHf, plainB], by rfl, ?_⟩
   conv => whnf
   have hDl := padw_len_n T
   obtain ⟨D, hD⟩ : ∃ D, D = padw_n T := ⟨_, rfl⟩
   rw [← hD] at hDl ⊢
   have hDb : D.length < 200000000000000 := by
    rw [hD]
    have h : (padw_n T).length = T.length + 1 + pz_n T.length + 8 := by
     unfold padw_n lenb_n
     rw [List.length_append, List.length_append, List.length_append, lset_len_n, List.length_replicate]; rfl
    have hpl : pz_n T.length < 64 := by unfold pz_n; exact Nat.mod_lt _ (by decide)
    omega
   refine loop_rule ttOk mixed (by kernel_rfl) (ι := { j : Nat // 64 * j ≤ D.length }) (fun j => [(1, .i 32), (5, .i 64), (6, .sl 1 0 8 1 true), (7, .sl 2 0 80 1 true), (8, .u64 down_n), (10, .sl 3 0 D.length 1 false), (11, .i ((64 * j.1 : Nat) : Int))]) (fun j => [some (.ro (T.map .u8)), some (.row 81 ((emL_n (blks_n k0_n h0_n D j.1)).map .u64)), some (.ro (consL.map .u64)), some (.ro (D.map .u8))]) (fun _ => 4) (fun j => D.length - 64 * j.1) ⟨0, by omega⟩ ?_ ?_
   ·
    have hz := blks0_n D
    dsimp only
    rw [hz]
    refine Weak.sel [0, 1, 2, 3] rfl rfl ?_ ?_ rfl rfl
    ·
     (repeat' (first | exact trivial | refine And.intro ?_ ?_ | fail)) <;> first | rfl | fail
    ·
     (repeat' (first | exact trivial | refine And.intro ?_ ?_ | fail)) <;> first | rfl | exact ren_eq (by first | (simp; done) | fail) (by rfl) | fail
   ·
    rintro ⟨j, hj⟩
    dsimp only
    have hbs := blkss_n D j
    have hhl := blks_len_n k0_n h0_n_len D j
    obtain ⟨h, hh⟩ : ∃ h, h = blks_n k0_n h0_n D j := ⟨_, rfl⟩
    rw [← hh] at hbs hhl ⊢
    by_cases hc : 64 * (j + 1) ≤ D.length
    ·
     have hlt : decide (((64 * j : Nat) : Int) < (D.length : Int)) = true := by simp; omega
     obtain ⟨b, hb⟩ : ∃ b, b = (D.drop (64 * j)).take 64 := ⟨_, rfl⟩
     rw [← hb] at hbs
     have hbg : ∀ i, i < 64 → D.getD (64 * j + i) 0 = b.getD i 0 := fun i hi => by
      rw [hb, List.getD_eq_getElem?_getD, List.getD_eq_getElem?_getD, List.getElem?_take_of_lt hi, List.getElem?_drop]
     have hbl : b.length = 64 := by rw [hb, List.length_take, List.length_drop]; omega
     conv => whnf
     first | refine brT (by exact hlt) ?_ | fail
     conv => whnf
     refine SWp.weak (Weak.virt 12 81 1 rfl) ?_
     refine loop_rule ttOk mixed (by kernel_rfl) (ι := { t : Nat // t ≤ 16 }) (fun t => [(1, .i 32), (5, .i 64), (6, .sl 1 0 8 1 true), (7, .sl 2 0 80 1 true), (8, .u64 down_n), (10, .sl 3 0 D.length 1 false), (11, .i ((64 * j : Nat) : Int)), (12, .sl 4 0 t.1 1 false), (13, .i (t.1 : Int))]) (fun t => [some (.ro (T.map .u8)), some (.row 81 ((emL_n h).map .u64)), some (.ro (consL.map .u64)), some (.ro (D.map .u8)), some (.row 81 (((List.range t.1).map (fun s => emb_n (wf_n b s 4))).map .u64))]) (fun _ => 5) (fun t => 16 - t.1) ⟨0, by omega⟩ ?_ ?_
     ·
      refine Weak.sel [0, 1, 2, 3, 4] rfl rfl ?_ ?_ rfl rfl
      ·
       (repeat' (first | exact trivial | refine And.intro ?_ ?_ | fail)) <;> first | rfl | fail
      ·
       (repeat' (first | exact trivial | refine And.intro ?_ ?_ | fail)) <;> first | rfl | exact ren_eq (by first | (simp; done) | fail) (by rfl) | fail
     ·
      rintro ⟨t, ht⟩
      dsimp only
      have hws := rws_s_n b t
      by_cases ht2 : t < 16
      ·
       have hlt2 : decide ((t : Int) < 16) = true := by simp; omega
       have hp := rwp t (by omega)
       obtain ⟨Y, hY⟩ : ∃ Y, Y = (List.range t).map (fun s => emb_n (wf_n b s 4)) := ⟨_, rfl⟩
       have hYl : Y.length = t := by rw [hY]; simp
       rw [← hY] at hws ⊢
       conv => whnf
       first | refine brT (by exact hlt2) ?_ | fail
       conv => whnf
       refine loop_rule ttOk mixed (by kernel_rfl) (ι := { m : Nat // m ≤ 4 }) (fun m => [(1, .i 32), (5, .i 64), (6, .sl 1 0 8 1 true), (7, .sl 2 0 80 1 true), (8, .u64 down_n), (10, .sl 3 0 D.length 1 false), (11, .i ((64 * j : Nat) : Int)), (12, .sl 4 0 t 1 false), (13, .i (t : Int)), (14, .u64 (emb_n (wf_n b t m.1))), (15, .i (m.1 : Int))]) (fun m => [some (.ro (T.map .u8)), some (.row 81 ((emL_n h).map .u64)), some (.ro (consL.map .u64)), some (.ro (D.map .u8)), some (.row 81 (Y.map .u64))]) (fun _ => 5) (fun m => 4 - m.1) ⟨0, by omega⟩ ?_ ?_
       ·
        have hz := wfz_n b t
        dsimp only
        rw [hz]
        refine Weak.sel [0, 1, 2, 3, 4] rfl rfl ?_ ?_ rfl rfl
        ·
         (repeat' (first | exact trivial | refine And.intro ?_ ?_ | fail)) <;> first | rfl | fail
        ·
         (repeat' (first | exact trivial | refine And.intro ?_ ?_ | fail)) <;> first | rfl | exact ren_eq (by first | (simp; done) | fail) (by rfl) | fail
       ·
        rintro ⟨m, hm⟩
        dsimp only
        by_cases hm2 : m < 4
        ·
         have hlt3 : decide ((m : Int) < w64 (Int.tdiv 32 8)) = true := by
          rw [show w64 (Int.tdiv 32 8) = 4 from by decide]; simp; omega
         have hpm := rwp m (by omega)
         have hti : w64 (Int.tdiv (w64 ((t : Int) * 32)) 8) = ((4 * t : Nat) : Int) := tix_n t ht2
         have hix : w64 (w64 (((64 * j : Nat) : Int) + w64 (Int.tdiv (w64 ((t : Int) * 32)) 8)) + (m : Int)) = ((64 * j + (4 * t + m) : Nat) : Int) := by
          rw [hti]; exact ix3 _ _ _ (by omega)
         have hwr := wf_ref_n b t m hm2
         rw [← hbg (4 * t + m) (by omega)] at hwr
         have hin : 64 * j + (4 * t + m) < D.length := by omega
         conv => whnf
         repeat (first | (refine Exists.intro _ (And.intro rfl ?_); conv => whnf) | fail)
         first | refine brT (by exact hlt3) ?_ | fail
         conv => whnf
         repeat (first | (refine Exists.intro _ (And.intro (sload_u8 (i := 64 * j + (4 * t + m)) (by first | rfl | omega | fail) (by omega)) ?_); conv => whnf) | (refine Exists.intro _ (And.intro (idx_i (m := 64 * j + (4 * t + m)) (by first | rfl | omega | fail)) ?_); conv => whnf) | (refine Exists.intro _ (And.intro rfl ?_); conv => whnf) | (refine And.intro (by omega) ?_; conv => whnf) | fail)
         rw [hwr]
         refine ⟨⟨m + 1, by omega⟩, by simp only; omega, ?_⟩
         dsimp only
         refine Weak.sel [0, 1, 2, 3, 4] rfl rfl ?_ ?_ rfl rfl
         ·
          (repeat' (first | exact trivial | refine And.intro ?_ ?_ | fail)) <;> first | exact wk_i (by first | exact hpm | exact hpm.symm | fail) | rfl | fail
         ·
          (repeat' (first | exact trivial | refine And.intro ?_ ?_ | fail)) <;> first | rfl | exact ren_eq (by first | (simp; done) | fail) (by rfl) | fail
        ·
         obtain rfl : m = 4 := by omega
         have hlt3 : decide ((4 : Int) < w64 (Int.tdiv 32 8)) = false := by decide
         obtain ⟨x, hx⟩ : ∃ x, x = emb_n (wf_n b t 4) := ⟨_, rfl⟩
         rw [← hx] at hws ⊢
         have hap : (Y ++ [x]).map SV.u64 = List.take (t * 1) (List.drop 0 (Y.map SV.u64)) ++ List.take (1 * 1) (List.drop 0 [SV.u64 x]) := by
          rw [List.drop_zero, List.take_of_length_le (l := Y.map SV.u64) (by rw [List.length_map]; omega), List.map_append]; rfl
         conv => whnf
         repeat (first | (refine brF rfl ?_; conv => whnf) | (refine Exists.intro _ (And.intro rfl ?_); conv => whnf) | fail)
         refine And.intro ⟨by show 0 + t * 1 ≤ (Y.map SV.u64).length; rw [List.length_map]; omega, Nat.le_refl 1, by show (t + 1) * 8 ≤ _; omega⟩ ?_
         conv => whnf
         refine ⟨⟨t + 1, by omega⟩, by simp only; omega, ?_⟩
         dsimp only
         rw [hws]
         refine Weak.sel [0, 1, 2, 3, 6] rfl rfl ?_ ?_ rfl rfl
         ·
          (repeat' (first | exact trivial | refine And.intro ?_ ?_ | fail)) <;> first | exact wk_i (by first | exact hp | exact hp.symm | fail) | rfl | fail
         ·
          (repeat' (first | exact trivial | exact ren_eq (plainL_u64 _) hap | refine And.intro ?_ ?_ | fail)) <;> first | rfl | exact ren_eq (by first | (simp; done) | fail) (by rfl) | fail
      ·
       obtain rfl : t = 16 := by omega
       rw [rws_16_n]
       conv => whnf
       first | refine brF (by rfl) ?_ | fail
       conv => whnf
       refine loop_rule ttOk mixed (by kernel_rfl) (ι := { t : Nat // t ≤ 64 - 16 }) (fun t => [(1, .i 32), (5, .i 64), (6, .sl 1 0 8 1 true), (7, .sl 2 0 80 1 true), (8, .u64 down_n), (10, .sl 3 0 D.length 1 false), (11, .i ((64 * j : Nat) : Int)), (12, .sl 4 0 (t.1 + 16) 1 false), (16, .i ((t.1 + 16 : Nat) : Int))]) (fun t => [some (.ro (T.map .u8)), some (.row 81 ((emL_n h).map .u64)), some (.ro (consL.map .u64)), some (.ro (D.map .u8)), some (.row 81 ((emL_n ((wex_n b t.1).take (t.1 + 16))).map .u64))]) (fun _ => 5) (fun t => 64 - t.1) ⟨0, by omega⟩ ?_ ?_
       ·
        refine Weak.sel [0, 1, 2, 3, 4] rfl rfl ?_ ?_ rfl rfl
        ·
         (repeat' (first | exact trivial | refine And.intro ?_ ?_ | fail)) <;> first | rfl | fail
        ·
         (repeat' (first | exact trivial | refine And.intro ?_ ?_ | fail)) <;> first | rfl | exact ren_eq (by first | (simp; done) | fail) (by rfl) | fail
       ·
        rintro ⟨t, ht3⟩
        dsimp only
        have hwl := wex_len_n b t
        by_cases ht4 : t < 64 - 16
        ·
         have hlt : decide (((t + 16 : Nat) : Int) < 64) = true := by simp; omega
         have h14 : w64 (((t + 16 : Nat) : Int) - 2) = ((t + 14 : Nat) : Int) := wm16 t 2 (by omega) (by omega)
         have h9 : w64 (((t + 16 : Nat) : Int) - 7) = ((t + 9 : Nat) : Int) := wm16 t 7 (by omega) (by omega)
         have h1 : w64 (((t + 16 : Nat) : Int) - 15) = ((t + 1 : Nat) : Int) := wm16 t 15 (by omega) (by omega)
         have h0 : w64 (((t + 16 : Nat) : Int) - 16) = ((t : Nat) : Int) := wm16 t 16 (by omega) (by omega)
         have hp : w64 (((t + 16 : Nat) : Int) + 1) = ((t + 1 + 16 : Nat) : Int) := by simp only [w64_eq]; omega
         have hnew := wex_new_n b t ht4
         have htk := wex_take_n b t ht4
         have hgt : ∀ i, i < t + 16 → (emL_n ((wex_n b t).take (t + 16))).getD i 0 = emb_n ((wex_n b t).getD i 0) := fun i hi => by
          rw [emL_get_n _ i (by rw [List.length_take, hwl]; omega), wex_old_n b t i (by omega) hi]
         have g14 := hgt (t + 14) (by omega)
         have g9 := hgt (t + 9) (by omega)
         have g1 := hgt (t + 1) (by omega)
         have g0 := hgt t (by omega)
         obtain ⟨a14, ha14⟩ : ∃ a, a = (wex_n b t).getD (t + 14) 0 := ⟨_, rfl⟩
         obtain ⟨a9, ha9⟩ : ∃ a, a = (wex_n b t).getD (t + 9) 0 := ⟨_, rfl⟩
         obtain ⟨a1, ha1⟩ : ∃ a, a = (wex_n b t).getD (t + 1) 0 := ⟨_, rfl⟩
         obtain ⟨a0, ha0⟩ : ∃ a, a = (wex_n b t).getD t 0 := ⟨_, rfl⟩
         rw [← ha14] at g14 hnew
         rw [← ha9] at g9 hnew
         rw [← ha1] at g1 hnew
         rw [← ha0] at g0 hnew
         obtain ⟨Y, hY⟩ : ∃ Y, Y = emL_n ((wex_n b t).take (t + 16)) := ⟨_, rfl⟩
         have hYl : Y.length = t + 16 := by rw [hY, emL_len_n, List.length_take, hwl]; omega
         obtain ⟨v, hv⟩ : ∃ v, v = (wex_n b (t + 1)).getD (t + 16) 0 := ⟨_, rfl⟩
         have hYs : emL_n ((wex_n b (t + 1)).take (t + 1 + 16)) = Y ++ [emb_n v] := by
          rw [htk, hY, ← hv]; unfold emL_n; rw [List.map_append]; rfl
         rw [← hv] at hnew
         rw [← hY] at g14 g9 g1 g0 ⊢
         have q3 := f150_n_3 a14
         have q2 := f150_n_2 a1
         obtain ⟨s3, hs3⟩ : ∃ s, s = small_n a14 17 19 10 := ⟨_, rfl⟩
         obtain ⟨s2, hs2⟩ : ∃ s, s = small_n a1 7 18 3 := ⟨_, rfl⟩
         rw [← hs3] at q3 hnew
         rw [← hs2] at q2 hnew
         have qc := f149_n (emb_n s3 + emb_n a9 + emb_n s2 + emb_n a0)
         rw [sum4_n, ← hnew] at qc
         obtain ⟨x, hx⟩ : ∃ x, x = emb_n v := ⟨_, rfl⟩
         rw [← hx] at qc hYs
         have hap : (Y ++ [x]).map SV.u64 = List.take ((t + 16) * 1) (List.drop 0 (Y.map SV.u64)) ++ List.take (1 * 1) (List.drop 0 [SV.u64 x]) := by
          rw [List.drop_zero, List.take_of_length_le (l := Y.map SV.u64) (by rw [List.length_map]; omega), List.map_append]; rfl
         clear hs3 hs2 hx hv hnew ha14 ha9 ha1 ha0 hgt htk
         conv => whnf
         first | refine brT (by exact hlt) ?_ | fail
         conv => whnf
         repeat (first | (refine Exists.intro _ (And.intro (sload_u64 (i := t + 14) (by first | rfl | omega | fail) (by omega)) ?_); conv => whnf) | (refine Exists.intro _ (And.intro (idx_i (m := t + 14) (by first | rfl | omega | fail)) ?_); conv => whnf) | (refine And.intro (by omega) ?_; conv => whnf) | fail)
         rw [g14]
         refine ok1_callF [] [] true (q3) rfl rfl ⟨⟨rfl, by rfl⟩, trivial, by rfl, by rfl, ?_⟩
         conv => whnf
         repeat (first | (refine Exists.intro _ (And.intro (sload_u64 (i := t + 9) (by first | rfl | omega | fail) (by omega)) ?_); conv => whnf) | (refine Exists.intro _ (And.intro (idx_i (m := t + 9) (by first | rfl | omega | fail)) ?_); conv => whnf) | (refine Exists.intro _ (And.intro (sload_u64 (i := t + 1) (by first | rfl | omega | fail) (by omega)) ?_); conv => whnf) | (refine Exists.intro _ (And.intro (idx_i (m := t + 1) (by first | rfl | omega | fail)) ?_); conv => whnf) | (refine And.intro (by omega) ?_; conv => whnf) | fail)
         rw [g9, g1]
         refine ok1_callF [] [] true (q2) rfl rfl ⟨⟨rfl, by rfl⟩, trivial, by rfl, by rfl, ?_⟩
         conv => whnf
         repeat (first | (refine Exists.intro _ (And.intro (sload_u64 (i := t) (by first | rfl | omega | fail) (by omega)) ?_); conv => whnf) | (refine Exists.intro _ (And.intro (idx_i (m := t) (by first | rfl | omega | fail)) ?_); conv => whnf) | (refine And.intro (by omega) ?_; conv => whnf) | fail)
         rw [g0]
         refine ok1_callF [] [] true (qc) rfl rfl ⟨⟨rfl, by rfl⟩, trivial, by rfl, by rfl, ?_⟩
         conv => whnf
         repeat (first | (refine Exists.intro _ (And.intro rfl ?_); conv => whnf) | fail)
         refine And.intro ⟨by show 0 + (t + 16) * 1 ≤ (Y.map SV.u64).length; rw [List.length_map]; omega, Nat.le_refl 1, by show (t + 16 + 1) * 8 ≤ _; omega⟩ ?_
         conv => whnf
         repeat (first | (refine And.intro (by kernel_rfl) ?_; conv => whnf) | fail)
         refine ⟨⟨t + 1, by omega⟩, by simp only; omega, ?_⟩
         dsimp only
         rw [hYs]
         refine Weak.sel [0, 1, 2, 3, 6] rfl rfl ?_ ?_ rfl rfl
         ·
          (repeat' (first | exact trivial | refine And.intro ?_ ?_ | fail)) <;> first | exact wk_i (by first | exact hp | exact hp.symm | fail) | rfl | fail
         ·
          (repeat' (first | exact trivial | exact ren_eq (plainL_u64 _) hap | refine And.intro ?_ ?_ | fail)) <;> first | rfl | exact ren_eq (by first | (simp; done) | fail) (by rfl) | fail
        ·
         obtain rfl : t = 64 - 16 := by omega
         have hfull : (wex_n b (64 - 16)).take (64 - 16 + 16) = wex_n b (64 - 16) := List.take_of_length_le (by omega)
         rw [hfull]
         have hel := emL_len_n h
         rw [hhl] at hel
         have hvc : List.take (0 * ti81.sz) (List.drop 0 (reps 0 (SV.u64 0).cells)) ++ List.take (8 * ti81.sz) (List.drop 0 (SB.row 81 ((emL_n h).map SV.u64)).cells) = (emL_n h).map SV.u64 := by
          show ([] : List SV) ++ List.take (8 * 1) ((emL_n h).map SV.u64) = _
          rw [List.nil_append, List.take_of_length_le (by rw [List.length_map]; omega)]
         conv => whnf
         first | refine brF (by rfl) ?_ | fail
         conv => whnf
         repeat (first | (refine Exists.intro _ (And.intro rfl ?_); conv => whnf) | (refine And.intro ⟨by omega, by first | (simp [hel]; done) | fail, by exact Nat.le_of_ble_eq_true rfl⟩ ?_; conv => whnf) | fail)
         rw [hvc]
         refine loop_rule ttOk mixed (by kernel_rfl) (ι := { t : Nat // t ≤ 64 }) (fun t => [(1, .i 32), (5, .i 64), (6, .sl 1 0 8 1 true), (7, .sl 2 0 80 1 true), (8, .u64 down_n), (10, .sl 3 0 D.length 1 false), (11, .i ((64 * j : Nat) : Int)), (12, .sl 4 0 64 1 false), (17, .sl 5 0 8 1 (vf t.1)), (18, .i (t.1 : Int))]) (fun t => [some (.ro (T.map .u8)), some (.row 81 ((emL_n h).map .u64)), some (.ro (consL.map .u64)), some (.ro (D.map .u8)), some (.row 81 ((emL_n (wex_n b (64 - 16))).map .u64)), some (.row 81 ((emL_n (rnds_n k0_n h b t.1)).map .u64))]) (fun _ => 6) (fun t => 64 - t.1) ⟨0, by omega⟩ ?_ ?_
         ·
          have hz := rnds_n_z k0_n h b
          dsimp only
          rw [hz]
          refine Weak.sel [0, 1, 2, 3, 4, 6] rfl rfl ?_ ?_ rfl rfl
          ·
           (repeat' (first | exact trivial | refine And.intro ?_ ?_ | fail)) <;> first | rfl | fail
          ·
           (repeat' (first | exact trivial | refine And.intro ?_ ?_ | fail)) <;> first | rfl | exact ren_eq (by first | (simp; done) | fail) (by rfl) | fail
         ·
          rintro ⟨t, ht5⟩
          dsimp only
          have hrl := rnds_len_n (k := k0_n) hhl b t
          have hrs := rnds_n_s k0_n h b t
          by_cases ht6 : t < 64
          ·
           have hlt : decide ((t : Int) < 64) = true := by simp; omega
           have hp := rwp t (by omega)
           have hke := k0e_n t (by omega)
           have hwe := emL_get_n (wex_n b (64 - 16)) t (by omega)
           have hdz : down_n ≠ 0 := by unfold down_n; decide
           have hYl := emL_len_n (wex_n b (64 - 16))
           rw [hwl] at hYl
           have q := f151_n (rnds_n k0_n h b t) hrl (k0_n.getD t 0) ((wex_n b (64 - 16)).getD t 0) (vf t)
           rw [← hrs] at q
           conv => whnf
           first | refine brT (by exact hlt) ?_ | fail
           conv => whnf
           repeat (first | (refine Exists.intro _ (And.intro (sload_u64 (i := t) (by first | rfl | omega | fail) (by omega)) ?_); conv => whnf) | (refine Exists.intro _ (And.intro (idx_i (m := t) (by rfl)) ?_); conv => whnf) | (refine And.intro (by omega) ?_; conv => whnf) | fail)
           refine ⟨_, sarith_quo64b hdz, ?_⟩
           conv => whnf
           repeat (first | (refine Exists.intro _ (And.intro (sload_u64 (i := t) (by first | rfl | omega | fail) (by omega)) ?_); conv => whnf) | (refine Exists.intro _ (And.intro (idx_i (m := t) (by rfl)) ?_); conv => whnf) | (refine And.intro (by omega) ?_; conv => whnf) | fail)
           rw [hke, hwe]
           refine ok1_callF [5] [false, true] false (q) rfl rfl ⟨⟨rfl, by rfl⟩, by (repeat' (first | exact trivial | refine And.intro ?_ ?_)) <;> first | exact ren_eq (by first | (simp; done) | fail) (by rfl) | fail, by first | simp [plainHf, plainB], by rfl, ?_⟩
           conv => whnf
           repeat (first | (refine And.intro (by kernel_rfl) ?_; conv => whnf) | fail)
           refine ⟨⟨t + 1, by omega⟩, by simp only; omega, ?_⟩
           dsimp only
           refine Weak.sel [0, 1, 2, 3, 4, 6] rfl rfl ?_ ?_ rfl rfl
           ·
            (repeat' (first | exact trivial | refine And.intro ?_ ?_ | fail)) <;> first | exact wk_i (by first | exact hp | exact hp.symm | fail) | rfl | fail
           ·
            (repeat' (first | exact trivial | refine And.intro ?_ ?_ | fail)) <;> first | rfl | exact ren_eq (by first | (simp; done) | fail) (by rfl) | fail
          ·
           obtain rfl : t = 64 := by omega
           obtain ⟨X, hX⟩ : ∃ X, X = rnds_n k0_n h b 64 := ⟨_, rfl⟩
           rw [← hX] at hrl ⊢
           conv => whnf
           first | refine brF (by rfl) ?_ | fail
           conv => whnf
           refine loop_rule ttOk mixed (by kernel_rfl) (ι := { i : Nat // i ≤ 8 }) (fun i => [(1, .i 32), (5, .i 64), (6, .sl 1 0 8 1 true), (7, .sl 2 0 80 1 true), (8, .u64 down_n), (10, .sl 3 0 D.length 1 false), (11, .i ((64 * j : Nat) : Int)), (17, .sl 4 0 8 1 true), (19, .i (i.1 : Int))]) (fun i => [some (.ro (T.map .u8)), some (.row 81 ((emL_n (addw_n h X i.1)).map .u64)), some (.ro (consL.map .u64)), some (.ro (D.map .u8)), some (.ro ((emL_n X).map .u64))]) (fun _ => 5) (fun i => 8 - i.1) ⟨0, by omega⟩ ?_ ?_
           ·
            have hz := addw_n_z h X
            dsimp only
            rw [hz]
            refine Weak.sel [0, 1, 2, 3, 5] rfl rfl ?_ ?_ rfl rfl
            ·
             (repeat' (first | exact trivial | refine And.intro ?_ ?_ | fail)) <;> first | rfl | fail
            ·
             (repeat' (first | exact trivial | refine And.intro ?_ ?_ | fail)) <;> first | rfl | exact ren_eq (by first | (simp; done) | fail) (by rfl) | fail
           ·
            rintro ⟨i, hi7⟩
            dsimp only
            have hal := addw_len_n hhl X i
            have hall := emL_len_n (addw_n h X i)
            rw [hal] at hall
            have hXl := emL_len_n X
            rw [hrl] at hXl
            have has := addw_n_s h X i
            by_cases hi6 : i < 8
            ·
             have hlt : decide ((i : Int) < 8) = true := by simp; omega
             have hp := rwp i (by omega)
             have ga := emL_get_n (addw_n h X i) i (by omega)
             have gx := emL_get_n X i (by omega)
             have qc := f149_n (emb_n ((addw_n h X i).getD i 0) + emb_n (X.getD i 0))
             rw [sum2_n] at qc
             have hse : (emL_n (addw_n h X i)).set i (emb_n ((addw_n h X i).getD i 0 + X.getD i 0)) = emL_n (addw_n h X (i + 1)) := by
              rw [has]; unfold emL_n; rw [List.map_set]
             conv => whnf
             first | refine brT (by exact hlt) ?_ | fail
             conv => whnf
             repeat (first | (refine Exists.intro _ (And.intro (sload_u64 (i := i) (by first | rfl | omega | fail) (by omega)) ?_); conv => whnf) | (refine Exists.intro _ (And.intro (idx_i (m := i) (by rfl)) ?_); conv => whnf) | (refine And.intro (by omega) ?_; conv => whnf) | fail)
             rw [ga, gx]
             refine ok1_callF [] [] true (qc) rfl rfl ⟨⟨rfl, by rfl⟩, trivial, by rfl, by rfl, ?_⟩
             conv => whnf
             repeat (first | (refine Exists.intro _ (And.intro (sput_m64 (i := i) (by first | rfl | omega | fail)) ?_); conv => whnf) | (refine Exists.intro _ (And.intro (idx_i (m := i) (by rfl)) ?_); conv => whnf) | (refine And.intro (by first | omega | (simp; omega) | fail) ?_; conv => whnf) | (refine And.intro (by kernel_rfl) ?_; conv => whnf) | fail)
             rw [hse]
             refine ⟨⟨i + 1, by omega⟩, by simp only; omega, ?_⟩
             dsimp only
             refine Weak.sel [0, 1, 2, 3, 4] rfl rfl ?_ ?_ rfl rfl
             ·
              (repeat' (first | exact trivial | refine And.intro ?_ ?_ | fail)) <;> first | exact wk_i (by first | exact hp | exact hp.symm | fail) | rfl | fail
             ·
              (repeat' (first | exact trivial | refine And.intro ?_ ?_ | fail)) <;> first | rfl | exact ren_eq (by first | (simp; done) | fail) (by rfl) | fail
            ·
             obtain rfl : i = 8 := by omega
             have hnx : w64 (((64 * j : Nat) : Int) + w64 (2 * 32)) = ((64 * (j + 1) : Nat) : Int) := by
              rw [show w64 (2 * 32) = ((64 : Nat) : Int) from by decide, w64_of (by omega) (by omega)]; omega
             have hcs : addw_n h X 8 = blks_n k0_n h0_n D (j + 1) := by rw [hbs, comp_n_e, hX]
             rw [hcs]
             conv => whnf
             first | refine brF (by rfl) ?_ | fail
             conv => whnf
             refine ⟨⟨j + 1, hc⟩, by simp only; omega, ?_⟩
             dsimp only
             refine Weak.sel [0, 1, 2, 3] rfl rfl ?_ ?_ rfl rfl
             ·
              (repeat' (first | exact trivial | refine And.intro ?_ ?_ | fail)) <;> first | exact wk_i (by first | exact hnx | exact hnx.symm | fail) | rfl | fail
             ·
              (repeat' (first | exact trivial | refine And.intro ?_ ?_ | fail)) <;> first | rfl | exact ren_eq (by first | (simp; done) | fail) (by rfl) | fail
    ·
     obtain rfl : j = D.length / 64 := by omega
     have hge : decide (((64 * (D.length / 64) : Nat) : Int) < (D.length : Int)) = false := by simp; omega
     have hfin : outl_n h (4 * 8) = hash_n k0_n h0_n T := by rw [hh, hD]; exact rhash_n T
     rw [← hfin]
     have hel := emL_len_n h
     rw [hhl] at hel
     conv => whnf
     first | refine brF (by exact hge) ?_ | fail
     conv => whnf
     refine SWp.weak (Weak.virt 20 5 1 rfl) ?_
     refine loop_rule ttOk mixed (by kernel_rfl) (ι := { i : Nat // i ≤ 8 }) (fun i => [(1, .i 32), (6, .sl 1 0 8 1 true), (20, .sl 4 0 (4 * i.1) 1 false), (21, .i (i.1 : Int))]) (fun i => [some (.ro (T.map .u8)), some (.row 81 ((emL_n h).map .u64)), some (.ro (consL.map .u64)), some (.ro (D.map .u8)), some (.row 5 ((outl_n h (4 * i.1)).map .u8))]) (fun _ => 5) (fun i => 8 - i.1) ⟨0, by omega⟩ ?_ ?_
     ·
      have hz := rout_z_n h
      dsimp only
      rw [hz]
      refine Weak.sel [0, 1, 2, 3, 4] rfl rfl ?_ ?_ rfl rfl
      ·
       (repeat' (first | exact trivial | refine And.intro ?_ ?_ | fail)) <;> first | rfl | fail
      ·
       (repeat' (first | exact trivial | refine And.intro ?_ ?_ | fail)) <;> first | rfl | exact ren_eq (by first | (simp; done) | fail) (by rfl) | fail
     ·
      rintro ⟨i, hi7⟩
      dsimp only
      by_cases hi6 : i < 8
      ·
       have hlt : decide ((i : Int) < 8) = true := by simp; omega
       have hp := rwp i (by omega)
       conv => whnf
       first | refine brT (by exact hlt) ?_ | fail
       conv => whnf
       repeat (first | (refine Exists.intro _ (And.intro rfl ?_); conv => whnf) | fail)
       refine loop_rule ttOk mixed (by kernel_rfl) (ι := { m : Nat // m ≤ 4 }) (fun m => [(1, .i 32), (6, .sl 1 0 8 1 true), (20, .sl 4 0 (4 * i + m.1) 1 false), (21, .i (i : Int)), (22, .i (4 - 1 - (m.1 : Int)))]) (fun m => [some (.ro (T.map .u8)), some (.row 81 ((emL_n h).map .u64)), some (.ro (consL.map .u64)), some (.ro (D.map .u8)), some (.row 5 ((outl_n h (4 * i + m.1)).map .u8))]) (fun _ => 5) (fun m => 4 - m.1) ⟨0, by omega⟩ ?_ ?_
       ·
        refine Weak.sel [0, 1, 2, 3, 4] rfl rfl ?_ ?_ rfl rfl
        ·
         (repeat' (first | exact trivial | refine And.intro ?_ ?_ | fail)) <;> first | rfl | fail
        ·
         (repeat' (first | exact trivial | refine And.intro ?_ ?_ | fail)) <;> first | rfl | exact ren_eq (by first | (simp; done) | fail) (by rfl) | fail
       ·
        rintro ⟨m, hm⟩
        dsimp only
        have hol := outl_len_n h (4 * i + m)
        by_cases hm4 : m < 4
        ·
         have hge2 : decide ((4 - 1 - (m : Int)) ≥ 0) = true := by simp; omega
         have h8 : w64 (8 * (4 - 1 - (m : Int))) = ((8 * (4 - 1 - m) : Nat) : Int) := by simp only [w64_eq]; omega
         have hp2 : w64 (4 - 1 - (m : Int) - 1) = 4 - 1 - ((m + 1 : Nat) : Int) := by simp only [w64_eq]; omega
         have hs := rout_s_n h i m hm4
         have gx := emL_get_n h i (by omega)
         have qp := f147 (8 * (4 - 1 - m)) (by omega)
         have hnz := pow_nz (n := 8 * (4 - 1 - m)) (by omega)
         have hsh := shr_n_eq (h.getD i 0) (8 * (4 - 1 - m)) (by omega)
         have hm2 := mod256 (emb_n (shr32 (h.getD i 0) (8 * (4 - 1 - m))))
         rw [emb_u8_n] at hm2
         rw [← h8] at qp
         obtain ⟨Z, hZ⟩ : ∃ Z, Z = outl_n h (4 * i + m) := ⟨_, rfl⟩
         rw [← hZ] at hol hs ⊢
         obtain ⟨c, hc2⟩ : ∃ c, c = (shr32 (h.getD i 0) (8 * (4 - 1 - m))).toUInt8 := ⟨_, rfl⟩
         rw [← hc2] at hs hm2
         have hap4 : (Z ++ [c]).map SV.u8 = List.take ((4 * i + m) * 1) (List.drop 0 (Z.map SV.u8)) ++ List.take (1 * 1) (List.drop 0 [SV.u8 c]) := (rcat8 (o := 0) (n := 4 * i + m) (E := Z) (b := [c]) (by omega) rfl).symm
         conv => whnf
         first | refine brT (by exact hge2) ?_ | fail
         conv => whnf
         repeat (first | (refine Exists.intro _ (And.intro (sload_u64 (i := i) (by first | rfl | omega | fail) (by omega)) ?_); conv => whnf) | (refine Exists.intro _ (And.intro (idx_i (m := i) (by rfl)) ?_); conv => whnf) | (refine And.intro (by omega) ?_; conv => whnf) | fail)
         refine ok1_callF [] [] true (qp) rfl rfl ⟨⟨rfl, by rfl⟩, trivial, by rfl, by rfl, ?_⟩
         conv => whnf
         refine ⟨_, sarith_quo64b hnz, ?_⟩
         conv => whnf
         rw [gx, hsh]
         repeat (first | (refine Exists.intro _ (And.intro rfl ?_); conv => whnf) | (refine And.intro (by first | omega | (simp [ti5]; omega)) ?_; conv => whnf) | (refine And.intro (by kernel_rfl) ?_; conv => whnf) | fail)
         rw [hm2]
         refine ⟨⟨m + 1, by omega⟩, by simp only; omega, ?_⟩
         dsimp only
         rw [hs]
         refine Weak.sel [0, 1, 2, 3, 6] rfl rfl ?_ ?_ rfl rfl
         ·
          (repeat' (first | exact trivial | refine And.intro ?_ ?_ | fail)) <;> first | exact wk_i (by first | exact hp2 | exact hp2.symm | fail) | rfl | fail
         ·
          (repeat' (first | exact trivial | exact ren_eq (plainL_u8 _) hap4 | refine And.intro ?_ ?_ | fail)) <;> first | rfl | exact ren_eq (by first | (simp; done) | fail) (by rfl) | fail
        ·
         obtain rfl : m = 4 := by omega
         conv => whnf
         first | refine brF (by rfl) ?_ | fail
         conv => whnf
         refine ⟨⟨i + 1, by omega⟩, by simp only; omega, ?_⟩
         dsimp only
         rw [show 4 * (i + 1) = 4 * i + 4 by omega]
         refine Weak.sel [0, 1, 2, 3, 4] rfl rfl ?_ ?_ rfl rfl
         ·
          (repeat' (first | exact trivial | refine And.intro ?_ ?_ | fail)) <;> first | exact wk_i (by first | exact hp | exact hp.symm | fail) | rfl | fail
         ·
          (repeat' (first | exact trivial | refine And.intro ?_ ?_ | fail)) <;> first | rfl | exact ren_eq (by first | (simp; done) | fail) (by rfl) | fail
      ·
       obtain rfl : i = 8 := by omega
       conv => whnf
       first | refine brF (by rfl) ?_ | fail
       conv => whnf
       refine ⟨[0, 4], ?_, rfl, rfl, ?_, rfl⟩
       ·
        (repeat' (fail)) <;> first | rfl | fail
       ·
        (repeat' (first | exact trivial | refine And.intro ?_ ?_ | fail)) <;> first | rfl | exact ren_eq (by first | (simp; done) | fail) (by rfl) | fail
end
section
attribute [local irreducible] firstL consL down_w
end
end Go.Sh
namespace Go.Sh
section
variable {P : Program} {ρ : Ren} {H : Heap} {w : World}
theorem wrap_ok (m : Nat) (h : m ≤ 140737488355328) : IntKind.i64.wrap (m : Int) = (m : Int) := by
 have := w64_eq (m : Int); unfold w64 at this; rw [this]; omega
theorem app_growZ {t xT ty el sz n m c : Nat} {a : Option Addr} {z : Value} {olds : List Value} {i : TypeInfo} (hT : P.underlying t = some (.slice el)) (hX : P.underlying xT = some (.int .i64))
  (hi : P.info? el = some i) (hz : i.zero = some z) (hsz : i.size = sz) (h0 : 0 < sz) (hb : m * i.bytes ≤ 140737488355328) (hm : m ≤ 140737488355328) (hnm : n + m ≤ 140737488355328)
  (ho : (Builtin.firstCells sz n (.slice a n c)).run P w.drew = .ok ⟨olds⟩ w.drew) (hg : c < n + m) (hby : 0 < i.bytes) (h48 : Builtin.nextslicecap (n + m) c * i.bytes ≤ 281474976710656) :
  (Builtin.append_ #[t, xT] ty #[.slice a n c, .int .i64 (m : Int)]).run P w = .ok (.slice (some ⟨w.heap.size, 0, none⟩) (n + m) (grownCap w (n + m) c el))
   (w.drew.alloc (.cells ((⟨olds⟩ : Array Value) ++ ⟨(Builtin.zeroCells z.cells m).toList⟩ ++ Builtin.zeroCells z.cells (grownCap w (n + m) c el - (n + m))) el)) := by
 have hn : ¬ (n + m ≤ c) := by omega
 have h48' : ¬ (281474976710656 < Builtin.nextslicecap (n + m) c * i.bytes) := by omega
 have hb0 : ¬ (i.bytes = 0) := by omega
 have e1 : (underlying xT).run P w = .ok (.int .i64) w := run_und hX
 have e2 : ∀ w : World, (typeInfo el).run P w = .ok i w := fun w => by simp [typeInfo, hi]
 have e3 : ∀ w : World, (zeroValue el).run P w = .ok z w := fun w => by simp [zeroValue, typeInfo, hi, hz]
 have e4 : (sizeOf el).run P w = .ok sz w := by simp [sizeOf, typeInfo, hi, hsz]
 have e5 : ∀ w : World, (asInt (Value.int .i64 (m : Int))).run P w = .ok (m : Int) w := fun w => by simp [asInt, asIntOf]
 have hch : (choose (.appendCap (n + m) c el)).run P w = .ok (grownCap w (n + m) c el) w.drew := by
  rw [run_choose]; rfl
 have hbig : (2 : Nat) ^ 48 = 281474976710656 := by decide
 have hw := wrap_ok m hm
 have hbig2 : ¬ ((m : Int) * (i.bytes : Int) > 2 ^ 48) := by
  have : ((m * i.bytes : Nat) : Int) ≤ 140737488355328 := by omega
  rw [Int.natCast_mul] at this; omega
 have hneg : ¬ ((m : Int) < 0) := by omega
 have hmax : ¬ (((n + m : Nat) : Int) > IntKind.i64.max) := by
  have : IntKind.i64.max = 9223372036854775807 := by decide
  rw [this]; omega
 unfold Builtin.append_
 simp only [List.getElem?_toArray, List.getElem?_cons_zero, List.getElem?_cons_succ, Sem.run_bind, run_und hT, Result.andThen_ok, e4, e1, Sem.run_pure, if_true, e5, hw, hneg, if_false, e2, hbig2, Int.toNat_natCast, hn, hmax, false_and, Bool.not_true, Bool.false_eq_true, gt_iff_lt, hbig, h48', hch, run_askRoom, ho]
 by_cases hms : m * sz = 0
 ·
  have hm0 : m = 0 := by rcases Nat.mul_eq_zero.1 hms with h | h; exact h; omega
  subst hm0
  simp only [Nat.zero_mul, if_true, Sem.run_pure, Result.andThen_ok, Sem.run_bind, e3, newRow, run_newObj]
  simp [Builtin.zeroCells]
  rfl
 ·
  simp only [hms, if_false, Sem.run_bind, e3, Result.andThen_ok, Sem.run_pure, newRow, run_newObj]
  rfl
theorem zfacts {el by_ : Nat} {z : SV} (hz : pzero P el = some z) (hza : z.atom = true) (hs : psz P el = some 1) (hb : pbytes P el = some by_) :
  ∃ i v, P.info? el = some i ∧ i.zero = some v ∧ v.cells = #[v] ∧ i.size = 1 ∧ i.bytes = by_ ∧ ∀ ρ, Rel ρ z v := by
 obtain ⟨i, v, hi, hv, hr, ht⟩ := zero_of hz
 unfold psz at hs
 unfold pbytes at hb
 rw [hi] at hs hb
 simp only [Option.map_some, Option.some.injEq] at hs hb
 exact ⟨i, v, hi, hv, (hr (fun _ => none)).cells hza, hs, hb, hr⟩
theorem zero_rels {z : SV} {v : Value} (h : Rel ρ z v) (hv : v.cells = #[v]) (m : Nat) : Rels ρ (List.replicate m z) (Builtin.zeroCells v.cells m).toList := by
 rw [hv, zeroCells_one]; exact Rels.replicate h m
theorem zero_atoms {z : SV} (hza : z.atom = true) (m : Nat) : atoms (List.replicate m z) = true := by
 simp only [atoms, List.all_eq_true]; intro y hy; rw [(List.mem_replicate.1 hy).2]; exact hza
end
end Go.Sh
namespace Go.Sh
open Go.Proofs
set_option maxHeartbeats 4000000
theorem m32M_n (x : UInt64) : (x &&& 4294967295).toNat = x.toNat % 4294967296 := by
 rw [UInt64.toNat_and]
 exact Nat.and_two_pow_sub_one_eq_mod x.toNat 32
theorem mulM_n (x y : UInt64) (h : x.toNat * y.toNat < 18446744073709551616) : (x * y).toNat = x.toNat * y.toNat := by
 rw [UInt64.toNat_mul]; exact Nat.mod_eq_of_lt h
theorem addM_n (x y : UInt64) (h : x.toNat + y.toNat < 18446744073709551616) : (x + y).toNat = x.toNat + y.toNat := by
 rw [UInt64.toNat_add]; exact Nat.mod_eq_of_lt h
theorem shrM_n (x : UInt64) (n : Nat) (h : n < 64) : (shr64 x n).toNat = x.toNat / 2 ^ n := by
 unfold shr64
 rw [if_pos h, UInt64.toNat_shiftRight, UInt64.toNat_ofNat', show n % 2 ^ 64 % 64 = n by omega, Nat.shiftRight_eq_div_pow]
def mhiM (x y : UInt64) : UInt64 := UInt64.ofNat (x.toNat * y.toNat / 18446744073709551616)
theorem mhiM_n (x y : UInt64) : (mhiM x y).toNat = x.toNat * y.toNat / 18446744073709551616 := by
 have h1 := UInt64.toNat_lt x
 have h2 := UInt64.toNat_lt y
 have : x.toNat * y.toNat < 18446744073709551616 * 18446744073709551616 := Nat.mul_lt_mul'' h1 h2
 unfold mhiM; rw [UInt64.toNat_ofNat', Nat.mod_eq_of_lt]; omega
theorem mul64M_eq (a b : UInt64) : shr64 a 32 * shr64 b 32 + shr64 (shr64 a 32 * (b &&& 4294967295) + shr64 ((a &&& 4294967295) * (b &&& 4294967295)) 32) 32 + shr64 ((shr64 a 32 * (b &&& 4294967295) + shr64 ((a &&& 4294967295) * (b &&& 4294967295)) 32 &&& 4294967295) + (a &&& 4294967295) * shr64 b 32) 32 = mhiM a b := by
 have ha := UInt64.toNat_lt a
 have hb := UInt64.toNat_lt b
 have a1 := shrM_n a 32 (by decide)
 have a0 := m32M_n a
 have b1 := shrM_n b 32 (by decide)
 have b0 := m32M_n b
 have eA : a.toNat = a.toNat / 4294967296 * 4294967296 + a.toNat % 4294967296 := by omega
 have eB : b.toNat = b.toNat / 4294967296 * 4294967296 + b.toNat % 4294967296 := by omega
 rw [show (2 : Nat) ^ 32 = 4294967296 from rfl] at a1 b1
 have lA : a.toNat / 4294967296 ≤ 4294967295 := by omega
 have lB : b.toNat / 4294967296 ≤ 4294967295 := by omega
 have kA : a.toNat % 4294967296 ≤ 4294967295 := by omega
 have kB : b.toNat % 4294967296 ≤ 4294967295 := by omega
 apply UInt64.toNat_inj.mp
 rw [mhiM_n]
 generalize shr64 a 32 = A1 at *
 generalize a &&& 4294967295 = A0 at *
 generalize shr64 b 32 = B1 at *
 generalize b &&& 4294967295 = B0 at *
 generalize a.toNat / 4294967296 = x1 at *
 generalize a.toNat % 4294967296 = x0 at *
 generalize b.toNat / 4294967296 = y1 at *
 generalize b.toNat % 4294967296 = y0 at *
 have p11 : x1 * y1 ≤ 4294967295 * 4294967295 := Nat.mul_le_mul lA lB
 have p10 : x1 * y0 ≤ 4294967295 * 4294967295 := Nat.mul_le_mul lA kB
 have p01 : x0 * y1 ≤ 4294967295 * 4294967295 := Nat.mul_le_mul kA lB
 have p00 : x0 * y0 ≤ 4294967295 * 4294967295 := Nat.mul_le_mul kA kB
 have n11 := mulM_n A1 B1 (by rw [a1, b1]; omega)
 have n10 := mulM_n A1 B0 (by rw [a1, b0]; omega)
 have n01 := mulM_n A0 B1 (by rw [a0, b1]; omega)
 have n00 := mulM_n A0 B0 (by rw [a0, b0]; omega)
 rw [a1, b1] at n11
 rw [a1, b0] at n10
 rw [a0, b1] at n01
 rw [a0, b0] at n00
 have s0 := shrM_n (A0 * B0) 32 (by decide)
 rw [show (2 : Nat) ^ 32 = 4294967296 from rfl, n00] at s0
 have nt := addM_n (A1 * B0) (shr64 (A0 * B0) 32) (by rw [n10, s0]; omega)
 rw [n10, s0] at nt
 generalize A1 * B0 + shr64 (A0 * B0) 32 = t at *
 have st := shrM_n t 32 (by decide)
 have mt := m32M_n t
 rw [show (2 : Nat) ^ 32 = 4294967296 from rfl, nt] at st
 rw [nt] at mt
 have nw := addM_n (t &&& 4294967295) (A0 * B1) (by rw [mt, n01]; omega)
 rw [mt, n01] at nw
 generalize (t &&& 4294967295) + A0 * B1 = w at *
 have sw := shrM_n w 32 (by decide)
 rw [show (2 : Nat) ^ 32 = 4294967296 from rfl, nw] at sw
 have prod : a.toNat * b.toNat = x1 * y1 * 18446744073709551616 + (x1 * y0 + x0 * y1) * 4294967296 + x0 * y0 := by rw [eA, eB]; grind
 rw [prod]
 have r1 := addM_n (A1 * B1) (shr64 t 32) (by rw [n11, st]; omega)
 rw [n11, st] at r1
 rw [addM_n _ _ (by rw [r1, sw]; omega), r1, sw]
 generalize x1 * y1 = P at *
 generalize x1 * y0 = Q at *
 generalize x0 * y1 = U at *
 generalize x0 * y0 = V at *
 omega
theorem f86M (a b : UInt64) : SCall Tryz.prog 68 [.u64 a, .u64 b] [] (.tup [.u64 (mhiM a b), .u64 (a * b)]) [] := by
 have hm := mul64M_eq a b
 refine scall_of ttOk (by kernel_rfl : Tryz.prog.funcs[68]? = some Tryz.f68) rfl rfl rfl ?_
 try simp only [List.length_cons, List.length_nil, Nat.zero_add, Nat.reduceAdd]
 refine sw_ok ttOk mixed (by kernel_rfl) ?_
 conv => whnf
 refine ⟨[], ?_, rfl, rfl, ?_, rfl⟩
 ·
  (repeat' (first | (refine wk_tup ?_) | (refine wk_cons ?_ ?_))) <;> first | exact wk_u64 (by first | exact hm | exact hm.symm | fail) | rfl | fail
 ·
  (repeat' (first | exact trivial | fail)) <;> fail
end Go.Sh
namespace Go.Sh
open Go.Proofs
theorem lt_ext {P : Program} {H : Heap} {o : Oper} {R : Env} {x : Operand} {args : Array Operand} {tys : Array TypeId} {f : Nat} {zs : List SV} {z : SV} (ho : o.op = .call ⟨.value x, args, tys⟩)
  (hx : evO R x = some (.fn f [])) (hargs : args.toList.map (evO R) = zs.map some)
  (hrun : ∀ (ρ : Ren) (w : World) (vs : List Value), Rels ρ zs vs → ∃ rv, (callFunc f ⟨vs⟩).run P w = .ok (.value rv) w ∧ Rel ρ z rv) : LT P o R H [] [] (some z) := by
 refine LT.pure (by simp [ho]) fun e w ρ h1 _ => ?_
 have hxr := h1 x (by simp [ho, Op.operands, Call.operands]) _ hx
 simp only [Rel] at hxr
 obtain ⟨cs, he, hcs⟩ := hxr
 rw [Rels.nil_iff] at hcs; subst hcs
 have hv : Rels ρ zs (args.toList.map e) := by
  have : ∀ (l : List Operand) (zs : List SV), (∀ y ∈ l, y ∈ args.toList) → l.map (evO R) = zs.map some → Rels ρ zs (l.map e) := by
   intro l
   induction l with
   | nil => intro zs _ h; cases zs with
    | nil => exact Rels.nil_iff.2 rfl
    | cons _ _ => simp at h
   | cons y l ih =>
    intro zs hm h
    cases zs with
    | nil => simp at h
    | cons z zs =>
     simp only [List.map_cons, List.cons.injEq] at h
     exact Rels.cons (h1 y (by have := hm y (by simp); simp [ho, Op.operands, Call.operands]; exact .inr (by simpa using this)) _ h.1) (ih zs (fun y hy => hm y (by simp [hy])) h.2)
  exact this _ _ (fun _ h => h) hargs
 obtain ⟨rv, hr, hz⟩ := hrun ρ w _ hv
 refine ⟨rv, ?_, hz⟩
 have ea : (⟨args.toList.map e⟩ : Array Value) = args.map e := by
  apply Array.ext'; simp
 rw [ea] at hr
 unfold execOp
 simp only [ho, resolve, he, Deferred.ofValue, Sem.run_bind, Sem.run_pure, Result.andThen, invoke]
 simpa [Result.andThen] using hr
theorem run_add64F {P : Program} {f : FuncId} {fn : Func} (hf : P.funcs[f]? = some fn) (hname : (fn.name == "runtime.NumGoroutine") = false)
  (hb : fn.body.isNone = true) (hn : Extern.findNext fn = none) (he : Extern.find fn = some add64Entry) (x y c : UInt64) (hc : c.toNat ≤ 1) (w : World) :
  (callFunc f #[.int .u64 (x.toNat : Int), .int .u64 (y.toNat : Int), .int .u64 (c.toNat : Int)]).run P w =
   .ok (.value (.tuple #[.int .u64 (((x.toNat + y.toNat + c.toNat) % 18446744073709551616 : Nat) : Int), .int .u64 (((x.toNat + y.toNat + c.toNat) / 18446744073709551616 : Nat) : Int)])) w := by
 rw [run_callFunc_extern hf hname hb hn he, run_add64 _ _ _ (by omega) (by omega) (by omega) (by omega)]
 simp only [Result.andThen]
 congr 5 <;> omega
theorem ok1_add64 {P : Program} {o : Oper} {R : RL} {H : HL} {L : Nat} {k : K1} {x : Operand} {args : Array Operand} {tys : Array TypeId} {f : Nat} (fn : Func) (a b c s t : UInt64)
  (hf : P.funcs[f]? = some fn) (hname : (fn.name == "runtime.NumGoroutine") = false) (hb : fn.body.isNone = true) (hn : Extern.findNext fn = none) (he : Extern.find fn = some add64Entry)
  (ho : o.op = .call ⟨.value x, args, tys⟩) (hx : ev R x = some (.fn f [])) (hargs : evs R args.toList = some [.u64 a, .u64 b, .u64 c]) (hc : c.toNat ≤ 1)
  (hs : s.toNat = (a.toNat + b.toNat + c.toNat) % 18446744073709551616) (ht : t.toNat = (a.toNat + b.toNat + c.toNat) / 18446744073709551616)
  (h : k (some (.tup [.u64 s, .u64 t])) [] [] L) : Ok1 P o R H L k := by
 refine ⟨_, [], [], L, lt_ext (z := .tup [.u64 s, .u64 t]) ho (ev_some hx) (evs_eq hargs) ?_, Nat.le_refl _, by simp, h⟩
 intro ρ w vs hv
 have hv2 : vs = [.int .u64 (a.toNat : Int), .int .u64 (b.toNat : Int), .int .u64 (c.toNat : Int)] := by
  simp only [Rels, Rel] at hv
  obtain ⟨_, _, rfl, rfl, _, _, rfl, rfl, _, _, rfl, rfl, rfl⟩ := hv
  rfl
 subst hv2
 refine ⟨_, run_add64F hf hname hb hn he a b c hc w, ?_⟩
 rw [← hs, ← ht]
 simp only [Rel]
 exact ⟨_, rfl, Rels.cons (by simp only [Rel]) (Rels.cons (by simp only [Rel]) (Rels.nil_iff.2 rfl))⟩
end Go.Sh
namespace Go.Sh
open Go.Proofs
theorem digits_u8 : ∀ (n t : Nat) (acc : Array Value), ∃ l : List UInt8, (Extern.BytealgMakeNoZero.digits n t acc).toList = acc.toList ++ l.map (fun x => Value.int .u8 (x.toNat : Int)) ∧ l.length = n
 | 0, t, acc => ⟨[], by simp [Extern.BytealgMakeNoZero.digits], rfl⟩
 | n + 1, t, acc => by
  obtain ⟨l, h1, h2⟩ := digits_u8 n (t / 256) (acc.push (.int .u8 (Int.ofNat (t % 256))))
  refine ⟨(UInt8.ofNat (t % 256)) :: l, ?_, by simp [h2]⟩
  rw [Extern.BytealgMakeNoZero.digits, h1]
  have : (UInt8.ofNat (t % 256)).toNat = t % 256 := by
   rw [UInt8.toNat_ofNat']; omega
  simp [this]
theorem rels_u8 (ρ : Ren) : ∀ l : List UInt8, Rels ρ (l.map .u8) (l.map (fun x => Value.int .u8 (x.toNat : Int)))
 | [] => Rels.nil_iff.2 rfl
 | x :: l => Rels.cons (by simp only [Rel]) (rels_u8 ρ l)
theorem atoms_u8m (l : List UInt8) : atoms (l.map SV.u8) = true := by simp [atoms, SV.atom]
theorem run_mnz0 {P : Program} {ps : Array TypeId} {t e : TypeId} (ht : P.underlying t = some (.slice e)) (n : Nat) (hn2 : n ≤ 281474976710656) (w : World) :
  ∃ b : Nat, (Extern.BytealgMakeNoZero.makeNoZero ps #[t] #[.int .i64 n]).run P w = .ok (.slice (some ⟨w.heap.size, 0, none⟩) n (Extern.BytealgMakeNoZero.digits (grownCap w n 0 e) b #[]).size) (w.drew.drew.alloc (.cells (Extern.BytealgMakeNoZero.digits (grownCap w n 0 e) b #[]) e)) := by
 have hdef : ∃ q : Question, q.forced = false ∧ Extern.BytealgMakeNoZero.makeNoZero ps #[t] #[.int .i64 n] =
   (do
    let .slice elem ← underlying t | stuck "bytealg.MakeNoZero: slice type expected"
    if (n : Int) < 0 || (n : Int) > 2 ^ 48 then runtimePanic (.error "makeslice: len out of range")
    let cap ← choose (.appendCap (n : Int).toNat 0 elem)
    askRoom cap
    let bytes ← choose q
    let a ← newRow elem (Extern.BytealgMakeNoZero.digits cap bytes #[])
    pure (.slice (some a) (n : Int).toNat cap)) := by
  refine ⟨_, ?_, rfl⟩
  rfl
 obtain ⟨q, hqf, hdef⟩ := hdef
 refine ⟨q.cut (w.tape (w.drawn + 1) q), ?_⟩
 rw [hdef]
 have h1 : ¬ (n : Int) < 0 := by omega
 have h2 : ¬ (281474976710656 : Int) < (n : Int) := by omega
 have hq2 : (Question.appendCap n 0 e).forced = false := rfl
 simp [run_underlying ht, h1, h2, hqf, hq2, newRow, Lib.size_digits, grownCap]
theorem run_mnz {P : Program} {f : FuncId} {fn : Func} {t e : TypeId} (hf : P.funcs[f]? = some fn) (hname : (fn.name == "runtime.NumGoroutine") = false) (hb : fn.body.isNone = true) (hn : Extern.findNext fn = none)
  (he : Extern.find fn = some (Extern.BytealgMakeNoZero.makeNoZero fn.params #[t])) (ht : P.underlying t = some (.slice e)) (n : Nat) (hn2 : n ≤ 281474976710656) (w : World) :
  ∃ (cs : Array Value) (l : List UInt8), (callFunc f #[.int .i64 (n : Int)]).run P w = .ok (.value (.slice (some ⟨w.heap.size, 0, none⟩) n cs.size)) (w.drew.drew.alloc (.cells cs e)) ∧ n ≤ cs.size ∧ l.length = n ∧ cs.toList.take n = l.map (fun x => Value.int .u8 (x.toNat : Int)) := by
 obtain ⟨b, hr⟩ := run_mnz0 (ps := fn.params) ht n hn2 w
 obtain ⟨l, hl1, hl2⟩ := digits_u8 (grownCap w n 0 e) b #[]
 have hge : n ≤ grownCap w n 0 e := by simpa using grownCap_ge w n 0 e
 refine ⟨Extern.BytealgMakeNoZero.digits (grownCap w n 0 e) b #[], l.take n, ?_, ?_, ?_, ?_⟩
 ·
  rw [run_callFunc_extern hf hname hb hn he, hr]; rfl
 ·
  rw [Lib.size_digits]; simpa using hge
 ·
  rw [List.length_take, hl2]; omega
 ·
  rw [hl1]; simp [List.map_take]
section
variable {P : Program} {ops : Array Oper} {N B : Nat}
theorem good_step_at {o : Oper} {i : Nat} {R Ri : Env} {H Hi : Heap} {e : En} {L L' n : Nat} {r : Option Nat} {ρ : Ren} {a : Act} {w : World} {K : Act → World → Prop} {Q : Exit → Act → World → Prop}
  (hi : ops[i]? = some o) (hd : e.lg.dst = o.dst) (hWi : e.lg.Wi = e.W.map (·.1)) (hgd : o.guard = none) (hN : ∀ d, o.dst = some d → d < N)
  (hlt : (∀ t ∈ readsOf o, ∀ v, Ri t = some v → Rel ρ v (a.tmps.getD t undef)) → ∀ next : Act → World → Prop, (∀ rv w' ρ', Chg ρ Hi w e.W ρ' w' → (∀ v, e.out = some v → Rel ρ' v rv) → next (a.put o.dst rv) w') → o.wpIn (Fw r) n P a w next Q)
  (hR : ∀ t, R t = Ri t) (hH : ∀ id, (id ∈ e.lg.F ∨ id ∈ e.lg.Wi) → H id = Hi id) (hs : Sim N B L ρ R H a w)
  (hfresh : ∀ id ob, (id, ob) ∈ e.W → id ∉ e.lg.F → ρ id = none) (hL : L ≤ L') (hW : ∀ id ob, (id, ob) ∈ e.W → id < L')
  (hk : ∀ a' w' ρ', Sim N B L' ρ' (appL R (wr e)) (appL H e.W) a' w' → Ev ρ H w ρ' (appL H e.W) w' → (∀ id rb, ρ' id = some rb → ρ id = some rb ∨ ∃ ob, (id, ob) ∈ e.W) → K a' w') :
  wpOpIn (Fw r) n P ops Q i K a w := by
 have put : ∀ (rv : Value) (w' : World) (ρ' : Ren), Chg ρ Hi w e.W ρ' w' → (∀ v, e.out = some v → Rel ρ' v rv) → K (a.put o.dst rv) w' := by
  intro rv w' ρ' hc hv
  have hev := hc.evo (H := H) (fun id ob hm => (hH id (.inr (by rw [hWi]; exact List.mem_map.2 ⟨_, hm, rfl⟩))).symm) hs.heap hs.sep
  rw [updW_app] at hev
  refine hk _ _ ρ' ⟨?_, ?_, hev.heap, hev.sep, ?_, ?_⟩ hev.ev hc.dom
  ·
   cases hdst : o.dst <;> simp [Act.put, hdst, hs.size]
  ·
   intro t v ht
   cases hdst : o.dst with
   | none =>
    rw [hdst] at hd
    simp only [wr, hd, appL, List.lookup_nil] at ht
    simp only [Act.put]
    exact (hs.regs t v ht).ext hev.ext
   | some d =>
    rw [hdst] at hd
    have hdN : d < a.tmps.size := by rw [hs.size]; exact hN d hdst
    simp only [wr, hd, appL, List.lookup_cons, List.lookup_nil] at ht
    simp only [Act.put]
    by_cases htd : t = d
    ·
     subst htd
     simp at ht
     rw [Array.getD_eq_getD_getElem?, Array.getElem?_setIfInBounds_self_of_lt hdN]
     exact hv v ht
    ·
     have : (t == d) = false := by simpa using htd
     simp only [this] at ht
     rw [Array.getD_eq_getD_getElem?, Array.getElem?_setIfInBounds_ne (fun e => htd e.symm), ← Array.getD_eq_getD_getElem?]
     exact (hs.regs t v ht).ext hev.ext
  ·
   intro id hid
   cases hr : ρ' id with
   | none => rfl
   | some rb =>
    rcases hc.dom id rb hr with h | ⟨ob, hm⟩
    ·
     rw [hs.fresh id (by omega)] at h; cases h
    ·
     have := hW id ob hm; omega
  ·
   have : (a.put o.dst rv).defers = a.defers := by cases hdst : o.dst <;> simp [Act.put]
   rw [this]
   exact hs.dfr.fr hev.fr
 unfold wpOpIn
 simp only [hi]
 have hw : Region.wanted o (yielded ops a.tmps) = true := by unfold Region.wanted; simp only [hgd]
 simp only [hw, if_true]
 exact hlt (fun t ht v hv => hs.regs t v ((hR t).trans hv)) K put
end
def swx (j : Nat) (T : TT) (P : Program) (M : Option Nat → Prop) (N A : Nat) (c : Code) : (Exit → RL → HL → Nat → Prop) → RL → HL → Nat → Prop :=
 @Code.rec (fun _ => (Exit → RL → HL → Nat → Prop) → RL → HL → Nat → Prop)
  (fun Q => Q .normal)
  (fun id ops draw Q R H L => match Nat.beq id j with
   | true => SWp P M N A (.region id ops draw) Q R H L
   | false => sw T P M N A (.region id ops draw) Q R H L)
  (fun _ _ iha ihb Q => iha fun e => match e with | .normal => ihb Q | e => Q e)
  (fun c _ _ ihx ihy Q R H L => match ev R c with
   | some (.b t) => (t = true → ihx Q R H L) ∧ (t = false → ihy Q R H L)
   | _ => False)
  (fun id _ ih Q => ih fun e => match e with
   | .exit i => match Nat.beq i id with | true => Q .normal | false => Q (.exit i)
   | e => Q e)
  (fun c _ Q => SWp P M N A (.loop c) Q)
  (fun f ps x y _ _ Q => SWp P M N A (.rangeFunc f ps x y) Q)
  (fun id Q => Q (.exit id))
  (fun c _ Q => SWp P M N A (.scope c) Q)
  (fun l Q => SWp P M N A (.label l) Q)
  (fun l Q => SWp P M N A (.goto l) Q)
  (fun Q => Q .ret)
  (fun s Q => SWp P M N A (.refuse s) Q) c
theorem swx_ok {j : Nat} {T : TT} {P : Program} {M : Option Nat → Prop} {N A : Nat} (hT : TOk P T) (hm : P.follows .mixedOrders = true) : ∀ {c : Code} {Q : Exit → RL → HL → Nat → Prop} {R : RL} {H : HL} {L : Nat}, codeOk N c = true →
  swx j T P M N A c Q R H L → SWp P M N A c Q R H L
 | .skip, Q, R, H, L, _, h => ⟨fun r n B ρ a w hM hs hl => wpIn_skip ⟨R, H, L, ρ, h, hl, hs, EvA.refl _ _ _ _⟩⟩
 | .exit id, Q, R, H, L, _, h => ⟨fun r n B ρ a w hM hs hl => wpIn_exit ⟨R, H, L, ρ, h, hl, hs, EvA.refl _ _ _ _⟩⟩
 | .ret, Q, R, H, L, _, h => ⟨fun r n B ρ a w hM hs hl => wpIn_ret ⟨R, H, L, ρ, h, hl, hs, EvA.refl _ _ _ _⟩⟩
 | .region id ops draw, Q, R, H, L, hc, h => by
  have h : (match Nat.beq id j with
   | true => SWp P M N A (.region id ops draw) Q R H L
   | false => sw T P M N A (.region id ops draw) Q R H L) := h
  cases hb : Nat.beq id j with
  | true => rw [hb] at h; exact h
  | false => rw [hb] at h; exact sw_ok hT hm hc h
 | .seq x y, Q, R, H, L, hc, h => by
  simp only [codeOk, Bool.and_eq_true] at hc
  have h : swx j T P M N A x (fun e => match e with | .normal => swx j T P M N A y Q | e => Q e) R H L := h
  exact (swx_ok hT hm hc.1 h).seq (fun R H L h => swx_ok hT hm hc.2 h) (fun e R H L hne h => by cases e <;> first | exact absurd rfl hne | exact h)
 | .cond c x y, Q, R, H, L, hc, h => by
  simp only [codeOk, Bool.and_eq_true] at hc
  have h : (match ev R c with
   | some (.b t) => (t = true → swx j T P M N A x Q R H L) ∧ (t = false → swx j T P M N A y Q R H L)
   | _ => False) := h
  split at h
  ·
   rename_i t ht
   refine ⟨fun r n B ρ a w hM hs hl => ?_⟩
   have hcv : a.eval c = .bool t := by
    cases c with
    | tmp k =>
     have h1 := hs.regs k (.b t) (by rw [rg, ← lk_eq]; exact ht)
     simp only [Rel] at h1
     exact h1
    | const v =>
     have h1 := (ofVal_rel (ρ := ρ) ht).1
     simp only [Rel] at h1
     exact h1
    | func f => cases ht
    | global g => cases ht
   refine wpIn_cond_split hcv (fun ht => (swx_ok hT hm hc.1 (h.1 ht)).run r n B ρ a w hM hs hl) (fun ht => (swx_ok hT hm hc.2 (h.2 ht)).run r n B ρ a w hM hs hl)
  ·
   exact h.elim
 | .block id c, Q, R, H, L, hc, h => by
  refine ⟨fun r n B ρ a w hM hs hl => ?_⟩
  have h : swx j T P M N A c (fun e => match e with
   | .exit i => match Nat.beq i id with | true => Q .normal | false => Q (.exit i)
   | e => Q e) R H L := h
  simp only [codeOk] at hc
  refine wpIn_block (wpIn_mono ((swx_ok hT hm hc h).run r n B ρ a w hM hs hl) ?_)
  rintro e a2 w2 ⟨R2, H2, L2, ρ2, hq2, rest⟩
  cases e with
  | exit i =>
   simp only [Exit.inBlock]
   cases hb : Nat.beq i id with
   | true => simp only [hb] at hq2; rw [if_pos (beqE hb)]; exact ⟨R2, H2, L2, ρ2, hq2, rest⟩
   | false => simp only [hb] at hq2; rw [if_neg (fun e => by subst e; simp at hb)]; exact ⟨R2, H2, L2, ρ2, hq2, rest⟩
  | _ => exact ⟨R2, H2, L2, ρ2, hq2, rest⟩
 | .loop c, Q, R, H, L, _, h => h
 | .rangeFunc f ps x y, Q, R, H, L, _, h => h
 | .scope c, Q, R, H, L, _, h => h
 | .label l, Q, R, H, L, _, h => h
 | .goto l, Q, R, H, L, _, h => h
 | .refuse s, Q, R, H, L, _, h => h
theorem swp_mnz {T : TT} {P : Program} {M : Option Nat → Prop} {N A : Nat} {id : Nat} {ops : Array Oper} {o1 o2 : Oper} {post : List Oper} {Q : Exit → RL → HL → Nat → Prop} {R R1 : RL} {H H1 : HL} {L L1 n f : Nat} {x : Operand} {tys : Array TypeId} {fn : Func} {t e d : TypeId}
  (hT : TOk P T) (hd : dstOk N ops = true) (hops : ops.toList = o1 :: o2 :: post)
  (h1 : rops T P ops [o1] R H L [] fun R' H' L' _ => R' = R1 ∧ H' = H1 ∧ L' = L1)
  (ho : o2.op = .call ⟨.value (.func f), #[x], tys⟩) (hgd : o2.guard = none) (hdst : o2.dst = some d) (hx : evO (rg R1) x = some (.i (n : Int))) (hn2 : n ≤ 281474976710656)
  (hf : P.funcs[f]? = some fn) (hname : (fn.name == "runtime.NumGoroutine") = false) (hb : fn.body.isNone = true) (hn : Extern.findNext fn = none)
  (he : Extern.find fn = some (Extern.BytealgMakeNoZero.makeNoZero fn.params #[t])) (ht : P.underlying t = some (.slice e))
  (h2 : ∀ l : List UInt8, l.length = n → rops T P ops post ((d, .sl L1 0 n 1 false) :: R1) (hupd H1 [(L1, some (.row e (l.map .u8)))]) (L1 + 1) [] fun R' H' L' _ => Q .normal R' H' L') :
  SWp P M N A (.region id ops false) Q R H L := by
 refine ⟨fun r nn B ρ a w hM hs hl => ?_⟩
 have hN : ∀ (i : Nat) (o : Oper) (d : Nat), ops[i]? = some o → o.dst = some d → d < N := by
  intro i o d ho hdst
  simp only [dstOk, List.all_eq_true] at hd
  have := hd o (by simpa using Array.mem_of_getElem? ho)
  simpa [hdst] using this
 have hget : ∀ j, ops[j]? = (o1 :: o2 :: post)[j]? := fun j => by rw [← hops, Array.getElem?_toList]
 obtain ⟨es, R', H', L', hr, hl', hq1, hq2, hq3⟩ := rops_ok hT h1 hl
 subst hq1 hq2 hq3
 obtain ⟨e1, es1, L0, rfl, hg1, hL1, hW1, hr0⟩ := hr
 obtain ⟨rfl, hR1, hH1, hLL⟩ := hr0
 subst hLL
 refine wpIn_region ?_
 have hsz : ops.size = post.length + 1 + 1 := by rw [← Array.length_toList, hops]; simp
 rw [List.range_eq_range', hsz, List.range'_succ, List.range'_succ, wpOpsIn_cons]
 refine good_step (L' := L0) (hget 0) hg1 (fun d hd => hN 0 o1 d (hget 0) hd) (fun _ _ => rfl) (fun _ _ => rfl) hs (fun id ob hm hF => hs.fresh id ((hW1 id ob hm).2 hF)) hL1 (fun id ob hm => (hW1 id ob hm).1) ?_
 intro a1 w1 ρ1 hs1 hev1 _
 rw [wpOpsIn_cons]
 rw [hR1, hH1] at hs1
 rw [hH1] at hev1
 obtain ⟨cs, l, hrun, hcs, hll, hlt⟩ := run_mnz hf hname hb hn he ht n hn2 w1
 have hch : ∀ Hx : Heap, Chg ρ1 Hx w1 [(L0, some (.row e (l.map .u8)))] (setR ρ1 L0 ⟨w1.heap.size, 0, cs.size, false⟩) (w1.drew.drew.alloc (.cells cs e)) := fun Hx =>
  Chg.row (H := Hx) (w := w1) (fz := (0, 0)) (t := e) (w1.drawn + 2) (hs1.fresh L0 (Nat.le_refl _)) (atoms_u8m l) (by rw [List.length_map, hll, hlt]; exact rels_u8 ρ1 l) (by rw [List.length_map, hll]; exact hcs) (.inl rfl)
 refine good_step_at (L' := L0 + 1) (Ri := rg R') (Hi := hg H') (e := ⟨⟨o2.dst, [], [], [L0]⟩, some (.sl L0 0 n 1 false), [(L0, some (.row e (l.map .u8)))]⟩) (hget 1) rfl rfl hgd (fun d hd => hN 1 o2 d (hget 1) hd) ?_ (fun _ => rfl) (fun _ _ => rfl) hs1 ?_ (by omega) ?_ ?_
 ·
  intro hreg next hnext
  refine ⟨fun _ _ => trivial, ?_⟩
  rw [Oper.semAt_eq _ _ _ (by simp [ho])]
  have hxv : a1.eval x = .int .i64 (n : Int) := by
   have hrel : Rel ρ1 (.i (n : Int)) (a1.eval x) := by
    cases x with
    | tmp t => exact hreg t (by simp only [readsOf, List.mem_filterMap]; exact ⟨.tmp t, by simp [ho, Op.operands, Call.operands], rfl⟩) _ hx
    | const u => exact (ofVal_rel hx).1
    | func f => simp only [evO, Option.some.injEq] at hx; cases hx
    | global g => cases hx
   simpa only [Rel] using hrel
  have hexe : (execOp a1.eval o2).run P w1 = .ok (.value (.slice (some ⟨w1.heap.size, 0, none⟩) n cs.size)) (w1.drew.drew.alloc (.cells cs e)) := by
   unfold execOp
   have hr := hrun
   rw [← hxv] at hr
   have hfe : a1.eval (.func f) = .func (.func f) #[] #[] := rfl
   simp only [ho, resolve, hfe, Deferred.ofValue, Sem.run_bind, Sem.run_pure, Result.andThen, invoke]
   simpa [Result.andThen] using hr
  rw [hexe]
  refine hnext _ _ _ (hch _) ?_
  intro v hv
  cases hv
  simp only [Rel]
  refine ⟨⟨w1.heap.size, 0, cs.size, false⟩, some ⟨w1.heap.size, 0, none⟩, cs.size, by simp [setR], rfl, hcs, by simp, .inr ⟨rfl, by simp, by simp⟩⟩
 ·
  intro id ob hm hF
  simp at hm
  rw [hm.1]; exact hs1.fresh L0 (Nat.le_refl _)
 ·
  intro id ob hm
  simp at hm
  rw [hm.1]; omega
 ·
  intro a2 w2 ρ2 hs2 hev2 _
  rw [appL_wr rfl, ← updW_app, ← hg_hupd] at hs2
  rw [← updW_app, ← hg_hupd] at hev2
  have hrp : rput R' o2.dst (some (.sl L0 0 n 1 false)) = (d, .sl L0 0 n 1 false) :: R' := by rw [hdst]; rfl
  rw [hrp] at hs2
  obtain ⟨es, R2, H2, L2, hr2, hl2, hq2⟩ := rops_ok hT (h2 l hll) (hupd_le (by omega) (fun id ob hm => by simp at hm; rw [hm.1]; omega))
  have hfin := region_text (r := r) (n := nn) (Q := fun e a' w' => ∃ R' H' L' ρ', Q e R' H' L' ∧ H'.length ≤ L' ∧ Sim N B L' ρ' (rg R') (hg H') a' w' ∧ EvA A ρ (hg H) w ρ' (hg H') w') hN post 2 _ _ _ es ρ2 a2 w2 (fun j => by rw [hget]; simp [Nat.add_comm 2 j]) hr2 hs2
   (fun a' w' ρ' hs' hev => ⟨R2, H2, L2, ρ', hq2, hl2, hs', ((hev1.trans hev2).trans hev).toA⟩)
  exact hfin
end Go.Sh
namespace Go.Sh
open Go.Proofs
set_option maxHeartbeats 4000000
theorem f152 (a b : UInt64) : SCall Tryz.prog 96 [.u64 a, .u64 b] [] (.tup [.u64 (mhiM a b), .u64 (a * b)]) [] := by
 have q86 := f86M a b
 refine scall_of ttOk (by kernel_rfl : Tryz.prog.funcs[96]? = some Tryz.f96) rfl rfl rfl ?_
 try simp only [List.length_cons, List.length_nil, Nat.zero_add, Nat.reduceAdd]
 refine sw_ok ttOk mixed (by kernel_rfl) ?_
 conv => whnf
 repeat (first | (refine brF rfl ?_; conv => whnf) | fail)
 refine ok1_callF [] [] true (q86) rfl rfl ⟨⟨rfl, by rfl⟩, trivial, by rfl, by rfl, ?_⟩
 conv => whnf
 refine ⟨[], ?_, rfl, rfl, ?_, rfl⟩
 ·
  (repeat' (first | (refine wk_tup ?_) | (refine wk_cons ?_ ?_))) <;> first | rfl | fail
 ·
  (repeat' (first | exact trivial | fail)) <;> fail
theorem rep_step {c : UInt8} {l : List UInt8} {b n m : Nat} (hl : l.length = n) (hb : b ≤ n) (hm : m ≤ b) (hbm : b + m ≤ n) :
  (List.replicate (b + m) c ++ l.drop (b + m)).map SV.u8 = sput ((List.replicate b c ++ l.drop b).map SV.u8) (0 + b * 1) (.agg (List.take (m * 1) (List.take ((b - 0) * 1) (List.drop (0 + 0 * 1) ((List.replicate b c ++ l.drop b).map SV.u8))))) := by
 have h1 : List.take (m * 1) (List.take ((b - 0) * 1) (List.drop (0 + 0 * 1) ((List.replicate b c ++ l.drop b).map SV.u8))) = (List.replicate m c).map SV.u8 := by
  rw [Nat.mul_one, Nat.sub_zero, Nat.mul_one, Nat.zero_mul, Nat.zero_add, List.drop_zero, List.take_take, Nat.min_eq_left hm, ← List.map_take, List.take_append_of_le_length (by rw [List.length_replicate]; exact hm), List.take_replicate, Nat.min_eq_left hm]
 have h2 : List.drop (b + m) (List.replicate b c) = [] := by rw [List.drop_eq_nil_iff, List.length_replicate]; omega
 rw [h1]
 show _ = List.take (0 + b * 1) ((List.replicate b c ++ l.drop b).map SV.u8) ++ (List.replicate m c).map SV.u8 ++ List.drop (0 + b * 1 + ((List.replicate m c).map SV.u8).length) ((List.replicate b c ++ l.drop b).map SV.u8)
 rw [List.length_map, List.length_replicate, Nat.zero_add, Nat.mul_one, ← List.map_take, ← List.map_drop, List.take_left' (by simp), List.drop_append, List.length_replicate, h2, List.nil_append, show b + m - b = m by omega, List.drop_drop, ← List.map_append, ← List.map_append, List.replicate_append_replicate]
theorem f135 (c : UInt8) (n : Nat) (hn1 : 1 ≤ n) (hn : n ≤ 8192) (f : Bool) : SCall Tryz.prog 82 [.sl 0 0 1 1 f, .i (n : Int)] [some (.ro [.u8 c])] (.sl 1 0 n 1 true) [some (.ro [.u8 c]), some (.row 5 ((List.replicate n c).map .u8))] := by
 have e0 : ((n : Int) == 0) = false := by simp; omega
 have e1 : decide ((n : Int) < 0) = false := by simp
 have hun : u64i (n : Int) = UInt64.ofNat n := by unfold u64i; congr 1; omega
 have hnn : (u64i (n : Int)).toNat = n := by rw [hun, UInt64.toNat_ofNat']; omega
 have hu1 : u64i ((1 : Nat) : Int) = 1 := rfl
 have q152 := f152 (u64i ((1 : Nat) : Int)) (u64i (n : Int))
 have hm0 : mhiM (u64i ((1 : Nat) : Int)) (u64i (n : Int)) = 0 := by
  apply UInt64.toNat_inj.1
  rw [mhiM_n, hnn, hu1]; show 1 * n / 18446744073709551616 = 0; omega
 have hm1 : u64i ((1 : Nat) : Int) * u64i (n : Int) = u64i (n : Int) := by rw [hu1, UInt64.one_mul]
 rw [hm0, hm1] at q152
 have e2 : decide (u64i (n : Int) > UInt64.ofNat (Int.toNat 9223372036854775807)) = false := by
  rw [decide_eq_false_iff_not]
  intro hgt
  have h := UInt64.lt_iff_toNat_lt.1 hgt
  rw [hnn] at h
  have h9 : (UInt64.ofNat (Int.toNat 9223372036854775807)).toNat = 9223372036854775807 := by decide
  omega
 refine scall_of ttOk (by kernel_rfl : Tryz.prog.funcs[82]? = some Tryz.f82) rfl rfl rfl ?_
 try simp only [List.length_cons, List.length_nil, Nat.zero_add, Nat.reduceAdd]
 refine swx_ok (j := 16) ttOk mixed (by kernel_rfl) ?_
 conv => whnf
 repeat (first | (refine And.intro (by first | omega | (simp; omega) | fail) ?_; conv => whnf) | fail)
 first | intro _
 conv => whnf
 repeat (first | (refine brF rfl ?_; conv => whnf) | fail)
 refine ok1_callF [] [] true (q152) rfl rfl ⟨⟨rfl, by rfl⟩, trivial, by rfl, by rfl, ?_⟩
 conv => whnf
 repeat (first | (refine gdT rfl ?_; conv => whnf) | (refine Exists.intro _ (And.intro rfl ?_); conv => whnf) | fail)
 first | refine brF (by exact e2) ?_ | fail
 conv => whnf
 repeat (first | (refine brF rfl ?_; conv => whnf) | fail)
 have hwn : w64 ((u64i (n : Int)).toNat : Int) = (n : Int) := by rw [hnn]; simp only [w64_eq]; omega
 have e3 : decide ((n : Int) > 8192) = false := by simp; omega
 rw [hwn]
 first | refine brF (by exact e3) ?_ | fail
 conv => whnf
 refine swp_mnz (n := n) (T := tt) (fn := Tryz.f97) (t := 66) (e := 5) ttOk (by kernel_rfl) rfl ⟨rfl, rfl, rfl⟩ rfl rfl rfl rfl (by omega) (by kernel_rfl : Tryz.prog.funcs[97]? = some Tryz.f97) (by kernel_rfl) (by kernel_rfl) (by kernel_rfl) (by kernel_rfl) (by kernel_rfl) ?_
 intro l hl
 conv => whnf
 repeat (first | (refine Exists.intro _ (And.intro rfl ?_); conv => whnf) | (refine And.intro (by first | omega | (simp; omega) | fail) ?_; conv => whnf) | fail)
 have hnt : ((n : Int)).toNat = n := Int.toNat_natCast n
 refine loop_rule ttOk mixed (by kernel_rfl) (ι := { b : Nat // 1 ≤ b ∧ b ≤ n }) (fun b => [(7, .i n), (8, .i n), (9, .sl 1 0 n 1 true), (10, .i (b.1 : Int))]) (fun b => [some (.ro [.u8 c]), some (.row 5 ((List.replicate b.1 c ++ l.drop b.1).map .u8))]) (fun _ => 2) (fun b => n - b.1) ⟨1, by omega, by omega⟩ ?_ ?_
 ·
  dsimp only
  have hmin : min 1 (n - 0) = 1 := by omega
  have hdn : decide (n = n) = true := by simp
  rw [hnt, hmin, hdn]
  have hr0 : (List.replicate 1 c ++ l.drop 1).map SV.u8 = sput (l.map SV.u8) (0 + 0 * 1) (.agg (List.take (1 * 1) (List.take (1 * 1) (List.drop 0 [SV.u8 c])))) := by
   show _ = List.take 0 (l.map SV.u8) ++ [SV.u8 c] ++ List.drop 1 (l.map SV.u8)
   rw [List.take_zero, List.map_append, List.map_drop]; rfl
  refine Weak.sel [0, 1] rfl rfl ?_ ?_ rfl rfl
  ·
   (repeat' (first | exact trivial | refine And.intro ?_ ?_ | fail)) <;> first | rfl | fail
  ·
   (repeat' (first | exact trivial | exact ren_eq (plainL_u8 _) hr0 | refine And.intro ?_ ?_ | (refine wk_cons ?_ ?_))) <;> first | rfl | fail
 ·
  rintro ⟨b, hb1, hb⟩
  dsimp only
  by_cases hbn : b < n
  ·
   have hlt : decide ((b : Int) < (n : Int)) = true := by simp; omega
   conv => whnf
   first | refine brT (by exact hlt) ?_ | fail
   conv => whnf
   repeat (first | (refine Exists.intro _ (And.intro rfl ?_); conv => whnf) | (refine And.intro (by omega) ?_; conv => whnf) | fail)
   have hif : ¬ ((n : Int) < (b : Int)) := by omega
   rw [if_neg hif]
   repeat (first | (refine Exists.intro _ (And.intro (evb_i (m := b) rfl (by rfl)) ?_); conv => whnf) | (refine And.intro (by first | omega | (simp; omega) | fail) ?_; conv => whnf) | (refine And.intro (by kernel_rfl) ?_; conv => whnf) | fail)
   rw [Int.toNat_natCast]
   obtain ⟨m, hm⟩ : ∃ m, m = min (b - 0) (n - b) := ⟨_, rfl⟩
   have hst := rep_step (c := c) (l := l) (b := b) (n := n) (m := m) hl hb (by omega) (by omega)
   rw [← hm]
   have hp : w64 ((b : Int) + (m : Int)) = ((b + m : Nat) : Int) := by simp only [w64_eq]; omega
   refine ⟨⟨b + m, by omega, by omega⟩, by simp only; omega, ?_⟩
   dsimp only
   refine Weak.sel [0, 1] rfl rfl ?_ ?_ rfl rfl
   ·
    (repeat' (first | exact trivial | refine And.intro ?_ ?_ | fail)) <;> first | exact wk_i (by first | exact hp | exact hp.symm | fail) | rfl | fail
   ·
    (repeat' (first | exact trivial | exact ren_eq (plainL_u8 _) hst | refine And.intro ?_ ?_ | (refine wk_cons ?_ ?_))) <;> first | rfl | fail
  ·
   obtain rfl : b = n := by omega
   have hlt : decide ((b : Int) < (b : Int)) = false := by simp
   conv => whnf
   first | refine brF (by exact hlt) ?_ | fail
   conv => whnf
   have hd : l.drop b = [] := by rw [List.drop_eq_nil_iff]; omega
   rw [hd, List.append_nil]
   refine ⟨[0, 1], ?_, rfl, rfl, ?_, rfl⟩
   ·
    (repeat' (fail)) <;> first | rfl | fail
   ·
    (repeat' (first | exact trivial | refine And.intro ?_ ?_ | (refine wk_cons ?_ ?_))) <;> first | rfl | exact ren_m8 (by rfl) | fail
end Go.Sh
namespace Go.Sh
open Go.Proofs
set_option maxHeartbeats 4000000
attribute [local irreducible] comp_n
theorem f139D (h k : List UInt32) (D : List UInt8) (o : Nat) (hh : h.length = 8) (hk : k.length = 64) (ho : o + 64 ≤ D.length) (fl : Bool) : SCall Tryz.prog 102 [.p 0 0, .sl 3 o 64 1 fl] [some (.ro (mach_n 1 2)), some (.row 29 (h.map .u32)), some (.ro (k.map .u32)), some (.ro (D.map .u8))] (.tup []) [some (.ro (mach_n 1 2)), some (.row 29 ((comp_n k h ((D.drop o).take 64)).map .u32)), some (.ro (k.map .u32)), some (.ro (D.map .u8))] :=
 have hl : ((D.drop o).take 64).length = 64 := (by rw [List.length_take, List.length_drop]; omega)
 (f139 h k ((D.drop o).take 64) hh hk hl fl).sub 3 o (D.map .u8) (((D.drop o).take 64).map .u8) 4 rfl rfl (by rw [List.length_map, hl, ← List.map_drop, ← List.map_take]) (plainL_u8 _) (plainL_u8 _) (by decide) ⟨.inr ⟨rfl, rfl⟩, .inl rfl, trivial⟩ rfl
  ⟨.inr (.inr rfl), .inr (.inl (by simp [plainB])), .inr (.inl (by simp [plainB])), .inl rfl, trivial⟩ ⟨.inr (.inr rfl), .inr (.inl (by simp [plainB])), .inr (.inl (by simp [plainB])), .inl rfl, trivial⟩
theorem blks_s_n (k h : List UInt32) (D : List UInt8) (j : Nat) : blks_n k h D (j + 1) = comp_n k (blks_n k h D j) ((D.drop (64 * j)).take 64) := rfl
theorem blks_z_n (k h : List UInt32) (D : List UInt8) : blks_n k h D 0 = h := rfl
theorem cat8 {E b : List UInt8} {o n m : Nat} (hn : n = E.length - o) (hm : m = b.length) : List.take (n * 1) (List.drop o (E.map SV.u8)) ++ List.take (m * 1) (List.drop 0 (b.map SV.u8)) = (E.drop o ++ b).map SV.u8 := by
 subst hn; subst hm
 rw [Nat.mul_one, Nat.mul_one, List.drop_zero, List.take_of_length_le (l := b.map SV.u8) (by rw [List.length_map]; exact Nat.le_refl _), List.take_of_length_le (by rw [List.length_drop, List.length_map]; exact Nat.le_refl _), List.map_append, List.map_drop]
theorem outl_z_n (H : List UInt32) : outl_n H (4 * 0) = [] := rfl
theorem outl_s_n (H : List UInt32) (i m : Nat) (hm : m < 4) : outl_n H (4 * i + (m + 1)) = outl_n H (4 * i + m) ++ [(shr32 (H.getD i 0) (8 * (3 - m))).toUInt8] := by
 show outl_n H (4 * i + m) ++ [(shr32 (H.getD ((4 * i + m) / 4) 0) (8 * (4 - 1 - (4 * i + m) % 4))).toUInt8] = _
 rw [show (4 * i + m) / 4 = i by omega, show 4 - 1 - (4 * i + m) % 4 = 3 - m by omega]
theorem outb_e_n (H : List UInt32) : outb_n H = outl_n H (4 * 8) := rfl
theorem lset_z_n (N : Nat) : lset_n N 0 = List.replicate 8 0 := rfl
theorem lset_s_n (N i : Nat) : lset_n N (i + 1) = (lset_n N i).set (7 - i) (shr64 (shl64 (UInt64.ofNat N) (UInt64.ofNat (Int.toNat 3)).toNat) (8 * i)).toUInt8 := rfl
theorem last_e_n (T : List UInt8) : rest_n T ++ [128] ++ List.replicate (pz_n T.length) 0 ++ lset_n T.length 8 = last_n T := rfl
attribute [local irreducible] blks_n st_n rest_n hash_n pz_n outl_n outb_n lset_n last_n
end Go.Sh
namespace Go.Sh
open Go.Proofs
section
variable {P : Program} {ops : Array Oper} {N B : Nat}
theorem region_pre {r : Option Nat} {n : Nat} {Q : Exit → Act → World → Prop} {R' : Env} {H' : Heap} {Lf : Nat} {rest : List Nat} (hN : ∀ (i : Nat) (o : Oper) (d : Nat), ops[i]? = some o → o.dst = some d → d < N) :
  ∀ (os : List Oper) (k : Nat) (R : Env) (H : Heap) (L : Nat) (es : List En) (ρ : Ren) (a : Act) (w : World), (∀ j, j < os.length → os[j]? = ops[k + j]?) → RunT P ops os R H L es R' H' Lf → Sim N B L ρ R H a w →
   (∀ a' w' ρ', Sim N B Lf ρ' R' H' a' w' → Ev ρ H w ρ' H' w' → wpOpsIn (Fw r) n P ops Q rest a' w') → wpOpsIn (Fw r) n P ops Q (List.range' k os.length ++ rest) a w
 | [], k, R, H, L, es, ρ, a, w, _, hr, hs, hk => by
  obtain ⟨rfl, rfl, rfl, rfl⟩ := hr
  exact hk a w ρ hs (Ev.refl _ _ _)
 | o :: os, k, R, H, L, es, ρ, a, w, hos, hr, hs, hk => by
  obtain ⟨e, es', L', rfl, hg, hL, hW, hr'⟩ := hr
  have h0 : ops[k]? = some o := by have := hos 0 (by simp); simpa using this.symm
  rw [List.length_cons, List.range'_succ, List.cons_append, wpOpsIn_cons]
  refine good_step (L' := L') h0 hg (fun d hd => hN k o d h0 hd) (fun _ _ => rfl) (fun _ _ => rfl) hs (fun id ob hm hF => hs.fresh id ((hW id ob hm).2 hF)) hL (fun id ob hm => (hW id ob hm).1) ?_
  intro a' w' ρ' hs' hev _
  refine region_pre hN os (k + 1) _ _ L' es' ρ' a' w' (fun j hj => by have := hos (j + 1) (by simp; omega); simp only [List.getElem?_cons_succ] at this; rw [this]; congr 1; omega) hr' hs' ?_
  intro a2 w2 ρ2 hs2 hev2
  exact hk a2 w2 ρ2 hs2 (hev.trans hev2)
end
structure SOps (P : Program) (N : Nat) (ops : Array Oper) (Q : RL → HL → Nat → Prop) (os : List Oper) (R : RL) (H : HL) (L : Nat) : Prop where
 run : ∀ (r : Option Nat) (n B : Nat) (ρ : Ren) (a : Act) (w : World) (k : Nat) (K : Exit → Act → World → Prop), (∀ j, os[j]? = ops[k + j]?) → Sim N B L ρ (rg R) (hg H) a w → H.length ≤ L →
  (∀ a' w' R' H' L' ρ', Q R' H' L' → H'.length ≤ L' → Sim N B L' ρ' (rg R') (hg H') a' w' → Ev ρ (hg H) w ρ' (hg H') w' → K .normal a' w') → wpOpsIn (Fw r) n P ops K (List.range' k os.length) a w
section
variable {T : TT} {P : Program} {N : Nat} {ops : Array Oper}
theorem sops_end {Q : RL → HL → Nat → Prop} {os : List Oper} {R : RL} {H : HL} {L : Nat} (hT : TOk P T) (hd : dstOk N ops = true) (h : rops T P ops os R H L [] fun R' H' L' _ => Q R' H' L') : SOps P N ops Q os R H L := by
 refine ⟨fun r n B ρ a w k K hos hs hl hK => ?_⟩
 have hN : ∀ (i : Nat) (o : Oper) (d : Nat), ops[i]? = some o → o.dst = some d → d < N := by
  intro i o d ho hdst
  simp only [dstOk, List.all_eq_true] at hd
  have := hd o (by simpa using Array.mem_of_getElem? ho)
  simpa [hdst] using this
 obtain ⟨es, R2, H2, L2, hr2, hl2, hq2⟩ := rops_ok hT h hl
 exact region_text hN os k _ _ _ es ρ a w hos hr2 hs (fun a' w' ρ' hs' hev => hK a' w' R2 H2 L2 ρ' hq2 hl2 hs' hev)
theorem sops_pre {Q : RL → HL → Nat → Prop} {pre os : List Oper} {R : RL} {H : HL} {L : Nat} (hT : TOk P T) (hd : dstOk N ops = true) (h : rops T P ops pre R H L [] fun R' H' L' _ => SOps P N ops Q os R' H' L') : SOps P N ops Q (pre ++ os) R H L := by
 refine ⟨fun r n B ρ a w k K hos hs hl hK => ?_⟩
 have hN : ∀ (i : Nat) (o : Oper) (d : Nat), ops[i]? = some o → o.dst = some d → d < N := by
  intro i o d ho hdst
  simp only [dstOk, List.all_eq_true] at hd
  have := hd o (by simpa using Array.mem_of_getElem? ho)
  simpa [hdst] using this
 obtain ⟨es, R2, H2, L2, hr2, hl2, hq2⟩ := rops_ok hT h hl
 rw [List.length_append, List.range'_append_1.symm]
 refine region_pre hN pre k _ _ _ es ρ a w (fun j hj => by rw [← hos, List.getElem?_append_left hj]) hr2 hs (fun a' w' ρ' hs' hev => ?_)
 refine hq2.run r n B ρ' a' w' (k + pre.length) K (fun j => ?_) hs' hl2 (fun a2 w2 R3 H3 L3 ρ3 hq3 hl3 hs3 hev3 => hK a2 w2 R3 H3 L3 ρ3 hq3 hl3 hs3 (hev.trans hev3))
 have := hos (pre.length + j)
 rw [List.getElem?_append_right (by omega), show pre.length + j - pre.length = j by omega] at this
 rw [this]; congr 1; omega
theorem swp_sops {M : Option Nat → Prop} {A id : Nat} {Q : Exit → RL → HL → Nat → Prop} {R : RL} {H : HL} {L : Nat} {os : List Oper} (ho : ops.toList = os) (h : SOps P N ops (fun R' H' L' => Q .normal R' H' L') os R H L) : SWp P M N A (.region id ops false) Q R H L := by
 refine ⟨fun r nn B ρ a w hM hs hl => ?_⟩
 refine wpIn_region ?_
 have hsz : ops.size = os.length := by rw [← ho]; simp
 rw [List.range_eq_range', hsz]
 exact h.run r nn B ρ a w 0 _ (fun j => by rw [← ho, Array.getElem?_toList, Nat.zero_add]) hs hl (fun a' w' R' H' L' ρ' hq hl' hs' hev => ⟨R', H', L', ρ', hq, hl', hs', hev.toA⟩)
end
def memN : Nat → List Nat → Bool
 | _, [] => false
 | x, y :: ys => match Nat.beq x y with | true => true | false => memN x ys
def swxs (J : List Nat) (T : TT) (P : Program) (M : Option Nat → Prop) (N A : Nat) (c : Code) : (Exit → RL → HL → Nat → Prop) → RL → HL → Nat → Prop :=
 @Code.rec (fun _ => (Exit → RL → HL → Nat → Prop) → RL → HL → Nat → Prop)
  (fun Q => Q .normal)
  (fun id ops draw Q R H L => match memN id J with
   | true => SWp P M N A (.region id ops draw) Q R H L
   | false => sw T P M N A (.region id ops draw) Q R H L)
  (fun _ _ iha ihb Q => iha fun e => match e with | .normal => ihb Q | e => Q e)
  (fun c _ _ ihx ihy Q R H L => match ev R c with
   | some (.b t) => (t = true → ihx Q R H L) ∧ (t = false → ihy Q R H L)
   | _ => False)
  (fun id _ ih Q => ih fun e => match e with
   | .exit i => match Nat.beq i id with | true => Q .normal | false => Q (.exit i)
   | e => Q e)
  (fun c _ Q => SWp P M N A (.loop c) Q)
  (fun f ps x y _ _ Q => SWp P M N A (.rangeFunc f ps x y) Q)
  (fun id Q => Q (.exit id))
  (fun c _ Q => SWp P M N A (.scope c) Q)
  (fun l Q => SWp P M N A (.label l) Q)
  (fun l Q => SWp P M N A (.goto l) Q)
  (fun Q => Q .ret)
  (fun s Q => SWp P M N A (.refuse s) Q) c
theorem swxs_ok {J : List Nat} {T : TT} {P : Program} {M : Option Nat → Prop} {N A : Nat} (hT : TOk P T) (hm : P.follows .mixedOrders = true) : ∀ {c : Code} {Q : Exit → RL → HL → Nat → Prop} {R : RL} {H : HL} {L : Nat}, codeOk N c = true →
  swxs J T P M N A c Q R H L → SWp P M N A c Q R H L
 | .skip, Q, R, H, L, _, h => ⟨fun r n B ρ a w hM hs hl => wpIn_skip ⟨R, H, L, ρ, h, hl, hs, EvA.refl _ _ _ _⟩⟩
 | .exit id, Q, R, H, L, _, h => ⟨fun r n B ρ a w hM hs hl => wpIn_exit ⟨R, H, L, ρ, h, hl, hs, EvA.refl _ _ _ _⟩⟩
 | .ret, Q, R, H, L, _, h => ⟨fun r n B ρ a w hM hs hl => wpIn_ret ⟨R, H, L, ρ, h, hl, hs, EvA.refl _ _ _ _⟩⟩
 | .region id ops draw, Q, R, H, L, hc, h => by
  have h : (match memN id J with
   | true => SWp P M N A (.region id ops draw) Q R H L
   | false => sw T P M N A (.region id ops draw) Q R H L) := h
  cases hb : memN id J with
  | true => rw [hb] at h; exact h
  | false => rw [hb] at h; exact sw_ok hT hm hc h
 | .seq x y, Q, R, H, L, hc, h => by
  simp only [codeOk, Bool.and_eq_true] at hc
  have h : swxs J T P M N A x (fun e => match e with | .normal => swxs J T P M N A y Q | e => Q e) R H L := h
  exact (swxs_ok hT hm hc.1 h).seq (fun R H L h => swxs_ok hT hm hc.2 h) (fun e R H L hne h => by cases e <;> first | exact absurd rfl hne | exact h)
 | .cond c x y, Q, R, H, L, hc, h => by
  simp only [codeOk, Bool.and_eq_true] at hc
  have h : (match ev R c with
   | some (.b t) => (t = true → swxs J T P M N A x Q R H L) ∧ (t = false → swxs J T P M N A y Q R H L)
   | _ => False) := h
  split at h
  ·
   rename_i t ht
   refine ⟨fun r n B ρ a w hM hs hl => ?_⟩
   have hcv : a.eval c = .bool t := by
    cases c with
    | tmp k =>
     have h1 := hs.regs k (.b t) (by rw [rg, ← lk_eq]; exact ht)
     simp only [Rel] at h1
     exact h1
    | const v =>
     have h1 := (ofVal_rel (ρ := ρ) ht).1
     simp only [Rel] at h1
     exact h1
    | func f => cases ht
    | global g => cases ht
   refine wpIn_cond_split hcv (fun ht => (swxs_ok hT hm hc.1 (h.1 ht)).run r n B ρ a w hM hs hl) (fun ht => (swxs_ok hT hm hc.2 (h.2 ht)).run r n B ρ a w hM hs hl)
  ·
   exact h.elim
 | .block id c, Q, R, H, L, hc, h => by
  refine ⟨fun r n B ρ a w hM hs hl => ?_⟩
  have h : swxs J T P M N A c (fun e => match e with
   | .exit i => match Nat.beq i id with | true => Q .normal | false => Q (.exit i)
   | e => Q e) R H L := h
  simp only [codeOk] at hc
  refine wpIn_block (wpIn_mono ((swxs_ok hT hm hc h).run r n B ρ a w hM hs hl) ?_)
  rintro e a2 w2 ⟨R2, H2, L2, ρ2, hq2, rest⟩
  cases e with
  | exit i =>
   simp only [Exit.inBlock]
   cases hb : Nat.beq i id with
   | true => simp only [hb] at hq2; rw [if_pos (beqE hb)]; exact ⟨R2, H2, L2, ρ2, hq2, rest⟩
   | false => simp only [hb] at hq2; rw [if_neg (fun e => by subst e; simp at hb)]; exact ⟨R2, H2, L2, ρ2, hq2, rest⟩
  | _ => exact ⟨R2, H2, L2, ρ2, hq2, rest⟩
 | .loop c, Q, R, H, L, _, h => h
 | .rangeFunc f ps x y, Q, R, H, L, _, h => h
 | .scope c, Q, R, H, L, _, h => h
 | .label l, Q, R, H, L, _, h => h
 | .goto l, Q, R, H, L, _, h => h
 | .refuse s, Q, R, H, L, _, h => h
end Go.Sh
namespace Go.Sh
open Go.MapKept
section
variable {P : Program} {ρ : Ren} {H : Heap} {w w' : World}
theorem Chg.putObj {id : Nat} {o o' : Obj} {rb : RB} (hid : H id = some (.ext (.lit o))) (hr : ρ id = some rb) (hb : w.heap[rb.blk]? = some o) (hoff : rb.off = 0) (ho : 2 ≤ mutK o) (hk : mutK o' = mutK o) :
  Chg ρ H w [(id, some (.ext (.lit o')))] ρ { w with heap := w.heap.setIfInBounds rb.blk o' } := by
 obtain ⟨s1, s2⟩ := heap_set (o' := o') hb
 refine Chg.put hid hr rfl (fun k o h => h) ⟨⟨by omega, hoff⟩, s1⟩ ⟨rfl, rfl, rfl, by simp, fun k x hx => ?_⟩
 by_cases hk2 : k = rb.blk
 ·
  subst hk2
  rw [hb] at hx; cases hx
  show FrO _ o (w.heap.setIfInBounds rb.blk o')[rb.blk]?
  rw [s1]
  cases o with
  | cells c t fz => simp [mutK] at ho
  | _ => exact .inr ⟨⟨0, rfl⟩, by omega, _, rfl, hk⟩
 ·
  show FrO _ x (w.heap.setIfInBounds rb.blk o')[k]?
  rw [s2 k hk2, hx]; exact FrO.refl _ _
end
section
variable {P : Program} {o : Oper} {R : RL} {H : HL} {L : Nat} {k : K1}
end
end Go.Sh
namespace Go.Sh
theorem loop_rulex (J : List Nat) {T : TT} {P : Program} {M : Option Nat → Prop} {N A : Nat} {c : Code} {Q : Exit → RL → HL → Nat → Prop} {R : RL} {H : HL} {L : Nat} (hT : TOk P T) (hm : P.follows .mixedOrders = true) (hc : codeOk N c = true)
  {ι : Type} (IR : ι → RL) (IH : ι → HL) (IL : ι → Nat) (μ : ι → Nat) (i0 : ι) (h0 : Weak A R H L (IR i0) (IH i0) (IL i0))
  (round : ∀ i, swxs J T P M N A c (fun e R H L => match e with | .normal => ∃ j, μ j < μ i ∧ Weak A R H L (IR j) (IH j) (IL j) | e => Q e R H L) (IR i) (IH i) (IL i)) : SWp P M N A (.loop c) Q R H L := by
 refine SWp.weak h0 ?_
 refine ⟨fun r n B ρ a w hM hs hl => ?_⟩
 let K := fun (a' : Act) (w' : World) (k : Nat) => ∃ i ρ', μ i = k ∧ (IH i).length ≤ IL i ∧ Sim N B (IL i) ρ' (rg (IR i)) (hg (IH i)) a' w' ∧ EvA A ρ (hg (IH i0)) w ρ' (hg (IH i)) w'
 refine wpIn_loop (fun a' w' => ∃ k, K a' w' k) (fun a' w' => leastK (K a' w')) ⟨μ i0, i0, ρ, rfl, hl, hs, EvA.refl _ _ _ _⟩ ?_
 rintro a1 w1 ⟨k, hk⟩
 obtain ⟨⟨i, ρ1, hi, hl1, hs1, he1⟩, _⟩ := leastK_spec hk
 refine wpIn_mono ((swxs_ok hT hm hc (round i)).run r n B ρ1 a1 w1 hM hs1 hl1) ?_
 rintro e a2 w2 ⟨R2, H2, L2, ρ2, hq, hl2, hs2, he2⟩
 cases e with
 | normal =>
  obtain ⟨j, hj, hw⟩ := hq
  obtain ⟨ρ3, hs3, hl3, he3⟩ := hw N B ρ2 a2 w2 hs2 hl2
  have hJ : K a2 w2 (μ j) := ⟨j, ρ3, rfl, hl3, hs3, (he1.trans he2).trans he3⟩
  have := (leastK_spec hJ).2
  exact ⟨⟨μ j, hJ⟩, by omega⟩
 | _ => exact ⟨R2, H2, L2, ρ2, hq, hl2, hs2, he1.trans he2⟩
theorem focus_ev {R : RL} {H : HL} {L : Nat} (t q : Nat) {l : List FE} {e : FE} (hq : hk H q = some (.ext (.fam l))) (he : e ∈ l) (ht : lk t R = some (.lit e.v))
  {N B : Nat} {ρ : Ren} {a : Act} {w : World} (hs : Sim N B L ρ (rg R) (hg H) a w) (hl : H.length ≤ L) :
  ∃ ρ0, Sim N B (L + 1) ρ0 (rg ((t, .sl L 0 e.n e.sz false) :: R)) (hg (hupd H [(L, some (.ro e.cells))])) a w ∧ (hupd H [(L, some (.ro e.cells))]).length ≤ L + 1 ∧ Ev ρ (hg H) w ρ0 (hg (hupd H [(L, some (.ro e.cells))])) w := by
 rw [hk_eq] at hq
 obtain ⟨rq, hrq, hfam⟩ := hs.heap q _ hq
 obtain ⟨⟨ad, c, hv, hnc, hc⟩, hcells⟩ := hfam e he
 have hn := hs.fresh L (Nat.le_refl _)
 have hext : Ext ρ (setR ρ L e.rb) := Ext.setR e.rb hn
 have hg2 : ∀ id, hg (hupd H [(L, some (.ro e.cells))]) id = if id = L then some (.ro e.cells) else hg H id := fun id => by
  rw [hg_hupd]
  by_cases h : id = L
  ·
   subst h; simp [updW]
  ·
   have : (id == L) = false := by simpa using h
   simp [updW, List.lookup_cons, this, h]
 have hlt : ∀ id b, hg H id = some b → id ≠ L := fun id b hb he2 => by
  have := hk_lt hl (by rw [hk_eq]; exact hb : hk H id = some b)
  omega
 have hnew : BRel (setR ρ L e.rb) w e.rb (.ro e.cells) := hcells.imp id fun h => ⟨h.1.ext (fun i r h => by cases h), h.2⟩
 have hfoot : ∀ k o, foot e.rb (.ro e.cells) k o → foot rq (.ext (.fam l)) k o := fun k o h => ⟨e, he, h.1, h.2.1, h.2.2⟩
 have hown : ∀ k o, Owned (setR ρ L e.rb) (hg (hupd H [(L, some (.ro e.cells))])) k o → Owned ρ (hg H) k o := by
  rintro k o ⟨id, b, rb, h1, h2, h3, h4⟩
  rw [hg2] at h1
  by_cases h : id = L
  ·
   rw [if_pos h] at h1; cases h1; cases h3
  ·
   rw [if_neg h] at h1; rw [setR_other ρ e.rb h] at h2; exact ⟨id, b, rb, h1, h2, h3, h4⟩
 refine ⟨setR ρ L e.rb, ⟨hs.size, ?_, ?_, ?_, ?_, hs.dfr⟩, ?_, Ev.mk hext (Fr.refl _ _) (fun k o h => .inl (hown k o h))⟩
 ·
  intro t2 v hv2
  simp only [rg, List.lookup_cons] at hv2
  split at hv2
  ·
   rename_i e2
   have : t2 = t := by simpa using e2
   subst this
   cases hv2
   have h1 := hs.regs t2 (.lit e.v) (by rw [rg, ← lk_eq]; exact ht)
   simp only [Rel] at h1 ⊢
   exact ⟨e.rb, ad, c, setR_same _ _ _, by rw [h1.1, hv], hnc, fun h => (by cases h), hc.imp id fun ⟨g1, g2, g3⟩ => ⟨g1, by rw [g2]; rfl, by omega⟩⟩
  ·
   exact (hs.regs t2 v hv2).ext hext
 ·
  intro id b hb
  rw [hg2] at hb
  by_cases h : id = L
  ·
   rw [if_pos h] at hb; cases hb; subst h; exact ⟨e.rb, setR_same _ _ _, hnew⟩
  ·
   rw [if_neg h] at hb
   obtain ⟨rb, h1, h2⟩ := hs.heap id b hb
   exact ⟨rb, hext _ _ h1, h2.ext hext⟩
 ·
  intro i j bi bj ri rj hne hi hj hri hrj hb k o ⟨hfi, hfj⟩
  rw [hg2] at hi hj
  by_cases h1 : i = L
  ·
   rw [if_pos h1] at hi; cases hi; cases hb
  ·
   rw [if_neg h1] at hi
   rw [setR_other ρ e.rb h1] at hri
   by_cases h2 : j = L
   ·
    rw [if_pos h2] at hj; cases hj
    subst h2
    rw [setR_same] at hrj; cases hrj
    have hiq : i ≠ q := fun e2 => by subst e2; rw [hq] at hi; cases hi; cases hb
    exact hs.sep i q bi _ ri rq hiq hi hq hri hrq hb k o ⟨hfi, hfoot k o hfj⟩
   ·
    rw [if_neg h2] at hj
    rw [setR_other ρ e.rb h2] at hrj
    exact hs.sep i j bi bj ri rj hne hi hj hri hrj hb k o ⟨hfi, hfj⟩
 ·
  intro id hid
  rw [setR_other _ _ (by omega)]
  exact hs.fresh id (by omega)
 ·
  exact hupd_le (by omega) (fun id ob hm => by simp at hm; omega)
theorem Weak.focus {A : Nat} {R : RL} {H : HL} {L : Nat} (t q : Nat) {l : List FE} {e : FE} (hq : hk H q = some (.ext (.fam l))) (he : e ∈ l) (ht : lk t R = some (.lit e.v)) :
  Weak A R H L ((t, .sl L 0 e.n e.sz false) :: R) (hupd H [(L, some (.ro e.cells))]) (L + 1) := fun N B ρ a w hs hl =>
 let ⟨ρ0, h1, h2, h3⟩ := focus_ev t q hq he ht hs hl
 ⟨ρ0, h1, h2, h3.toA⟩
end Go.Sh
namespace Go.Sh
open Go.ChangeShapes Go.WideShapes Go.ChangeAt Go.RowKit
theorem calls_of_scall {P : Program} {f : Nat} {args : List SV} {H0 H1 : HL} (hc : SCall P f args H0 (.b true) H1) (hro : ∀ (id : Nat) b, hg H0 id = some b → b.own = false) {vs : List Value} {W : World} {ρ : Ren}
  (hvs : Rels ρ args vs) (hh : HRel ρ (hg H0) W) (hfr : ∀ id, H0.length ≤ id → ρ id = none) : Calls P f ⟨vs⟩ W fun e w' => e = .returned (.bool true) ∧ RowKit.Below W.heap.size W w' := by
 have h := hc.call 0 ρ W vs hvs hh (fun i j bi bj ri rj _ hi _ _ _ hown => by rw [hro i bi hi] at hown; cases hown) hfr
 refine (callsIn_wide.1 h).mono ?_
 intro e w' hr
 cases e with
 | returned v =>
  obtain ⟨ρ', h1, _, _, _, h5⟩ := hr
  simp only [Rel] at h1
  refine ⟨by rw [h1], h5.fr.below (fun x o _ hown => ?_)⟩
  obtain ⟨id, b, rb, g1, _, g3, _⟩ := hown
  rw [hro id b g1] at g3; cases g3
 | _ => exact hr.elim
theorem trodAll_stays {H : Type} {enc : TypeId × Value → H} {P : Program} (hl : laidOutB P = true) {W W' : World} (hb : RowKit.Below W.heap.size W W') : ∀ {ts : List TypeId} {vs : List Value} {ds : List (DataW H)} {ps : List MemPlace},
  (∀ t ∈ ts, P.readableRec t = true ∧ t < P.types.size) → DataW.TrodAll enc P W 0 (fun _ => true) true ts vs ds ps → (∀ x ∈ ps, x.block < W.heap.size) → ∀ sp : Nat → Bool, (∀ x ∈ ps, sp x.block = true) →
  DataW.TrodAll enc P W' 0 sp true ts vs ds ps
 | [], vs, ds, ps, _, h, _, sp, _ => by
  obtain ⟨rfl, rfl, rfl⟩ := trodAll_nil h
  exact trodAll_mk0
 | t :: ts, vs, ds, ps, ht, h, hlt, sp, hsp => by
  obtain ⟨v, vs', d, ds', p, q, rfl, rfl, rfl, h1, h2⟩ := trodAll_cons h
  obtain ⟨r1, r2⟩ := ht t (List.mem_cons_self ..)
  exact trodAll_cons_mk (WideElems.Trod_stays hl r1 r2 h1 (fun x hx => hb.same (hlt x (List.mem_append_left _ hx))) (fun x hx => hsp x (List.mem_append_left _ hx)))
   (trodAll_stays hl hb (fun u hu => ht u (List.mem_cons_of_mem _ hu)) h2 (fun x hx => hlt x (List.mem_append_right _ hx)) sp (fun x hx => hsp x (List.mem_append_right _ hx)))
theorem same_post {H : Type} {enc : TypeId × Value → H} {P : Program} {fn : Func} {s : ChangeSpec} {W W' : World} {args : Array Value} {ds gs : List (DataW H)} {before : List MemPlace} {bt : TypeId} {apart fresh handsOn again : Bool}
  (hl : laidOutB P = true) (hparams : ∀ t ∈ fn.params.toList, P.readableRec t = true ∧ t < P.types.size) (hbt : P.underlying bt = some .bool) (hrt : fn.resultTypes = #[bt]) (hvars : s.vars = [])
  (hW : DataW.Whole enc P fn.params.toList s.vars apart W args.toList ds gs before) (hspec : s.fn H ds = { results := [.lit (.bool true)], args := ds }) (hb : RowKit.Below W.heap.size W W') :
  s.post enc P fn apart fresh handsOn again W args (.bool true) W' := by
 have hlt := hW.lt
 have hW' := hW
 obtain ⟨p, q, hA, hV, rfl, hfz, hnd⟩ := hW
 rw [hvars] at hV
 obtain ⟨rfl, rfl⟩ := trodVars_none hV
 have hargs : ∀ sp : Nat → Bool, (∀ x ∈ p, sp x.block = true) → DataW.TrodAll enc P W' 0 sp true fn.params.toList args.toList ds p := fun sp hsp =>
  trodAll_stays hl hb hparams hA (fun x hx => hlt x (by simpa using hx)) sp hsp
 have hres : ∀ (b : Nat) (sp : Nat → Bool) (hd : Bool), DataW.TrodAll enc P W' b sp hd fn.resultTypes.toList ((Value.bool true).resultList fn.resultTypes.size) [.lit (.bool true)] [] := fun b sp hd => by
  rw [hrt]
  exact trodAll_cons_mk (shut_bool hbt _) trodAll_mk0
 refine ⟨ds, [], p ++ [], [], p, [], hW', ?_, ?_, ?_, World.keptBut_mono (fun x hx => ⟨hx, ?_⟩) (hb.frame (fun x => x ∈ p ++ [])), fun _ => ?_⟩
 ·
  rw [List.append_nil, hspec]; exact hres _ _ _
 ·
  rw [List.append_nil, hspec]
  exact hargs _ (fun x hx => by simpa using hlt x (by simpa using hx))
 ·
  rw [List.append_nil, hspec, hvars]
  rfl
 ·
  exact .inr (.inl (by simpa using hx))
 ·
  refine ⟨ok_one hrt rfl (okWide_bool_mk hbt _), _, [], ([] ++ p) ++ [], ⟨[] ++ p, [], trodAll_append (hargs _ (fun _ _ => rfl)) (hres _ _ _), by rw [hvars]; rfl, rfl, ?_, ?_⟩, ?_⟩
  ·
   intro b off hp
   have hpl := hlt (.cell b off) (by simpa using hp)
   rw [hb.frozen (p := ⟨b, off, none⟩) hpl]
   exact hfz b off (by simpa using hp)
  ·
   intro ha
   simpa using hnd ha
  ·
   intro x hx _
   simpa using hx
end Go.Sh
