/- A statement's operations: in the text's order, or in whatever order its edges leave open. -/
import Derived.Test.YtaknbogocnkmnaaSh8
namespace Go.Sh
set_option linter.unusedSimpArgs false

abbrev RL := List (Nat × SV)
abbrev HL := List (Option SB)

def rg (R : RL) : Env := fun t => R.lookup t
def hg (H : HL) : Heap := fun i => (H[i]?).join

def rput (R : RL) : Option Nat → Option SV → RL
  | some d, some v => (d, v) :: R
  | some d, none => R.filter fun p => !(p.1 == d)
  | none, _ => R

def hset (H : HL) (id : Nat) (ob : Option SB) : HL := if id < H.length then H.set id ob else H ++ List.replicate (id - H.length) none ++ [ob]
def hupd (H : HL) : Upd → HL
  | [] => H
  | (id, ob) :: W => hset (hupd H W) id ob

/-- Entries laid over a function. -/
def appL {β : Type} (f : Nat → Option β) (w : List (Nat × Option β)) : Nat → Option β := fun r => match w.lookup r with | some v => v | none => f r

theorem updW_app (H : Heap) (W : Upd) : updW H W = appL H W := by
  funext i; simp only [updW, appL]; cases W.lookup i <;> rfl

theorem lookup_filter (d t : Nat) : ∀ R : RL, (R.filter fun p => !(p.1 == d)).lookup t = if t = d then none else R.lookup t
  | [] => by simp
  | (a, b) :: R => by
    have ih := lookup_filter d t R
    simp only [List.filter_cons]
    by_cases ha : a = d
    · subst ha
      simp only [beq_self_eq_true, Bool.not_true, Bool.false_eq_true, if_false, ih, List.lookup_cons]
      by_cases ht : t = a
      · simp [ht]
      · have : (t == a) = false := by simpa using ht
        simp [this, ht]
    · have hb : (a == d) = false := by simpa using ha
      simp only [hb, Bool.not_false, if_true, List.lookup_cons, ih]
      by_cases ht : t = a
      · subst ht; simp [ha]
      · have : (t == a) = false := by simpa using ht
        simp [this]

theorem rg_rput (R : RL) (d : Nat) (out : Option SV) : rg (rput R (some d) out) = appL (rg R) [(d, out)] := by
  funext t
  cases out with
  | some v =>
    simp only [rg, rput, List.lookup_cons, appL]
    by_cases h : t = d
    · subst h; simp
    · have : (t == d) = false := by simpa using h
      simp [this]
  | none =>
    simp only [rg, rput, appL, List.lookup_cons, lookup_filter]
    by_cases h : t = d
    · subst h; simp
    · have hd : (t == d) = false := by simpa using h
      simp [hd, h]

theorem hg_hset (H : HL) (id : Nat) (ob : Option SB) : hg (hset H id ob) = fun i => if i = id then ob else hg H i := by
  funext i
  unfold hset hg
  split
  · rename_i h
    rw [List.getElem?_set]
    by_cases e : id = i
    · subst e; simp [h]
    · rw [if_neg e, if_neg (fun x => e x.symm)]
  · rename_i h
    by_cases e : i = id
    · subst e
      rw [if_pos rfl, List.getElem?_append_right (by simp; omega)]
      simp
      have : i - (H.length + (i - H.length)) = 0 := by omega
      rw [this]; rfl
    · rw [if_neg e]
      by_cases h2 : i < H.length
      · rw [List.append_assoc, List.getElem?_append_left h2]
      · have hn : H[i]? = none := List.getElem?_eq_none (by omega)
        rw [hn]
        by_cases h3 : i < id
        · rw [List.getElem?_append_left (by simp; omega), List.getElem?_append_right (by omega), List.getElem?_replicate, if_pos (by omega)]; rfl
        · rw [List.getElem?_eq_none (by simp; omega)]

theorem hg_hupd (H : HL) : ∀ W : Upd, hg (hupd H W) = updW (hg H) W
  | [] => by funext i; simp [hupd, updW]
  | (id, ob) :: W => by
    rw [hupd, hg_hset, hg_hupd H W]
    funext i
    simp only [updW, List.lookup_cons]
    by_cases e : i = id
    · subst e; simp
    · have : (i == id) = false := by simpa using e
      rw [if_neg e]; simp [this]

theorem hset_len (H : HL) (id : Nat) (ob : Option SB) : H.length ≤ (hset H id ob).length ∧ id < (hset H id ob).length := by
  unfold hset
  split
  · simp; assumption
  · simp; omega

theorem hupd_len (H : HL) : ∀ W : Upd, H.length ≤ (hupd H W).length ∧ ∀ id ob, (id, ob) ∈ W → id < (hupd H W).length
  | [] => by simp [hupd]
  | (id, ob) :: W => by
    obtain ⟨h1, h2⟩ := hupd_len H W
    obtain ⟨h3, h4⟩ := hset_len (hupd H W) id ob
    simp only [hupd]
    refine ⟨by omega, fun i o hm => ?_⟩
    rcases List.mem_cons.1 hm with hm | hm
    · cases hm; exact h4
    · have := h2 i o hm; omega

/-! ### Folding in the entries that have been carried out -/

section fold
variable {β : Type}

def foldS (S : Nat → Bool) : Nat → List (List (Nat × Option β)) → (Nat → Option β) → (Nat → Option β)
  | _, [], f => f
  | k, w :: ws, f => foldS S (k + 1) ws (if S k then appL f w else f)

theorem foldS_congr {S S' : Nat → Bool} (r : Nat) : ∀ (ws : List (List (Nat × Option β))) (k : Nat) (f f' : Nat → Option β), f r = f' r →
    (∀ j w, ws[j]? = some w → (∃ x, w.lookup r = some x) → S (k + j) = S' (k + j)) → foldS S k ws f r = foldS S' k ws f' r
  | [], k, f, f', h, _ => h
  | w :: ws, k, f, f', h, hw => by
    simp only [foldS]
    refine foldS_congr r ws (k + 1) _ _ ?_ (fun j u hu hx => by have := hw (j + 1) u (by simpa using hu) hx; rw [show k + 1 + j = k + (j + 1) from by omega]; exact this)
    cases hl : w.lookup r with
    | none =>
      have e1 : appL f w r = f r := by simp [appL, hl]
      have e2 : appL f' w r = f' r := by simp [appL, hl]
      split <;> split <;> simp_all
    | some x =>
      have := hw 0 w (by simp) ⟨x, hl⟩
      simp only [Nat.add_zero] at this
      rw [this]
      split
      · simp [appL, hl]
      · exact h

theorem foldS_prefix (ws : List (List (Nat × Option β))) : ∀ (k i : Nat) (f : Nat → Option β), foldS (fun j => decide (j < k + i)) k ws f = (ws.take i).foldl appL f := by
  induction ws with
  | nil => intro k i f; simp [foldS]
  | cons w ws ih =>
    intro k i f
    cases i with
    | zero =>
      simp only [foldS, Nat.add_zero, Nat.lt_irrefl, decide_false, Bool.false_eq_true, if_false, List.take_zero, List.foldl_nil]
      have e : (fun j => decide (j < k)) = (fun j => decide (j < k)) := rfl
      have key : ∀ (ws : List (List (Nat × Option β))) (m : Nat) (f : Nat → Option β), k ≤ m → foldS (fun j => decide (j < k)) m ws f = f := by
        intro ws
        induction ws with
        | nil => intro m f _; rfl
        | cons w ws ih2 =>
          intro m f hm
          simp only [foldS]
          rw [if_neg (by simp; omega), ih2 _ _ (by omega)]
      exact key ws (k + 1) f (by omega)
    | succ i =>
      simp only [foldS, List.take_succ_cons, List.foldl_cons]
      rw [if_pos (by simp), ← ih (k + 1) i]
      rw [show k + 1 + i = k + (i + 1) from by omega]

end fold

/-! ### The edges -/

/-- i is listed wherever j is, in a set that is closed under the edges. -/
theorem before_spec (ops : Array Oper) : ∀ j i, ((Region.before ops).getD j 0).testBit i = true → ∀ S : Nat → Bool,
    (∀ k o, ops[k]? = some o → S k = true → ∀ e ∈ o.after, Region.binds .any e = true → S e.on = true) → S j = true → S i = true := by
  have inner : ∀ (acc : Array Nat) (S : Nat → Bool), (∀ j i, (acc.getD j 0).testBit i = true → S j = true → S i = true) → ∀ (es : List Edge) (s : Nat),
      (∀ i, s.testBit i = true → S i = true) → (∀ e ∈ es, Region.binds .any e = true → S e.on = true) →
      ∀ i, (es.foldl (fun s e => if Region.binds .any e then s ||| 2 ^ e.on ||| acc.getD e.on 0 else s) s).testBit i = true → S i = true := by
    intro acc S hacc es
    induction es with
    | nil => intro s hs _ i hi; exact hs i hi
    | cons e es ih =>
      intro s hs he i hi
      simp only [List.foldl_cons] at hi
      refine ih _ ?_ (fun e' he' => he e' (by simp [he'])) i hi
      intro i hi
      split at hi
      · rename_i hb
        have hon := he e (by simp) hb
        rw [Nat.testBit_or, Nat.testBit_or, Bool.or_eq_true, Bool.or_eq_true] at hi
        rcases hi with (hi | hi) | hi
        · exact hs i hi
        · rw [Nat.testBit_two_pow] at hi; simp at hi; subst hi; exact hon
        · exact hacc _ _ hi hon
      · exact hs i hi
  have outer : ∀ (l : List Oper) (acc : Array Nat) (S : Nat → Bool), (∀ j i, (acc.getD j 0).testBit i = true → S j = true → S i = true) →
      (∀ k o, l[k]? = some o → S (acc.size + k) = true → ∀ e ∈ o.after, Region.binds .any e = true → S e.on = true) →
      ∀ j i, ((l.foldl (fun acc o => acc.push (o.after.foldl (fun s e => if Region.binds .any e then s ||| 2 ^ e.on ||| acc.getD e.on 0 else s) 0)) acc).getD j 0).testBit i = true → S j = true → S i = true := by
    intro l
    induction l with
    | nil => intro acc S h1 _ j i hi hj; exact h1 j i hi hj
    | cons o l ih =>
      intro acc S h1 h2 j i hi hj
      simp only [List.foldl_cons] at hi
      refine ih _ S ?_ (fun k o' ho' => by
        intro hk
        refine h2 (k + 1) o' (by simpa using ho') ?_
        rw [Array.size_push] at hk
        rw [show acc.size + (k + 1) = acc.size + 1 + k from by omega]; exact hk) j i hi hj
      intro j i hi hj
      by_cases hs : j < acc.size
      · rw [Array.getD_eq_getD_getElem?, Array.getElem?_push_lt hs, ← Array.getElem?_eq_getElem hs, ← Array.getD_eq_getD_getElem?] at hi
        exact h1 j i hi hj
      · by_cases he : j = acc.size
        · subst he
          rw [Array.getD_eq_getD_getElem?, Array.getElem?_push_size, Option.getD_some, ← Array.foldl_toList] at hi
          exact inner acc S h1 o.after.toList 0 (by simp) (fun e hem hb => h2 0 o (by simp) (by simpa using hj) e (by simpa using hem) hb) i hi
        · rw [Array.getD_eq_getD_getElem?, Array.getElem?_eq_none (by simp; omega)] at hi
          simp at hi
  intro j i hi S hS hj
  refine outer ops.toList #[] S (by simp) (fun k o ho hk => hS k o (by simpa using ho) (by simpa using hk)) j i ?_ hj
  rw [Region.before, ← Array.foldl_toList] at hi
  exact hi

/-! ### What an operation touches -/

structure Lg where
  dst : Option Nat
  rd : List Nat
  F : List Nat
  Wi : List Nat
  deriving DecidableEq

def clash (e f : Lg) : Bool :=
  (match e.dst with | some d => f.rd.contains d || f.dst == some d | none => false) || (match f.dst with | some d => e.rd.contains d | none => false) ||
  e.Wi.any (fun i => f.F.contains i || f.Wi.contains i) || f.Wi.any (fun i => e.F.contains i)

def chk (ops : Array Oper) (lg : List Lg) : Bool :=
  let b := Region.before ops
  (List.range lg.length).all fun j => (List.range j).all fun i =>
    match lg[i]?, lg[j]? with
    | some e, some f => !clash e f || (b.getD j 0).testBit i
    | _, _ => false

/-- The slot that a guard asks. -/
def gslot (ops : Array Oper) (o : Oper) : List Nat :=
  match o.guard with
  | none => []
  | some (j, _) => ((ops[j]?).bind (·.dst)).toList

def gpass (ops : Array Oper) (o : Oper) (R : Env) : Option Bool :=
  match o.guard with
  | none => some true
  | some (j, want) => match ((ops[j]?).bind (·.dst)).bind R with
    | some (.b t) => some (t == want)
    | _ => none

/-- One operation of a statement, in the shadow. -/
structure En where
  lg : Lg
  out : Option SV
  W : Upd

def wr (e : En) : List (Nat × Option SV) := match e.lg.dst with | some d => [(d, e.out)] | none => []

def Good (P : Program) (ops : Array Oper) (o : Oper) (R : Env) (H : Heap) (e : En) : Prop :=
  e.lg.dst = o.dst ∧ e.lg.Wi = e.W.map (·.1) ∧
    ((gpass ops o R = some true ∧ e.lg.rd = gslot ops o ++ readsOf o ∧ LT P o R H e.lg.F e.W e.out) ∨
     (gpass ops o R = some false ∧ e.lg.rd = gslot ops o ∧ e.lg.F = [] ∧ e.W = [] ∧ e.out = none))

def RunT (P : Program) (ops : Array Oper) : List Oper → Env → Heap → Nat → List En → Env → Heap → Nat → Prop
  | [], R, H, L, es, R', H', Lf => es = [] ∧ R = R' ∧ H = H' ∧ L = Lf
  | o :: os, R, H, L, es, R', H', Lf => ∃ e es' L', es = e :: es' ∧ Good P ops o R H e ∧ L ≤ L' ∧ (∀ id ob, (id, ob) ∈ e.W → id < L' ∧ (id ∉ e.lg.F → L ≤ id)) ∧
      RunT P ops os (appL R (wr e)) (appL H e.W) L' es' R' H' Lf

theorem RunT.at {P : Program} {ops : Array Oper} : ∀ {os : List Oper} {R : Env} {H : Heap} {L : Nat} {es : List En} {R' : Env} {H' : Heap} {Lf : Nat}, RunT P ops os R H L es R' H' Lf →
    es.length = os.length ∧ R' = (es.map wr).foldl appL R ∧ H' = (es.map (·.W)).foldl appL H ∧ L ≤ Lf ∧ (∀ e ∈ es, ∀ id ob, (id, ob) ∈ e.W → id < Lf) ∧
    ∀ i o, os[i]? = some o → ∃ e Li, es[i]? = some e ∧ L ≤ Li ∧ Good P ops o (((es.take i).map wr).foldl appL R) (((es.take i).map (·.W)).foldl appL H) e ∧
      (∀ id ob, (id, ob) ∈ e.W → id ∉ e.lg.F → Li ≤ id) ∧ (∀ j f, j < i → es[j]? = some f → ∀ id ob, (id, ob) ∈ f.W → id < Li)
  | [], R, H, L, es, R', H', Lf, h => by
    obtain ⟨rfl, rfl, rfl, rfl⟩ := h
    exact ⟨rfl, rfl, rfl, Nat.le_refl _, by simp, fun i o ho => by simp at ho⟩
  | o :: os, R, H, L, es, R', H', Lf, h => by
    obtain ⟨e, es', L', rfl, hg, hL, hW, hr⟩ := h
    obtain ⟨h1, h2, h3, h5, h6, h4⟩ := RunT.at hr
    refine ⟨by simp [h1], by simpa using h2, by simpa using h3, by omega, fun x hx id ob hm => ?_, fun i o' ho => ?_⟩
    · rcases List.mem_cons.1 hx with rfl | hx
      · have := (hW id ob hm).1; omega
      · exact h6 x hx id ob hm
    cases i with
    | zero =>
      simp at ho; subst ho
      exact ⟨e, L, rfl, Nat.le_refl _, by simpa using hg, fun id ob hm hF => (hW id ob hm).2 hF, fun j f hj => by omega⟩
    | succ i =>
      obtain ⟨e', Li, a1, a2, a3, a4, a5⟩ := h4 i o' (by simpa using ho)
      refine ⟨e', Li, by simpa using a1, by omega, by simpa using a3, a4, fun j f hj hf id ob hm => ?_⟩
      cases j with
      | zero => simp at hf; subst hf; have := (hW id ob hm).1; omega
      | succ j => exact a5 j f (by omega) (by simpa using hf) id ob hm
end Go.Sh
