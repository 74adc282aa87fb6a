/- One operation, reckoned in the shadow. -/
import Derived.Test.YtaknbogocnkmnaaSh10
namespace Go.Sh
set_option linter.unusedSimpArgs false

def lk {β : Type} (t : Nat) : List (Nat × β) → Option β
  | [] => none
  | (d, v) :: R => match Nat.beq t d with | true => some v | false => lk t R

theorem lk_eq {β : Type} (t : Nat) : ∀ R : List (Nat × β), lk t R = R.lookup t
  | [] => rfl
  | (d, v) :: R => by
    simp only [lk, List.lookup_cons]
    have e : Nat.beq t d = (t == d) := Bool.eq_iff_iff.2 (by simp)
    rw [e]
    cases h : (t == d) <;> simp [lk_eq t R]

def hk (H : HL) (id : Nat) : Option SB := match H[id]? with | some (some b) => some b | _ => none
theorem hk_eq (H : HL) (id : Nat) : hk H id = hg H id := by
  unfold hk hg; cases H[id]? with
  | none => rfl
  | some x => cases x <;> rfl

inductive UD where
  | int (k : IntKind)
  | str
  | slc (el : Nat)
  | arr (n el : Nat)
  | st (fs : List (Nat × Nat × Nat))
  | oth

structure TI where
  sz : Nat
  agg : Bool
  zero : Option SV
  byt : Nat
  und : UD
  ks : Option (List Nat)
  sq : Option Nat

abbrev TT := List (Nat × TI)

def UOk (P : Program) (t : Nat) : UD → Prop
  | .int k => P.underlying t = some (.int k)
  | .str => P.underlying t = some .string
  | .slc el => P.underlying t = some (.slice el)
  | .arr n el => P.underlying t = some (.array n el)
  | .st fs => pplaces P t = some (fs.map fun f => (f.1, f.2.2)) ∧ (List.range fs.length).map (pfield P t) = fs.map (fun f => some (f.1, f.2.1)) ∧ fs.map (fun f => psz P f.2.1) = fs.map (fun f => some f.2.2)
  | .oth => True

structure TIOk (P : Program) (t : Nat) (ti : TI) : Prop where
  sz : psz P t = some ti.sz
  agg : pagg P t = some ti.agg
  zero : ∀ z, ti.zero = some z → pzero P t = some z
  byt : pbytes P t = some ti.byt
  und : UOk P t ti.und
  ks : ∀ ks, ti.ks = some ks → kinds P 12 t = some ks ∧ isRow P t = true ∧ P.eqGuardType P.depth t = false
  sq0 : (P.underlying t).map seqD = some ti.sq

theorem TIOk.sq {P : Program} {t : Nat} {ti : TI} (h : TIOk P t ti) : ∃ ds, P.underlying t = some ds ∧ seqD ds = ti.sq := by
  have := h.sq0
  cases hu : P.underlying t with
  | none => rw [hu] at this; simp at this
  | some ds => rw [hu] at this; exact ⟨ds, rfl, by simpa using this⟩

theorem TIOk.st {P : Program} {t : Nat} {ti : TI} {fs : List (Nat × Nat × Nat)} (h : TIOk P t ti) (hu : ti.und = .st fs) : pplaces P t = some (fs.map fun f => (f.1, f.2.2)) ∧ ∀ (i : Nat) f, fs[i]? = some f → pfield P t i = some (f.1, f.2.1) ∧ psz P f.2.1 = some f.2.2 := by
  have hq := h.und
  rw [hu] at hq
  obtain ⟨h1, h2, h3⟩ := hq
  refine ⟨h1, fun i f hf => ⟨?_, ?_⟩⟩
  · have e := congrArg (fun l => l[i]?) h2
    have hi : i < fs.length := (List.getElem?_eq_some_iff.1 hf).1
    simp only [List.getElem?_map, hf, Option.map_some, List.getElem?_range hi, Option.some.injEq] at e
    exact e
  · have e := congrArg (fun l => l[i]?) h3
    simp only [List.getElem?_map, hf, Option.map_some, Option.some.injEq] at e
    exact e

def TOk (P : Program) (T : TT) : Prop := ∀ t ti, lk t T = some ti → TIOk P t ti

def TOkL (P : Program) : TT → Prop
  | [] => True
  | (t, ti) :: T => TIOk P t ti ∧ TOkL P T
theorem TOk.of {P : Program} : ∀ {T : TT}, TOkL P T → TOk P T
  | [], _ => fun t ti h => by cases h
  | (t1, ti1) :: T, h => fun t ti ht => by
    simp only [lk] at ht
    split at ht
    · rename_i e
      have := Nat.eq_of_beq_eq_true e
      subst this
      cases ht; exact h.1
    · exact TOk.of h.2 t ti ht

def ev (R : RL) : Operand → Option SV
  | .tmp t => lk t R
  | .const v => ofVal v
  | .func f => some (.fn f [])
  | .global _ => none
theorem ev_eq (R : RL) (x : Operand) : ev R x = evO (rg R) x := by cases x <;> simp only [ev, evO, lk_eq, rg]

def evs (R : RL) : List Operand → Option (List SV)
  | [] => some []
  | x :: xs => match ev R x with
    | some z => match evs R xs with | some zs => some (z :: zs) | none => none
    | none => none
theorem evs_eq {R : RL} : ∀ {xs : List Operand} {zs : List SV}, evs R xs = some zs → xs.map (evO (rg R)) = zs.map some
  | [], zs, h => by cases h; rfl
  | x :: xs, zs, h => by
    simp only [evs] at h
    split at h
    · rename_i z hz
      split at h
      · rename_i ws hw
        cases h
        rw [ev_eq] at hz
        simp [hz, evs_eq hw]
      · cases h
    · cases h

def evp (R : RL) : List (Nat × Operand) → Option (List (Nat × SV))
  | [] => some []
  | (i, x) :: xs => match ev R x with
    | some z => match evp R xs with | some zs => some ((i, z) :: zs) | none => none
    | none => none
theorem evp_eq {R : RL} : ∀ {xs : List (Nat × Operand)} {zs : List (Nat × SV)}, evp R xs = some zs → xs.map (fun p => (p.1, evO (rg R) p.2)) = zs.map (fun p => (p.1, some p.2))
  | [], zs, h => by cases h; rfl
  | (i, x) :: xs, zs, h => by
    simp only [evp] at h
    split at h
    · rename_i z hz
      split at h
      · rename_i ws hw
        cases h
        rw [ev_eq] at hz
        simp [hz, evp_eq hw]
      · cases h
    · cases h

def evb (R : RL) (d : Nat) : Option Operand → Option Nat
  | none => some d
  | some x => match ev R x with | some z => idxOf z | none => none
theorem evb_eq (R : RL) (d : Nat) (x : Option Operand) : evb R d x = bound (rg R) d x := by
  cases x with
  | none => rfl
  | some x => simp only [evb, bound, ev_eq]; cases evO (rg R) x <;> rfl

abbrev K1 := Option SV → Upd → List Nat → Nat → Prop

/-- What an operation comes to. -/
structure Ok1 (P : Program) (o : Oper) (R : RL) (H : HL) (L : Nat) (k : K1) : Prop where
  ex : ∃ out W F L', LT P o (rg R) (hg H) F W out ∧ L ≤ L' ∧ (∀ id ob, (id, ob) ∈ W → id < L' ∧ (id ∉ F → L ≤ id)) ∧ k out W F L'

theorem hk_lt {H : HL} {L id : Nat} {b : SB} (hl : H.length ≤ L) (h : hk H id = some b) : id < L := by
  unfold hk at h
  split at h
  · rename_i x e
    have := (List.getElem?_eq_some_iff.1 e).1
    omega
  · cases h

/-! ### The cells of an aggregate, taken out -/

def takeF : Nat → List SV → Option (List SV)
  | 0, _ => some []
  | _ + 1, [] => none
  | n + 1, x :: xs => match takeF n xs with | some ys => some (x :: ys) | none => none

theorem takeF_eq : ∀ {n : Nat} {l ys : List SV}, takeF n l = some ys → l.take n = ys ∧ n ≤ l.length
  | 0, l, ys, h => by cases h; simp
  | n + 1, [], ys, h => by cases h
  | n + 1, x :: xs, ys, h => by
    simp only [takeF] at h
    split at h
    · rename_i zs hz; cases h
      obtain ⟨e, hl⟩ := takeF_eq hz
      simp [e]; omega
    · cases h

def dropF : Nat → List SV → List SV
  | 0, l => l
  | _ + 1, [] => []
  | n + 1, _ :: xs => dropF n xs
theorem dropF_eq : ∀ (n : Nat) (l : List SV), dropF n l = l.drop n
  | 0, l => by simp [dropF]
  | n + 1, [] => by simp [dropF]
  | n + 1, x :: xs => by simp [dropF, dropF_eq n xs]

def sloadF (agg : Bool) (sz : Nat) (l : List SV) (k : Nat) : Option SV :=
  match agg with
  | true => match takeF sz (dropF k l) with | some ys => some (.agg ys) | none => none
  | false => l[k]?

theorem sloadF_eq {agg : Bool} {sz k : Nat} {l : List SV} {z : SV} (h0 : 0 < sz) (h : sloadF agg sz l k = some z) : sload agg sz l k = some z := by
  cases agg with
  | false => simpa [sload, sloadF] using h
  | true =>
    simp only [sloadF] at h
    split at h
    · rename_i ys hy
      cases h
      obtain ⟨e, hl⟩ := takeF_eq hy
      rw [dropF_eq] at e hl
      simp only [List.length_drop] at hl
      simp only [sload, if_true]
      rw [if_pos (by omega), e]
    · cases h

/-- A choice that is reckoned out. -/
theorem ex_get {α : Type} {f : Option α} {K : α → Prop} (h : match f with | some z => K z | none => False) : ∃ z, f = some z ∧ K z := by
  cases f with
  | none => exact h.elim
  | some z => exact ⟨z, rfl, h⟩

theorem ex_load {agg : Bool} {sz k : Nat} {l : List SV} {K : SV → Prop} (h0 : 0 < sz) (h : match sloadF agg sz l k with | some z => K z | none => False) : ∃ z, sload agg sz l k = some z ∧ K z := by
  cases hz : sloadF agg sz l k with
  | none => rw [hz] at h; exact h.elim
  | some z => rw [hz] at h; exact ⟨z, sloadF_eq h0 hz, h⟩

/-! ### The operations -/

def sopLoad (T : TT) (R : RL) (H : HL) (L : Nat) (t : Nat) (x : Operand) (k : K1) : Prop :=
  match ev R x with
  | some (.p id off) => match lk t T with
    | some ti => match hk H id with
      | some b => match Nat.ble 1 ti.sz with
        | true => ∃ z, sload ti.agg ti.sz b.cells off = some z ∧ k (some z) [] [id] L
        | false => False
      | none => False
    | none => False
  | _ => False

def sopStore (T : TT) (R : RL) (H : HL) (L : Nat) (t : Nat) (x y : Operand) (k : K1) : Prop :=
  match ev R x with
  | some (.p id off) => match ev R y with
    | some z => match lk t T with
      | some ti => match z.isTup with
        | false => match Nat.ble 1 ti.sz with
          | true => match hk H id with
            | some (.box l) => (z.cells.length = ti.sz ∧ off + ti.sz ≤ l.length) ∧ ∃ m, sput l off z = m ∧ k none [(id, some (.box m))] [id] L
            | some (.row e l) => (z.cells.length = ti.sz ∧ off + ti.sz ≤ l.length) ∧ ∃ m, sput l off z = m ∧ k none [(id, some (.row e m))] [id] L
            | _ => False
          | false => False
        | true => False
      | none => False
    | none => False
  | _ => False

def sopBox (R : RL) (L : Nat) (x : Operand) (k : K1) : Prop :=
  match ev R x with
  | some (.tup _) => False
  | some (.agg l) => k (some (.p L 0)) [(L, some (.box l))] [] (L + 1)
  | some z => k (some (.p L 0)) [(L, some (.box [z]))] [] (L + 1)
  | none => False

def sopAlloc (T : TT) (L : Nat) (t : Nat) (k : K1) : Prop :=
  match lk t T with
  | some ti => match ti.zero with
    | some (.agg l) => k (some (.p L 0)) [(L, some (.box l))] [] (L + 1)
    | some z => k (some (.p L 0)) [(L, some (.box z.cells))] [] (L + 1)
    | none => False
  | none => False

def sopEq (T : TT) (L : Nat) (ne : Bool) (t : Nat) (a b : SV) (k : K1) : Prop :=
  match a, b with
  | .agg xs, .agg ys => match lk t T with
    | some ti => match ti.ks with
      | some ks => (xs.map kd = ks.map some ∧ ys.map kd = ks.map some) ∧ match ne with
        | true => k (some (.b (!eqcs xs ys))) [] [] L
        | false => k (some (.b (eqcs xs ys))) [] [] L
      | none => False
    | none => False
  | a, b => match ne with
    | true => match sarith .neq a b with
      | some z => k (some z) [] [] L
      | none => match lk t T with
        | some ti => match seq a b with
          | some r => (ti.sq = seqT a) ∧ k (some (.b (!r))) [] [] L
          | none => False
        | none => False
    | false => match sarith .eql a b with
      | some z => k (some z) [] [] L
      | none => match lk t T with
        | some ti => match seq a b with
          | some r => (ti.sq = seqT a) ∧ k (some (.b r)) [] [] L
          | none => False
        | none => False

def sopBin (T : TT) (R : RL) (L : Nat) (op : BinOp) (t : Nat) (x y : Operand) (k : K1) : Prop :=
  match ev R x with
  | some a => match ev R y with
    | some b =>
      match op with
      | .shl => match b with
        | .i _ => ∃ z, snum .shl a b = some z ∧ k (some z) [] [] L
        | b => match snum .shl a b with | some z => k (some z) [] [] L | none => False
      | .shr => match b with
        | .i _ => ∃ z, snum .shr a b = some z ∧ k (some z) [] [] L
        | b => match snum .shr a b with | some z => k (some z) [] [] L | none => False
      | .quo => ∃ z, sarith .quo a b = some z ∧ k (some z) [] [] L
      | .rem => ∃ z, sarith .rem a b = some z ∧ k (some z) [] [] L
      | .eql => sopEq T L false t a b k
      | .neq => sopEq T L true t a b k
      | op => match sarith op a b with
        | some z => k (some z) [] [] L
        | none => False
    | none => False
  | none => False

def sopUn (R : RL) (L : Nat) (op : UnOp) (x : Operand) (k : K1) : Prop :=
  match ev R x with
  | some a => match sun op a with
    | some z => k (some z) [] [] L
    | none => False
  | none => False

def sopConv (T : TT) (R : RL) (H : HL) (L : Nat) (s d : Nat) (x : Operand) (k : K1) : Prop :=
  match lk s T with
  | some ts => match lk d T with
    | some td => match ev R x with
      | some a => match td.und with
        | .int ik => match sconv ik a with
          | some z => k (some z) [] [] L
          | none => False
        | .str => match a with
          | .s l => k (some (.s l)) [] [] L
          | .sl id off n sz _ => match ts.und with
            | .slc el => match lk el T with
              | some te => match te.und with
                | .int .u8 => match Nat.beq sz 1 with
                  | true => match hk H id with
                    | some b => (off + n ≤ b.cells.length) ∧ ∃ l, bytesOf ((b.cells.drop off).take n) = some l ∧ k (some (.s l)) [] [id] L
                    | none => False
                  | false => False
                | _ => False
              | none => False
            | _ => False
          | .slnil => match ts.und with
            | .slc el => match lk el T with
              | some te => match te.und with
                | .int .u8 => k (some (.s [])) [] [] L
                | _ => False
              | none => False
            | _ => False
          | _ => False
        | .slc el => match a with
          | .s l => match ts.und with
            | .str => match lk el T with
              | some te => match te.und with
                | .int .u8 => k (some (.sl L 0 l.length 1 false)) [(L, some (.row el (l.map .u8)))] [] (L + 1)
                | _ => False
              | none => False
            | _ => False
          | _ => False
        | _ => False
      | none => False
    | none => False
  | none => False

def sopField (T : TT) (R : RL) (L : Nat) (t : Nat) (x : Operand) (f : Nat) (k : K1) : Prop :=
  match ev R x with
  | some (.p id off) => match lk t T with
    | some ti => match ti.und with
      | .st fs => match fs[f]? with
        | some (o2, _, sz) => match Nat.ble 1 sz with
          | true => k (some (.p id (off + o2))) [] [] L
          | false => False
        | none => False
      | _ => False
    | none => False
  | _ => False

def sopIndexAddr (T : TT) (R : RL) (L : Nat) (t : Nat) (x y : Operand) (k : K1) : Prop :=
  match lk t T with
  | some ti => match ti.und with
    | .arr len el => match lk el T with
      | some te => match ev R x with
        | some (.p id off) => match ev R y with
          | some z => ∃ i, idxOf z = some i ∧ (i < len) ∧ k (some (.p id (off + i * te.sz))) [] [] L
          | none => False
        | _ => False
      | none => False
    | .slc el => match lk el T with
      | some te => match ev R x with
        | some (.sl id off n sz _) => match Nat.beq sz te.sz with
          | true => match ev R y with
            | some z => ∃ i, idxOf z = some i ∧ (i < n) ∧ k (some (.p id (off + i * sz))) [] [] L
            | none => False
          | false => False
        | _ => False
      | none => False
    | _ => False
  | none => False

def sopIndex (T : TT) (R : RL) (L : Nat) (t : Nat) (x y : Operand) (k : K1) : Prop :=
  match lk t T with
  | some ti => match ti.und with
    | .arr len el => match lk el T with
      | some te => match ev R x with
        | some (.agg l) => match ev R y with
          | some z => ∃ i, idxOf z = some i ∧ (i < len) ∧ ∃ r, sload te.agg te.sz l (i * te.sz) = some r ∧ k (some r) [] [] L
          | none => False
        | _ => False
      | none => False
    | .str => match ev R x with
      | some (.s l) => match ev R y with
        | some z => ∃ i, idxOf z = some i ∧ ∃ c, l[i]? = some c ∧ k (some (.u8 c)) [] [] L
        | none => False
      | _ => False
    | _ => False
  | none => False

def sopExtract (R : RL) (L : Nat) (x : Operand) (i : Nat) (k : K1) : Prop :=
  match ev R x with
  | some (.tup l) => match l[i]? with
    | some z => k (some z) [] [] L
    | none => False
  | _ => False

def sopNil (R : RL) (L : Nat) (x : Operand) (k : K1) : Prop :=
  match ev R x with
  | some (.p id off) => k (some (.p id off)) [] [] L
  | _ => False

def sopFunc (R : RL) (L : Nat) (fn : Fn) (first cap : Array Operand) (k : K1) : Prop :=
  match fn with
  | .func f => match first.toList with
    | [] => match evs R cap.toList with
      | some zs => k (some (.fn f zs)) [] [] L
      | none => False
    | _ => False
  | _ => False

def sopArrAt (T : TT) (R : RL) (L : Nat) (t : Nat) (x : Operand) (k : K1) : Prop :=
  match lk t T with
  | some ti => match ti.und with
    | .arr len _ => match ev R x with
      | some (.sl id off n _ _) => match Nat.ble 1 len with
        | true => (len ≤ n) ∧ k (some (.p id off)) [] [] L
        | false => False
      | _ => False
    | _ => False
  | none => False

def sopBuild (T : TT) (R : RL) (L : Nat) (t : Nat) (parts : Array (Nat × Operand)) (k : K1) : Prop :=
  match evp R parts.toList with
  | some xs => match lk t T with
    | some ti => match ti.zero with
      | some z => match ti.und with
        | .st fs => ∃ l, sfill (fun i => (fs.map fun f => (f.1, f.2.2))[i]?) z.cells xs = some l ∧ k (some (.agg l)) [] [] L
        | .arr _ el => match lk el T with
          | some te => ∃ l, sfill (fun i => some (i * te.sz, te.sz)) z.cells xs = some l ∧ k (some (.agg l)) [] [] L
          | none => False
        | _ => False
      | none => False
    | none => False
  | none => False

def sopBuildSlice (T : TT) (R : RL) (L : Nat) (t n : Nat) (parts : Array (Nat × Operand)) (k : K1) : Prop :=
  match evp R parts.toList with
  | some xs => match lk t T with
    | some ti => match ti.und with
      | .slc el => match lk el T with
        | some te => match te.zero with
          | some z => match Nat.ble (n * te.sz) 16777216 with
            | true => match Nat.beq z.cells.length te.sz with
              | true => ∃ l, sfill (fun i => some (i * te.sz, te.sz)) (reps n z.cells) xs = some l ∧ k (some (.sl L 0 n te.sz true)) [(L, some (.row el l))] [] (L + 1)
              | false => False
            | false => False
          | none => False
        | none => False
      | _ => False
    | none => False
  | none => False

def sopMake (T : TT) (R : RL) (L : Nat) (t : Nat) (x y : Operand) (k : K1) : Prop :=
  match ev R x with
  | some (.i n) => match ev R y with
    | some (.i m) => match lk t T with
      | some ti => match ti.und with
        | .slc el => match lk el T with
          | some te => match te.zero with
            | some z => match Nat.beq z.cells.length te.sz with
              | true => (0 ≤ n ∧ n ≤ m ∧ (te.byt : Int) * m ≤ 281474976710656 ∧ m ≤ 9223372036854775807) ∧
                  k (some (.sl L 0 n.toNat te.sz (decide (n = m)))) [(L, some (.row el (reps n.toNat z.cells)))] [] (L + 1)
              | false => False
            | none => False
          | none => False
        | _ => False
      | none => False
    | _ => False
  | _ => False

def sopSlice (T : TT) (R : RL) (H : HL) (L : Nat) (t : Nat) (x : Operand) (lo hi mx : Option Operand) (k : K1) : Prop :=
  match lk t T with
  | some ti => match ti.und with
    | .slc el => match lk el T with
      | some te => match ev R x with
        | some (.sl id off n sz full) => match Nat.beq sz te.sz with
          | true => match mx with
            | none => ∃ l, evb R 0 lo = some l ∧ ∃ h, evb R n hi = some h ∧ (l ≤ h ∧ h ≤ n) ∧ k (some (.sl id (off + l * sz) (h - l) sz (full && decide (h = n)))) [] [] L
            | some zm => match hi with
              | some yh => ∃ l, evb R 0 lo = some l ∧ ∃ h, evb R n (some yh) = some h ∧ ∃ m, evb R n (some zm) = some m ∧ (l ≤ h ∧ h ≤ m ∧ m ≤ n) ∧
                  k (some (.sl id (off + l * sz) (h - l) sz (decide (h = m)))) [] [] L
              | none => False
          | false => False
        | some .slnil => match mx with
          | none => (evb R 0 lo = some 0 ∧ evb R 0 hi = some 0) ∧ k (some .slnil) [] [] L
          | some _ => False
        | _ => False
      | none => False
    | .arr len el => match lk el T with
      | some te => match ev R x with
        | some (.p id off) => match hk H id with
          | some b => match mx with
            | none => ∃ l, evb R 0 lo = some l ∧ ∃ h, evb R len hi = some h ∧ (l ≤ h ∧ h ≤ len ∧ 0 < len * te.sz ∧ off + len * te.sz ≤ b.cells.length) ∧
                k (some (.sl id (off + l * te.sz) (h - l) te.sz (decide (h = len)))) [] [id] L
            | some _ => False
          | none => False
        | _ => False
      | none => False
    | .str => match ev R x with
      | some (.s bs) => match mx with
        | none => ∃ l, evb R 0 lo = some l ∧ ∃ h, evb R bs.length hi = some h ∧ (l ≤ h ∧ h ≤ bs.length) ∧ k (some (.s ((bs.take h).drop l))) [] [] L
        | some _ => False
      | _ => False
    | _ => False
  | none => False

def sopLen (T : TT) (R : RL) (L : Nat) (x : Operand) (t : Nat) (k : K1) : Prop :=
  match lk t T with
  | some ti => match ti.und with
    | .slc _ => match ev R x with
      | some (.sl _ _ n _ _) => k (some (.i (n : Int))) [] [] L
      | some .slnil => k (some (.i 0)) [] [] L
      | _ => False
    | .arr n _ => k (some (.i (n : Int))) [] [] L
    | .str => match ev R x with
      | some (.s l) => k (some (.i (l.length : Int))) [] [] L
      | _ => False
    | _ => False
  | none => False

def sopMin (R : RL) (L : Nat) (x y : Operand) (k : K1) : Prop :=
  match ev R x with
  | some (.i a) => match ev R y with
    | some (.i b) => k (some (.i (if b < a then b else a))) [] [] L
    | _ => False
  | _ => False
def sopMax (R : RL) (L : Nat) (x y : Operand) (k : K1) : Prop :=
  match ev R x with
  | some (.i a) => match ev R y with
    | some (.i b) => k (some (.i (if b > a then b else a))) [] [] L
    | _ => False
  | _ => False

/-- What an append asks of its types. -/
def appTI (T : TT) (t xT : Nat) : Option (Nat × TI × Bool) :=
  match lk t T with
  | some ti => match ti.und with
    | .slc el => match lk el T with
      | some te => match te.zero with
        | some z => match Nat.beq z.cells.length te.sz with
          | true => match Nat.ble 1 te.byt with
            | true => match lk xT T with
              | some tx => match tx.und with
                | .slc _ => some (el, te, false)
                | .str => some (el, te, true)
                | _ => none
              | none => none
            | false => none
          | false => none
        | none => none
      | none => none
    | _ => none
  | none => none

def sopAppend (T : TT) (R : RL) (H : HL) (L : Nat) (x y : Operand) (t xT : Nat) (k : K1) : Prop :=
  match appTI T t xT with
  | some (el, te, _) => match ev R x with
    | some .slnil => match ev R y with
      | some (.sl id o2 m sz _) => match Nat.beq sz te.sz with
        | true => match hk H id with
          | some b => (o2 + m * sz ≤ b.cells.length ∧ m * te.byt ≤ 140737488355328) ∧ k (some (.sl L 0 m sz false)) [(L, some (.row el ((b.cells.drop o2).take (m * sz))))] [id] (L + 1)
          | none => False
        | false => False
      | some (.s l) => match Nat.beq te.sz 1 with
        | true => (l.length * te.byt ≤ 140737488355328) ∧ k (some (.sl L 0 l.length 1 false)) [(L, some (.row el (l.map .u8)))] [] (L + 1)
        | false => False
      | some .slnil => k (some .slnil) [] [] L
      | _ => False
    | some (.sl id off n sz full) => match Nat.beq sz te.sz with
      | true => match ev R y with
        | some .slnil => k (some (.sl id off n sz full)) [] [] L
        | some (.sl id2 o2 m sz2 _) => match Nat.beq sz2 te.sz with
          | true => match hk H id with
            | some b => match hk H id2 with
              | some b2 => match full with
                | true => (off + n * sz ≤ b.cells.length ∧ o2 + m * sz ≤ b2.cells.length ∧ (n + m) * te.byt ≤ 140737488355328 ∧ 0 < m) ∧
                    k (some (.sl L 0 (n + m) sz false)) [(L, some (.row el ((b.cells.drop off).take (n * sz) ++ (b2.cells.drop o2).take (m * sz))))] [id, id2] (L + 1)
                | false => match b with
                  | .row e2 l => match Nat.beq e2 el with
                    | true => (off + n * sz ≤ l.length ∧ o2 + m * sz ≤ b2.cells.length ∧ (n + m) * te.byt ≤ 140737488355328) ∧
                        k (some (.sl L 0 (n + m) sz false)) [(id, none), (L, some (.row el ((l.drop off).take (n * sz) ++ (b2.cells.drop o2).take (m * sz))))] [id, id2] (L + 1)
                    | false => False
                  | _ => False
              | none => False
            | none => False
          | false => False
        | some (.s s) => match Nat.beq te.sz 1 with
          | true => match hk H id with
            | some (.row e2 l) => match Nat.beq e2 el with
              | true => (off + n * 1 ≤ l.length ∧ (n + s.length) * te.byt ≤ 140737488355328) ∧
                  k (some (.sl L 0 (n + s.length) 1 false)) [(id, none), (L, some (.row el ((l.drop off).take (n * 1) ++ s.map .u8)))] [id] (L + 1)
              | false => False
            | _ => False
          | false => False
        | _ => False
      | false => False
    | _ => False
  | none => False

def sopCopy (T : TT) (R : RL) (H : HL) (L : Nat) (x y : Operand) (t : Nat) (k : K1) : Prop :=
  match lk t T with
  | some ti => match ti.und with
    | .slc el => match lk el T with
      | some te => match ev R x with
        | some (.sl id off n sz _) => match ev R y with
          | some (.sl id2 o2 m sz2 _) => match Nat.beq sz te.sz with
            | true => match Nat.beq sz2 te.sz with
              | true => match hk H id with
                | some (.row e l) => match hk H id2 with
                  | some b2 => (off + n * sz ≤ l.length ∧ o2 + m * sz ≤ b2.cells.length ∧ 0 < l.length) ∧
                      k (some (.i ((min m n : Nat) : Int))) [(id, some (.row e (sput l off (.agg (((b2.cells.drop o2).take (m * sz)).take (min m n * sz))))))] [id, id2] L
                  | none => False
                | some (.box l) => match hk H id2 with
                  | some b2 => (off + n * sz ≤ l.length ∧ o2 + m * sz ≤ b2.cells.length ∧ 0 < l.length) ∧
                      k (some (.i ((min m n : Nat) : Int))) [(id, some (.box (sput l off (.agg (((b2.cells.drop o2).take (m * sz)).take (min m n * sz))))))] [id, id2] L
                  | none => False
                | _ => False
              | false => False
            | false => False
          | _ => False
        | _ => False
      | none => False
    | _ => False
  | none => False

def sop (T : TT) (P : Program) (o : Oper) (R : RL) (H : HL) (L : Nat) (k : K1) : Prop :=
  match o.op with
  | .move x => match ev R x with | some z => k (some z) [] [] L | none => False
  | .assign x => match ev R x with | some z => k (some z) [] [] L | none => False
  | .pick c x y => match ev R c with
    | some (.b t) => ∃ z, (if t then ev R x else ev R y) = some z ∧ k (some z) [] [] L
    | _ => False
  | .box _ x => sopBox R L x k
  | .alloc t => sopAlloc T L t k
  | .load t x => sopLoad T R H L t x k
  | .store t x y => sopStore T R H L t x y k
  | .binOp op t x y _ => sopBin T R L op t x y k
  | .unOp op _ x => sopUn R L op x k
  | .convert s d x => sopConv T R H L s d x k
  | .fieldAddr t x f => sopField T R L t x f k
  | .indexAddr t x y => sopIndexAddr T R L t x y k
  | .index t x y => sopIndex T R L t x y k
  | .extract x i => sopExtract R L x i k
  | .nilCheck x => sopNil R L x k
  | .makeFunc fn first cap => sopFunc R L fn first cap k
  | .sliceToArrayPointer t x => sopArrAt T R L t x k
  | .build t parts => sopBuild T R L t parts k
  | .buildSlice t n parts => sopBuildSlice T R L t n parts k
  | .makeSlice t x y => sopMake T R L t x y k
  | .slice t x lo hi mx => sopSlice T R H L t x lo hi mx k
  | .call ⟨.builtin b, ⟨args⟩, ⟨tys⟩⟩ => match b, args, tys with
    | .len, [x], [t] => sopLen T R L x t k
    | .min, [x, y], [_, _] => sopMin R L x y k
    | .max, [x, y], [_, _] => sopMax R L x y k
    | .append, [x, y], [t, xT] => sopAppend T R H L x y t xT k
    | .copy, [x, y], [t, _] => sopCopy T R H L x y t k
    | _, _, _ => Ok1 P o R H L k
  | _ => Ok1 P o R H L k
end Go.Sh
