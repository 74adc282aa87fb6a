/- Merged for a claim: Sh11, Sh12, Sh13, Sh14, Sh15, Sh16. -/
import Derived.LoopNIn
import Derived.Test.YthncciimpbgcoaaGreatProg
import Derived.Test.YthncciimpbgcoaaGreatSm1
set_option linter.unusedSimpArgs false
set_option linter.unusedVariables false
namespace Go.Sh
def lk {β : Type} (t : Nat) : List (Nat × β) → Option β
 | [] => none
 | (d, v) :: R => match Nat.beq t d with | true => some v | false => lk t R
theorem lk_eq {β : Type} (t : Nat) : ∀ R : List (Nat × β), lk t R = R.lookup t
 | [] => rfl
 | (d, v) :: R => by
  simp only [lk, List.lookup_cons]
  have e : Nat.beq t d = (t == d) := Bool.eq_iff_iff.2 (by simp)
  rw [e]
  cases h : (t == d) <;> simp [lk_eq t R]
def hk (H : HL) (id : Nat) : Option SB := match H[id]? with | some (some b) => some b | _ => none
theorem hk_eq (H : HL) (id : Nat) : hk H id = hg H id := by
 unfold hk hg; cases H[id]? with
 | none => rfl
 | some x => cases x <;> rfl
inductive UD where
 | int (k : IntKind)
 | str
 | slc (el : Nat)
 | arr (n el : Nat)
 | st (fs : List (Nat × Nat × Nat))
 | oth
structure TI where
 sz : Nat
 agg : Bool
 zero : Option SV
 byt : Nat
 und : UD
 ks : Option (List Nat)
 sq : Option Nat
abbrev TT := List (Nat × TI)
def UOk (P : Program) (t : Nat) : UD → Prop
 | .int k => P.underlying t = some (.int k)
 | .str => P.underlying t = some .string
 | .slc el => P.underlying t = some (.slice el)
 | .arr n el => P.underlying t = some (.array n el)
 | .st fs => pplaces P t = some (fs.map fun f => (f.1, f.2.2)) ∧ (List.range fs.length).map (pfield P t) = fs.map (fun f => some (f.1, f.2.1)) ∧ fs.map (fun f => psz P f.2.1) = fs.map (fun f => some f.2.2)
 | .oth => True
structure TIOk (P : Program) (t : Nat) (ti : TI) : Prop where
 sz : psz P t = some ti.sz
 agg : pagg P t = some ti.agg
 zero : ∀ z, ti.zero = some z → pzero P t = some z
 byt : pbytes P t = some ti.byt
 und : UOk P t ti.und
 ks : ∀ ks, ti.ks = some ks → kinds P 12 t = some ks ∧ isRow P t = true ∧ P.eqGuardType P.depth t = false
 sq0 : (P.underlying t).map seqD = some ti.sq
theorem TIOk.sq {P : Program} {t : Nat} {ti : TI} (h : TIOk P t ti) : ∃ ds, P.underlying t = some ds ∧ seqD ds = ti.sq := by
 have := h.sq0
 cases hu : P.underlying t with
 | none => rw [hu] at this; simp at this
 | some ds => rw [hu] at this; exact ⟨ds, rfl, by simpa using this⟩
theorem TIOk.st {P : Program} {t : Nat} {ti : TI} {fs : List (Nat × Nat × Nat)} (h : TIOk P t ti) (hu : ti.und = .st fs) : pplaces P t = some (fs.map fun f => (f.1, f.2.2)) ∧ ∀ (i : Nat) f, fs[i]? = some f → pfield P t i = some (f.1, f.2.1) ∧ psz P f.2.1 = some f.2.2 := by
 have hq := h.und
 rw [hu] at hq
 obtain ⟨h1, h2, h3⟩ := hq
 refine ⟨h1, fun i f hf => ⟨?_, ?_⟩⟩
 ·
  have e := congrArg (fun l => l[i]?) h2
  have hi : i < fs.length := (List.getElem?_eq_some_iff.1 hf).1
  simp only [List.getElem?_map, hf, Option.map_some, List.getElem?_range hi, Option.some.injEq] at e
  exact e
 ·
  have e := congrArg (fun l => l[i]?) h3
  simp only [List.getElem?_map, hf, Option.map_some, Option.some.injEq] at e
  exact e
def TOk (P : Program) (T : TT) : Prop := ∀ t ti, lk t T = some ti → TIOk P t ti
def TOkL (P : Program) : TT → Prop
 | [] => True
 | (t, ti) :: T => TIOk P t ti ∧ TOkL P T
theorem TOk.of {P : Program} : ∀ {T : TT}, TOkL P T → TOk P T
 | [], _ => fun t ti h => by cases h
 | (t1, ti1) :: T, h => fun t ti ht => by
  simp only [lk] at ht
  split at ht
  ·
   rename_i e
   have := Nat.eq_of_beq_eq_true e
   subst this
   cases ht; exact h.1
  ·
   exact TOk.of h.2 t ti ht
def ev (R : RL) : Operand → Option SV
 | .tmp t => lk t R
 | .const v => ofVal v
 | .func f => some (.fn f [])
 | .global _ => none
theorem ev_eq (R : RL) (x : Operand) : ev R x = evO (rg R) x := by cases x <;> simp only [ev, evO, lk_eq, rg]
def evs (R : RL) : List Operand → Option (List SV)
 | [] => some []
 | x :: xs => match ev R x with
  | some z => match evs R xs with | some zs => some (z :: zs) | none => none
  | none => none
theorem evs_eq {R : RL} : ∀ {xs : List Operand} {zs : List SV}, evs R xs = some zs → xs.map (evO (rg R)) = zs.map some
 | [], zs, h => by cases h; rfl
 | x :: xs, zs, h => by
  simp only [evs] at h
  split at h
  ·
   rename_i z hz
   split at h
   ·
    rename_i ws hw
    cases h
    rw [ev_eq] at hz
    simp [hz, evs_eq hw]
   ·
    cases h
  ·
   cases h
def evp (R : RL) : List (Nat × Operand) → Option (List (Nat × SV))
 | [] => some []
 | (i, x) :: xs => match ev R x with
  | some z => match evp R xs with | some zs => some ((i, z) :: zs) | none => none
  | none => none
theorem evp_eq {R : RL} : ∀ {xs : List (Nat × Operand)} {zs : List (Nat × SV)}, evp R xs = some zs → xs.map (fun p => (p.1, evO (rg R) p.2)) = zs.map (fun p => (p.1, some p.2))
 | [], zs, h => by cases h; rfl
 | (i, x) :: xs, zs, h => by
  simp only [evp] at h
  split at h
  ·
   rename_i z hz
   split at h
   ·
    rename_i ws hw
    cases h
    rw [ev_eq] at hz
    simp [hz, evp_eq hw]
   ·
    cases h
  ·
   cases h
def evb (R : RL) (d : Nat) : Option Operand → Option Nat
 | none => some d
 | some x => match ev R x with | some z => idxOf z | none => none
theorem evb_eq (R : RL) (d : Nat) (x : Option Operand) : evb R d x = bound (rg R) d x := by
 cases x with
 | none => rfl
 | some x => simp only [evb, bound, ev_eq]; cases evO (rg R) x <;> rfl
abbrev K1 := Option SV → Upd → List Nat → Nat → Prop
structure Ok1 (P : Program) (o : Oper) (R : RL) (H : HL) (L : Nat) (k : K1) : Prop where
 ex : ∃ out W F L', LT P o (rg R) (hg H) F W out ∧ L ≤ L' ∧ (∀ id ob, (id, ob) ∈ W → id < L' ∧ (id ∉ F → L ≤ id)) ∧ k out W F L'
theorem hk_lt {H : HL} {L id : Nat} {b : SB} (hl : H.length ≤ L) (h : hk H id = some b) : id < L := by
 unfold hk at h
 split at h
 ·
  rename_i x e
  have := (List.getElem?_eq_some_iff.1 e).1
  omega
 ·
  cases h
def sopLoad (T : TT) (R : RL) (H : HL) (L : Nat) (t : Nat) (x : Operand) (k : K1) : Prop :=
 match ev R x with
 | some (.p id off) => match lk t T with
  | some ti => match hk H id with
   | some b => match Nat.ble 1 ti.sz with
    | true => ∃ z, sload ti.agg ti.sz b.cells off = some z ∧ k (some z) [] [id] L
    | false => False
   | none => False
  | none => False
 | _ => False
def sopStore (T : TT) (R : RL) (H : HL) (L : Nat) (t : Nat) (x y : Operand) (k : K1) : Prop :=
 match ev R x with
 | some (.p id off) => match ev R y with
  | some z => match lk t T with
   | some ti => match z.isTup with
    | false => match Nat.ble 1 ti.sz with
     | true => match hk H id with
      | some (.box l) => (z.cells.length = ti.sz ∧ off + ti.sz ≤ l.length) ∧ ∃ m, sput l off z = m ∧ k none [(id, some (.box m))] [id] L
      | some (.row e l) => (z.cells.length = ti.sz ∧ off + ti.sz ≤ l.length) ∧ ∃ m, sput l off z = m ∧ k none [(id, some (.row e m))] [id] L
      | _ => False
     | false => False
    | true => False
   | none => False
  | none => False
 | _ => False
def sopBox (R : RL) (L : Nat) (x : Operand) (k : K1) : Prop :=
 match ev R x with
 | some (.tup _) => False
 | some (.agg l) => k (some (.p L 0)) [(L, some (.box l))] [] (L + 1)
 | some z => k (some (.p L 0)) [(L, some (.box [z]))] [] (L + 1)
 | none => False
def sopAlloc (T : TT) (L : Nat) (t : Nat) (k : K1) : Prop :=
 match lk t T with
 | some ti => match ti.zero with
  | some (.agg l) => k (some (.p L 0)) [(L, some (.box l))] [] (L + 1)
  | some z => k (some (.p L 0)) [(L, some (.box z.cells))] [] (L + 1)
  | none => False
 | none => False
def sopEq (T : TT) (L : Nat) (ne : Bool) (t : Nat) (a b : SV) (k : K1) : Prop :=
 match a, b with
 | .agg xs, .agg ys => match lk t T with
  | some ti => match ti.ks with
   | some ks => (xs.map kd = ks.map some ∧ ys.map kd = ks.map some) ∧ match ne with
    | true => k (some (.b (!eqcs xs ys))) [] [] L
    | false => k (some (.b (eqcs xs ys))) [] [] L
   | none => False
  | none => False
 | .sl _ _ n _ _, .slnil => match lk t T with
  | some ti => (ti.sq = some 3 ∧ 0 < n) ∧ k (some (.b ne)) [] [] L
  | none => False
 | a, b => match ne with
  | true => match sarith .neq a b with
   | some z => k (some z) [] [] L
   | none => match lk t T with
    | some ti => match seq a b with
     | some r => (ti.sq = seqT a) ∧ k (some (.b (!r))) [] [] L
     | none => False
    | none => False
  | false => match sarith .eql a b with
   | some z => k (some z) [] [] L
   | none => match lk t T with
    | some ti => match seq a b with
     | some r => (ti.sq = seqT a) ∧ k (some (.b r)) [] [] L
     | none => False
    | none => False
def sopBin (T : TT) (R : RL) (L : Nat) (op : BinOp) (t : Nat) (x y : Operand) (k : K1) : Prop :=
 match ev R x with
 | some a => match ev R y with
  | some b =>
   match op with
   | .shl => match b with
    | .i _ => ∃ z, snum .shl a b = some z ∧ k (some z) [] [] L
    | b => match snum .shl a b with | some z => k (some z) [] [] L | none => False
   | .shr => match b with
    | .i _ => ∃ z, snum .shr a b = some z ∧ k (some z) [] [] L
    | b => match snum .shr a b with | some z => k (some z) [] [] L | none => False
   | .quo => ∃ z, sarith .quo a b = some z ∧ k (some z) [] [] L
   | .rem => ∃ z, sarith .rem a b = some z ∧ k (some z) [] [] L
   | .eql => sopEq T L false t a b k
   | .neq => sopEq T L true t a b k
   | op => match sarith op a b with
    | some z => k (some z) [] [] L
    | none => match op with
     | .add => match a with
      | .s u => match b with
       | .s v => (u.length + v.length ≤ 9223372036854775807) ∧ k (some (.s (u ++ v))) [] [] L
       | _ => False
      | _ => False
     | _ => False
  | none => False
 | none => False
def sopUn (R : RL) (L : Nat) (op : UnOp) (x : Operand) (k : K1) : Prop :=
 match ev R x with
 | some a => match sun op a with
  | some z => k (some z) [] [] L
  | none => False
 | none => False
def sopConv (T : TT) (R : RL) (H : HL) (L : Nat) (s d : Nat) (x : Operand) (k : K1) : Prop :=
 match lk s T with
 | some ts => match lk d T with
  | some td => match ev R x with
   | some a => match td.und with
    | .int ik => match sconv ik a with
     | some z => k (some z) [] [] L
     | none => False
    | .str => match a with
     | .s l => k (some (.s l)) [] [] L
     | .sl id off n sz _ => match ts.und with
      | .slc el => match lk el T with
       | some te => match te.und with
        | .int .u8 => match Nat.beq sz 1 with
         | true => match hk H id with
          | some b => (off + n ≤ b.cells.length) ∧ ∃ l, bytesOf ((b.cells.drop off).take n) = some l ∧ k (some (.s l)) [] [id] L
          | none => False
         | false => False
        | _ => False
       | none => False
      | _ => False
     | .slnil => match ts.und with
      | .slc el => match lk el T with
       | some te => match te.und with
        | .int .u8 => k (some (.s [])) [] [] L
        | _ => False
       | none => False
      | _ => False
     | _ => False
    | .slc el => match a with
     | .s l => match ts.und with
      | .str => match lk el T with
       | some te => match te.und with
        | .int .u8 => k (some (.sl L 0 l.length 1 false)) [(L, some (.row el (l.map .u8)))] [] (L + 1)
        | _ => False
       | none => False
      | _ => False
     | .sl id o n sz full => match Nat.beq s d with
      | true => match lk el T with
       | some te => match te.und with
        | .int .u8 => match Nat.ble 1 n with
         | true => match hk H id with
          | some (.row e l) => k (some (.sl id o n sz full)) [(id, some (.row e l))] [id] L
          | _ => False
         | false => False
        | _ => False
       | none => False
      | false => False
     | _ => False
    | _ => False
   | none => False
  | none => False
 | none => False
def sopField (T : TT) (R : RL) (L : Nat) (t : Nat) (x : Operand) (f : Nat) (k : K1) : Prop :=
 match ev R x with
 | some (.p id off) => match lk t T with
  | some ti => match ti.und with
   | .st fs => match fs[f]? with
    | some (o2, _, sz) => match Nat.ble 1 sz with
     | true => k (some (.p id (off + o2))) [] [] L
     | false => False
    | none => False
   | _ => False
  | none => False
 | _ => False
def sopFieldV (T : TT) (R : RL) (L : Nat) (t : Nat) (x : Operand) (f : Nat) (k : K1) : Prop :=
 match ev R x with
 | some (.agg l) => match lk t T with
  | some ti => match ti.und with
   | .st fs => match fs[f]? with
    | some (o2, ft, _) => match lk ft T with
     | some te => ∃ r, sload te.agg te.sz l o2 = some r ∧ k (some r) [] [] L
     | none => False
    | none => False
   | _ => False
  | none => False
 | _ => False
def sopIndexAddr (T : TT) (R : RL) (L : Nat) (t : Nat) (x y : Operand) (k : K1) : Prop :=
 match lk t T with
 | some ti => match ti.und with
  | .arr len el => match lk el T with
   | some te => match ev R x with
    | some (.p id off) => match ev R y with
     | some z => ∃ i, idxOf z = some i ∧ (i < len) ∧ k (some (.p id (off + i * te.sz))) [] [] L
     | none => False
    | _ => False
   | none => False
  | .slc el => match lk el T with
   | some te => match ev R x with
    | some (.sl id off n sz _) => match Nat.beq sz te.sz with
     | true => match ev R y with
      | some z => ∃ i, idxOf z = some i ∧ (i < n) ∧ k (some (.p id (off + i * sz))) [] [] L
      | none => False
     | false => False
    | _ => False
   | none => False
  | _ => False
 | none => False
def sopIndex (T : TT) (R : RL) (L : Nat) (t : Nat) (x y : Operand) (k : K1) : Prop :=
 match lk t T with
 | some ti => match ti.und with
  | .arr len el => match lk el T with
   | some te => match ev R x with
    | some (.agg l) => match ev R y with
     | some z => ∃ i, idxOf z = some i ∧ (i < len) ∧ ∃ r, sload te.agg te.sz l (i * te.sz) = some r ∧ k (some r) [] [] L
     | none => False
    | _ => False
   | none => False
  | .str => match ev R x with
   | some (.s l) => match ev R y with
    | some z => ∃ i, idxOf z = some i ∧ ∃ c, l[i]? = some c ∧ k (some (.u8 c)) [] [] L
    | none => False
   | _ => False
  | _ => False
 | none => False
def sopExtract (R : RL) (L : Nat) (x : Operand) (i : Nat) (k : K1) : Prop :=
 match ev R x with
 | some (.tup l) => match l[i]? with
  | some z => k (some z) [] [] L
  | none => False
 | _ => False
def sopNil (R : RL) (L : Nat) (x : Operand) (k : K1) : Prop :=
 match ev R x with
 | some (.p id off) => k (some (.p id off)) [] [] L
 | _ => False
def sopFunc (R : RL) (L : Nat) (fn : Fn) (first cap : Array Operand) (k : K1) : Prop :=
 match fn with
 | .func f => match first.toList with
  | [] => match evs R cap.toList with
   | some zs => k (some (.fn f zs)) [] [] L
   | none => False
  | _ => False
 | _ => False
def sopArrAt (T : TT) (R : RL) (L : Nat) (t : Nat) (x : Operand) (k : K1) : Prop :=
 match lk t T with
 | some ti => match ti.und with
  | .arr len _ => match ev R x with
   | some (.sl id off n _ _) => match Nat.ble 1 len with
    | true => (len ≤ n) ∧ k (some (.p id off)) [] [] L
    | false => False
   | _ => False
  | _ => False
 | none => False
def sopBuild (T : TT) (R : RL) (L : Nat) (t : Nat) (parts : Array (Nat × Operand)) (k : K1) : Prop :=
 match evp R parts.toList with
 | some xs => match lk t T with
  | some ti => match ti.zero with
   | some z => match ti.und with
    | .st fs => ∃ l, sfill (fun i => (fs.map fun f => (f.1, f.2.2))[i]?) z.cells xs = some l ∧ k (some (.agg l)) [] [] L
    | .arr _ el => match lk el T with
     | some te => ∃ l, sfill (fun i => some (i * te.sz, te.sz)) z.cells xs = some l ∧ k (some (.agg l)) [] [] L
     | none => False
    | _ => False
   | none => False
  | none => False
 | none => False
def sopBuildSlice (T : TT) (R : RL) (L : Nat) (t n : Nat) (parts : Array (Nat × Operand)) (k : K1) : Prop :=
 match evp R parts.toList with
 | some xs => match lk t T with
  | some ti => match ti.und with
   | .slc el => match lk el T with
    | some te => match te.zero with
     | some z => match Nat.ble (n * te.sz) 16777216 with
      | true => match Nat.beq z.cells.length te.sz with
       | true => ∃ l, sfill (fun i => some (i * te.sz, te.sz)) (reps n z.cells) xs = some l ∧ k (some (.sl L 0 n te.sz (Nat.ble 1 n))) [(L, some (.row el l))] [] (L + 1)
       | false => False
      | false => False
     | none => False
    | none => False
   | _ => False
  | none => False
 | none => False
def sopMake (T : TT) (R : RL) (L : Nat) (t : Nat) (x y : Operand) (k : K1) : Prop :=
 match ev R x with
 | some (.i n) => match ev R y with
  | some (.i m) => match lk t T with
   | some ti => match ti.und with
    | .slc el => match lk el T with
     | some te => match te.zero with
      | some z => match Nat.beq z.cells.length te.sz with
       | true => (0 ≤ n ∧ n ≤ m ∧ (te.byt : Int) * m ≤ 281474976710656 ∧ m ≤ 9223372036854775807) ∧
         k (some (.sl L 0 n.toNat te.sz (decide (n = m)))) [(L, some (.row el (reps n.toNat z.cells)))] [] (L + 1)
       | false => False
      | none => False
     | none => False
    | _ => False
   | none => False
  | _ => False
 | _ => False
def sopSlice (T : TT) (R : RL) (H : HL) (L : Nat) (t : Nat) (x : Operand) (lo hi mx : Option Operand) (k : K1) : Prop :=
 match lk t T with
 | some ti => match ti.und with
  | .slc el => match lk el T with
   | some te => match ev R x with
    | some (.sl id off n sz full) => match Nat.beq sz te.sz with
     | true => match mx with
      | none => ∃ l, evb R 0 lo = some l ∧ ∃ h, evb R n hi = some h ∧ (l ≤ h ∧ h ≤ n) ∧ k (some (.sl id (off + l * sz) (h - l) sz (full && decide (h = n)))) [] [] L
      | some zm => match hi with
       | some yh => ∃ l, evb R 0 lo = some l ∧ ∃ h, evb R n (some yh) = some h ∧ ∃ m, evb R n (some zm) = some m ∧ (l ≤ h ∧ h ≤ m ∧ m ≤ n) ∧
         k (some (.sl id (off + l * sz) (h - l) sz (decide (h = m)))) [] [] L
       | none => False
     | false => False
    | some .slnil => match mx with
     | none => (evb R 0 lo = some 0 ∧ evb R 0 hi = some 0) ∧ k (some .slnil) [] [] L
     | some _ => False
    | some (.slc id off n c sz) => match Nat.beq sz te.sz with
     | true => match mx with
      | none => ∃ l, evb R 0 lo = some l ∧ ∃ h, evb R n hi = some h ∧ (l ≤ h ∧ h ≤ c) ∧ k (some (.slc id (off + l * sz) (h - l) (c - l) sz)) [] [] L
      | some _ => False
     | false => False
    | _ => False
   | none => False
  | .arr len el => match lk el T with
   | some te => match ev R x with
    | some (.p id off) => match hk H id with
     | some b => match mx with
      | none => ∃ l, evb R 0 lo = some l ∧ ∃ h, evb R len hi = some h ∧ (l ≤ h ∧ h ≤ len ∧ 0 < len * te.sz ∧ off + len * te.sz ≤ b.cells.length) ∧
        k (some (.sl id (off + l * te.sz) (h - l) te.sz (decide (h = len)))) [] [id] L
      | some _ => False
     | none => False
    | _ => False
   | none => False
  | .str => match ev R x with
   | some (.s bs) => match mx with
    | none => ∃ l, evb R 0 lo = some l ∧ ∃ h, evb R bs.length hi = some h ∧ (l ≤ h ∧ h ≤ bs.length) ∧ k (some (.s ((bs.take h).drop l))) [] [] L
    | some _ => False
   | _ => False
  | _ => False
 | none => False
def sopLen (T : TT) (R : RL) (L : Nat) (x : Operand) (t : Nat) (k : K1) : Prop :=
 match lk t T with
 | some ti => match ti.und with
  | .slc _ => match ev R x with
   | some (.sl _ _ n _ _) => k (some (.i (n : Int))) [] [] L
   | some .slnil => k (some (.i 0)) [] [] L
   | some (.slc _ _ n _ _) => k (some (.i (n : Int))) [] [] L
   | _ => False
  | .arr n _ => k (some (.i (n : Int))) [] [] L
  | .str => match ev R x with
   | some (.s l) => k (some (.i (l.length : Int))) [] [] L
   | _ => False
  | _ => False
 | none => False
def sopMin (R : RL) (L : Nat) (x y : Operand) (k : K1) : Prop :=
 match ev R x with
 | some (.i a) => match ev R y with
  | some (.i b) => k (some (.i (if b < a then b else a))) [] [] L
  | _ => False
 | _ => False
def sopMax (R : RL) (L : Nat) (x y : Operand) (k : K1) : Prop :=
 match ev R x with
 | some (.i a) => match ev R y with
  | some (.i b) => k (some (.i (if b > a then b else a))) [] [] L
  | _ => False
 | _ => False
def appTI (T : TT) (t xT : Nat) : Option (Nat × TI × Bool) :=
 match lk t T with
 | some ti => match ti.und with
  | .slc el => match lk el T with
   | some te => match te.zero with
    | some z => match Nat.beq z.cells.length te.sz with
     | true => match Nat.ble 1 te.byt with
      | true => match lk xT T with
       | some tx => match tx.und with
        | .slc _ => some (el, te, false)
        | .str => some (el, te, true)
        | _ => none
       | none => none
      | false => none
     | false => none
    | none => none
   | none => none
  | _ => none
 | none => none
def sopAppend (T : TT) (R : RL) (H : HL) (L : Nat) (x y : Operand) (t xT : Nat) (k : K1) : Prop :=
 match appTI T t xT with
 | some (el, te, _) => match ev R x with
  | some .slnil => match ev R y with
   | some (.sl id o2 m sz _) => match Nat.beq sz te.sz with
    | true => match hk H id with
     | some b => (o2 + m * sz ≤ b.cells.length ∧ m * te.byt ≤ 140737488355328) ∧ k (some (.sl L 0 m sz false)) [(L, some (.row el ((b.cells.drop o2).take (m * sz))))] [id] (L + 1)
     | none => False
    | false => False
   | some (.s l) => match Nat.beq te.sz 1 with
    | true => (l.length * te.byt ≤ 140737488355328) ∧ k (some (.sl L 0 l.length 1 false)) [(L, some (.row el (l.map .u8)))] [] (L + 1)
    | false => False
   | some .slnil => k (some .slnil) [] [] L
   | _ => False
  | some (.sl id off n sz full) => match Nat.beq sz te.sz with
   | true => match ev R y with
    | some .slnil => k (some (.sl id off n sz full)) [] [] L
    | some (.sl id2 o2 m sz2 _) => match Nat.beq sz2 te.sz with
     | true => match hk H id with
      | some b => match hk H id2 with
       | some b2 => match full with
        | true => (off + n * sz ≤ b.cells.length ∧ o2 + m * sz ≤ b2.cells.length ∧ (n + m) * te.byt ≤ 140737488355328 ∧ 0 < m) ∧
          k (some (.sl L 0 (n + m) sz false)) [(L, some (.row el ((b.cells.drop off).take (n * sz) ++ (b2.cells.drop o2).take (m * sz))))] [id, id2] (L + 1)
        | false => match b with
         | .row e2 l => match Nat.beq e2 el with
          | true => (off + n * sz ≤ l.length ∧ o2 + m * sz ≤ b2.cells.length ∧ (n + m) * te.byt ≤ 140737488355328) ∧
            k (some (.sl L 0 (n + m) sz false)) [(id, none), (L, some (.row el ((l.drop off).take (n * sz) ++ (b2.cells.drop o2).take (m * sz))))] [id, id2] (L + 1)
          | false => False
         | _ => False
       | none => False
      | none => False
     | false => False
    | some (.s s) => match Nat.beq te.sz 1 with
     | true => match hk H id with
      | some (.row e2 l) => match Nat.beq e2 el with
       | true => (off + n * 1 ≤ l.length ∧ (n + s.length) * te.byt ≤ 140737488355328) ∧
         k (some (.sl L 0 (n + s.length) 1 false)) [(id, none), (L, some (.row el ((l.drop off).take (n * 1) ++ s.map .u8)))] [id] (L + 1)
       | false => False
      | _ => False
     | false => False
    | _ => False
   | false => False
  | some (.slc id off n c sz) => match Nat.beq sz te.sz with
   | true => match ev R y with
    | some (.slc id2 o2 m _ sz2) => match Nat.beq sz2 te.sz with
     | true => match hk H id with
      | some (.row e2 l) => match hk H id2 with
       | some b2 => (n + m ≤ c ∧ off + (n + m) * sz ≤ l.length ∧ o2 + m * sz ≤ b2.cells.length ∧ 0 < l.length) ∧
         k (some (.slc id off (n + m) c sz)) [(id, some (.row e2 (sput l (off + n * sz) (.agg ((b2.cells.drop o2).take (m * sz))))))] [id, id2] L
       | none => False
      | _ => False
     | false => False
    | _ => False
   | false => False
  | _ => False
 | none => False
def sopCopy (T : TT) (R : RL) (H : HL) (L : Nat) (x y : Operand) (t : Nat) (k : K1) : Prop :=
 match lk t T with
 | some ti => match ti.und with
  | .slc el => match lk el T with
   | some te => match ev R x with
    | some (.sl id off n sz _) => match ev R y with
     | some (.sl id2 o2 m sz2 _) => match Nat.beq sz te.sz with
      | true => match Nat.beq sz2 te.sz with
       | true => match hk H id with
        | some (.row e l) => match hk H id2 with
         | some b2 => (off + n * sz ≤ l.length ∧ o2 + m * sz ≤ b2.cells.length ∧ 0 < l.length) ∧
           k (some (.i ((min m n : Nat) : Int))) [(id, some (.row e (sput l off (.agg (((b2.cells.drop o2).take (m * sz)).take (min m n * sz))))))] [id, id2] L
         | none => False
        | some (.box l) => match hk H id2 with
         | some b2 => (off + n * sz ≤ l.length ∧ o2 + m * sz ≤ b2.cells.length ∧ 0 < l.length) ∧
           k (some (.i ((min m n : Nat) : Int))) [(id, some (.box (sput l off (.agg (((b2.cells.drop o2).take (m * sz)).take (min m n * sz))))))] [id, id2] L
         | none => False
        | _ => False
       | false => False
      | false => False
     | _ => False
    | _ => False
   | none => False
  | _ => False
 | none => False
def sop (T : TT) (P : Program) (o : Oper) (R : RL) (H : HL) (L : Nat) (k : K1) : Prop :=
 match o.op with
 | .move x => match ev R x with | some z => k (some z) [] [] L | none => False
 | .assign x => match ev R x with | some z => k (some z) [] [] L | none => False
 | .pick c x y => match ev R c with
  | some (.b t) => ∃ z, (if t then ev R x else ev R y) = some z ∧ k (some z) [] [] L
  | _ => False
 | .box _ x => sopBox R L x k
 | .alloc t => sopAlloc T L t k
 | .load t x => sopLoad T R H L t x k
 | .store t x y => sopStore T R H L t x y k
 | .binOp op t x y _ => sopBin T R L op t x y k
 | .unOp op _ x => sopUn R L op x k
 | .convert s d x => sopConv T R H L s d x k
 | .fieldAddr t x f => sopField T R L t x f k
 | .field t x f => sopFieldV T R L t x f k
 | .indexAddr t x y => sopIndexAddr T R L t x y k
 | .index t x y => sopIndex T R L t x y k
 | .extract x i => sopExtract R L x i k
 | .nilCheck x => sopNil R L x k
 | .makeFunc fn first cap => sopFunc R L fn first cap k
 | .sliceToArrayPointer t x => sopArrAt T R L t x k
 | .build t parts => sopBuild T R L t parts k
 | .buildSlice t n parts => sopBuildSlice T R L t n parts k
 | .makeSlice t x y => sopMake T R L t x y k
 | .slice t x lo hi mx => sopSlice T R H L t x lo hi mx k
 | .call ⟨.builtin b, ⟨args⟩, ⟨tys⟩⟩ => match b, args, tys with
  | .len, [x], [t] => sopLen T R L x t k
  | .min, [x, y], [_, _] => sopMin R L x y k
  | .max, [x, y], [_, _] => sopMax R L x y k
  | .append, [x, y], [t, xT] => match appTI T t xT with
   | some _ => sopAppend T R H L x y t xT k
   | none => Ok1 P o R H L k
  | .copy, [x, y], [t, _] => sopCopy T R H L x y t k
  | _, _, _ => Ok1 P o R H L k
 | _ => Ok1 P o R H L k
end Go.Sh
namespace Go.Sh
section
variable {P : Program} {T : TT} {o : Oper} {R : RL} {H : HL} {L : Nat} {k : K1}
theorem ok1_pure {z : SV} {F : List Nat} (h : LT P o (rg R) (hg H) F [] (some z)) (hk : k (some z) [] F L) : Ok1 P o R H L k :=
 ⟨_, _, _, _, h, Nat.le_refl _, fun _ _ hm => (by simp at hm), hk⟩
theorem ok1_new {z : SV} {F : List Nat} {b : SB} (h : LT P o (rg R) (hg H) F [(L, some b)] (some z)) (hk : k (some z) [(L, some b)] F (L + 1)) : Ok1 P o R H L k :=
 ⟨_, _, _, _, h, by omega, fun id ob hm => (by simp at hm; omega), hk⟩
theorem ok1_put {id : Nat} {out : Option SV} {F : List Nat} {b : SB} (hid : id < L) (hF : id ∈ F) (h : LT P o (rg R) (hg H) F [(id, some b)] out) (hk : k out [(id, some b)] F L) : Ok1 P o R H L k :=
 ⟨_, _, _, _, h, Nat.le_refl _, fun i ob hm => (by simp at hm; obtain ⟨rfl, _⟩ := hm; exact ⟨hid, fun h => absurd hF h⟩), hk⟩
theorem ok1_move {id : Nat} {z : SV} {F : List Nat} {b : SB} (hid : id < L) (hF : id ∈ F) (h : LT P o (rg R) (hg H) F [(id, none), (L, some b)] (some z)) (hk : k (some z) [(id, none), (L, some b)] F (L + 1)) : Ok1 P o R H L k :=
 ⟨_, _, _, _, h, by omega, fun i ob hm => (by
  simp at hm
  rcases hm with ⟨rfl, _⟩ | ⟨rfl, _⟩
  ·
   exact ⟨by omega, fun h => absurd hF h⟩
  ·
   exact ⟨by omega, fun _ => Nat.le_refl _⟩), hk⟩
theorem ev_some {x : Operand} {z : SV} (h : ev R x = some z) : evO (rg R) x = some z := by rw [← ev_eq]; exact h
theorem hk_some {id : Nat} {b : SB} (h : hk H id = some b) : hg H id = some b := by rw [← hk_eq]; exact h
theorem ble1 {n : Nat} (h : Nat.ble 1 n = true) : 0 < n := Nat.le_of_ble_eq_true h
theorem beqE {n m : Nat} (h : Nat.beq n m = true) : n = m := Nat.eq_of_beq_eq_true h
theorem okLoad (hT : TOk P T) {t : Nat} {x : Operand} (ho : o.op = .load t x) (h : sopLoad T R H L t x k) : Ok1 P o R H L k := by
 unfold sopLoad at h
 split at h
 ·
  rename_i id off hx
  split at h
  ·
   rename_i ti ht
   split at h
   ·
    rename_i b hb
    split at h
    ·
     rename_i h1
     obtain ⟨z, hz, hk⟩ := h
     have ft := hT _ _ ht
     exact ok1_pure (lt_load ho (ev_some hx) (hk_some hb) ft.agg ft.sz (ble1 h1) hz) hk
    ·
     exact h.elim
   ·
    exact h.elim
  ·
   exact h.elim
 ·
  exact h.elim
theorem okStore (hT : TOk P T) (hl : H.length ≤ L) {t : Nat} {x y : Operand} (ho : o.op = .store t x y) (h : sopStore T R H L t x y k) : Ok1 P o R H L k := by
 unfold sopStore at h
 split at h
 ·
  rename_i id off hx
  split at h
  ·
   rename_i z hy
   split at h
   ·
    rename_i ti ht
    split at h
    ·
     rename_i htup
     split at h
     ·
      rename_i h1
      have ft := hT _ _ ht
      split at h
      ·
       rename_i l hb
       obtain ⟨⟨h2, h3⟩, m, rfl, hk⟩ := h
       exact ok1_put (hk_lt hl hb) (by simp) (lt_store ho (ev_some hx) (ev_some hy) (hk_some hb) rfl ft.sz (ble1 h1) htup h2 h3) hk
      ·
       rename_i e l hb
       obtain ⟨⟨h2, h3⟩, m, rfl, hk⟩ := h
       exact ok1_put (hk_lt hl hb) (by simp) (lt_store ho (ev_some hx) (ev_some hy) (hk_some hb) rfl ft.sz (ble1 h1) htup h2 h3) hk
      ·
       exact h.elim
     ·
      exact h.elim
    ·
     exact h.elim
   ·
    exact h.elim
  ·
   exact h.elim
 ·
  exact h.elim
theorem okBox {t : Nat} {x : Operand} (ho : o.op = .box t x) (h : sopBox R L x k) : Ok1 P o R H L k := by
 unfold sopBox at h
 split at h
 ·
  exact h.elim
 ·
  rename_i l hx
  exact ok1_new (lt_box ho (ev_some hx) rfl) h
 ·
  rename_i z h1 h2 hx
  have e : z.cells = [z] := by cases z <;> first | rfl | exact absurd rfl (h2 _)
  have et : z.isTup = false := by cases z <;> first | rfl | exact absurd rfl (h1 _)
  refine ok1_new (b := .box z.cells) (lt_box ho (ev_some hx) et) ?_
  rw [e]; exact h
 ·
  exact h.elim
theorem okAlloc (hT : TOk P T) {t : Nat} (ho : o.op = .alloc t) (h : sopAlloc T L t k) : Ok1 P o R H L k := by
 unfold sopAlloc at h
 split at h
 ·
  rename_i ti ht
  have ft := hT _ _ ht
  split at h
  ·
   rename_i l hz
   exact ok1_new (lt_alloc ho (ft.zero _ hz)) h
  ·
   rename_i z _ hz
   exact ok1_new (lt_alloc ho (ft.zero _ hz)) h
  ·
   exact h.elim
 ·
  exact h.elim
theorem snum_of_sarith {op : BinOp} {a b z : SV} (h1 : op ≠ .shl) (h2 : op ≠ .shr) (h : sarith op a b = some z) : snum op a b = some z := by
 cases op <;> first | exact absurd rfl h1 | exact absurd rfl h2 | exact h
theorem okEq (hT : TOk P T) {t t2 : Nat} {x y : Operand} {a b : SV} {ne : Bool} (ho : o.op = .binOp (if ne then .neq else .eql) t x y t2) (hx : ev R x = some a) (hy : ev R y = some b)
  (h : sopEq T L ne t a b k) : Ok1 P o R H L k := by
 unfold sopEq at h
 split at h
 ·
  rename_i xs ys
  split at h
  ·
   rename_i ti ht
   have ft := hT _ _ ht
   split at h
   ·
    rename_i ks hks
    obtain ⟨⟨h1, h2⟩, hk⟩ := h
    obtain ⟨f1, f2, f3⟩ := ft.ks _ hks
    have := lt_eq_agg (H := hg H) 12 ho (ev_some hx) (ev_some hy) f1 (by omega) f2 f3 h1 h2
    cases ne
    ·
     exact ok1_pure (by simpa using this) hk
    ·
     exact ok1_pure (by simpa using this) hk
   ·
    exact h.elim
  ·
   exact h.elim
 ·
  split at h
  ·
   rename_i ti ht
   have ft := hT _ _ ht
   obtain ⟨⟨h1, h2⟩, hk⟩ := h
   obtain ⟨ds, hd, hsq⟩ := ft.sq
   exact ok1_pure (lt_eq_slnil (H := hg H) ho (ev_some hx) (ev_some hy) hd (hsq.trans h1) h2) hk
  ·
   exact h.elim
 ·
  split at h
  ·
   split at h
   ·
    rename_i z hz
    exact ok1_pure (lt_num (op := .neq) ho (ev_some hx) (ev_some hy) (snum_of_sarith (by simp) (by simp) hz)) h
   ·
    split at h
    ·
     rename_i ti ht
     have ft := hT _ _ ht
     split at h
     ·
      rename_i r hr
      obtain ⟨hs, hk⟩ := h
      obtain ⟨ds, hd, hsq⟩ := ft.sq
      have := lt_eq (H := hg H) ho (ev_some hx) (ev_some hy) hd (hsq.trans hs) hr
      exact ok1_pure (by simpa using this) hk
     ·
      exact h.elim
    ·
     exact h.elim
  ·
   split at h
   ·
    rename_i z hz
    exact ok1_pure (lt_num (op := .eql) ho (ev_some hx) (ev_some hy) (snum_of_sarith (by simp) (by simp) hz)) h
   ·
    split at h
    ·
     rename_i ti ht
     have ft := hT _ _ ht
     split at h
     ·
      rename_i r hr
      obtain ⟨hs, hk⟩ := h
      obtain ⟨ds, hd, hsq⟩ := ft.sq
      have := lt_eq (H := hg H) ho (ev_some hx) (ev_some hy) hd (hsq.trans hs) hr
      exact ok1_pure (by simpa using this) hk
     ·
      exact h.elim
    ·
     exact h.elim
theorem okBin (hT : TOk P T) {t t2 : Nat} {op : BinOp} {x y : Operand} (ho : o.op = .binOp op t x y t2) (h : sopBin T R L op t x y k) : Ok1 P o R H L k := by
 unfold sopBin at h
 split at h
 ·
  rename_i a hx
  split at h
  ·
   rename_i b hy
   split at h
   ·
    split at h
    ·
     obtain ⟨z, hz, hk⟩ := h
     exact ok1_pure (lt_num ho (ev_some hx) (ev_some hy) hz) hk
    ·
     split at h
     ·
      rename_i z hz
      exact ok1_pure (lt_num ho (ev_some hx) (ev_some hy) hz) h
     ·
      exact h.elim
   ·
    split at h
    ·
     obtain ⟨z, hz, hk⟩ := h
     exact ok1_pure (lt_num ho (ev_some hx) (ev_some hy) hz) hk
    ·
     split at h
     ·
      rename_i z hz
      exact ok1_pure (lt_num ho (ev_some hx) (ev_some hy) hz) h
     ·
      exact h.elim
   ·
    obtain ⟨z, hz, hk⟩ := h
    exact ok1_pure (lt_num ho (ev_some hx) (ev_some hy) (snum_of_sarith (by simp) (by simp) hz)) hk
   ·
    obtain ⟨z, hz, hk⟩ := h
    exact ok1_pure (lt_num ho (ev_some hx) (ev_some hy) (snum_of_sarith (by simp) (by simp) hz)) hk
   ·
    exact okEq (ne := false) hT (by simpa using ho) hx hy h
   ·
    exact okEq (ne := true) hT (by simpa using ho) hx hy h
   ·
    rename_i op h1 h2 h3 h4 h5 h6
    split at h
    ·
     rename_i z hz
     exact ok1_pure (lt_num ho (ev_some hx) (ev_some hy) (snum_of_sarith (fun e => h1 e) (fun e => h2 e) hz)) h
    ·
     split at h
     ·
      split at h
      ·
       split at h
       ·
        exact ok1_pure (lt_cat ho (ev_some hx) (ev_some hy) h.1) h.2
       ·
        exact h.elim
      ·
       exact h.elim
     ·
      exact h.elim
  ·
   exact h.elim
 ·
  exact h.elim
theorem okUn {t : Nat} {op : UnOp} {x : Operand} (ho : o.op = .unOp op t x) (h : sopUn R L op x k) : Ok1 P o R H L k := by
 unfold sopUn at h
 split at h
 ·
  rename_i a hx
  split at h
  ·
   rename_i z hz
   exact ok1_pure (lt_un ho (ev_some hx) hz) h
  ·
   exact h.elim
 ·
  exact h.elim
theorem und_int {t : Nat} {ti : TI} {ik : IntKind} (ft : TIOk P t ti) (h : ti.und = .int ik) : P.underlying t = some (.int ik) := by have := ft.und; rw [h] at this; exact this
theorem und_str {t : Nat} {ti : TI} (ft : TIOk P t ti) (h : ti.und = .str) : P.underlying t = some .string := by have := ft.und; rw [h] at this; exact this
theorem und_slc {t el : Nat} {ti : TI} (ft : TIOk P t ti) (h : ti.und = .slc el) : P.underlying t = some (.slice el) := by have := ft.und; rw [h] at this; exact this
theorem und_arr {t n el : Nat} {ti : TI} (ft : TIOk P t ti) (h : ti.und = .arr n el) : P.underlying t = some (.array n el) := by have := ft.und; rw [h] at this; exact this
theorem okConv (hT : TOk P T) (hl : H.length ≤ L) {s d : Nat} {x : Operand} (ho : o.op = .convert s d x) (h : sopConv T R H L s d x k) : Ok1 P o R H L k := by
 unfold sopConv at h
 split at h
 ·
  rename_i ts hs
  have fs := hT _ _ hs
  obtain ⟨ds, hds, _⟩ := fs.sq
  split at h
  ·
   rename_i td hd
   have fd := hT _ _ hd
   split at h
   ·
    rename_i a hx
    split at h
    ·
     rename_i ik hu
     split at h
     ·
      rename_i z hz
      exact ok1_pure (lt_conv ho hds (und_int fd hu) (ev_some hx) hz) h
     ·
      exact h.elim
    ·
     rename_i hu
     split at h
     ·
      exact ok1_pure (lt_conv_str ho hds (und_str fd hu) (ev_some hx)) h
     ·
      split at h
      ·
       rename_i el hus
       split at h
       ·
        rename_i te hte
        have fe := hT _ _ hte
        split at h
        ·
         rename_i hue
         split at h
         ·
          rename_i hsz
          have := beqE hsz
          subst this
          split at h
          ·
           rename_i b hb
           obtain ⟨h1, l, h2, hk⟩ := h
           exact ok1_pure (lt_b2s ho (und_slc fs hus) (und_int fe hue) (und_str fd hu) (ev_some hx) (hk_some hb) h1 h2) hk
          ·
           exact h.elim
         ·
          exact h.elim
        ·
         exact h.elim
       ·
        exact h.elim
      ·
       exact h.elim
     ·
      split at h
      ·
       rename_i el hus
       split at h
       ·
        rename_i te hte
        have fe := hT _ _ hte
        split at h
        ·
         rename_i hue
         exact ok1_pure (lt_b2s_nil ho (und_slc fs hus) (und_int fe hue) (und_str fd hu) (ev_some hx)) h
        ·
         exact h.elim
       ·
        exact h.elim
      ·
       exact h.elim
     ·
      exact h.elim
    ·
     rename_i el hu
     split at h
     ·
      split at h
      ·
       rename_i hus
       split at h
       ·
        rename_i te hte
        have fe := hT _ _ hte
        split at h
        ·
         rename_i hue
         exact ok1_new (lt_s2b ho (und_str fs hus) (und_int fe hue) (und_slc fd hu) (ev_some hx)) h
        ·
         exact h.elim
       ·
        exact h.elim
      ·
       exact h.elim
     ·
      rename_i id off n sz full
      split at h
      ·
       rename_i hsd
       have := beqE hsd
       subst this
       split at h
       ·
        rename_i te hte
        have fe := hT _ _ hte
        split at h
        ·
         rename_i hue
         split at h
         ·
          rename_i hn1
          split at h
          ·
           rename_i e l hb
           exact ok1_put (hk_lt hl hb) (by simp) (lt_conv_row ho (und_slc fd hu) (und_int fe hue) (ev_some hx) (hk_some hb) (ble1 hn1)) h
          ·
           exact h.elim
         ·
          exact h.elim
        ·
         exact h.elim
       ·
        exact h.elim
      ·
       exact h.elim
     ·
      exact h.elim
    ·
     exact h.elim
   ·
    exact h.elim
  ·
   exact h.elim
 ·
  exact h.elim
theorem okField (hT : TOk P T) {t f : Nat} {x : Operand} (ho : o.op = .fieldAddr t x f) (h : sopField T R L t x f k) : Ok1 P o R H L k := by
 unfold sopField at h
 split at h
 ·
  rename_i id off hx
  split at h
  ·
   rename_i ti ht
   have ft := hT _ _ ht
   split at h
   ·
    rename_i fs hu
    split at h
    ·
     rename_i o2 ftt sz hf
     split at h
     ·
      rename_i h1
      have := (ft.st hu).2 _ _ hf
      exact ok1_pure (lt_fieldAddr ho (ev_some hx) this.1 this.2 (ble1 h1)) h
     ·
      exact h.elim
    ·
     exact h.elim
   ·
    exact h.elim
  ·
   exact h.elim
 ·
  exact h.elim
theorem okIndexAddr (hT : TOk P T) {t : Nat} {x y : Operand} (ho : o.op = .indexAddr t x y) (h : sopIndexAddr T R L t x y k) : Ok1 P o R H L k := by
 unfold sopIndexAddr at h
 split at h
 ·
  rename_i ti ht
  have ft := hT _ _ ht
  split at h
  ·
   rename_i len el hu
   split at h
   ·
    rename_i te hte
    have fe := hT _ _ hte
    split at h
    ·
     rename_i id off hx
     split at h
     ·
      rename_i z hy
      obtain ⟨i, hi, hlt, hk⟩ := h
      exact ok1_pure (lt_index_arrU ho (ev_some hx) (ev_some hy) hi (und_arr ft hu) fe.sz hlt) hk
     ·
      exact h.elim
    ·
     exact h.elim
   ·
    exact h.elim
  ·
   rename_i el hu
   split at h
   ·
    rename_i te hte
    have fe := hT _ _ hte
    split at h
    ·
     rename_i id off n sz full hx
     split at h
     ·
      rename_i hsz
      have := beqE hsz
      subst this
      split at h
      ·
       rename_i z hy
       obtain ⟨i, hi, hlt, hk⟩ := h
       exact ok1_pure (lt_index_sl ho (ev_some hx) (ev_some hy) hi (und_slc ft hu) fe.sz hlt) hk
      ·
       exact h.elim
     ·
      exact h.elim
    ·
     exact h.elim
   ·
    exact h.elim
  ·
   exact h.elim
 ·
  exact h.elim
theorem okIndex (hT : TOk P T) {t : Nat} {x y : Operand} (ho : o.op = .index t x y) (h : sopIndex T R L t x y k) : Ok1 P o R H L k := by
 unfold sopIndex at h
 split at h
 ·
  rename_i ti ht
  have ft := hT _ _ ht
  split at h
  ·
   rename_i len el hu
   split at h
   ·
    rename_i te hte
    have fe := hT _ _ hte
    split at h
    ·
     rename_i l hx
     split at h
     ·
      rename_i z hy
      obtain ⟨i, hi, hlt, r, hr, hk⟩ := h
      exact ok1_pure (lt_index_agg ho (ev_some hx) (ev_some hy) hi (und_arr ft hu) fe.agg fe.sz hlt hr) hk
     ·
      exact h.elim
    ·
     exact h.elim
   ·
    exact h.elim
  ·
   rename_i hu
   split at h
   ·
    rename_i l hx
    split at h
    ·
     rename_i z hy
     obtain ⟨i, hi, c, hc, hk⟩ := h
     exact ok1_pure (lt_index_str ho (ev_some hx) (ev_some hy) hi (und_str ft hu) hc) hk
    ·
     exact h.elim
   ·
    exact h.elim
  ·
   exact h.elim
 ·
  exact h.elim
theorem okFieldV (hT : TOk P T) {t f : Nat} {x : Operand} (ho : o.op = .field t x f) (h : sopFieldV T R L t x f k) : Ok1 P o R H L k := by
 unfold sopFieldV at h
 split at h
 ·
  rename_i l hx
  split at h
  ·
   rename_i ti hti
   have ft := hT _ _ hti
   split at h
   ·
    rename_i fs hu
    split at h
    ·
     rename_i o2 ftt sz hf
     split at h
     ·
      rename_i te hte
      have fe := hT _ _ hte
      obtain ⟨r, hr, hk⟩ := h
      exact ok1_pure (lt_field ho (ev_some hx) ((ft.st hu).2 _ _ hf).1 fe.agg fe.sz hr) hk
     ·
      exact h.elim
    ·
     exact h.elim
   ·
    exact h.elim
  ·
   exact h.elim
 ·
  exact h.elim
theorem okExtract {i : Nat} {x : Operand} (ho : o.op = .extract x i) (h : sopExtract R L x i k) : Ok1 P o R H L k := by
 unfold sopExtract at h
 split at h
 ·
  rename_i l hx
  split at h
  ·
   rename_i z hz
   exact ok1_pure (lt_extract ho (ev_some hx) hz) h
  ·
   exact h.elim
 ·
  exact h.elim
theorem okNil {x : Operand} (ho : o.op = .nilCheck x) (h : sopNil R L x k) : Ok1 P o R H L k := by
 unfold sopNil at h
 split at h
 ·
  rename_i id off hx
  exact ok1_pure (lt_nilCheck ho (ev_some hx)) h
 ·
  exact h.elim
theorem okFunc {fn : Fn} {first cap : Array Operand} (ho : o.op = .makeFunc fn first cap) (h : sopFunc R L fn first cap k) : Ok1 P o R H L k := by
 unfold sopFunc at h
 split at h
 ·
  split at h
  ·
   rename_i f hf
   split at h
   ·
    rename_i zs hz
    have e : first = #[] := by cases first; simp_all
    subst e
    exact ok1_pure (lt_makeFunc ho (evs_eq hz)) h
   ·
    exact h.elim
  ·
   exact h.elim
 ·
  exact h.elim
theorem okArrAt (hT : TOk P T) {t : Nat} {x : Operand} (ho : o.op = .sliceToArrayPointer t x) (h : sopArrAt T R L t x k) : Ok1 P o R H L k := by
 unfold sopArrAt at h
 split at h
 ·
  rename_i ti ht
  have ft := hT _ _ ht
  split at h
  ·
   rename_i len el hu
   split at h
   ·
    rename_i id off n sz full hx
    split at h
    ·
     rename_i h1
     obtain ⟨h2, hk⟩ := h
     exact ok1_pure (lt_arrayAt ho (ev_some hx) (und_arr ft hu) (ble1 h1) h2) hk
    ·
     exact h.elim
   ·
    exact h.elim
  ·
   exact h.elim
 ·
  exact h.elim
theorem okBuild (hT : TOk P T) {t : Nat} {parts : Array (Nat × Operand)} (ho : o.op = .build t parts) (h : sopBuild T R L t parts k) : Ok1 P o R H L k := by
 unfold sopBuild at h
 split at h
 ·
  rename_i xs hxs
  split at h
  ·
   rename_i ti ht
   have ft := hT _ _ ht
   split at h
   ·
    rename_i z hz
    split at h
    ·
     rename_i fs hu
     obtain ⟨l, hl, hk⟩ := h
     exact ok1_pure (lt_build_struct ho (evp_eq hxs) (ft.zero _ hz) (ft.st hu).1 hl) hk
    ·
     rename_i n el hu
     split at h
     ·
      rename_i te hte
      have fe := hT _ _ hte
      obtain ⟨l, hl, hk⟩ := h
      exact ok1_pure (lt_build_array ho (evp_eq hxs) (und_arr ft hu) (ft.zero _ hz) fe.sz hl) hk
     ·
      exact h.elim
    ·
     exact h.elim
   ·
    exact h.elim
  ·
   exact h.elim
 ·
  exact h.elim
theorem LT.unfull {P : Program} {o : Oper} {R : Env} {H : Heap} {F : List Nat} {W : Upd} {id a n sz : Nat} (h : LT P o R H F W (some (.sl id a n sz true))) (f : Bool) : LT P o R H F W (some (.sl id a n sz f)) := by
 intro r n2 a2 w ρ next Q hR hF hS hn hk
 refine h r n2 a2 w ρ next Q hR hF hS hn (fun rv w' ρ' hc hv => hk rv w' ρ' hc (fun v hv2 => ?_))
 cases hv2
 have h3 := hv _ rfl
 simp only [Rel] at h3 ⊢
 obtain ⟨rb, b, c, g1, g2, g3, g4, g5⟩ := h3
 exact ⟨rb, b, c, g1, g2, g3, fun _ => g4 trivial, g5⟩
theorem okBuildSlice (hT : TOk P T) {t n : Nat} {parts : Array (Nat × Operand)} (ho : o.op = .buildSlice t n parts) (h : sopBuildSlice T R L t n parts k) : Ok1 P o R H L k := by
 unfold sopBuildSlice at h
 split at h
 ·
  rename_i xs hxs
  split at h
  ·
   rename_i ti ht
   have ft := hT _ _ ht
   split at h
   ·
    rename_i el hu
    split at h
    ·
     rename_i te hte
     have fe := hT _ _ hte
     split at h
     ·
      rename_i z hz
      split at h
      ·
       rename_i hn
       split at h
       ·
        rename_i hzs
        obtain ⟨l, hl, hk⟩ := h
        exact ok1_new (LT.unfull (lt_buildSlice ho (evp_eq hxs) (und_slc ft hu) (fe.zero _ hz) fe.sz (beqE hzs) (Nat.le_of_ble_eq_true hn) hl) _) hk
       ·
        exact h.elim
      ·
       exact h.elim
     ·
      exact h.elim
    ·
     exact h.elim
   ·
    exact h.elim
  ·
   exact h.elim
 ·
  exact h.elim
theorem okMake (hT : TOk P T) {t : Nat} {x y : Operand} (ho : o.op = .makeSlice t x y) (h : sopMake T R L t x y k) : Ok1 P o R H L k := by
 unfold sopMake at h
 split at h
 ·
  rename_i n hx
  split at h
  ·
   rename_i m hy
   split at h
   ·
    rename_i ti ht
    have ft := hT _ _ ht
    split at h
    ·
     rename_i el hu
     split at h
     ·
      rename_i te hte
      have fe := hT _ _ hte
      split at h
      ·
       rename_i z hz
       split at h
       ·
        rename_i hzs
        obtain ⟨⟨h1, h2, h3, h4⟩, hk⟩ := h
        exact ok1_new (lt_makeSlice ho (ev_some hx) (ev_some hy) (und_slc ft hu) (fe.zero _ hz) fe.sz (beqE hzs) fe.byt h1 h2 h3 h4) hk
       ·
        exact h.elim
      ·
       exact h.elim
     ·
      exact h.elim
    ·
     exact h.elim
   ·
    exact h.elim
  ·
   exact h.elim
 ·
  exact h.elim
theorem okSlice (hT : TOk P T) {t : Nat} {x : Operand} {lo hi mx : Option Operand} (ho : o.op = .slice t x lo hi mx) (h : sopSlice T R H L t x lo hi mx k) : Ok1 P o R H L k := by
 unfold sopSlice at h
 split at h
 ·
  rename_i ti ht
  have ft := hT _ _ ht
  split at h
  ·
   rename_i el hu
   split at h
   ·
    rename_i te hte
    have fe := hT _ _ hte
    split at h
    ·
     rename_i id off n sz full hx
     split at h
     ·
      rename_i hsz
      have := beqE hsz
      subst this
      split at h
      ·
       obtain ⟨l, h1, u, h2, ⟨h3, h4⟩, hk⟩ := h
       rw [evb_eq] at h1 h2
       exact ok1_pure (lt_slice_sl ho (ev_some hx) (und_slc ft hu) fe.sz h1 h2 h3 h4) hk
      ·
       rename_i zm
       split at h
       ·
        obtain ⟨l, h1, u, h2, m, h3, ⟨h4, h5, h6⟩, hk⟩ := h
        rw [evb_eq] at h1 h2 h3
        exact ok1_pure (lt_slice_sl3 ho (ev_some hx) (und_slc ft hu) fe.sz h1 h2 h3 h4 h5 h6) hk
       ·
        exact h.elim
     ·
      exact h.elim
    ·
     rename_i hx
     split at h
     ·
      obtain ⟨⟨h1, h2⟩, hk⟩ := h
      rw [evb_eq] at h1 h2
      exact ok1_pure (lt_slice_nil ho (ev_some hx) (und_slc ft hu) fe.sz h1 h2) hk
     ·
      exact h.elim
    ·
     rename_i id off n c sz hx
     split at h
     ·
      rename_i hsz
      have := beqE hsz
      subst this
      split at h
      ·
       obtain ⟨l, h1, u, h2, ⟨h3, h4⟩, hk⟩ := h
       rw [evb_eq] at h1 h2
       exact ok1_pure (lt_slice_slc ho (ev_some hx) (und_slc ft hu) fe.sz h1 h2 h3 h4) hk
      ·
       exact h.elim
     ·
      exact h.elim
    ·
     exact h.elim
   ·
    exact h.elim
  ·
   rename_i len el hu
   split at h
   ·
    rename_i te hte
    have fe := hT _ _ hte
    split at h
    ·
     rename_i id off hx
     split at h
     ·
      rename_i b hb
      split at h
      ·
       obtain ⟨l, h1, u, h2, ⟨h3, h4, h5, h6⟩, hk⟩ := h
       rw [evb_eq] at h1 h2
       exact ok1_pure (lt_slice_arr ho (ev_some hx) (hk_some hb) (und_arr ft hu) fe.sz h1 h2 h3 h4 h5 h6) hk
      ·
       exact h.elim
     ·
      exact h.elim
    ·
     exact h.elim
   ·
    exact h.elim
  ·
   rename_i hu
   split at h
   ·
    rename_i bs hx
    split at h
    ·
     obtain ⟨l, h1, u, h2, ⟨h3, h4⟩, hk⟩ := h
     rw [evb_eq] at h1 h2
     exact ok1_pure (lt_slice_str ho (ev_some hx) (und_str ft hu) h1 h2 h3 h4) hk
    ·
     exact h.elim
   ·
    exact h.elim
  ·
   exact h.elim
 ·
  exact h.elim
theorem okLen (hT : TOk P T) {t : Nat} {x : Operand} (ho : o.op = .call { callee := .builtin .len, args := #[x], argTypes := #[t] }) (h : sopLen T R L x t k) : Ok1 P o R H L k := by
 unfold sopLen at h
 split at h
 ·
  rename_i ti ht
  have ft := hT _ _ ht
  split at h
  ·
   rename_i el hu
   split at h
   ·
    rename_i hx
    exact ok1_pure (lt_len_sl ho (ev_some hx) (und_slc ft hu)) h
   ·
    rename_i hx
    exact ok1_pure (lt_len_nil ho (ev_some hx) (und_slc ft hu)) h
   ·
    rename_i hx
    exact ok1_pure (lt_len_slc ho (ev_some hx) (und_slc ft hu)) h
   ·
    exact h.elim
  ·
   rename_i hu
   exact ok1_pure (lt_len_arr ho (und_arr ft hu)) h
  ·
   rename_i hu
   split at h
   ·
    rename_i hx
    exact ok1_pure (lt_len_str ho (ev_some hx) (und_str ft hu)) h
   ·
    exact h.elim
  ·
   exact h.elim
 ·
  exact h.elim
theorem okMin {t1 t2 : Nat} {x y : Operand} (ho : o.op = .call { callee := .builtin .min, args := #[x, y], argTypes := #[t1, t2] }) (h : sopMin R L x y k) : Ok1 P o R H L k := by
 unfold sopMin at h
 split at h
 ·
  rename_i hx
  split at h
  ·
   rename_i hy
   exact ok1_pure (lt_min ho (ev_some hx) (ev_some hy)) h
  ·
   exact h.elim
 ·
  exact h.elim
theorem okMax {t1 t2 : Nat} {x y : Operand} (ho : o.op = .call { callee := .builtin .max, args := #[x, y], argTypes := #[t1, t2] }) (h : sopMax R L x y k) : Ok1 P o R H L k := by
 unfold sopMax at h
 split at h
 ·
  rename_i hx
  split at h
  ·
   rename_i hy
   exact ok1_pure (lt_max ho (ev_some hx) (ev_some hy)) h
  ·
   exact h.elim
 ·
  exact h.elim
theorem appTI_ok (hT : TOk P T) {t xT el : Nat} {te : TI} {s : Bool} (h : appTI T t xT = some (el, te, s)) : ∃ z, AppTy P t xT el te.sz te.byt z := by
 unfold appTI at h
 split at h
 ·
  rename_i ti ht
  have ft := hT _ _ ht
  split at h
  ·
   rename_i e hu
   split at h
   ·
    rename_i te' hte
    have fe := hT _ _ hte
    split at h
    ·
     rename_i z hz
     split at h
     ·
      rename_i hzs
      split at h
      ·
       rename_i hb
       split at h
       ·
        rename_i tx htx
        have fx := hT _ _ htx
        split at h
        ·
         rename_i e2 hux
         cases h
         exact ⟨z, und_slc ft hu, .inl ⟨_, und_slc fx hux⟩, fe.zero _ hz, fe.sz, beqE hzs, fe.byt, ble1 hb⟩
        ·
         rename_i hux
         cases h
         exact ⟨z, und_slc ft hu, .inr (und_str fx hux), fe.zero _ hz, fe.sz, beqE hzs, fe.byt, ble1 hb⟩
        ·
         cases h
       ·
        cases h
      ·
       cases h
     ·
      cases h
    ·
     cases h
   ·
    cases h
  ·
   cases h
 ·
  cases h
theorem okAppend (hT : TOk P T) (hl : H.length ≤ L) {t xT : Nat} {x y : Operand} (ho : o.op = .call { callee := .builtin .append, args := #[x, y], argTypes := #[t, xT] }) (h : sopAppend T R H L x y t xT k) : Ok1 P o R H L k := by
 unfold sopAppend at h
 split at h
 ·
  rename_i el te str hti
  obtain ⟨z, hty⟩ := appTI_ok hT hti
  split at h
  ·
   rename_i hx
   split at h
   ·
    rename_i id o2 m sz full hy
    split at h
    ·
     rename_i hsz
     have := beqE hsz
     subst this
     split at h
     ·
      rename_i b hb
      obtain ⟨⟨h1, h2⟩, hk⟩ := h
      have := hk_lt hl hb
      exact ok1_new (lt_append_nil_sl ho hty (ev_some hx) (ev_some hy) (hk_some hb) h1 h2 (by omega)) hk
     ·
      exact h.elim
    ·
     exact h.elim
   ·
    rename_i l hy
    split at h
    ·
     rename_i h1
     obtain ⟨h2, hk⟩ := h
     rw [beqE h1] at hty
     exact ok1_new (lt_append_nil_str ho hty (ev_some hx) (ev_some hy) h2) hk
    ·
     exact h.elim
   ·
    rename_i hy
    exact ok1_pure (lt_append_none ho hty (ev_some hx) (.inl rfl) (ev_some hy)) h
   ·
    exact h.elim
  ·
   rename_i id off n sz full hx
   split at h
   ·
    rename_i hsz
    have := beqE hsz
    subst this
    split at h
    ·
     rename_i hy
     exact ok1_pure (lt_append_none ho hty (ev_some hx) (.inr ⟨_, _, _, _, _, rfl⟩) (ev_some hy)) h
    ·
     rename_i id2 o2 m sz2 full2 hy
     split at h
     ·
      rename_i hsz2
      have := beqE hsz2
      subst this
      split at h
      ·
       rename_i b hb
       split at h
       ·
        rename_i b2 hb2
        have l1 := hk_lt hl hb
        have l2 := hk_lt hl hb2
        split at h
        ·
         obtain ⟨⟨h1, h2, h3, h4⟩, hk⟩ := h
         exact ok1_new (lt_append_full_sl ho hty (ev_some hx) (hk_some hb) h1 (ev_some hy) (hk_some hb2) h2 h3 h4 (by omega)) hk
        ·
         split at h
         ·
          rename_i e2 l
          split at h
          ·
           rename_i he
           have := beqE he
           subst this
           obtain ⟨⟨h1, h2, h3⟩, hk⟩ := h
           exact ok1_move l1 (by simp) (lt_append_row_sl ho hty (ev_some hx) (hk_some hb) h1 (ev_some hy) (hk_some hb2) h2 h3 (by omega)) hk
          ·
           exact h.elim
         ·
          exact h.elim
       ·
        exact h.elim
      ·
       exact h.elim
     ·
      exact h.elim
    ·
     rename_i s hy
     split at h
     ·
      rename_i h1
      have h1 := beqE h1
      split at h
      ·
       rename_i e2 l hb
       split at h
       ·
        rename_i he
        have := beqE he
        subst this
        obtain ⟨⟨h2, h3⟩, hk⟩ := h
        have l1 := hk_lt hl hb
        rw [h1] at hty hx
        exact ok1_move l1 (by simp) (lt_append_row_str ho hty (ev_some hx) (hk_some hb) h2 (ev_some hy) h3 (by omega)) hk
       ·
        exact h.elim
      ·
       exact h.elim
     ·
      exact h.elim
    ·
     exact h.elim
   ·
    exact h.elim
  ·
   rename_i id off n c sz hx
   split at h
   ·
    rename_i hsz
    have := beqE hsz
    subst this
    split at h
    ·
     rename_i id2 o2 m c2 sz2 hy
     split at h
     ·
      rename_i hsz2
      have := beqE hsz2
      subst this
      split at h
      ·
       rename_i e2 l hb
       split at h
       ·
        rename_i b2 hb2
        obtain ⟨⟨h1, h2, h3, h4⟩, hk⟩ := h
        exact ok1_put (hk_lt hl hb) (by simp) (lt_append_slc ho hty (ev_some hx) (hk_some hb) rfl h2 (ev_some hy) (hk_some hb2) h3 h1 h4) hk
       ·
        exact h.elim
      ·
       exact h.elim
     ·
      exact h.elim
    ·
     exact h.elim
   ·
    exact h.elim
  ·
   exact h.elim
 ·
  exact h.elim
theorem okCopy (hT : TOk P T) (hl : H.length ≤ L) {t xT : Nat} {x y : Operand} (ho : o.op = .call { callee := .builtin .copy, args := #[x, y], argTypes := #[t, xT] }) (h : sopCopy T R H L x y t k) : Ok1 P o R H L k := by
 unfold sopCopy at h
 split at h
 ·
  rename_i ti ht
  have ft := hT _ _ ht
  split at h
  ·
   rename_i el hu
   split at h
   ·
    rename_i te hte
    have fe := hT _ _ hte
    split at h
    ·
     rename_i id off n sz full hx
     split at h
     ·
      rename_i id2 o2 m sz2 full2 hy
      split at h
      ·
       rename_i hsz
       have := beqE hsz
       subst this
       split at h
       ·
        rename_i hsz2
        have := beqE hsz2
        subst this
        split at h
        ·
         rename_i e l hb
         split at h
         ·
          rename_i b2 hb2
          obtain ⟨⟨h1, h2, h3⟩, hk⟩ := h
          exact ok1_put (hk_lt hl hb) (by simp) (lt_copy_sl ho (und_slc ft hu) fe.sz (ev_some hx) (hk_some hb) rfl h1 (ev_some hy) (hk_some hb2) h2 rfl h3) hk
         ·
          exact h.elim
        ·
         rename_i l hb
         split at h
         ·
          rename_i b2 hb2
          obtain ⟨⟨h1, h2, h3⟩, hk⟩ := h
          exact ok1_put (hk_lt hl hb) (by simp) (lt_copy_sl ho (und_slc ft hu) fe.sz (ev_some hx) (hk_some hb) rfl h1 (ev_some hy) (hk_some hb2) h2 rfl h3) hk
         ·
          exact h.elim
        ·
         exact h.elim
       ·
        exact h.elim
      ·
       exact h.elim
     ·
      exact h.elim
    ·
     exact h.elim
   ·
    exact h.elim
  ·
   exact h.elim
 ·
  exact h.elim
theorem sop_ok (hT : TOk P T) (hl : H.length ≤ L) (h : sop T P o R H L k) : Ok1 P o R H L k := by
 unfold sop at h
 split at h
 ·
  rename_i x ho
  split at h
  ·
   rename_i z hx
   exact ok1_pure (lt_move (.inl ho) (ev_some hx)) h
  ·
   exact h.elim
 ·
  rename_i x ho
  split at h
  ·
   rename_i z hx
   exact ok1_pure (lt_move (.inr ho) (ev_some hx)) h
  ·
   exact h.elim
 ·
  rename_i c x y ho
  split at h
  ·
   rename_i t hc
   obtain ⟨z, hz, hk⟩ := h
   refine ok1_pure (lt_pick ho (ev_some hc) ?_) hk
   rw [← hz, ev_eq, ev_eq]
  ·
   exact h.elim
 ·
  rename_i ho; exact okBox ho h
 ·
  rename_i ho; exact okAlloc hT ho h
 ·
  rename_i ho; exact okLoad hT ho h
 ·
  rename_i ho; exact okStore hT hl ho h
 ·
  rename_i ho; exact okBin hT ho h
 ·
  rename_i ho; exact okUn ho h
 ·
  rename_i ho; exact okConv hT hl ho h
 ·
  rename_i ho; exact okField hT ho h
 ·
  rename_i ho; exact okFieldV hT ho h
 ·
  rename_i ho; exact okIndexAddr hT ho h
 ·
  rename_i ho; exact okIndex hT ho h
 ·
  rename_i ho; exact okExtract ho h
 ·
  rename_i ho; exact okNil ho h
 ·
  rename_i ho; exact okFunc ho h
 ·
  rename_i ho; exact okArrAt hT ho h
 ·
  rename_i ho; exact okBuild hT ho h
 ·
  rename_i ho; exact okBuildSlice hT ho h
 ·
  rename_i ho; exact okMake hT ho h
 ·
  rename_i ho; exact okSlice hT ho h
 ·
  rename_i b args tys ho
  split at h
  ·
   exact okLen hT ho h
  ·
   exact okMin ho h
  ·
   exact okMax ho h
  ·
   split at h
   ·
    exact okAppend hT hl ho h
   ·
    exact h
  ·
   exact okCopy hT hl ho h
  ·
   exact h
 ·
  exact h
end
end Go.Sh
namespace Go.Sh
mutual
def renV (sel : List Nat) : SV → Option SV
 | .i n => some (.i n)
 | .u8 x => some (.u8 x)
 | .u16 x => some (.u16 x)
 | .u32 x => some (.u32 x)
 | .u64 x => some (.u64 x)
 | .b x => some (.b x)
 | .s l => some (.s l)
 | .p id off => match sel[id]? with | some j => some (.p j off) | none => none
 | .pnil => some .pnil
 | .sl id o n sz f => match sel[id]? with | some j => some (.sl j o n sz f) | none => none
 | .slc id o n c sz => match sel[id]? with | some j => some (.slc j o n c sz) | none => none
 | .slnil => some .slnil
 | .fnil => some .fnil
 | .fn f cap => match renL sel cap with | some c => some (.fn f c) | none => none
 | .yld id => match sel[id]? with | some j => some (.yld j) | none => none
 | .mp id => match sel[id]? with | some j => some (.mp j) | none => none
 | .mnil => some .mnil
 | .lit v => some (.lit v)
 | .agg l => match renL sel l with | some c => some (.agg c) | none => none
 | .tup l => match renL sel l with | some c => some (.tup c) | none => none
def renL (sel : List Nat) : List SV → Option (List SV)
 | [] => some []
 | x :: xs => match renV sel x with
  | some y => match renL sel xs with | some ys => some (y :: ys) | none => none
  | none => none
end
def pullR (sel : List Nat) (ρ : Ren) : Ren := fun j => match sel[j]? with | some k => ρ k | none => none
mutual
theorem renV_atom {sel : List Nat} : ∀ (x : SV) {y : SV}, renV sel x = some y → y.atom = x.atom
 | .i _, _, h | .u8 _, _, h | .u16 _, _, h | .u32 _, _, h | .u64 _, _, h | .b _, _, h | .s _, _, h | .pnil, _, h | .slnil, _, h | .fnil, _, h | .mnil, _, h | .lit _, _, h => by
  simp only [renV, Option.some.injEq] at h; subst h; rfl
 | .p id off, _, h | .yld id, _, h | .mp id, _, h | .sl id _ _ _ _, _, h | .slc id _ _ _ _, _, h => by
  simp only [renV] at h; split at h <;> first | (simp only [Option.some.injEq] at h; subst h; rfl) | cases h
 | .fn f cap, _, h | .agg cap, _, h | .tup cap, _, h => by
  simp only [renV] at h; split at h <;> first | (simp only [Option.some.injEq] at h; subst h; rfl) | cases h
end
theorem renL_len {sel : List Nat} : ∀ {xs ys : List SV}, renL sel xs = some ys → ys.length = xs.length ∧ atoms ys = atoms xs
 | [], ys, h => by simp only [renL, Option.some.injEq] at h; subst h; exact ⟨rfl, rfl⟩
 | x :: xs, ys, h => by
  simp only [renL] at h
  split at h
  ·
   rename_i y hy
   split at h
   ·
    rename_i zs hz
    simp only [Option.some.injEq] at h; subst h
    obtain ⟨e1, e2⟩ := renL_len hz
    exact ⟨by simp [e1], by simp only [atoms, List.all_cons, renV_atom x hy] at e2 ⊢; rw [e2]⟩
   ·
    cases h
  ·
   cases h
mutual
theorem rel_ren {sel : List Nat} {ρ : Ren} : ∀ (x : SV) {y : SV} {v : Value}, renV sel x = some y → (Rel (pullR sel ρ) x v ↔ Rel ρ y v)
 | .i _, _, _, h | .u8 _, _, _, h | .u16 _, _, _, h | .u32 _, _, _, h | .u64 _, _, _, h | .b _, _, _, h | .s _, _, _, h | .pnil, _, _, h | .slnil, _, _, h | .fnil, _, _, h | .mnil, _, _, h | .lit _, _, _, h => by
  simp only [renV, Option.some.injEq] at h; subst h; simp only [Rel]
 | .p id off, _, _, h | .yld id, _, _, h | .mp id, _, _, h | .sl id _ _ _ _, _, _, h | .slc id _ _ _ _, _, _, h => by
  simp only [renV] at h
  split at h
  ·
   rename_i j hj
   simp only [Option.some.injEq] at h; subst h; simp only [Rel, pullR, hj]
  ·
   cases h
 | .fn f cap, _, v, h => by
  simp only [renV] at h
  split at h
  ·
   rename_i c hc
   simp only [Option.some.injEq] at h; subst h
   simp only [Rel]
   exact ⟨fun ⟨cs, e, hr⟩ => ⟨cs, e, (rels_ren cap hc).1 hr⟩, fun ⟨cs, e, hr⟩ => ⟨cs, e, (rels_ren cap hc).2 hr⟩⟩
  ·
   cases h
 | .agg cap, _, v, h => by
  simp only [renV] at h
  split at h
  ·
   rename_i c hc
   simp only [Option.some.injEq] at h; subst h
   simp only [Rel]
   rw [(renL_len hc).2]
   exact ⟨fun ⟨cs, e, ha, hr⟩ => ⟨cs, e, ha, (rels_ren cap hc).1 hr⟩, fun ⟨cs, e, ha, hr⟩ => ⟨cs, e, ha, (rels_ren cap hc).2 hr⟩⟩
  ·
   cases h
 | .tup cap, _, v, h => by
  simp only [renV] at h
  split at h
  ·
   rename_i c hc
   simp only [Option.some.injEq] at h; subst h
   simp only [Rel]
   exact ⟨fun ⟨cs, e, hr⟩ => ⟨cs, e, (rels_ren cap hc).1 hr⟩, fun ⟨cs, e, hr⟩ => ⟨cs, e, (rels_ren cap hc).2 hr⟩⟩
  ·
   cases h
theorem rels_ren {sel : List Nat} {ρ : Ren} : ∀ (xs : List SV) {ys : List SV} {vs : List Value}, renL sel xs = some ys → (Rels (pullR sel ρ) xs vs ↔ Rels ρ ys vs)
 | [], ys, vs, h => by simp only [renL, Option.some.injEq] at h; subst h; simp only [Rels]
 | x :: xs, ys, vs, h => by
  simp only [renL] at h
  split at h
  ·
   rename_i y hy
   split at h
   ·
    rename_i zs hz
    simp only [Option.some.injEq] at h; subst h
    simp only [Rels]
    exact ⟨fun ⟨u, us, e, h1, h2⟩ => ⟨u, us, e, (rel_ren x hy).1 h1, (rels_ren xs hz).1 h2⟩, fun ⟨u, us, e, h1, h2⟩ => ⟨u, us, e, (rel_ren x hy).2 h1, (rels_ren xs hz).2 h2⟩⟩
   ·
    cases h
  ·
   cases h
end
theorem cellsAt_ren {sel : List Nat} {ρ : Ren} {w : World} {blk off : Nat} {l l' : List SV} {f : Bool} (h : renL sel l = some l') : CellsAt (pullR sel ρ) w blk off l f ↔ CellsAt ρ w blk off l' f := by
 obtain ⟨e1, e2⟩ := renL_len h
 unfold CellsAt
 rw [e1, e2]
 simp only [rels_ren l h]
def renRL (sel : List Nat) : List (Nat × SV) → Option (List (Nat × SV))
 | [] => some []
 | (t, v) :: R => match renV sel v with
  | some v' => match renRL sel R with | some R' => some ((t, v') :: R') | none => none
  | none => none
theorem renRL_get {sel : List Nat} : ∀ {R R' : List (Nat × SV)}, renRL sel R = some R' → ∀ t, (R.lookup t = none ∧ R'.lookup t = none) ∨ ∃ v v', R.lookup t = some v ∧ R'.lookup t = some v' ∧ renV sel v = some v'
 | [], R', h, t => by simp only [renRL, Option.some.injEq] at h; subst h; exact .inl ⟨rfl, rfl⟩
 | (u, v) :: R, R', h, t => by
  simp only [renRL] at h
  split at h
  ·
   rename_i v' hv
   split at h
   ·
    rename_i R1 hR
    simp only [Option.some.injEq] at h; subst h
    simp only [List.lookup_cons]
    cases htu : (t == u) with
    | true => exact .inr ⟨v, v', rfl, rfl, hv⟩
    | false => exact renRL_get hR t
   ·
    cases h
  ·
   cases h
theorem relR_ren {sel : List Nat} {ρ : Ren} {R R' : List (Nat × SV)} {tmps : Array Value} (h : renRL sel R = some R') : RelR (pullR sel ρ) R tmps ↔ RelR ρ R' tmps := by
 constructor
 ·
  intro hr t v hv
  rcases renRL_get h t with ⟨_, h2⟩ | ⟨x, y, h1, h2, h3⟩
  ·
   rw [h2] at hv; cases hv
  ·
   rw [h2] at hv; cases hv; exact (rel_ren x h3).1 (hr t x h1)
 ·
  intro hr t v hv
  rcases renRL_get h t with ⟨h1, _⟩ | ⟨x, y, h1, h2, h3⟩
  ·
   rw [h1] at hv; cases hv
  ·
   rw [h1] at hv; cases hv; exact (rel_ren _ h3).2 (hr t y h2)
def renO (sel : List Nat) : OB → Option OB
 | .loop R N ps a b => match renRL sel R with | some R' => some (.loop R' N ps a b) | none => none
 | .pend c => some (.pend c)
theorem orel_ren {sel : List Nat} {ρ : Ren} {w : World} {blk : Nat} {y y' : OB} (h : renO sel y = some y') : ORel (pullR sel ρ) w blk y ↔ ORel ρ w blk y' := by
 cases y with
 | loop R N ps a b =>
  simp only [renO] at h
  split at h
  ·
   rename_i R' hR
   simp only [Option.some.injEq] at h; subst h
   simp only [ORel, relR_ren hR]
  ·
   cases h
 | pend c => simp only [renO, Option.some.injEq] at h; subst h; exact Iff.rfl
def renB (sel : List Nat) : SB → Option SB
 | .obj y => match renO sel y with | some y' => some (.obj y') | none => none
 | .ext y => some (.ext y)
 | .row t l => match renL sel l with | some l' => some (.row t l') | none => none
 | .box l => match renL sel l with | some l' => some (.box l') | none => none
 | .ro l => match renL sel l with | some l' => some (.ro l') | none => none
theorem renL_nil {sel : List Nat} {l l' : List SV} (h : renL sel l = some l') : l = [] ↔ l' = [] := by
 have := (renL_len h).1
 constructor <;> (intro e; subst e; apply List.eq_nil_of_length_eq_zero; simp_all)
theorem brel_ren {sel : List Nat} {ρ : Ren} {w : World} {rb : RB} {b b' : SB} (h : renB sel b = some b') : BRel (pullR sel ρ) w rb b ↔ BRel ρ w rb b' := by
 cases b with
 | obj y =>
  simp only [renB] at h
  split at h
  ·
   rename_i y' hy; cases h; exact orel_ren hy
  ·
   cases h
 | ext y => simp only [renB, Option.some.injEq] at h; subst h; exact Iff.rfl
 | ro l =>
  simp only [renB] at h
  split at h
  ·
   rename_i l' hl; cases h
   simp only [BRel, cellsAt_ren hl, renL_nil hl, (renL_len hl).1]
  ·
   cases h
 | box l =>
  simp only [renB] at h
  split at h
  ·
   rename_i l' hl; cases h
   simp only [BRel, cellsAt_ren hl, (renL_len hl).1]
  ·
   cases h
 | row t l =>
  simp only [renB] at h
  split at h
  ·
   rename_i l' hl; cases h
   simp only [BRel, renL_nil hl, (renL_len hl).1, (renL_len hl).2, rels_ren l hl]
  ·
   cases h
theorem foot_ren {sel : List Nat} {rb : RB} {b b' : SB} (h : renB sel b = some b') (k o : Nat) : (foot rb b k o ↔ foot rb b' k o) ∧ b'.own = b.own := by
 rcases b with _ | _ | _ | y | y
 case ext => simp only [renB, Option.some.injEq] at h; subst h; exact ⟨Iff.rfl, rfl⟩
 case obj =>
  simp only [renB] at h
  split at h
  ·
   cases h; exact ⟨Iff.rfl, rfl⟩
  ·
   cases h
 all_goals simp only [renB] at h <;> split at h <;> cases h <;> rename_i l' hl <;> simp only [foot, SB.own, (renL_len hl).1, and_self, iff_self]
def okR (sel : List Nat) (R : RL) : RL → Prop
 | [] => True
 | (t, v0) :: R0 => (match lk t R with | some v => renV sel v0 = some v | none => False) ∧ okR sel R R0
theorem okR_relR {sel : List Nat} {ρ : Ren} {R : RL} {tmps : Array Value} (hr : RelR ρ R tmps) : ∀ {R0 : RL}, okR sel R R0 → RelR (pullR sel ρ) R0 tmps
 | [], _ => fun t v h => by cases h
 | (u, x) :: R0, h => fun t v hv => by
  obtain ⟨h1, h2⟩ := h
  simp only [List.lookup_cons] at hv
  split at hv
  ·
   rename_i e
   have : t = u := by simpa using e
   subst this
   cases hv
   split at h1
   ·
    rename_i y hy
    rw [lk_eq] at hy
    exact (rel_ren _ h1).2 (hr t y hy)
   ·
    exact h1.elim
  ·
   exact okR_relR hr h2 t v hv
def okO (sel : List Nat) (y0 y : OB) : Prop :=
 match y0, y with
 | .loop R0 N0 ps0 a0 b0, .loop R N ps a b => okR sel R R0 ∧ N0 = N ∧ ps0 = ps ∧ a0 = a ∧ b0 = b
 | .pend c0, .pend c => c0 = c
 | _, _ => False
theorem okO_orel {sel : List Nat} {ρ : Ren} {w : World} {blk : Nat} {y0 y : OB} (h : okO sel y0 y) (hb : ORel ρ w blk y) : ORel (pullR sel ρ) w blk y0 := by
 unfold okO at h
 split at h
 ·
  obtain ⟨h0, rfl, rfl, rfl, rfl⟩ := h
  obtain ⟨r, h1, h2, h3, h4, h5, h6, h7, h8⟩ := hb
  exact ⟨r, h1, h2, h3, h4, h5, h6, h7, okR_relR h8 h0⟩
 ·
  subst h; exact hb
 ·
  exact h.elim
def okB (sel : List Nat) (b0 b : SB) : Prop :=
 match b0, b with
 | .row t l0, .row t' l => t = t' ∧ renL sel l0 = some l
 | .box l0, .box l => renL sel l0 = some l
 | .ro l0, .ro l => renL sel l0 = some l
 | .ro l0, .row _ l => renL sel l0 = some l
 | .ro l0, .box l => renL sel l0 = some l
 | .obj y0, .obj y => okO sel y0 y
 | .ext y0, .ext y => y0 = y
 | _, _ => False
theorem okB_brel {sel : List Nat} {ρ : Ren} {w : World} {rb : RB} {b0 b : SB} (h : okB sel b0 b) (hb : BRel ρ w rb b) : BRel (pullR sel ρ) w rb b0 ∧ (∀ k o, foot rb b0 k o → foot rb b k o) ∧ (b0.own = true → b.own = true) := by
 unfold okB at h
 split at h
 ·
  rename_i t l0 t' l
  obtain ⟨rfl, h⟩ := h
  have e : renB sel (.row t l0) = some (.row t l) := by simp only [renB, h]
  exact ⟨(brel_ren e).2 hb, fun k o => (foot_ren e k o).1.1, fun _ => rfl⟩
 ·
  rename_i l0 l
  have e : renB sel (.box l0) = some (.box l) := by simp only [renB, h]
  exact ⟨(brel_ren e).2 hb, fun k o => (foot_ren e k o).1.1, fun _ => rfl⟩
 ·
  rename_i l0 l
  have e : renB sel (.ro l0) = some (.ro l) := by simp only [renB, h]
  exact ⟨(brel_ren e).2 hb, fun k o => (foot_ren e k o).1.1, fun h => by cases h⟩
 ·
  rename_i l0 t l
  have e : renB sel (.ro l0) = some (.ro l) := by simp only [renB, h]
  have hro : BRel ρ w rb (.ro l) := by
   rcases hb with ⟨h1, h2⟩ | ⟨hv, c, fz, g1, g2, g3, g4, g5, g6⟩
   ·
    exact .inl h2
   ·
    exact .inr ⟨⟨c, t, fz, g1, g4, g5, fun h => (by cases h), by omega⟩, g6, hv⟩
  refine ⟨(brel_ren e).2 hro, fun k o hf => ?_, fun h => by cases h⟩
  have hf2 := (foot_ren e k o (rb := rb)).1.1 hf
  rcases hb with ⟨h1, rfl⟩ | ⟨hv, _⟩
  ·
   have := hf2.2; simp at this; omega
  ·
   exact ⟨hv, hf2.1, hf2.2.1⟩
 ·
  rename_i l0 l
  have e : renB sel (.ro l0) = some (.ro l) := by simp only [renB, h]
  have hro : BRel ρ w rb (.ro l) := by
   obtain ⟨⟨c, t, fz, g1, g2, g3, g4, g5⟩, g6, g7⟩ := hb
   exact .inr ⟨⟨c, t, fz, g1, g2, g3, fun h => (by cases h), g5⟩, g6, g7⟩
  exact ⟨(brel_ren e).2 hro, fun k o hf => (foot_ren e k o (rb := rb)).1.1 hf, fun h => by cases h⟩
 ·
  exact ⟨okO_orel h hb, fun k o hf => hf, fun _ => rfl⟩
 ·
  subst h; exact ⟨hb, fun k o hf => hf, fun h => h⟩
 ·
  exact h.elim
def okH (sel : List Nat) (H : HL) : List Nat → HL → Prop
 | _, [] => True
 | [], some _ :: _ => False
 | [], none :: H0 => okH sel H [] H0
 | _ :: ss, none :: H0 => okH sel H ss H0
 | s :: ss, some b0 :: H0 => (match hk H s with | some b => okB sel b0 b | none => False) ∧ okH sel H ss H0
theorem okH_get {sel : List Nat} {H : HL} : ∀ {H0 : HL} {ss : List Nat} {j : Nat} {b0 : SB}, okH sel H ss H0 → hg H0 j = some b0 → ∃ s b, ss[j]? = some s ∧ hg H s = some b ∧ okB sel b0 b
 | [], ss, j, b0, _, h => by simp [hg] at h
 | none :: H0, [], j, b0, hok, h => by
  cases j with
  | zero => simp [hg] at h
  | succ j => obtain ⟨s, b, h1, _⟩ := okH_get (H0 := H0) (ss := []) (j := j) hok (by simpa [hg] using h); simp at h1
 | some _ :: H0, [], j, b0, hok, h => hok.elim
 | none :: H0, s :: ss, j, b0, hok, h => by
  cases j with
  | zero => simp [hg] at h
  | succ j => simpa using okH_get (H0 := H0) (ss := ss) (j := j) hok (by simpa [hg] using h)
 | some b1 :: H0, s :: ss, j, b0, hok, h => by
  obtain ⟨h1, h2⟩ := hok
  cases j with
  | zero =>
   have e : b1 = b0 := by simpa [hg] using h
   subst e
   split at h1
   ·
    rename_i b hb
    exact ⟨s, b, rfl, hk_some hb, h1⟩
   ·
    exact h1.elim
  | succ j => simpa using okH_get (H0 := H0) (ss := ss) (j := j) h2 (by simpa [hg] using h)
def only (s i : Nat) : Nat → List Nat → Bool
 | _, [] => true
 | k, x :: xs => match Nat.beq x s with
  | true => match Nat.beq k i with | true => only s i (k + 1) xs | false => false
  | false => only s i (k + 1) xs
theorem only_spec {s i : Nat} : ∀ {xs : List Nat} {k j : Nat}, only s i k xs = true → xs[j]? = some s → k + j = i
 | [], k, j, _, h => by simp at h
 | x :: xs, k, j, ho, h => by
  simp only [only] at ho
  cases j with
  | zero =>
   simp at h; subst h
   have e : Nat.beq x x = true := by simp
   rw [e] at ho
   simp only at ho
   split at ho
   ·
    rename_i hk; simpa using beqE hk
   ·
    cases ho
  | succ j =>
   have ho' : only s i (k + 1) xs = true := by
    split at ho
    ·
     split at ho
     ·
      exact ho
     ·
      cases ho
    ·
     exact ho
   have := only_spec (j := j) ho' (by simpa using h)
   omega
def dupOk (all : List Nat) : Nat → List Nat → HL → Bool
 | _, _, [] => true
 | _, [], _ => true
 | k, _ :: ss, none :: H0 => dupOk all (k + 1) ss H0
 | k, s :: ss, some b0 :: H0 => match b0.own with
  | true => match only s k 0 all with | true => dupOk all (k + 1) ss H0 | false => false
  | false => dupOk all (k + 1) ss H0
theorem dupOk_spec {all : List Nat} : ∀ {H0 : HL} {ss : List Nat} {k i : Nat} {b0 : SB} {s : Nat}, dupOk all k ss H0 = true → ss[i]? = some s → hg H0 i = some b0 → b0.own = true → ∀ j, all[j]? = some s → j = k + i
 | [], ss, k, i, b0, s, _, _, h, _ => by simp [hg] at h
 | b1 :: H0, [], k, i, b0, s, _, h, _, _ => by simp at h
 | none :: H0, s1 :: ss, k, i, b0, s, hd, h1, h2, h3 => by
  intro j hj
  cases i with
  | zero => simp [hg] at h2
  | succ i =>
   have := dupOk_spec (H0 := H0) (ss := ss) (k := k + 1) (i := i) hd (by simpa using h1) (by simpa [hg] using h2) h3 j hj
   omega
 | some b1 :: H0, s1 :: ss, k, i, b0, s, hd, h1, h2, h3 => by
  intro j hj
  simp only [dupOk] at hd
  cases i with
  | zero =>
   simp at h1; subst h1
   have e : b1 = b0 := by simpa [hg] using h2
   subst e
   rw [h3] at hd
   simp only at hd
   split at hd
   ·
    rename_i ho
    have := only_spec ho hj
    omega
   ·
    cases hd
  | succ i =>
   have hd' : dupOk all (k + 1) ss H0 = true := by
    split at hd
    ·
     split at hd
     ·
      exact hd
     ·
      cases hd
    ·
     exact hd
   have := dupOk_spec (H0 := H0) (ss := ss) (k := k + 1) (i := i) hd' (by simpa using h1) (by simpa [hg] using h2) h3 j hj
   omega
theorem okR_get {sel : List Nat} {R : RL} : ∀ {R0 : RL} {t : Nat} {v0 : SV}, okR sel R R0 → rg R0 t = some v0 → ∃ v, rg R t = some v ∧ renV sel v0 = some v
 | [], t, v0, _, h => by simp [rg] at h
 | (t1, v1) :: R0, t, v0, hok, h => by
  obtain ⟨h1, h2⟩ := hok
  simp only [rg, List.lookup_cons] at h
  split at h
  ·
   rename_i e
   have : t = t1 := by simpa using e
   subst this
   simp only [Option.some.injEq] at h; subst h
   split at h1
   ·
    rename_i v hv
    exact ⟨v, by rw [rg, ← lk_eq]; exact hv, h1⟩
   ·
    exact h1.elim
  ·
   exact okR_get h2 h
structure EvA (A : Nat) (ρ : Ren) (H : Heap) (w : World) (ρ' : Ren) (H' : Heap) (w' : World) : Prop where
 ext : ∀ id, id < A → ∀ rb, ρ id = some rb → ρ' id = some rb
 fr : Fr (Owned ρ H) w w'
 own : ∀ k o, Owned ρ' H' k o → Owned ρ H k o ∨ w.heap.size ≤ k
theorem Ev.toA {A : Nat} {ρ : Ren} {H : Heap} {w : World} {ρ' : Ren} {H' : Heap} {w' : World} (h : Ev ρ H w ρ' H' w') : EvA A ρ H w ρ' H' w' := ⟨fun id _ rb hr => h.ext id rb hr, h.fr, h.own⟩
theorem EvA.refl (A : Nat) (ρ : Ren) (H : Heap) (w : World) : EvA A ρ H w ρ H w := (Ev.refl ρ H w).toA
theorem EvA.trans {A : Nat} {ρ1 ρ2 ρ3 : Ren} {H1 H2 H3 : Heap} {w1 w2 w3 : World} (h : EvA A ρ1 H1 w1 ρ2 H2 w2) (k : EvA A ρ2 H2 w2 ρ3 H3 w3) : EvA A ρ1 H1 w1 ρ3 H3 w3 :=
  ⟨fun id hi rb hr => k.ext id hi rb (h.ext id hi rb hr), h.fr.trans k.fr (fun x o hx ho => (h.own x o ho).resolve_right (by omega)),
   fun x o ho => (k.own x o ho).elim (fun h2 => h.own x o h2) (fun h2 => .inr (Nat.le_trans h.fr.size h2))⟩
def Weak (A : Nat) (R : RL) (H : HL) (L : Nat) (R0 : RL) (H0 : HL) (L0 : Nat) : Prop :=
 ∀ N B ρ a w, Sim N B L ρ (rg R) (hg H) a w → H.length ≤ L → ∃ ρ0, Sim N B L0 ρ0 (rg R0) (hg H0) a w ∧ H0.length ≤ L0 ∧ EvA A ρ (hg H) w ρ0 (hg H0) w
theorem Weak.refl {A : Nat} {R : RL} {H : HL} {L : Nat} : Weak A R H L R H L := fun _ _ ρ _ _ hs hl => ⟨ρ, hs, hl, EvA.refl _ _ _ _⟩
theorem Weak.trans {A : Nat} {R1 R2 R3 : RL} {H1 H2 H3 : HL} {L1 L2 L3 : Nat} (h : Weak A R1 H1 L1 R2 H2 L2) (k : Weak A R2 H2 L2 R3 H3 L3) : Weak A R1 H1 L1 R3 H3 L3 :=
 fun N B ρ a w hs hl => let ⟨ρ2, s2, l2, e2⟩ := h N B ρ a w hs hl; let ⟨ρ3, s3, l3, e3⟩ := k N B ρ2 a w s2 l2; ⟨ρ3, s3, l3, e2.trans e3⟩
def idOk (sel : List Nat) (A : Nat) : Bool := (List.range A).all fun j => match sel[j]? with | some k => Nat.beq k j | none => false
theorem sel_sim {A N B : Nat} {ρ : Ren} {a : Act} {w : World} {R : RL} {H : HL} {L : Nat} {R0 : RL} {H0 : HL} {L0 : Nat} (sel : List Nat) (hl : sel.length = L0) (hA : idOk sel A = true) (hR : okR sel R R0) (hH : okH sel H sel H0)
  (hd : dupOk sel 0 sel H0 = true) (hs : Sim N B L ρ (rg R) (hg H) a w) : Sim N B L0 (pullR sel ρ) (rg R0) (hg H0) a w ∧ EvA A ρ (hg H) w (pullR sel ρ) (hg H0) w := by
 have own : ∀ k o, Owned (pullR sel ρ) (hg H0) k o → Owned ρ (hg H) k o := by
  rintro k o ⟨id, b0, rb, h1, h2, h3, h4⟩
  obtain ⟨s, b, e1, e2, e3⟩ := okH_get hH h1
  simp only [pullR, e1] at h2
  obtain ⟨rb2, hr2, hb⟩ := hs.heap s b e2
  rw [h2] at hr2; cases hr2
  obtain ⟨_, g2, g3⟩ := okB_brel e3 hb
  exact ⟨s, b, rb, e2, h2, g3 h3, g2 k o h4⟩
 refine ⟨⟨hs.size, ?_, ?_, ?_, ?_, hs.dfr⟩, ⟨?_, Fr.refl _ _, fun k o h => .inl (own k o h)⟩⟩
 ·
  intro t v0 hv
  obtain ⟨v, h1, h2⟩ := okR_get hR hv
  exact (rel_ren v0 h2).2 (hs.regs t v h1)
 ·
  intro j b0 hj
  obtain ⟨s, b, e1, e2, e3⟩ := okH_get hH hj
  obtain ⟨rb, hr, hb⟩ := hs.heap s b e2
  exact ⟨rb, by simp only [pullR, e1]; exact hr, (okB_brel e3 hb).1⟩
 ·
  intro i j bi bj ri rj hne hi hj hri hrj hown k o ⟨hfi, hfj⟩
  obtain ⟨si, ci, e1, e2, e3⟩ := okH_get hH hi
  obtain ⟨sj, cj, f1, f2, f3⟩ := okH_get hH hj
  simp only [pullR, e1] at hri
  simp only [pullR, f1] at hrj
  obtain ⟨rb2, hr2, hb⟩ := hs.heap si ci e2
  rw [hri] at hr2; cases hr2
  obtain ⟨rb2, hr2, hb2⟩ := hs.heap sj cj f2
  rw [hrj] at hr2; cases hr2
  obtain ⟨_, g2, g3⟩ := okB_brel e3 hb
  obtain ⟨_, g4, g5⟩ := okB_brel f3 hb2
  by_cases hss : si = sj
  ·
   subst hss
   have := dupOk_spec hd e1 hi hown j f1
   omega
  ·
   exact hs.sep si sj ci cj ri rj hss e2 f2 hri hrj (g3 hown) k o ⟨g2 k o hfi, g4 k o hfj⟩
 ·
  intro id hid
  have : sel[id]? = none := List.getElem?_eq_none (by omega)
  simp only [pullR, this]
 ·
  intro id hid rb hr
  simp only [idOk, List.all_eq_true, List.mem_range] at hA
  have := hA id hid
  split at this
  ·
   rename_i k hk
   have e := beqE this
   subst e
   simp only [pullR, hk]; exact hr
  ·
   cases this
theorem Weak.sel {A : Nat} {R : RL} {H : HL} {L : Nat} {R0 : RL} {H0 : HL} {L0 : Nat} (sel : List Nat) (hl : sel.length = L0) (hA : idOk sel A = true) (hR : okR sel R R0) (hH : okH sel H sel H0)
  (hd : dupOk sel 0 sel H0 = true) (hlen : Nat.ble H0.length L0 = true) : Weak A R H L R0 H0 L0 := by
 intro N B ρ a w hs _
 obtain ⟨h1, h2⟩ := sel_sim sel hl hA hR hH hd hs
 exact ⟨_, h1, Nat.le_of_ble_eq_true hlen, h2⟩
theorem hupd_le {H : HL} {L : Nat} (h : H.length ≤ L) : ∀ {W : Upd}, (∀ id ob, (id, ob) ∈ W → id < L) → (hupd H W).length ≤ L
 | [], _ => h
 | (id, ob) :: W, hW => by
  have h1 := hupd_le h (W := W) (fun i o hm => hW i o (List.mem_cons_of_mem _ hm))
  have h2 := hW id ob (List.mem_cons_self ..)
  simp only [hupd, hset]
  split
  ·
   simpa using h1
  ·
   simp; omega
theorem Weak.virt {A : Nat} {R : RL} {H : HL} {L : Nat} (t ty sz : Nat) (ht : lk t R = some .slnil) : Weak A R H L ((t, .sl L 0 0 sz false) :: R) (hupd H [(L, some (.row ty []))]) (L + 1) := by
 intro N B ρ a w hs hl
 have hc := Chg.virtual (ρ := ρ) (H := hg H) (w := w) (t := ty) (hs.fresh L (Nat.le_refl _))
 have hev := hc.evo (H := hg H) (fun _ _ _ => rfl) hs.heap hs.sep
 rw [← hg_hupd] at hev
 refine ⟨_, ⟨hs.size, ?_, hev.heap, hev.sep, ?_, hs.dfr⟩, ?_, hev.ev.toA⟩
 ·
  intro t2 v hv
  simp only [rg, List.lookup_cons] at hv
  split at hv
  ·
   rename_i e
   have : t2 = t := by simpa using e
   subst this
   cases hv
   have h1 := hs.regs t2 .slnil (by rw [rg, ← lk_eq]; exact ht)
   simp only [Rel] at h1 ⊢
   exact ⟨_, none, 0, setR_same _ _ _, h1, Nat.le_refl _, fun h => (by cases h), .inl rfl⟩
  ·
   exact (hs.regs t2 v hv).ext hev.ext
 ·
  intro id hid
  rw [setR_other _ _ (by omega)]
  exact hs.fresh id (by omega)
 ·
  exact hupd_le (by omega) (fun id ob hm => by simp at hm; omega)
theorem Weak.unfull {A : Nat} {R : RL} {H : HL} {L : Nat} (t : Nat) {id o n sz : Nat} {f : Bool} (ht : lk t R = some (.sl id o n sz f)) : Weak A R H L ((t, .sl id o n sz false) :: R) H L := by
 intro N B ρ a w hs hl
 refine ⟨ρ, ⟨hs.size, ?_, hs.heap, hs.sep, hs.fresh, hs.dfr⟩, hl, EvA.refl _ _ _ _⟩
 intro t2 v hv
 simp only [rg, List.lookup_cons] at hv
 split at hv
 ·
  rename_i e
  have : t2 = t := by simpa using e
  subst this
  cases hv
  have h1 := hs.regs t2 _ (by rw [rg, ← lk_eq]; exact ht)
  simp only [Rel] at h1 ⊢
  obtain ⟨rb, a, c, g1, g2, g3, _, g5⟩ := h1
  exact ⟨rb, a, c, g1, g2, g3, fun h => (by cases h), g5⟩
 ·
  exact hs.regs t2 v hv
theorem Weak.room {A : Nat} {R : RL} {H : HL} {L : Nat} (t : Nat) {id o n sz : Nat} {f : Bool} (ht : lk t R = some (.sl id o n sz f)) : Weak A R H L ((t, .slc id o n n sz) :: R) H L := by
 intro N B ρ a w hs hl
 refine ⟨ρ, ⟨hs.size, ?_, hs.heap, hs.sep, hs.fresh, hs.dfr⟩, hl, EvA.refl _ _ _ _⟩
 intro t2 v hv
 simp only [rg, List.lookup_cons] at hv
 split at hv
 ·
  rename_i e
  have : t2 = t := by simpa using e
  subst this
  cases hv
  have h1 := hs.regs t2 _ (by rw [rg, ← lk_eq]; exact ht)
  simp only [Rel] at h1 ⊢
  obtain ⟨rb, a, c, g1, g2, g3, _, g5⟩ := h1
  exact ⟨rb, a, c, g1, g2, Nat.le_refl _, g3, g5⟩
 ·
  exact hs.regs t2 v hv
theorem Weak.unroom {A : Nat} {R : RL} {H : HL} {L : Nat} (t : Nat) {id o n c sz : Nat} (ht : lk t R = some (.slc id o n c sz)) : Weak A R H L ((t, .sl id o n sz false) :: R) H L := by
 intro N B ρ a w hs hl
 refine ⟨ρ, ⟨hs.size, ?_, hs.heap, hs.sep, hs.fresh, hs.dfr⟩, hl, EvA.refl _ _ _ _⟩
 intro t2 v hv
 simp only [rg, List.lookup_cons] at hv
 split at hv
 ·
  rename_i e
  have : t2 = t := by simpa using e
  subst this
  cases hv
  exact (hs.regs t2 _ (by rw [rg, ← lk_eq]; exact ht)).slc_sl
 ·
  exact hs.regs t2 v hv
def hput : HL → Nat → Option SB → HL
 | [], 0, ob => [ob]
 | [], n + 1, ob => none :: hput [] n ob
 | _ :: xs, 0, ob => ob :: xs
 | x :: xs, n + 1, ob => x :: hput xs n ob
theorem hput_eq : ∀ (H : HL) (id : Nat) (ob : Option SB), hput H id ob = hset H id ob
 | [], 0, ob => by simp [hput, hset]
 | [], n + 1, ob => by rw [hput, hput_eq [] n ob]; simp [hset, List.replicate_succ]
 | x :: xs, 0, ob => by simp [hput, hset]
 | x :: xs, n + 1, ob => by
  rw [hput, hput_eq xs n ob]
  by_cases h : n < xs.length
  ·
   simp [hset, h]
  ·
   simp [hset, h]
def hupF (H : HL) : Upd → HL
 | [] => H
 | (id, ob) :: W => hput (hupF H W) id ob
theorem hupF_eq (H : HL) : ∀ W : Upd, hupF H W = hupd H W
 | [] => rfl
 | (id, ob) :: W => by rw [hupF, hupd, hput_eq, hupF_eq H W]
def stp (R : RL) (dst : Option Nat) (out : Option SV) (k : RL → Prop) : Prop :=
 match dst with
 | none => k R
 | some d => match out with
  | some v => k ((d, v) :: R)
  | none => match lk d R with
   | none => k R
   | some _ => k (R.filter fun p => !(p.1 == d))
theorem filter_self (d : Nat) : ∀ R : RL, lk d R = none → (R.filter fun p => !(p.1 == d)) = R
 | [], _ => rfl
 | (a, b) :: R, h => by
  simp only [lk] at h
  split at h
  ·
   cases h
  ·
   rename_i e
   have hne : (a == d) = false := by
    have : a ≠ d := fun e2 => by subst e2; simp at e
    simpa using this
   simp only [List.filter_cons, hne, Bool.not_false, if_true, filter_self d R h]
theorem stp_eq (R : RL) (dst : Option Nat) (out : Option SV) (k : RL → Prop) : stp R dst out k = k (rput R dst out) := by
 cases dst with
 | none => rfl
 | some d =>
  cases out with
  | some v => rfl
  | none =>
   simp only [stp, rput]
   split
   ·
    rename_i h; rw [filter_self d R h]
   ·
    rfl
def hputK : HL → Nat → Option SB → (HL → Prop) → Prop
 | [], 0, ob, k => k [ob]
 | [], n + 1, ob, k => hputK [] n ob fun l => k (none :: l)
 | _ :: xs, 0, ob, k => k (ob :: xs)
 | x :: xs, n + 1, ob, k => hputK xs n ob fun l => k (x :: l)
theorem hputK_eq : ∀ (H : HL) (id : Nat) (ob : Option SB) (k : HL → Prop), hputK H id ob k = k (hput H id ob)
 | [], 0, ob, k => rfl
 | [], n + 1, ob, k => by rw [hputK, hputK_eq]; rfl
 | x :: xs, 0, ob, k => rfl
 | x :: xs, n + 1, ob, k => by rw [hputK, hputK_eq]; rfl
def stpH (H : HL) (W : Upd) (k : HL → Prop) : Prop :=
 @List.rec (Nat × Option SB) (fun _ => (HL → Prop) → Prop) (fun k => k H) (fun x _ ih k => ih fun H' => hputK H' x.1 x.2 k) W k
theorem stpH_eq (H : HL) : ∀ (W : Upd) (k : HL → Prop), stpH H W k = k (hupF H W)
 | [], k => rfl
 | (id, ob) :: W, k => by
  show stpH H W (fun H' => hputK H' id ob k) = _
  rw [stpH_eq H W, hputK_eq]; rfl
def frc (n : Nat) (k : Nat → Prop) : Prop := @Nat.rec (fun _ => Prop) (k 0) (fun m _ => k (Nat.succ m)) n
theorem frc_eq (n : Nat) (k : Nat → Prop) : frc n k = k n := by cases n <;> rfl
def rstep (T : TT) (P : Program) (ops : Array Oper) (o : Oper) (ih : RL → HL → Nat → List Lg → (RL → HL → Nat → List Lg → Prop) → Prop) (R : RL) (H : HL) (L : Nat) (lg : List Lg) (Q : RL → HL → Nat → List Lg → Prop) : Prop :=
 match o.guard with
 | none => sop T P o R H L fun out W F L' => stp R o.dst out fun R' => stpH H W fun H' => frc L' fun L' => ih R' H' L' (⟨o.dst, gslot ops o ++ readsOf o, F, W.map (·.1)⟩ :: lg) Q
 | some (j, want) => match ops.toList[j]? with
  | some oj => match oj.dst with
   | some d => match lk d R with
    | some (.b t) => (t = want → sop T P o R H L fun out W F L' => stp R o.dst out fun R' => stpH H W fun H' => frc L' fun L' => ih R' H' L' (⟨o.dst, gslot ops o ++ readsOf o, F, W.map (·.1)⟩ :: lg) Q) ∧
      (t = !want → stp R o.dst (some (.tup [])) fun R' => ih R' H L (⟨o.dst, gslot ops o, [], []⟩ :: lg) Q)
    | some (.tup []) => stp R o.dst (some (.tup [])) fun R' => ih R' H L (⟨o.dst, gslot ops o, [], []⟩ :: lg) Q
    | _ => False
   | none => False
  | none => False
def rops (T : TT) (P : Program) (ops : Array Oper) (os : List Oper) : RL → HL → Nat → List Lg → (RL → HL → Nat → List Lg → Prop) → Prop :=
 @List.rec Oper (fun _ => RL → HL → Nat → List Lg → (RL → HL → Nat → List Lg → Prop) → Prop) (fun R H L lg Q => Q R H L lg) (fun o _ ih => rstep T P ops o ih) os
theorem rops_cons {T : TT} {P : Program} {ops : Array Oper} {o : Oper} {os : List Oper} {R : RL} {H : HL} {L : Nat} {lg : List Lg} {Q : RL → HL → Nat → List Lg → Prop} :
  rops T P ops (o :: os) R H L lg Q = rstep T P ops o (rops T P ops os) R H L lg Q := rfl
theorem appL_wr {o : Oper} {R : RL} {lg : Lg} {out : Option SV} {W : Upd} (h : lg.dst = o.dst) : appL (rg R) (wr ⟨lg, out, W⟩) = rg (rput R o.dst out) := by
 cases hd : o.dst with
 | none => simp only [wr, h, hd, rput]; funext t; simp [appL]
 | some d => simp only [wr, h, hd, rg_rput]
theorem rops_ok {T : TT} {P : Program} {ops : Array Oper} (hT : TOk P T) : ∀ {os : List Oper} {R : RL} {H : HL} {L : Nat} {lg : List Lg} {Q : RL → HL → Nat → List Lg → Prop}, rops T P ops os R H L lg Q → H.length ≤ L →
  ∃ es R' H' L', RunT P ops os (rg R) (hg H) L es (rg R') (hg H') L' ∧ H'.length ≤ L' ∧ Q R' H' L' ((es.map (·.lg)).reverse ++ lg)
 | [], R, H, L, lg, Q, h, hl => ⟨[], R, H, L, ⟨rfl, rfl, rfl, rfl⟩, hl, h⟩
 | o :: os, R, H, L, lg, Q, h, hl => by
  have go : gpass ops o (rg R) = some true → (sop T P o R H L fun out W F L' => stp R o.dst out fun R' => stpH H W fun H' => frc L' fun L' => rops T P ops os R' H' L' (⟨o.dst, gslot ops o ++ readsOf o, F, W.map (·.1)⟩ :: lg) Q) →
    ∃ es R' H' L', RunT P ops (o :: os) (rg R) (hg H) L es (rg R') (hg H') L' ∧ H'.length ≤ L' ∧ Q R' H' L' ((es.map (·.lg)).reverse ++ lg) := by
   intro hg1 h
   obtain ⟨out, W, F, L', hlt, hL, hW, hk⟩ := sop_ok hT hl h
   rw [stp_eq, stpH_eq, hupF_eq, frc_eq] at hk
   obtain ⟨es, R', H', L'', hr, hl', hq⟩ := rops_ok hT hk (hupd_le (by omega) (fun id ob hm => (hW id ob hm).1))
   refine ⟨⟨⟨o.dst, gslot ops o ++ readsOf o, F, W.map (·.1)⟩, out, W⟩ :: es, R', H', L'', ?_, hl', by simpa using hq⟩
   refine ⟨_, es, L', rfl, ⟨rfl, rfl, .inl ⟨hg1, rfl, hlt⟩⟩, hL, hW, ?_⟩
   rw [appL_wr rfl, ← updW_app, ← hg_hupd]
   exact hr
  have skip : gpass ops o (rg R) = some false → (stp R o.dst (some (.tup [])) fun R' => rops T P ops os R' H L (⟨o.dst, gslot ops o, [], []⟩ :: lg) Q) →
    ∃ es R' H' L', RunT P ops (o :: os) (rg R) (hg H) L es (rg R') (hg H') L' ∧ H'.length ≤ L' ∧ Q R' H' L' ((es.map (·.lg)).reverse ++ lg) := by
   intro hg1 h3
   rw [stp_eq] at h3
   obtain ⟨es, R', H', L'', hr, hl', hq⟩ := rops_ok hT h3 hl
   refine ⟨⟨⟨o.dst, gslot ops o, [], []⟩, some (.tup []), []⟩ :: es, R', H', L'', ?_, hl', by simpa using hq⟩
   refine ⟨_, es, L, rfl, ⟨rfl, rfl, .inr ⟨hg1, rfl, rfl, rfl, rfl⟩⟩, Nat.le_refl _, (fun id ob hm => by simp at hm), ?_⟩
   rw [appL_wr rfl]
   have : appL (hg H) ([] : Upd) = hg H := by funext i; simp [appL]
   rw [this]
   exact hr
  rw [rops_cons] at h
  simp only [rstep] at h
  split at h
  ·
   rename_i hgd
   exact go (by simp only [gpass, hgd]) h
  ·
   rename_i j want hgd
   split at h
   ·
    rename_i oj hj
    split at h
    ·
     rename_i d hd
     split at h
     ·
      rename_i t ht
      have hp : gpass ops o (rg R) = some (t == want) := by
       have h1 : ops[j]? = some oj := by simpa using hj
       have h2 : rg R d = some (.b t) := by rw [rg, ← lk_eq]; exact ht
       simp only [gpass, hgd, h1, Option.bind_some, hd, h2]
      by_cases htw : t = want
      ·
       exact go (by rw [hp, htw]; simp) (h.1 htw)
      ·
       have h2 : t = !want := by cases t <;> cases want <;> simp_all
       exact skip (by rw [hp]; simpa using htw) (h.2 h2)
     ·
      rename_i ht
      have hp : gpass ops o (rg R) = some false := by
       have h1 : ops[j]? = some oj := by simpa using hj
       have h2 : rg R d = some (.tup []) := by rw [rg, ← lk_eq]; exact ht
       simp only [gpass, hgd, h1, Option.bind_some, hd, h2]
      exact skip hp h
     ·
      exact h.elim
    ·
     exact h.elim
   ·
    exact h.elim
structure SWp (P : Program) (M : Option Nat → Prop) (N A : Nat) (c : Code) (Q : Exit → RL → HL → Nat → Prop) (R : RL) (H : HL) (L : Nat) : Prop where
 run : ∀ r n B ρ a w, M r → Sim N B L ρ (rg R) (hg H) a w → H.length ≤ L →
  c.wpIn (Fw r) n P (fun e a' w' => ∃ R' H' L' ρ', Q e R' H' L' ∧ H'.length ≤ L' ∧ Sim N B L' ρ' (rg R') (hg H') a' w' ∧ EvA A ρ (hg H) w ρ' (hg H') w') a w
def dstOk (N : Nat) (ops : Array Oper) : Bool := ops.toList.all fun o => match o.dst with | some d => decide (d < N) | none => true
def codeOk (N : Nat) : Code → Bool
 | .region _ ops draw => dstOk N ops && (!draw || edgesDown ops)
 | .seq a b => codeOk N a && codeOk N b
 | .cond _ a b => codeOk N a && codeOk N b
 | .block _ a => codeOk N a
 | .loop a => codeOk N a
 | _ => true
def sw (T : TT) (P : Program) (M : Option Nat → Prop) (N A : Nat) (c : Code) : (Exit → RL → HL → Nat → Prop) → RL → HL → Nat → Prop :=
 @Code.rec (fun _ => (Exit → RL → HL → Nat → Prop) → RL → HL → Nat → Prop)
  (fun Q => Q .normal)
  (fun _ ops draw Q R H L => rops T P ops ops.toList R H L [] fun R H L lg => match draw with
   | true => chk ops lg.reverse = true ∧ Q .normal R H L
   | false => Q .normal R H L)
  (fun _ _ iha ihb Q => iha fun e => match e with | .normal => ihb Q | e => Q e)
  (fun c _ _ ihx ihy Q R H L => match ev R c with
   | some (.b t) => (t = true → ihx Q R H L) ∧ (t = false → ihy Q R H L)
   | _ => False)
  (fun id _ ih Q => ih fun e => match e with
   | .exit i => match Nat.beq i id with | true => Q .normal | false => Q (.exit i)
   | e => Q e)
  (fun c _ Q => SWp P M N A (.loop c) Q)
  (fun f ps x y _ _ Q => SWp P M N A (.rangeFunc f ps x y) Q)
  (fun id Q => Q (.exit id))
  (fun c _ Q => SWp P M N A (.scope c) Q)
  (fun l Q => SWp P M N A (.label l) Q)
  (fun l Q => SWp P M N A (.goto l) Q)
  (fun Q => Q .ret)
  (fun s Q => SWp P M N A (.refuse s) Q) c
theorem SWp.seq {P : Program} {M : Option Nat → Prop} {N A : Nat} {x y : Code} {Q Q2 : Exit → RL → HL → Nat → Prop} {R : RL} {H : HL} {L : Nat} (hx : SWp P M N A x Q2 R H L)
  (hn : ∀ R H L, Q2 .normal R H L → SWp P M N A y Q R H L) (ho : ∀ e R H L, e ≠ .normal → Q2 e R H L → Q e R H L) : SWp P M N A (.seq x y) Q R H L := by
 refine ⟨fun r n B ρ a w hM hs hl => ?_⟩
 refine wpIn_seq (wpIn_mono (hx.run r n B ρ a w hM hs hl) ?_)
 rintro e a1 w1 ⟨R1, H1, L1, ρ1, hq, hl1, hs1, he1⟩
 have other : e ≠ .normal → ∃ R' H' L' ρ', Q e R' H' L' ∧ H'.length ≤ L' ∧ Sim N B L' ρ' (rg R') (hg H') a1 w1 ∧ EvA A ρ (hg H) w ρ' (hg H') w1 := fun hne => ⟨R1, H1, L1, ρ1, ho _ _ _ _ hne hq, hl1, hs1, he1⟩
 cases e with
 | normal =>
  refine wpIn_mono ((hn _ _ _ hq).run r n B ρ1 a1 w1 hM hs1 hl1) ?_
  rintro e a2 w2 ⟨R2, H2, L2, ρ2, hq2, hl2, hs2, he2⟩
  exact ⟨R2, H2, L2, ρ2, hq2, hl2, hs2, he1.trans he2⟩
 | _ => exact other (by simp)
theorem SWp.weak {P : Program} {M : Option Nat → Prop} {N A : Nat} {c : Code} {Q : Exit → RL → HL → Nat → Prop} {R R0 : RL} {H H0 : HL} {L L0 : Nat} (h : Weak A R H L R0 H0 L0) (hc : SWp P M N A c Q R0 H0 L0) : SWp P M N A c Q R H L := by
 refine ⟨fun r n B ρ a w hM hs hl => ?_⟩
 obtain ⟨ρ0, s0, l0, e0⟩ := h N B ρ a w hs hl
 refine wpIn_mono (hc.run r n B ρ0 a w hM s0 l0) ?_
 rintro e a2 w2 ⟨R2, H2, L2, ρ2, hq2, hl2, hs2, he2⟩
 exact ⟨R2, H2, L2, ρ2, hq2, hl2, hs2, e0.trans he2⟩
theorem SWp.mono {P : Program} {M : Option Nat → Prop} {N A : Nat} {c : Code} {Q Q2 : Exit → RL → HL → Nat → Prop} {R : RL} {H : HL} {L : Nat} (h : SWp P M N A c Q R H L) (hq : ∀ e R H L, Q e R H L → Q2 e R H L) : SWp P M N A c Q2 R H L := by
 refine ⟨fun r n B ρ a w hM hs hl => ?_⟩
 refine wpIn_mono (h.run r n B ρ a w hM hs hl) ?_
 rintro e a2 w2 ⟨R2, H2, L2, ρ2, hq2, rest⟩
 exact ⟨R2, H2, L2, ρ2, hq _ _ _ _ hq2, rest⟩
theorem sw_ok {T : TT} {P : Program} {M : Option Nat → Prop} {N A : Nat} (hT : TOk P T) (hm : P.follows .mixedOrders = true) : ∀ {c : Code} {Q : Exit → RL → HL → Nat → Prop} {R : RL} {H : HL} {L : Nat}, codeOk N c = true →
  sw T P M N A c Q R H L → SWp P M N A c Q R H L
 | .skip, Q, R, H, L, _, h => ⟨fun r n B ρ a w hM hs hl => wpIn_skip ⟨R, H, L, ρ, h, hl, hs, EvA.refl _ _ _ _⟩⟩
 | .exit id, Q, R, H, L, _, h => ⟨fun r n B ρ a w hM hs hl => wpIn_exit ⟨R, H, L, ρ, h, hl, hs, EvA.refl _ _ _ _⟩⟩
 | .ret, Q, R, H, L, _, h => ⟨fun r n B ρ a w hM hs hl => wpIn_ret ⟨R, H, L, ρ, h, hl, hs, EvA.refl _ _ _ _⟩⟩
 | .region id ops draw, Q, R, H, L, hc, h => by
  refine ⟨fun r n B ρ a w hM hs hl => ?_⟩
  simp only [codeOk, Bool.and_eq_true, Bool.or_eq_true, Bool.not_eq_true'] at hc
  obtain ⟨hd, hdr⟩ := hc
  have hN : ∀ (i : Nat) (o : Oper) (d : Nat), ops[i]? = some o → o.dst = some d → d < N := by
   intro i o d ho hdst
   simp only [dstOk, List.all_eq_true] at hd
   have := hd o (by simpa using Array.mem_of_getElem? ho)
   simpa [hdst] using this
  have h : rops T P ops ops.toList R H L [] (fun R H L lg => match (generalizing := false) draw with
   | true => chk ops lg.reverse = true ∧ Q .normal R H L
   | false => Q .normal R H L) := h
  obtain ⟨es, R', H', L', hr, hl', hq⟩ := rops_ok hT h hl
  simp only [List.append_nil, List.reverse_reverse] at hq
  cases draw with
  | true =>
   obtain ⟨hchk, hq⟩ := hq
   refine region_any hm hN hr hchk (by simpa using hdr) hs ?_
   intro a' w' ρ' hs' hev
   exact ⟨R', H', L', ρ', hq, hl', hs', hev.toA⟩
  | false =>
   refine wpIn_region ?_
   have := region_text (r := r) (n := n) (Q := fun e a' w' => ∃ R' H' L' ρ', Q e R' H' L' ∧ H'.length ≤ L' ∧ Sim N B L' ρ' (rg R') (hg H') a' w' ∧ EvA A ρ (hg H) w ρ' (hg H') w') hN ops.toList 0 (rg R) (hg H) L es ρ a w (by simp) hr hs
    (fun a' w' ρ' hs' hev => ⟨R', H', L', ρ', hq, hl', hs', hev.toA⟩)
   rw [List.range_eq_range']
   simpa using this
 | .seq x y, Q, R, H, L, hc, h => by
  simp only [codeOk, Bool.and_eq_true] at hc
  have h : sw T P M N A x (fun e => match e with | .normal => sw T P M N A y Q | e => Q e) R H L := h
  exact (sw_ok hT hm hc.1 h).seq (fun R H L h => sw_ok hT hm hc.2 h) (fun e R H L hne h => by cases e <;> first | exact absurd rfl hne | exact h)
 | .cond c x y, Q, R, H, L, hc, h => by
  simp only [codeOk, Bool.and_eq_true] at hc
  have h : (match ev R c with
   | some (.b t) => (t = true → sw T P M N A x Q R H L) ∧ (t = false → sw T P M N A y Q R H L)
   | _ => False) := h
  split at h
  ·
   rename_i t ht
   refine ⟨fun r n B ρ a w hM hs hl => ?_⟩
   have hcv : a.eval c = .bool t := by
    cases c with
    | tmp k =>
     have h1 := hs.regs k (.b t) (by rw [rg, ← lk_eq]; exact ht)
     simp only [Rel] at h1
     exact h1
    | const v =>
     have h1 := (ofVal_rel (ρ := ρ) ht).1
     simp only [Rel] at h1
     exact h1
    | func f => cases ht
    | global g => cases ht
   refine wpIn_cond_split hcv (fun ht => (sw_ok hT hm hc.1 (h.1 ht)).run r n B ρ a w hM hs hl) (fun ht => (sw_ok hT hm hc.2 (h.2 ht)).run r n B ρ a w hM hs hl)
  ·
   exact h.elim
 | .block id c, Q, R, H, L, hc, h => by
  refine ⟨fun r n B ρ a w hM hs hl => ?_⟩
  have h : sw T P M N A c (fun e => match e with
   | .exit i => match Nat.beq i id with | true => Q .normal | false => Q (.exit i)
   | e => Q e) R H L := h
  simp only [codeOk] at hc
  refine wpIn_block (wpIn_mono ((sw_ok hT hm hc h).run r n B ρ a w hM hs hl) ?_)
  rintro e a2 w2 ⟨R2, H2, L2, ρ2, hq2, rest⟩
  cases e with
  | exit i =>
   simp only [Exit.inBlock]
   cases hb : Nat.beq i id with
   | true => simp only [hb] at hq2; rw [if_pos (beqE hb)]; exact ⟨R2, H2, L2, ρ2, hq2, rest⟩
   | false => simp only [hb] at hq2; rw [if_neg (fun e => by subst e; simp at hb)]; exact ⟨R2, H2, L2, ρ2, hq2, rest⟩
  | _ => exact ⟨R2, H2, L2, ρ2, hq2, rest⟩
 | .loop c, Q, R, H, L, _, h => h
 | .rangeFunc f ps x y, Q, R, H, L, _, h => h
 | .scope c, Q, R, H, L, _, h => h
 | .label l, Q, R, H, L, _, h => h
 | .goto l, Q, R, H, L, _, h => h
 | .refuse s, Q, R, H, L, _, h => h
open Classical in
noncomputable def leastK (p : Nat → Prop) : Nat := if h : ∃ k, p k ∧ ∀ j, p j → k ≤ j then Classical.choose h else 0
theorem leastK_spec {p : Nat → Prop} {k : Nat} (h : p k) : p (leastK p) ∧ leastK p ≤ k := by
 have hex : ∃ k, p k ∧ ∀ j, p j → k ≤ j := by
  induction k using Nat.strongRecOn with
  | _ k ih =>
   by_cases hs : ∃ j, j < k ∧ p j
   ·
    obtain ⟨j, hj, hp⟩ := hs
    exact ih j hj hp
   ·
    exact ⟨k, h, fun j hj => Nat.le_of_not_lt fun hlt => hs ⟨j, hlt, hj⟩⟩
 have e : leastK p = Classical.choose hex := by unfold leastK; rw [dif_pos hex]
 have := Classical.choose_spec hex
 rw [← e] at this
 exact ⟨this.1, this.2 _ h⟩
theorem loop_rule {T : TT} {P : Program} {M : Option Nat → Prop} {N A : Nat} {c : Code} {Q : Exit → RL → HL → Nat → Prop} {R : RL} {H : HL} {L : Nat} (hT : TOk P T) (hm : P.follows .mixedOrders = true) (hc : codeOk N c = true)
  {ι : Type} (IR : ι → RL) (IH : ι → HL) (IL : ι → Nat) (μ : ι → Nat) (i0 : ι) (h0 : Weak A R H L (IR i0) (IH i0) (IL i0))
  (round : ∀ i, sw T P M N A c (fun e R H L => match e with | .normal => ∃ j, μ j < μ i ∧ Weak A R H L (IR j) (IH j) (IL j) | e => Q e R H L) (IR i) (IH i) (IL i)) : SWp P M N A (.loop c) Q R H L := by
 refine SWp.weak h0 ?_
 refine ⟨fun r n B ρ a w hM hs hl => ?_⟩
 let J := fun (a' : Act) (w' : World) (k : Nat) => ∃ i ρ', μ i = k ∧ (IH i).length ≤ IL i ∧ Sim N B (IL i) ρ' (rg (IR i)) (hg (IH i)) a' w' ∧ EvA A ρ (hg (IH i0)) w ρ' (hg (IH i)) w'
 refine wpIn_loop (fun a' w' => ∃ k, J a' w' k) (fun a' w' => leastK (J a' w')) ⟨μ i0, i0, ρ, rfl, hl, hs, EvA.refl _ _ _ _⟩ ?_
 rintro a1 w1 ⟨k, hk⟩
 obtain ⟨⟨i, ρ1, hi, hl1, hs1, he1⟩, _⟩ := leastK_spec hk
 refine wpIn_mono ((sw_ok hT hm hc (round i)).run r n B ρ1 a1 w1 hM hs1 hl1) ?_
 rintro e a2 w2 ⟨R2, H2, L2, ρ2, hq, hl2, hs2, he2⟩
 cases e with
 | normal =>
  obtain ⟨j, hj, hw⟩ := hq
  obtain ⟨ρ3, hs3, hl3, he3⟩ := hw N B ρ2 a2 w2 hs2 hl2
  have hJ : J a2 w2 (μ j) := ⟨j, ρ3, rfl, hl3, hs3, (he1.trans he2).trans he3⟩
  have := (leastK_spec hJ).2
  exact ⟨⟨μ j, hJ⟩, by omega⟩
 | _ => exact ⟨R2, H2, L2, ρ2, hq, hl2, hs2, he1.trans he2⟩
def swN (T : TT) (P : Program) (M : Option Nat → Prop) (N A : Nat) (c : Code) (Q : Exit → RL → HL → Nat → Prop) (m : Nat) : RL → HL → Nat → Prop :=
 @Nat.rec (fun _ => RL → HL → Nat → Prop) (fun _ _ _ => False) (fun _ ih => sw T P M N A c fun e => match e with | .normal => ih | e => Q e) m
theorem loop_rounds {T : TT} {P : Program} {M : Option Nat → Prop} {N A : Nat} {c : Code} {Q : Exit → RL → HL → Nat → Prop} {R : RL} {H : HL} {L : Nat} (hT : TOk P T) (hm : P.follows .mixedOrders = true) (hc : codeOk N c = true)
  (m : Nat) (h : swN T P M N A c Q m R H L) : SWp P M N A (.loop c) Q R H L := by
 refine ⟨fun r n B ρ a w hM hs hl => ?_⟩
 have key : ∀ m R2 H2 L2 ρ2 a2 w2, swN T P M N A c Q m R2 H2 L2 → Sim N B L2 ρ2 (rg R2) (hg H2) a2 w2 → H2.length ≤ L2 → EvA A ρ (hg H) w ρ2 (hg H2) w2 →
   Code.roundsIn (Fw r) n P c (fun e a' w' => ∃ R' H' L' ρ', Q e R' H' L' ∧ H'.length ≤ L' ∧ Sim N B L' ρ' (rg R') (hg H') a' w' ∧ EvA A ρ (hg H) w ρ' (hg H') w') m a2 w2 := by
  intro m
  induction m with
  | zero => intro R2 H2 L2 ρ2 a2 w2 h; exact h.elim
  | succ m ih =>
   intro R2 H2 L2 ρ2 a2 w2 h hs2 hl2 he2
   rw [roundsIn_succ]
   refine wpIn_mono ((sw_ok hT hm hc h).run r n B ρ2 a2 w2 hM hs2 hl2) ?_
   rintro e a3 w3 ⟨R3, H3, L3, ρ3, hq3, hl3, hs3, he3⟩
   cases e with
   | normal => exact ih R3 H3 L3 ρ3 a3 w3 hq3 hs3 hl3 (he2.trans he3)
   | _ => exact ⟨R3, H3, L3, ρ3, hq3, hl3, hs3, he2.trans he3⟩
 exact wpIn_loop_rounds m (key m R H L ρ a w h hs hl (EvA.refl _ _ _ _))
theorem brT {t : Bool} {A B : Prop} (ht : t = true) (a : A) : (t = true → A) ∧ (t = false → B) := ⟨fun _ => a, fun h => absurd (ht.symm.trans h) (by simp)⟩
theorem brF {t : Bool} {A B : Prop} (ht : t = false) (b : B) : (t = true → A) ∧ (t = false → B) := ⟨fun h => absurd (h.symm.trans ht) (by simp), fun _ => b⟩
theorem pkT {t : Bool} {x y : Option SV} {K : SV → Prop} (ht : t = true) (h : match x with | some z => K z | none => False) : ∃ z, (if t then x else y) = some z ∧ K z := by
 subst ht
 cases x with
 | none => exact h.elim
 | some z => exact ⟨z, rfl, h⟩
theorem pkF {t : Bool} {x y : Option SV} {K : SV → Prop} (ht : t = false) (h : match y with | some z => K z | none => False) : ∃ z, (if t then x else y) = some z ∧ K z := by
 subst ht
 cases y with
 | none => exact h.elim
 | some z => exact ⟨z, rfl, h⟩
theorem gdT {t want : Bool} {A B : Prop} (ht : t = want) (a : A) : (t = want → A) ∧ (t = !want → B) := ⟨fun _ => a, fun h => absurd (ht.symm.trans h) (by cases want <;> simp)⟩
theorem gdF {t want : Bool} {A B : Prop} (ht : t = !want) (b : B) : (t = want → A) ∧ (t = !want → B) := ⟨fun h => absurd (h.symm.trans ht) (by cases want <;> simp), fun _ => b⟩
end Go.Sh
namespace Go.Sh
structure FnOk (P : Program) (f : Nat) : Prop where
 ex : ∃ fn, P.funcs[f]? = some fn ∧ fn.body.isNone = false ∧ (fn.name == "runtime.NumGoroutine") = false
def CallR (ρ : Ren) (H0 : HL) (w : World) (ret : SV) (H1 : HL) : Ending → World → Prop
 | .returned v, w' => ∃ ρ', Rel ρ' ret v ∧ HRel ρ' (hg H1) w' ∧ Sep ρ' (hg H1) ∧ (∀ id, H1.length ≤ id → ρ' id = none) ∧ EvA H0.length ρ (hg H0) w ρ' (hg H1) w'
 | _, _ => False
structure SCall (P : Program) (f : Nat) (args : List SV) (H0 : HL) (ret : SV) (H1 : HL) : Prop where
 fn : FnOk P f
 call : ∀ n ρ w vs, Rels ρ args vs → HRel ρ (hg H0) w → Sep ρ (hg H0) → (∀ id, H0.length ≤ id → ρ id = none) → CallsIn Fence.wide n P f ⟨vs⟩ w (CallR ρ H0 w ret H1)
section
variable {P : Program} {ρ : Ren} {w : World}
theorem run_callFunc {f : Nat} (hf : FnOk P f) (args : Array Value) : (callFunc f args).run P w = .ok (.enter f args) w := by
 obtain ⟨fn, h1, h2, h3⟩ := hf.ex
 unfold callFunc
 simp only [Sem.run_bind]
 have hp : (program).run P w = .ok P w := by simp
 rw [hp]
 simp only [Result.andThen, h1, h3, h2]
 simp
theorem run_call {o : Oper} {e : Operand → Value} {x : Operand} {args : Array Operand} {tys : Array TypeId} {f : Nat} {caps : Array Value} (ho : o.op = .call ⟨.value x, args, tys⟩) (hx : e x = .func (.func f) #[] caps) (hf : FnOk P f) :
  (execOp e o).run P w = .ok (.enter f (args.map e ++ caps)) w := by
 unfold execOp
 simp only [ho, resolve, hx, Deferred.ofValue, Sem.run_bind, Sem.run_pure, Result.andThen, invoke, run_callFunc hf]
 simp
end
def cW (sel : List Nat) : List Nat → HL → HL → Option Upd
 | s :: ss, some b0 :: H0, ob :: H1 => match cW sel ss H0 H1 with
  | some W => match b0.own with
   | false => some W
   | true => match ob with
    | none => some ((s, none) :: W)
    | some b => match b.own with
     | true => match renB sel b with | some b' => some ((s, some b') :: W) | none => none
     | false => none
  | none => none
 | s :: ss, [], ob :: H1 => match cW sel ss [] H1 with
  | some W => match ob with
   | none => some ((s, none) :: W)
   | some b => match b.own with
    | true => match renB sel b with | some b' => some ((s, some b') :: W) | none => none
    | false => none
  | none => none
 | [], [], [] => some []
 | _, _, _ => none
def EntOk (sel : List Nat) (H0 H1 : HL) (j : Nat) (ob : Option SB) : Prop :=
 (H0.length ≤ j ∨ ∃ b0, hg H0 j = some b0 ∧ b0.own = true) ∧ j < H1.length ∧ match ob with
  | none => hg H1 j = none
  | some b' => ∃ b, hg H1 j = some b ∧ b.own = true ∧ renB sel b = some b'
theorem EntOk.succ {sel : List Nat} {H0 H1 : HL} {j : Nat} {ob x y : Option SB} (h : EntOk sel H0 H1 j ob) : EntOk sel (x :: H0) (y :: H1) (j + 1) ob := by
 obtain ⟨h1, h2, h3⟩ := h
 refine ⟨h1.imp (fun h => by simpa using h) (fun h => by simpa [hg] using h), by simpa using h2, ?_⟩
 cases ob <;> simpa [hg] using h3
theorem EntOk.succ0 {sel : List Nat} {H1 : HL} {j : Nat} {ob y : Option SB} (h : EntOk sel [] H1 j ob) : EntOk sel [] (y :: H1) (j + 1) ob := by
 obtain ⟨h1, h2, h3⟩ := h
 refine ⟨.inl (by simp), by simpa using h2, ?_⟩
 cases ob <;> simpa [hg] using h3
theorem cW_spec {sel : List Nat} : ∀ {ss : List Nat} {H0 H1 : HL} {W : Upd}, cW sel ss H0 H1 = some W →
  ss.length = H1.length ∧ H0.length ≤ H1.length ∧ (∀ id ob, (id, ob) ∈ W → ∃ j, ss[j]? = some id ∧ EntOk sel H0 H1 j ob) ∧
  (∀ j s, ss[j]? = some s → (H0.length ≤ j ∨ ∃ b0, hg H0 j = some b0 ∧ b0.own = true) → ∃ ob, (s, ob) ∈ W) ∧ ∀ j, j < H0.length → ∃ b0, hg H0 j = some b0
 | s :: ss, some b0 :: H0, ob :: H1, W, h => by
  simp only [cW] at h
  split at h
  ·
   rename_i W' hW'
   obtain ⟨e1, e2, e3, e4, e5⟩ := cW_spec hW'
   have c5 : ∀ j, j < (some b0 :: H0).length → ∃ b1, hg (some b0 :: H0) j = some b1 := by
    intro j hj
    cases j with
    | zero => exact ⟨b0, rfl⟩
    | succ j => obtain ⟨b1, hb1⟩ := e5 j (by simpa using hj); exact ⟨b1, by simpa [hg] using hb1⟩
   have back : ∀ id ob', (id, ob') ∈ W' → ∃ j, (s :: ss)[j]? = some id ∧ EntOk sel (some b0 :: H0) (ob :: H1) j ob' := by
    intro id ob' hm
    obtain ⟨j, h1, h2⟩ := e3 id ob' hm
    exact ⟨j + 1, by simpa using h1, h2.succ⟩
   have fwd : ∀ j s', (s :: ss)[j + 1]? = some s' → ((some b0 :: H0).length ≤ j + 1 ∨ ∃ b1, hg (some b0 :: H0) (j + 1) = some b1 ∧ b1.own = true) → ∃ ob, (s', ob) ∈ W' := by
    intro j s' h1 h2
    exact e4 j s' (by simpa using h1) (h2.imp (fun h => by simpa using h) (fun h => by simpa [hg] using h))
   split at h
   ·
    rename_i hown
    cases h
    refine ⟨by simp [e1], by simpa using e2, back, fun j s' h1 h2 => ?_, c5⟩
    cases j with
    | zero =>
     rcases h2 with h2 | ⟨b1, h2, h3⟩
     ·
      simp at h2
     ·
      have : b0 = b1 := by simpa [hg] using h2
      subst this; rw [hown] at h3; cases h3
    | succ j => exact fwd j s' h1 h2
   ·
    rename_i hown
    have fin : ∀ ob', EntOk sel (some b0 :: H0) (ob :: H1) 0 ob' → W = (s, ob') :: W' → (s :: ss).length = (ob :: H1).length ∧ (some b0 :: H0).length ≤ (ob :: H1).length ∧ (∀ id ob1, (id, ob1) ∈ W → ∃ j, (s :: ss)[j]? = some id ∧ EntOk sel (some b0 :: H0) (ob :: H1) j ob1) ∧
      (∀ j s', (s :: ss)[j]? = some s' → ((some b0 :: H0).length ≤ j ∨ ∃ b1, hg (some b0 :: H0) j = some b1 ∧ b1.own = true) → ∃ ob, (s', ob) ∈ W) ∧ ∀ j, j < (some b0 :: H0).length → ∃ b1, hg (some b0 :: H0) j = some b1 := by
     intro ob' hok e
     subst e
     refine ⟨by simp [e1], by simpa using e2, fun id ob1 hm => ?_, fun j s' h1 h2 => ?_, c5⟩
     ·
      rcases List.mem_cons.1 hm with hm | hm
      ·
       cases hm; exact ⟨0, rfl, hok⟩
      ·
       exact back id ob1 hm
     ·
      cases j with
      | zero => simp at h1; subst h1; exact ⟨ob', List.mem_cons_self ..⟩
      | succ j => obtain ⟨ob2, h3⟩ := fwd j s' h1 h2; exact ⟨ob2, List.mem_cons_of_mem _ h3⟩
    split at h
    ·
     cases h
     exact fin none ⟨.inr ⟨b0, rfl, hown⟩, by simp, rfl⟩ rfl
    ·
     rename_i b
     split at h
     ·
      rename_i hbo
      split at h
      ·
       rename_i b' hb'
       cases h
       exact fin (some b') ⟨.inr ⟨b0, rfl, hown⟩, by simp, b, rfl, hbo, hb'⟩ rfl
      ·
       cases h
     ·
      cases h
  ·
   cases h
 | s :: ss, [], ob :: H1, W, h => by
  simp only [cW] at h
  split at h
  ·
   rename_i W' hW'
   obtain ⟨e1, e2, e3, e4, e5⟩ := cW_spec hW'
   have fin : ∀ ob', EntOk sel [] (ob :: H1) 0 ob' → W = (s, ob') :: W' → (s :: ss).length = (ob :: H1).length ∧ ([] : HL).length ≤ (ob :: H1).length ∧ (∀ id ob1, (id, ob1) ∈ W → ∃ j, (s :: ss)[j]? = some id ∧ EntOk sel [] (ob :: H1) j ob1) ∧
     (∀ j s', (s :: ss)[j]? = some s' → (([] : HL).length ≤ j ∨ ∃ b1, hg [] j = some b1 ∧ b1.own = true) → ∃ ob, (s', ob) ∈ W) ∧ ∀ j, j < ([] : HL).length → ∃ b1, hg [] j = some b1 := by
    intro ob' hok e
    subst e
    refine ⟨by simp [e1], by simp, fun id ob1 hm => ?_, fun j s' h1 h2 => ?_, fun j hj => by simp at hj⟩
    ·
     rcases List.mem_cons.1 hm with hm | hm
     ·
      cases hm; exact ⟨0, rfl, hok⟩
     ·
      obtain ⟨j, h1, h2⟩ := e3 id ob1 hm; exact ⟨j + 1, by simpa using h1, h2.succ0⟩
    ·
     cases j with
     | zero => simp at h1; subst h1; exact ⟨ob', List.mem_cons_self ..⟩
     | succ j => obtain ⟨ob2, h3⟩ := e4 j s' (by simpa using h1) (.inl (by simp)); exact ⟨ob2, List.mem_cons_of_mem _ h3⟩
   split at h
   ·
    cases h
    exact fin none ⟨.inl (by simp), by simp, rfl⟩ rfl
   ·
    rename_i b
    split at h
    ·
     rename_i hbo
     split at h
     ·
      rename_i b' hb'
      cases h
      exact fin (some b') ⟨.inl (by simp), by simp, b, rfl, hbo, hb'⟩ rfl
     ·
      cases h
    ·
     cases h
  ·
   cases h
 | [], [], [], W, h => by
  simp only [cW, Option.some.injEq] at h; subst h
  exact ⟨rfl, Nat.le_refl _, fun _ _ hm => by simp at hm, fun _ _ h => by simp at h, fun j hj => by simp at hj⟩
 | [], [], _ :: _, W, h => by simp [cW] at h
 | [], _ :: _, _, W, h => by simp [cW] at h
 | _ :: _, [], [], W, h => by simp [cW] at h
 | _ :: _, none :: _, _, W, h => by simp [cW] at h
 | _ :: _, some _ :: _, [], W, h => by simp [cW] at h
def newSel (L : Nat) : Nat → List Nat
 | 0 => []
 | n + 1 => L :: newSel (L + 1) n
theorem newSel_get : ∀ {n L j : Nat}, (newSel L n)[j]? = if j < n then some (L + j) else none
 | 0, L, j => by simp [newSel]
 | n + 1, L, j => by
  cases j with
  | zero => simp [newSel]
  | succ j =>
   simp only [newSel, List.getElem?_cons_succ, newSel_get]
   by_cases h : j < n
   ·
    rw [if_pos h, if_pos (by omega)]; congr 1; omega
   ·
    rw [if_neg h, if_neg (by omega)]
theorem lt_of_callR {P : Program} {o : Oper} {R : Env} {H : HL} {L : Nat} {sel : List Nat} {H0 H1 : HL} {ret z : SV} {W : Upd} (hl : H.length ≤ L)
  (hlen : sel.length = H0.length) (hok : okH sel H sel H0) (hd : dupOk sel 0 sel H0 = true) (hW : cW (sel ++ newSel L (H1.length - H0.length)) (sel ++ newSel L (H1.length - H0.length)) H0 H1 = some W)
  (hz : renV (sel ++ newSel L (H1.length - H0.length)) ret = some z)
  (hex : ∀ (r : Option Nat) (n : Nat) (a : Act) (w : World) (ρ : Ren) (next : Act → World → Prop) (Q : Exit → Act → World → Prop), (∀ t ∈ readsOf o, ∀ v, R t = some v → Rel ρ v (a.tmps.getD t undef)) →
   HRel (pullR sel ρ) (hg H0) w → Sep (pullR sel ρ) (hg H0) → (∀ id, H0.length ≤ id → pullR sel ρ id = none) →
   (∀ v w', CallR (pullR sel ρ) H0 w ret H1 (.returned v) w' → next (a.put o.dst v) w') → o.wpIn (Fw r) n P a w next Q) : LT P o R (hg H) sel W (some z) := by
 intro r n a w ρ next Q hR hF hS hfresh hk
 obtain ⟨w1, w2, w3, w4, w5⟩ := cW_spec hW
 have s1 : ∀ j, j < H0.length → (sel ++ newSel L (H1.length - H0.length))[j]? = sel[j]? := fun j hj => List.getElem?_append_left (by omega)
 have s2 : ∀ j, H0.length ≤ j → (sel ++ newSel L (H1.length - H0.length))[j]? = if j < H1.length then some (L + (j - H0.length)) else none := fun j hj => by
  rw [List.getElem?_append_right (by omega), newSel_get, hlen]
  by_cases h : j < H1.length
  ·
   rw [if_pos (by omega), if_pos h]
  ·
   rw [if_neg (by omega), if_neg h]
 have hin : ∀ j b0, hg H0 j = some b0 → ∃ s b rb, sel[j]? = some s ∧ hg H s = some b ∧ okB sel b0 b ∧ ρ s = some rb ∧ BRel ρ w rb b := by
  intro j b0 hj
  obtain ⟨s, b, e1, e2, e3⟩ := okH_get hok hj
  obtain ⟨rb, hr, hb⟩ := hF s (List.mem_of_getElem? e1) b e2
  exact ⟨s, b, rb, e1, e2, e3, hr, hb⟩
 have hL : ∀ s b, hg H s = some b → s < L := fun s b h => hk_lt hl (by rw [hk_eq]; exact h)
 let ρc := pullR sel ρ
 have hH0 : HRel ρc (hg H0) w := by
  intro j b0 hj
  obtain ⟨s, b, rb, e1, e2, e3, e4, e5⟩ := hin j b0 hj
  exact ⟨rb, by simp only [ρc, pullR, e1]; exact e4, (okB_brel e3 e5).1⟩
 have hsep0 : Sep ρc (hg H0) := by
  intro i j bi bj ri rj hne hi hj hri hrj hown k q ⟨hfi, hfj⟩
  obtain ⟨si, ci, rbi, e1, e2, e3, e4, e5⟩ := hin i bi hi
  obtain ⟨sj, cj, rbj, f1, f2, f3, f4, f5⟩ := hin j bj hj
  simp only [ρc, pullR, e1] at hri
  simp only [ρc, pullR, f1] at hrj
  rw [e4] at hri; cases hri
  rw [f4] at hrj; cases hrj
  obtain ⟨_, g2, g3⟩ := okB_brel e3 e5
  obtain ⟨_, g4, g5⟩ := okB_brel f3 f5
  by_cases hss : si = sj
  ·
   subst hss
   have := dupOk_spec hd e1 hi hown j f1
   omega
  ·
   exact hS si (List.mem_of_getElem? e1) sj (List.mem_of_getElem? f1) ci cj _ _ hss e2 f2 e4 f4 (g3 hown) k q ⟨g2 k q hfi, g4 k q hfj⟩
 have hfr0 : ∀ id, H0.length ≤ id → ρc id = none := fun id hid => by
  have : sel[id]? = none := List.getElem?_eq_none (by omega)
  simp only [ρc, pullR, this]
 refine hex r n a w ρ next Q hR hH0 hsep0 hfr0 (fun v w' hr' => ?_)
 ·
  obtain ⟨ρ', q1, q2, q3, q4, q5⟩ := hr'
  let ρo : Ren := fun id => match ρ id with | some rb => some rb | none => if L ≤ id ∧ id < L + (H1.length - H0.length) then ρ' (H0.length + (id - L)) else none
  have hnew : ∀ i, i < H1.length - H0.length → ρ (L + i) = none := by
   intro i hi
   obtain ⟨ob, hm⟩ := w4 (H0.length + i) (L + i) (by rw [s2 _ (by omega), if_pos (by omega)]; congr 1; omega) (.inl (by omega))
   refine hfresh _ ob hm ?_
   intro hmem
   obtain ⟨j, hj⟩ := List.getElem?_of_mem hmem
   have hj' : j < H0.length := by have := (List.getElem?_eq_some_iff.1 hj).1; omega
   obtain ⟨b0, hb0⟩ := w5 j hj'
   obtain ⟨s, b, rb, e1, e2, _⟩ := hin j b0 hb0
   rw [hj] at e1; cases e1
   have := hL _ _ e2
   omega
  have hpull : pullR (sel ++ newSel L (H1.length - H0.length)) ρo = ρ' := by
   funext j
   by_cases hj : j < H0.length
   ·
    obtain ⟨b0, hb0⟩ := w5 j hj
    obtain ⟨s, b, rb, e1, e2, e3, e4, e5⟩ := hin j b0 hb0
    have h1 : ρ' j = some rb := q5.ext j hj rb (by simp only [ρc, pullR, e1]; exact e4)
    simp only [pullR, s1 j hj, e1, ρo, e4, h1]
   ·
    have hs := s2 j (by omega)
    by_cases hj1 : j < H1.length
    ·
     rw [if_pos hj1] at hs
     simp only [pullR, hs, ρo, hnew (j - H0.length) (by omega)]
     rw [if_pos (by omega)]
     congr 1; omega
    ·
     rw [if_neg hj1] at hs
     simp only [pullR, hs]
     exact (q4 j (by omega)).symm
  have hownW : ∀ k q, Owned ρc (hg H0) k q → OwnW ρ (hg H) W k q := by
   rintro k q ⟨j, b0, rb, h1, h2, h3, h4⟩
   obtain ⟨s, b, rb', e1, e2, e3, e4, e5⟩ := hin j b0 h1
   simp only [ρc, pullR, e1] at h2
   rw [e4] at h2; cases h2
   obtain ⟨_, g2, g3⟩ := okB_brel e3 e5
   have hj : j < H0.length := by have := (List.getElem?_eq_some_iff.1 e1).1; omega
   obtain ⟨ob, hm⟩ := w4 j s (by rw [s1 j hj]; exact e1) (.inr ⟨b0, h1, h3⟩)
   exact ⟨s, ob, b, _, hm, e2, e4, g3 h3, g2 k q h4⟩
  have hent : ∀ id b', (id, some b') ∈ W → ∃ j b rb, (sel ++ newSel L (H1.length - H0.length))[j]? = some id ∧ hg H1 j = some b ∧ b.own = true ∧ renB (sel ++ newSel L (H1.length - H0.length)) b = some b' ∧ ρ' j = some rb ∧ ρo id = some rb ∧ BRel ρ' w' rb b := by
   intro id b' hm
   obtain ⟨j, h1, h2⟩ := w3 id (some b') hm
   obtain ⟨_, _, b, h3, h4, h5⟩ := h2
   obtain ⟨rb, h6, h7⟩ := q2 j b h3
   have h8 := congrFun hpull j
   simp only [pullR, h1] at h8
   exact ⟨j, b, rb, h1, h3, h4, h5, h6, by rw [h8]; exact h6, h7⟩
  refine hk v w' ρo ⟨?_, ?_, ?_, ?_, ?_, ?_⟩ ?_
  ·
   intro id rb hr; simp only [ρo, hr]
  ·
   intro id rb hr
   simp only [ρo] at hr
   cases hρ : ρ id with
   | some rb2 => rw [hρ] at hr; exact .inl hr
   | none =>
    rw [hρ] at hr
    simp only at hr
    split at hr
    ·
     rename_i hid
     right
     exact w4 (H0.length + (id - L)) id (by rw [s2 _ (by omega), if_pos (by omega)]; congr 1; omega) (.inl (by omega))
    ·
     cases hr
  ·
   intro id b' hm
   obtain ⟨j, b, rb, h1, h2, h3, h4, h5, h6, h7⟩ := hent id b' hm
   refine ⟨rb, h6, (brel_ren h4).1 ?_⟩
   rw [hpull]; exact h7
  ·
   exact q5.fr.mono (fun k q _ h => hownW k q h)
  ·
   intro id b' rb k q hm hr hf
   obtain ⟨j, b, rb2, h1, h2, h3, h4, h5, h6, h7⟩ := hent id b' hm
   rw [h6] at hr; cases hr
   have hf2 := (foot_ren h4 k q (rb := rb)).1.2 hf
   exact (q5.own k q ⟨j, b, rb, h2, h5, h3, hf2⟩).imp (hownW k q) (fun h => h)
  ·
   intro i j bi bj ri rj hne hi hj hri hrj hown k q ⟨hfi, hfj⟩
   obtain ⟨li, ci, rbi, h1, h2, h3, h4, h5, h6, h7⟩ := hent i bi hi
   obtain ⟨lj, cj, rbj, g1, g2, g3, g4, g5, g6, g7⟩ := hent j bj hj
   rw [h6] at hri; cases hri
   rw [g6] at hrj; cases hrj
   exact q3 li lj ci cj _ _ (fun e => hne (by rw [e, g1] at h1; exact (Option.some.inj h1).symm)) h2 g2 h5 g5 h3 k q ⟨(foot_ren h4 k q).1.2 hfi, (foot_ren g4 k q).1.2 hfj⟩
  ·
   intro v' hv'
   cases hv'
   refine (rel_ren ret hz).1 ?_
   rw [hpull]; exact q1
theorem eval_args {o : Oper} {R : Env} {x : Operand} {args : Array Operand} {tys : Array TypeId} {ρ : Ren} {a : Act} {zs : List SV} (ho : o.op = .call ⟨.value x, args, tys⟩) (hargs : args.toList.map (evO R) = zs.map some)
    (hR : ∀ t ∈ readsOf o, ∀ v, R t = some v → Rel ρ v (a.tmps.getD t undef)) : Rels ρ zs (args.toList.map a.eval) := by
  have : ∀ (l : List Operand) (zs : List SV), (∀ y ∈ l, y ∈ args.toList) → l.map (evO R) = zs.map some → Rels ρ zs (l.map a.eval) := by
    intro l
    induction l with
    | nil => intro zs _ h; have : zs = [] := by cases zs <;> simp_all
             subst this; exact Rels.nil_iff.2 rfl
    | cons y l ih =>
      intro zs hm h
      cases zs with
      | nil => simp at h
      | cons z zs =>
        simp only [List.map_cons, List.cons.injEq] at h
        refine Rels.cons ?_ (ih zs (fun u hu => hm u (List.mem_cons_of_mem _ hu)) h.2)
        have hy := hm y (List.mem_cons_self ..)
        cases y with
        | tmp t => exact hR t (by simp only [readsOf, List.mem_filterMap]; exact ⟨.tmp t, by simp [ho, Op.operands, Call.operands]; exact .inr (by simpa using hy), rfl⟩) _ h.1
        | const u => exact (ofVal_rel h.1).1
        | func g => have h1 := h.1; simp only [evO, Option.some.injEq] at h1; cases h1; simp only [List.map_cons, Rel]; exact ⟨[], rfl, Rels.nil_iff.2 rfl⟩
        | global g => cases h.1
  exact this args.toList zs (fun _ h => h) hargs
theorem eval_callee {o : Oper} {R : Env} {x : Operand} {args : Array Operand} {tys : Array TypeId} {ρ : Ren} {a : Act} {z : SV} (ho : o.op = .call ⟨.value x, args, tys⟩) (hx : evO R x = some z)
  (hR : ∀ t ∈ readsOf o, ∀ v, R t = some v → Rel ρ v (a.tmps.getD t undef)) : Rel ρ z (a.eval x) := by
 cases x with
 | tmp t => exact hR t (by simp only [readsOf, List.mem_filterMap]; exact ⟨.tmp t, by simp [ho, Op.operands, Call.operands], rfl⟩) _ hx
 | const u => exact (ofVal_rel hx).1
 | func g => simp only [evO, Option.some.injEq] at hx; cases hx; simp only [Rel]; exact ⟨[], rfl, Rels.nil_iff.2 rfl⟩
 | global g => cases hx
theorem lt_call {P : Program} {o : Oper} {R : Env} {H : HL} {L : Nat} {x : Operand} {args : Array Operand} {tys : Array TypeId} {f : Nat} {caps zs args0 : List SV} {sel : List Nat} {H0 H1 : HL} {ret z : SV} {W : Upd} (hl : H.length ≤ L)
  (ho : o.op = .call ⟨.value x, args, tys⟩) (hx : evO R x = some (.fn f caps)) (hargs : args.toList.map (evO R) = zs.map some) (hc : SCall P f args0 H0 ret H1) (hren : renL sel args0 = some (zs ++ caps))
  (hlen : sel.length = H0.length) (hok : okH sel H sel H0) (hd : dupOk sel 0 sel H0 = true) (hW : cW (sel ++ newSel L (H1.length - H0.length)) (sel ++ newSel L (H1.length - H0.length)) H0 H1 = some W)
  (hz : renV (sel ++ newSel L (H1.length - H0.length)) ret = some z) : LT P o R (hg H) sel W (some z) := by
 refine lt_of_callR hl hlen hok hd hW hz ?_
 intro r n a w ρ next Q hR hH0 hsep0 hfr0 hk
 refine ⟨fun _ _ => trivial, ?_⟩
 have hfx := eval_callee ho hx hR
 simp only [Rel] at hfx
 obtain ⟨cs, hfx1, hcaps⟩ := hfx
 have hzs := eval_args ho hargs hR
 have hrels : Rels (pullR sel ρ) args0 (args.map a.eval ++ ⟨cs⟩ : Array Value).toList := by
  refine (rels_ren args0 hren).2 ?_
  simpa using Rels.append hzs hcaps
 have hcall := hc.call (n - 1) (pullR sel ρ) w _ hrels hH0 hsep0 hfr0
 rw [Oper.semAt_eq _ _ _ (by intro c; rw [ho]; simp), run_call ho hfx1 hc.fn]
 refine ⟨fun h => (by cases h), ?_⟩
 have hcall' : CallsIn (Fw r) (n - 1) P f (args.map a.eval ++ ⟨cs⟩) w (CallR (pullR sel ρ) H0 w ret H1) := hcall
 refine hcall'.mono ?_
 intro e w' hr'
 cases e with
 | panicked c => exact hr'.elim
 | outgrown => exact hr'.elim
 | returned v => exact hk v w' hr'
def sopCall (R : RL) (H : HL) (L : Nat) (x : Operand) (args : List Operand) (f : Nat) (sel : List Nat) (args0 : List SV) (H0 : HL) (ret : SV) (H1 : HL) (k : K1) : Prop :=
 (match ev R x with
  | some (.fn g caps) => match evs R args with
   | some zs => g = f ∧ renL sel args0 = some (zs ++ caps)
   | none => False
  | _ => False) ∧ okH sel H sel H0 ∧
 match Nat.beq sel.length H0.length with
 | true => match dupOk sel 0 sel H0 with
  | true => match cW (sel ++ newSel L (H1.length - H0.length)) (sel ++ newSel L (H1.length - H0.length)) H0 H1 with
   | some W => match renV (sel ++ newSel L (H1.length - H0.length)) ret with
    | some z => k (some z) W sel (L + (H1.length - H0.length))
    | none => False
   | none => False
  | false => False
 | false => False
theorem ok1_call {P : Program} {o : Oper} {R : RL} {H : HL} {L : Nat} {k : K1} {x : Operand} {args : Array Operand} {tys : Array TypeId} {f : Nat} {args0 : List SV} {H0 H1 : HL} {ret : SV} (sel : List Nat)
  (hc : SCall P f args0 H0 ret H1) (ho : o.op = .call ⟨.value x, args, tys⟩) (hle : Nat.ble H.length L = true) (h : sopCall R H L x args.toList f sel args0 H0 ret H1 k) : Ok1 P o R H L k := by
 have hl := Nat.le_of_ble_eq_true hle
 obtain ⟨h1, h2, h3⟩ := h
 split at h1
 ·
  rename_i g caps hx
  split at h1
  ·
   rename_i zs hzs
   obtain ⟨rfl, hren⟩ := h1
   split at h3
   ·
    rename_i hlen
    split at h3
    ·
     rename_i hd
     split at h3
     ·
      rename_i W hW
      split at h3
      ·
       rename_i z hz
       obtain ⟨w1, w2, w3, w4, w5⟩ := cW_spec hW
       refine ⟨_, _, _, _, lt_call hl ho (ev_some hx) (evs_eq hzs) hc hren (beqE hlen) h2 hd hW hz, by omega, ?_, h3⟩
       intro id ob hm
       obtain ⟨j, hj, hent⟩ := w3 id ob hm
       have hl0 := beqE hlen
       by_cases hjs : j < H0.length
       ·
        rw [List.getElem?_append_left (by omega)] at hj
        obtain ⟨b0, hb0⟩ := w5 j hjs
        obtain ⟨s, b, e1, e2, _⟩ := okH_get h2 hb0
        rw [hj] at e1; cases e1
        have := hk_lt hl (by rw [hk_eq]; exact e2 : hk H _ = some b)
        exact ⟨by omega, fun hn => absurd (List.mem_of_getElem? hj) hn⟩
       ·
        rw [List.getElem?_append_right (by omega), newSel_get] at hj
        split at hj
        ·
         have := Option.some.inj hj
         exact ⟨by omega, fun _ => by omega⟩
        ·
         cases hj
      ·
       exact h3.elim
     ·
      exact h3.elim
    ·
     exact h3.elim
   ·
    exact h3.elim
  ·
   exact h1.elim
 ·
  exact h1.elim
end Go.Sh
namespace Go.Sh
def regs : Nat → List SV → RL
 | _, [] => []
 | k, v :: vs => (k, v) :: regs (k + 1) vs
theorem regs_get : ∀ {vs : List SV} {k t : Nat} {v : SV}, rg (regs k vs) t = some v → k ≤ t ∧ vs[t - k]? = some v
 | [], k, t, v, h => by simp [regs, rg] at h
 | u :: vs, k, t, v, h => by
  simp only [regs, rg, List.lookup_cons] at h
  split at h
  ·
   rename_i e
   have : t = k := by simpa using e
   subst this
   cases h
   exact ⟨Nat.le_refl _, by simp⟩
  ·
   obtain ⟨h1, h2⟩ := regs_get (vs := vs) (k := k + 1) (t := t) h
   refine ⟨by omega, ?_⟩
   rw [show t - k = (t - (k + 1)) + 1 from by omega]
   simpa using h2
def resK (T : TT) (R : RL) (H : HL) : List ResultVar → List SV → (List SV → Prop) → Prop
 | [], acc, K => K acc
 | .tmp t :: rs, acc, K => match lk t R with
  | some v => resK T R H rs (acc ++ [v]) K
  | none => False
 | .cell a t :: rs, acc, K => match lk a R with
  | some (.p id off) => match lk t T with
   | some ti => match hk H id with
    | some b => match Nat.ble 1 ti.sz with
     | true => ∃ v, sload ti.agg ti.sz b.cells off = some v ∧ resK T R H rs (acc ++ [v]) K
     | false => False
    | none => False
   | none => False
  | _ => False
def resOne (tmps : Array Value) : ResultVar → Sem Value
 | .tmp t => pure (tmps.getD t undef)
 | .cell p t => do loadVar t (← asAddr (tmps.getD p undef))
theorem resK_ok {T : TT} {P : Program} {N B L : Nat} {ρ : Ren} {R : RL} {H : HL} {a : Act} {w : World} (hT : TOk P T) (hs : Sim N B L ρ (rg R) (hg H) a w) :
  ∀ {rs : List ResultVar} {acc : List SV} {K : List SV → Prop}, resK T R H rs acc K →
   ∃ vs us, (rs.mapM (resOne a.tmps)).run P w = .ok us w ∧ Rels ρ vs us ∧ K (acc ++ vs)
 | [], acc, K, h => ⟨[], [], by simp, Rels.nil_iff.2 rfl, by simpa [resK] using h⟩
 | .tmp t :: rs, acc, K, h => by
  simp only [resK] at h
  split at h
  ·
   rename_i v hv
   obtain ⟨vs, us, h1, h2, h3⟩ := resK_ok hT hs h
   refine ⟨v :: vs, a.tmps.getD t undef :: us, ?_, Rels.cons (hs.regs t v (by rw [rg, ← lk_eq]; exact hv)) h2, by simpa using h3⟩
   simp only [List.mapM_cons, resOne, Sem.run_bind, h1, Sem.run_pure, Result.andThen]
  ·
   exact h.elim
 | .cell p t :: rs, acc, K, h => by
  simp only [resK] at h
  split at h
  ·
   rename_i id off hp
   split at h
   ·
    rename_i ti ht
    split at h
    ·
     rename_i b hb
     split at h
     ·
      rename_i h1
      obtain ⟨v, hv, hk⟩ := h
      obtain ⟨vs, us, g1, g2, g3⟩ := resK_ok hT hs hk
      have ft := hT _ _ ht
      have hpv := hs.regs p (.p id off) (by rw [rg, ← lk_eq]; exact hp)
      simp only [Rel] at hpv
      obtain ⟨rb, hr, he⟩ := hpv
      obtain ⟨rb2, hr2, hbr⟩ := hs.heap id b (hk_some hb)
      rw [hr] at hr2; cases hr2
      have hne : 0 < b.cells.length := by
       have hsz := ble1 h1
       unfold sload at hv
       split at hv
       ·
        split at hv
        ·
         omega
        ·
         cases hv
       ·
        have := (List.getElem?_eq_some_iff.1 hv).1; omega
      obtain ⟨hca, _⟩ := hbr.cellsAt hne
      obtain ⟨x, hx1, hx2⟩ := load_ok (P := P) (w := w) ft.agg ft.sz hca hv
      refine ⟨v :: vs, x :: us, ?_, Rels.cons hx2 g2, by simpa using g3⟩
      have ha : (asAddr (a.tmps.getD p undef)).run P w = .ok ⟨rb.blk, rb.off + off, none⟩ w := by rw [he]; simp [asAddr]
      simp only [List.mapM_cons, resOne, Sem.run_bind, ha, hx1, g1, Sem.run_pure, Result.andThen]
     ·
      exact h.elim
    ·
     exact h.elim
   ·
    exact h.elim
  ·
   exact h.elim
def tupOf : List SV → SV
 | [v] => v
 | vs => .tup vs
theorem results_run {T : TT} {P : Program} {N B L : Nat} {ρ : Ren} {R : RL} {H : HL} {a : Act} {w : World} {fn : Func} {K : List SV → Prop} (hT : TOk P T) (hs : Sim N B L ρ (rg R) (hg H) a w) (h : resK T R H fn.results.toList [] K) :
  ∃ vs v, (results fn a.tmps).run P w = .ok v w ∧ Rel ρ (tupOf vs) v ∧ K vs := by
 obtain ⟨vs, us, h1, h2, h3⟩ := resK_ok hT hs h
 refine ⟨vs, if h : us.length = 1 then us[0] else .tuple ⟨us⟩, ?_, ?_, by simpa using h3⟩
 ·
  have e : results fn a.tmps = (fn.results.mapM (resOne a.tmps) >>= fun vs => pure (if h : vs.size = 1 then vs[0] else .tuple vs)) := by
   unfold results
   congr 1
  rw [e]
  rw [Array.mapM_eq_mapM_toList]
  simp only [Sem.run_bind, map_eq_pure_bind, Sem.run_pure, Result.andThen]
  rw [h1]
  simp only [List.size_toArray, Sem.run_pure]
  by_cases hu : us.length = 1
  ·
   simp [hu]
  ·
   simp [hu]
 ·
  have hl := h2.length
  by_cases hu : us.length = 1
  ·
   rw [dif_pos hu]
   match vs, us, h2, hu with
   | [x], [y], h2, _ => exact (Rels.cons_iff.1 h2).1
   | [], [_], h2, _ => simp at hl
   | _ :: _ :: _, [_], h2, _ => simp at hl
  ·
   rw [dif_neg hu]
   have : tupOf vs = .tup vs := by
    match vs, hl with
    | [], _ => rfl
    | [x], hl => simp at hl; exact absurd hl hu
    | _ :: _ :: _, _ => rfl
   rw [this]
   simp only [Rel]
   exact ⟨us, rfl, h2⟩
structure finOk (A : Nat) (H : HL) (ret : SV) (H1 : HL) (v : SV) : Prop where
 ex : ∃ sel, renV sel ret = some v ∧ Nat.beq sel.length H1.length = true ∧ idOk sel A = true ∧ okH sel H sel H1 ∧ dupOk sel 0 sel H1 = true
def fnPost (T : TT) (fn : Func) (A : Nat) (ret : SV) (H1 : HL) : Exit → RL → HL → Nat → Prop
 | .normal, R, H, _ => resK T R H fn.results.toList [] fun vs => finOk A H ret H1 (tupOf vs)
 | .ret, R, H, _ => resK T R H fn.results.toList [] fun vs => finOk A H ret H1 (tupOf vs)
 | _, _, _, _ => False
structure MarkEq (B : Nat) (w w' : World) : Prop where
 os : w'.os = w.os
 tape : w'.tape = w.tape
 output : w'.output = w.output
 size : w'.heap.size = w.heap.size
 low : ∀ k, k < B → w'.heap[k]? = w.heap[k]?
 cells : ∀ (k : Nat) (c : Array Value) (t : TypeId) (fz : Nat × Nat), w.heap[k]? = some (.cells c t fz) → w'.heap[k]? = some (.cells c t fz)
 loops : ∀ (k : Nat) (r : Loop), w.heap[k]? = some (.loop r) → w'.heap[k]? = some (.loop r)
 muts : ∀ (k : Nat) (x : Obj), 2 ≤ mutK x → w.heap[k]? = some x → w'.heap[k]? = some x
theorem MarkEq.refl (B : Nat) (w : World) : MarkEq B w w := ⟨rfl, rfl, rfl, rfl, fun _ _ => rfl, fun _ _ _ _ h => h, fun _ _ h => h, fun _ _ _ h => h⟩
theorem MarkEq.trans {B : Nat} {a b c : World} (h : MarkEq B a b) (k : MarkEq B b c) : MarkEq B a c :=
 ⟨k.os.trans h.os, k.tape.trans h.tape, k.output.trans h.output, k.size.trans h.size, fun i hi => (k.low i hi).trans (h.low i hi), fun i c t fz hc => k.cells i c t fz (h.cells i c t fz hc), fun i r hr => k.loops i r (h.loops i r hr), fun i x hx hh => k.muts i x hx (h.muts i x hx hh)⟩
theorem MarkEq.put {B r : Nat} {w : World} {x : Option (List Deferred)} {o : Obj} (hB : B ≤ r) (h : w.heap[r]? = some (.deferred x)) : MarkEq B w (w.putObj r o) := by
 refine ⟨rfl, rfl, rfl, by simp [World.putObj], fun k hk => ?_, fun k c t fz hc => ?_, fun k q hc => ?_, fun k x hx hc => ?_⟩
 ·
  simp only [World.putObj]; rw [Array.getElem?_setIfInBounds_ne (by omega)]
 ·
  have : r ≠ k := fun e => by subst e; rw [h] at hc; cases hc
  simp only [World.putObj]; rw [Array.getElem?_setIfInBounds_ne this]; exact hc
 ·
  have : r ≠ k := fun e => by subst e; rw [h] at hc; cases hc
  simp only [World.putObj]; rw [Array.getElem?_setIfInBounds_ne this]; exact hc
 ·
  have : r ≠ k := fun e => by subst e; rw [h] at hc; cases hc; simp [mutK] at hx
  simp only [World.putObj]; rw [Array.getElem?_setIfInBounds_ne this]; exact hc
theorem BRel.marks {B : Nat} {ρ : Ren} {w w' : World} {rb : RB} {b : SB} (hm : MarkEq B w w') (h : BRel ρ w rb b) : BRel ρ w' rb b := by
 cases b with
 | obj y =>
  cases y with
  | loop R N ps as_ bd => obtain ⟨r, h1, h2⟩ := h; exact ⟨r, hm.loops _ _ h1, h2⟩
  | pend c => obtain ⟨r, h1, h2⟩ := h; exact ⟨r, hm.loops _ _ h1, h2⟩
 | ext y =>
  cases y with
  | fam l => exact fun e he => ⟨(h e he).1, (h e he).2.imp id fun ⟨⟨c, t, fz, hb, r⟩, h2⟩ => ⟨⟨c, t, fz, hm.cells _ _ _ _ hb, r⟩, h2⟩⟩
  | lit o => exact ⟨h.1, hm.muts _ _ h.1.1 h.2⟩
  | locd r o => exact ⟨h.1, hm.muts _ _ h.1.1 h.2⟩
 | ro l => exact h.imp id fun ⟨⟨c, t, fz, hb, r⟩, h2⟩ => ⟨⟨c, t, fz, hm.cells _ _ _ _ hb, r⟩, h2⟩
 | box l => obtain ⟨⟨c, t, fz, hb, r⟩, h2⟩ := h; exact ⟨⟨c, t, fz, hm.cells _ _ _ _ hb, r⟩, h2⟩
 | row t l => exact h.imp id fun ⟨hv, c, fz, hb, r⟩ => ⟨hv, c, fz, hm.cells _ _ _ _ hb, r⟩
theorem leaves_marks {F : Fence} {n : Nat} {P : Program} {fn : Func} {tmps : Array Value} {R : Ending → World → Prop} {B : Nat} : ∀ (ds : List Deferred) (w : World), DfrOk B ds w →
  (∀ w', MarkEq B w w' → ∃ v, (results fn tmps).run P w' = .ok v w' ∧ R (.returned v) w') → LeavesInM F n P fn tmps R ds .returning w
 | [], w, _, h => h w (MarkEq.refl _ _)
 | d :: ds, w, hd, h => by
  obtain ⟨hp, hall, hbase⟩ := hd
  obtain ⟨r, rfl, hB, hr⟩ := hall d (List.mem_cons_self ..)
  refine ⟨by simp, .inl ⟨r, w.putObj r (.deferred none), rfl, run_takeDeferred hr, ?_⟩⟩
  have hme : MarkEq B w (w.putObj r (.deferred none)) := MarkEq.put hB hr
  simp only [List.map_cons, List.pairwise_cons] at hp
  refine leaves_marks ds _ ⟨hp.2, fun d hd => ?_, by simpa [World.putObj] using hbase⟩ (fun w' hw' => h w' (hme.trans hw'))
  obtain ⟨r2, e, hB2, hr2⟩ := hall d (List.mem_cons_of_mem _ hd)
  refine ⟨r2, e, hB2, ?_⟩
  have hne : r ≠ r2 := fun e2 => by
   subst e2
   exact hp.1 d.target (List.mem_map_of_mem hd) r rfl (by rw [e])
  simp only [World.putObj]; rw [Array.getElem?_setIfInBounds_ne hne]; exact hr2
theorem Fr.marks {S : Nat → Nat → Prop} {w w1 w2 : World} (h : Fr S w w1) (hm : MarkEq w.heap.size w1 w2) : Fr S w w2 := by
 refine ⟨hm.os.trans h.os, hm.tape.trans h.tape, hm.output.trans h.output, by rw [hm.size]; exact h.size, fun k o ho => ?_⟩
 have hk : k < w.heap.size := (Array.getElem?_eq_some_iff.1 ho).1
 rw [hm.low k hk]
 exact h.blk k o ho
theorem scall_of {T : TT} {P : Program} {f : Nat} {fn : Func} {c : Code} {args : List SV} {H0 : HL} {ret : SV} {H1 : HL} (hT : TOk P T) (hf : P.funcs[f]? = some fn) (hb : fn.body = some c)
  (hnm : (fn.name == "runtime.NumGoroutine") = false) (hle : Nat.ble args.length fn.ntmps = true)
  (h : SWp P (· = none) fn.ntmps H0.length c (fnPost T fn H0.length ret H1) (regs 0 args) H0 H0.length) : SCall P f args H0 ret H1 := by
 refine ⟨⟨fn, hf, by rw [hb]; rfl, hnm⟩, fun n ρ w vs hvs hh hs hfr => ?_⟩
 refine callsIn_of_wp_marks hf hb trivial ?_ rfl
 have hlen := hvs.length
 have hle' := Nat.le_of_ble_eq_true hle
 have hsim : Sim fn.ntmps w.heap.size H0.length ρ (rg (regs 0 args)) (hg H0) { tmps := ⟨vs⟩ ++ Array.replicate (fn.ntmps - (⟨vs⟩ : Array Value).size) undef, defers := [] } w := by
  refine ⟨by simp; omega, ?_, hh, hs, hfr, ⟨List.Pairwise.nil, fun d hd => by simp at hd, Nat.le_refl _⟩⟩
  intro t v hv
  obtain ⟨_, h2⟩ := regs_get hv
  obtain ⟨u, hu, hr⟩ := hvs.get h2
  simp only [Nat.sub_zero] at hu
  have htl : t < vs.length := (List.getElem?_eq_some_iff.1 hu).1
  have : (⟨vs⟩ ++ Array.replicate (fn.ntmps - (⟨vs⟩ : Array Value).size) undef : Array Value).getD t undef = u := by
   rw [Array.getD_eq_getD_getElem?, Array.getElem?_append_left (by simpa using htl)]
   simp [hu]
  rw [this]; exact hr
 refine wpIn_mono (h.run none n w.heap.size ρ _ w rfl hsim (Nat.le_refl _)) ?_
 rintro e a' w' ⟨R', H', L', ρ', hq, hl', hs', he'⟩
 have main : resK T R' H' fn.results.toList [] (fun vs => finOk H0.length H' ret H1 (tupOf vs)) → LeavesInM Fence.wide n P fn a'.tmps (CallR ρ H0 w ret H1) a'.defers .returning w' := by
  intro hq
  refine leaves_marks a'.defers w' hs'.dfr (fun w'' hm => ?_)
  have hs2 : Sim fn.ntmps w.heap.size L' ρ' (rg R') (hg H') { a' with defers := [] } w'' :=
   ⟨hs'.size, hs'.regs, fun id b hid => let ⟨rb, h1, h2⟩ := hs'.heap id b hid; ⟨rb, h1, h2.marks hm⟩, hs'.sep, hs'.fresh, ⟨List.Pairwise.nil, fun d hd => by simp at hd, by rw [hm.size]; exact hs'.dfr.2.2⟩⟩
  obtain ⟨us, v, hrun, hrel, sel, g1, g2, g3, g4, g5⟩ := results_run hT hs2 hq
  obtain ⟨k1, k2⟩ := sel_sim (R0 := []) (L0 := H1.length) sel (beqE g2) g3 trivial g4 g5 hs2
  refine ⟨v, hrun, pullR sel ρ', (rel_ren ret g1).2 hrel, k1.heap, k1.sep, k1.fresh, ?_⟩
  have e1 : EvA H0.length ρ (hg H0) w ρ' (hg H') w'' := ⟨he'.ext, he'.fr.marks hm, he'.own⟩
  exact e1.trans k2
 cases e with
 | normal => exact main hq
 | ret => exact main hq
 | _ => exact hq.elim
end Go.Sh
namespace Go.Sh
open Go.Proofs
def ti0 : TI := ⟨1, false, none, 0, .oth, none, none⟩
@[simp] theorem ti0_sz : ti0.sz = 1 := rfl
theorem ti0Ok : TIOk Tryz.prog 0 ti0 := ⟨by kernel_rfl, by kernel_rfl, fun z h => (by cases h), by kernel_rfl, trivial, fun ks h => (by cases h), by kernel_rfl⟩
def ti1 : TI := ⟨1, false, (some .fnil), 8, .oth, none, (some 2)⟩
@[simp] theorem ti1_sz : ti1.sz = 1 := rfl
theorem ti1Ok : TIOk Tryz.prog 1 ti1 := ⟨by kernel_rfl, by kernel_rfl, fun z h => (by cases h; kernel_rfl), by kernel_rfl, trivial, fun ks h => (by cases h), by kernel_rfl⟩
def ti3 : TI := ⟨1, false, (some (.i 0)), 8, (.int .i64), none, none⟩
@[simp] theorem ti3_sz : ti3.sz = 1 := rfl
theorem ti3Ok : TIOk Tryz.prog 3 ti3 := ⟨by kernel_rfl, by kernel_rfl, fun z h => (by cases h; kernel_rfl), by kernel_rfl, (by kernel_rfl : Tryz.prog.underlying 3 = _), fun ks h => (by cases h), by kernel_rfl⟩
def ti4 : TI := ⟨1, false, (some (.b false)), 1, .oth, none, (some 0)⟩
@[simp] theorem ti4_sz : ti4.sz = 1 := rfl
theorem ti4Ok : TIOk Tryz.prog 4 ti4 := ⟨by kernel_rfl, by kernel_rfl, fun z h => (by cases h; kernel_rfl), by kernel_rfl, trivial, fun ks h => (by cases h), by kernel_rfl⟩
def ti5 : TI := ⟨1, false, (some (.u8 0)), 1, (.int .u8), none, none⟩
@[simp] theorem ti5_sz : ti5.sz = 1 := rfl
theorem ti5Ok : TIOk Tryz.prog 5 ti5 := ⟨by kernel_rfl, by kernel_rfl, fun z h => (by cases h; kernel_rfl), by kernel_rfl, (by kernel_rfl : Tryz.prog.underlying 5 = _), fun ks h => (by cases h), by kernel_rfl⟩
def ti23 : TI := ⟨2, true, (some (.agg [(.u8 0), (.u8 0)])), 2, (.st [(0, 5, 1), (1, 5, 1)]), (some [1, 1]), none⟩
@[simp] theorem ti23_sz : ti23.sz = 2 := rfl
theorem ti23Ok : TIOk Tryz.prog 23 ti23 := ⟨by kernel_rfl, by kernel_rfl, fun z h => (by cases h; kernel_rfl), by kernel_rfl, ⟨by kernel_rfl, by kernel_rfl, by kernel_rfl⟩, fun ks h => (by cases h; exact ⟨by kernel_rfl, by kernel_rfl, by kernel_rfl⟩), by kernel_rfl⟩
def ti24 : TI := ⟨32, true, (some (.agg (List.replicate 32 (.u8 0)))), 32, (.arr 32 5), (some (List.replicate 32 1)), none⟩
@[simp] theorem ti24_sz : ti24.sz = 32 := rfl
theorem ti24Ok : TIOk Tryz.prog 24 ti24 := ⟨by kernel_rfl, by kernel_rfl, fun z h => (by cases h; kernel_rfl), by kernel_rfl, (by kernel_rfl : Tryz.prog.underlying 24 = _), fun ks h => (by cases h; exact ⟨by kernel_rfl, by kernel_rfl, by kernel_rfl⟩), by kernel_rfl⟩
def ti25 : TI := ⟨32, true, (some (.agg (List.replicate 32 (.u8 0)))), 32, (.arr 32 5), (some (List.replicate 32 1)), none⟩
@[simp] theorem ti25_sz : ti25.sz = 32 := rfl
theorem ti25Ok : TIOk Tryz.prog 25 ti25 := ⟨by kernel_rfl, by kernel_rfl, fun z h => (by cases h; kernel_rfl), by kernel_rfl, (by kernel_rfl : Tryz.prog.underlying 25 = _), fun ks h => (by cases h; exact ⟨by kernel_rfl, by kernel_rfl, by kernel_rfl⟩), by kernel_rfl⟩
def ti26 : TI := ⟨1, false, (some .slnil), 24, (.slc 52), none, (some 3)⟩
@[simp] theorem ti26_sz : ti26.sz = 1 := rfl
theorem ti26Ok : TIOk Tryz.prog 26 ti26 := ⟨by kernel_rfl, by kernel_rfl, fun z h => (by cases h; kernel_rfl), by kernel_rfl, (by kernel_rfl : Tryz.prog.underlying 26 = _), fun ks h => (by cases h), by kernel_rfl⟩
def ti28 : TI := ⟨67, true, (some (.agg (List.replicate 66 (.u8 0) ++ [.slnil]))), 96, (.st [(0, 23, 2), (2, 25, 32), (34, 25, 32), (66, 26, 1)]), none, none⟩
@[simp] theorem ti28_sz : ti28.sz = 67 := rfl
theorem ti28Ok : TIOk Tryz.prog 28 ti28 := ⟨by kernel_rfl, by kernel_rfl, fun z h => (by cases h; kernel_rfl), by kernel_rfl, ⟨by kernel_rfl, by kernel_rfl, by kernel_rfl⟩, fun ks h => (by cases h), by kernel_rfl⟩
def ti29 : TI := ⟨1, false, (some (.u32 0)), 4, (.int .u32), none, none⟩
@[simp] theorem ti29_sz : ti29.sz = 1 := rfl
theorem ti29Ok : TIOk Tryz.prog 29 ti29 := ⟨by kernel_rfl, by kernel_rfl, fun z h => (by cases h; kernel_rfl), by kernel_rfl, (by kernel_rfl : Tryz.prog.underlying 29 = _), fun ks h => (by cases h), by kernel_rfl⟩
def ti31 : TI := ⟨100, true, (some (.agg (List.replicate 66 (.u8 0) ++ [(.b false), (.u32 0)] ++ List.replicate 32 (.u8 0)))), 104, (.st [(0, 23, 2), (2, 25, 32), (34, 25, 32), (66, 4, 1), (67, 29, 1), (68, 25, 32)]), (some (List.replicate 66 1 ++ [5, 3] ++ List.replicate 32 1)), none⟩
@[simp] theorem ti31_sz : ti31.sz = 100 := rfl
theorem ti31Ok : TIOk Tryz.prog 31 ti31 := ⟨by kernel_rfl, by kernel_rfl, fun z h => (by cases h; kernel_rfl), by kernel_rfl, ⟨by kernel_rfl, by kernel_rfl, by kernel_rfl⟩, fun ks h => (by cases h; exact ⟨by kernel_rfl, by kernel_rfl, by kernel_rfl⟩), by kernel_rfl⟩
def ti33 : TI := ⟨66, true, (some (.agg (List.replicate 64 (.u8 0) ++ [(.b false), (.u32 0)]))), 72, (.st [(0, 25, 32), (32, 25, 32), (64, 4, 1), (65, 29, 1)]), (some (List.replicate 64 1 ++ [5, 3])), none⟩
@[simp] theorem ti33_sz : ti33.sz = 66 := rfl
theorem ti33Ok : TIOk Tryz.prog 33 ti33 := ⟨by kernel_rfl, by kernel_rfl, fun z h => (by cases h; kernel_rfl), by kernel_rfl, ⟨by kernel_rfl, by kernel_rfl, by kernel_rfl⟩, fun ks h => (by cases h; exact ⟨by kernel_rfl, by kernel_rfl, by kernel_rfl⟩), by kernel_rfl⟩
def ti35 : TI := ⟨1, false, (some .slnil), 24, (.slc 60), none, (some 3)⟩
@[simp] theorem ti35_sz : ti35.sz = 1 := rfl
theorem ti35Ok : TIOk Tryz.prog 35 ti35 := ⟨by kernel_rfl, by kernel_rfl, fun z h => (by cases h; kernel_rfl), by kernel_rfl, (by kernel_rfl : Tryz.prog.underlying 35 = _), fun ks h => (by cases h), by kernel_rfl⟩
def ti37 : TI := ⟨67, true, (some (.agg (List.replicate 66 (.u8 0) ++ [.slnil]))), 96, (.st [(0, 23, 2), (2, 25, 32), (34, 25, 32), (66, 35, 1)]), none, none⟩
@[simp] theorem ti37_sz : ti37.sz = 67 := rfl
theorem ti37Ok : TIOk Tryz.prog 37 ti37 := ⟨by kernel_rfl, by kernel_rfl, fun z h => (by cases h; kernel_rfl), by kernel_rfl, ⟨by kernel_rfl, by kernel_rfl, by kernel_rfl⟩, fun ks h => (by cases h), by kernel_rfl⟩
def ti40 : TI := ⟨64, true, (some (.agg (List.replicate 64 (.u8 0)))), 64, (.st [(0, 25, 32), (32, 25, 32)]), (some (List.replicate 64 1)), none⟩
@[simp] theorem ti40_sz : ti40.sz = 64 := rfl
theorem ti40Ok : TIOk Tryz.prog 40 ti40 := ⟨by kernel_rfl, by kernel_rfl, fun z h => (by cases h; kernel_rfl), by kernel_rfl, ⟨by kernel_rfl, by kernel_rfl, by kernel_rfl⟩, fun ks h => (by cases h; exact ⟨by kernel_rfl, by kernel_rfl, by kernel_rfl⟩), by kernel_rfl⟩
def ti41 : TI := ⟨1, false, (some (.i 0)), 8, (.int .i64), none, none⟩
@[simp] theorem ti41_sz : ti41.sz = 1 := rfl
theorem ti41Ok : TIOk Tryz.prog 41 ti41 := ⟨by kernel_rfl, by kernel_rfl, fun z h => (by cases h; kernel_rfl), by kernel_rfl, (by kernel_rfl : Tryz.prog.underlying 41 = _), fun ks h => (by cases h), by kernel_rfl⟩
def ti52 : TI := ⟨33, true, (some (.agg ([(.u32 0)] ++ List.replicate 32 (.u8 0)))), 36, (.st [(0, 29, 1), (1, 25, 32)]), (some ([3] ++ List.replicate 32 1)), none⟩
@[simp] theorem ti52_sz : ti52.sz = 33 := rfl
theorem ti52Ok : TIOk Tryz.prog 52 ti52 := ⟨by kernel_rfl, by kernel_rfl, fun z h => (by cases h; kernel_rfl), by kernel_rfl, ⟨by kernel_rfl, by kernel_rfl, by kernel_rfl⟩, fun ks h => (by cases h; exact ⟨by kernel_rfl, by kernel_rfl, by kernel_rfl⟩), by kernel_rfl⟩
def ti58 : TI := ⟨1, false, (some .pnil), 8, .oth, none, (some 1)⟩
@[simp] theorem ti58_sz : ti58.sz = 1 := rfl
theorem ti58Ok : TIOk Tryz.prog 58 ti58 := ⟨by kernel_rfl, by kernel_rfl, fun z h => (by cases h; kernel_rfl), by kernel_rfl, trivial, fun ks h => (by cases h), by kernel_rfl⟩
def ti60 : TI := ⟨33, true, (some (.agg ([(.u32 0)] ++ List.replicate 32 (.u8 0)))), 36, (.st [(0, 29, 1), (1, 25, 32)]), (some ([3] ++ List.replicate 32 1)), none⟩
@[simp] theorem ti60_sz : ti60.sz = 33 := rfl
theorem ti60Ok : TIOk Tryz.prog 60 ti60 := ⟨by kernel_rfl, by kernel_rfl, fun z h => (by cases h; kernel_rfl), by kernel_rfl, ⟨by kernel_rfl, by kernel_rfl, by kernel_rfl⟩, fun ks h => (by cases h; exact ⟨by kernel_rfl, by kernel_rfl, by kernel_rfl⟩), by kernel_rfl⟩
def ti62 : TI := ⟨64, true, (some (.agg (List.replicate 64 (.u8 0)))), 64, (.st [(0, 25, 32), (32, 25, 32)]), (some (List.replicate 64 1)), none⟩
@[simp] theorem ti62_sz : ti62.sz = 64 := rfl
theorem ti62Ok : TIOk Tryz.prog 62 ti62 := ⟨by kernel_rfl, by kernel_rfl, fun z h => (by cases h; kernel_rfl), by kernel_rfl, ⟨by kernel_rfl, by kernel_rfl, by kernel_rfl⟩, fun ks h => (by cases h; exact ⟨by kernel_rfl, by kernel_rfl, by kernel_rfl⟩), by kernel_rfl⟩
def ti63 : TI := ⟨1, false, (some .slnil), 24, (.slc 62), none, (some 3)⟩
@[simp] theorem ti63_sz : ti63.sz = 1 := rfl
theorem ti63Ok : TIOk Tryz.prog 63 ti63 := ⟨by kernel_rfl, by kernel_rfl, fun z h => (by cases h; kernel_rfl), by kernel_rfl, (by kernel_rfl : Tryz.prog.underlying 63 = _), fun ks h => (by cases h), by kernel_rfl⟩
def ti65 : TI := ⟨1, false, (some .slnil), 24, (.slc 25), none, (some 3)⟩
@[simp] theorem ti65_sz : ti65.sz = 1 := rfl
theorem ti65Ok : TIOk Tryz.prog 65 ti65 := ⟨by kernel_rfl, by kernel_rfl, fun z h => (by cases h; kernel_rfl), by kernel_rfl, (by kernel_rfl : Tryz.prog.underlying 65 = _), fun ks h => (by cases h), by kernel_rfl⟩
def ti66 : TI := ⟨1, false, (some .slnil), 24, (.slc 5), none, (some 3)⟩
@[simp] theorem ti66_sz : ti66.sz = 1 := rfl
theorem ti66Ok : TIOk Tryz.prog 66 ti66 := ⟨by kernel_rfl, by kernel_rfl, fun z h => (by cases h; kernel_rfl), by kernel_rfl, (by kernel_rfl : Tryz.prog.underlying 66 = _), fun ks h => (by cases h), by kernel_rfl⟩
def ti81 : TI := ⟨1, false, (some (.u64 0)), 8, (.int .u64), none, none⟩
@[simp] theorem ti81_sz : ti81.sz = 1 := rfl
theorem ti81Ok : TIOk Tryz.prog 81 ti81 := ⟨by kernel_rfl, by kernel_rfl, fun z h => (by cases h; kernel_rfl), by kernel_rfl, (by kernel_rfl : Tryz.prog.underlying 81 = _), fun ks h => (by cases h), by kernel_rfl⟩
def ti82 : TI := ⟨5, true, (some (.agg [(.u64 0), (.u64 0), (.u64 0), (.u64 0), (.u64 0)])), 40, (.arr 5 81), (some [4, 4, 4, 4, 4]), none⟩
@[simp] theorem ti82_sz : ti82.sz = 5 := rfl
theorem ti82Ok : TIOk Tryz.prog 82 ti82 := ⟨by kernel_rfl, by kernel_rfl, fun z h => (by cases h; kernel_rfl), by kernel_rfl, (by kernel_rfl : Tryz.prog.underlying 82 = _), fun ks h => (by cases h; exact ⟨by kernel_rfl, by kernel_rfl, by kernel_rfl⟩), by kernel_rfl⟩
def ti84 : TI := ⟨5, true, (some (.agg [(.u64 0), (.u64 0), (.u64 0), (.u64 0), (.u64 0)])), 40, (.st [(0, 82, 5)]), (some [4, 4, 4, 4, 4]), none⟩
@[simp] theorem ti84_sz : ti84.sz = 5 := rfl
theorem ti84Ok : TIOk Tryz.prog 84 ti84 := ⟨by kernel_rfl, by kernel_rfl, fun z h => (by cases h; kernel_rfl), by kernel_rfl, ⟨by kernel_rfl, by kernel_rfl, by kernel_rfl⟩, fun ks h => (by cases h; exact ⟨by kernel_rfl, by kernel_rfl, by kernel_rfl⟩), by kernel_rfl⟩
def ti92 : TI := ⟨1, false, (some (.u8 0)), 1, (.int .u8), none, none⟩
@[simp] theorem ti92_sz : ti92.sz = 1 := rfl
theorem ti92Ok : TIOk Tryz.prog 92 ti92 := ⟨by kernel_rfl, by kernel_rfl, fun z h => (by cases h; kernel_rfl), by kernel_rfl, (by kernel_rfl : Tryz.prog.underlying 92 = _), fun ks h => (by cases h), by kernel_rfl⟩
def ti100 : TI := ⟨1, false, (some .fnil), 8, .oth, none, (some 2)⟩
@[simp] theorem ti100_sz : ti100.sz = 1 := rfl
theorem ti100Ok : TIOk Tryz.prog 100 ti100 := ⟨by kernel_rfl, by kernel_rfl, fun z h => (by cases h; kernel_rfl), by kernel_rfl, trivial, fun ks h => (by cases h), by kernel_rfl⟩
def ti102 : TI := ⟨1, false, (some .slnil), 24, (.slc 81), none, (some 3)⟩
@[simp] theorem ti102_sz : ti102.sz = 1 := rfl
theorem ti102Ok : TIOk Tryz.prog 102 ti102 := ⟨by kernel_rfl, by kernel_rfl, fun z h => (by cases h; kernel_rfl), by kernel_rfl, (by kernel_rfl : Tryz.prog.underlying 102 = _), fun ks h => (by cases h), by kernel_rfl⟩
def ti103 : TI := ⟨1, false, (some .slnil), 24, (.slc 81), none, (some 3)⟩
@[simp] theorem ti103_sz : ti103.sz = 1 := rfl
theorem ti103Ok : TIOk Tryz.prog 103 ti103 := ⟨by kernel_rfl, by kernel_rfl, fun z h => (by cases h; kernel_rfl), by kernel_rfl, (by kernel_rfl : Tryz.prog.underlying 103 = _), fun ks h => (by cases h), by kernel_rfl⟩
def ti106 : TI := ⟨10, true, (some (.agg (List.replicate 10 (.u64 0)))), 80, (.st [(0, 84, 5), (5, 84, 5)]), (some (List.replicate 10 4)), none⟩
@[simp] theorem ti106_sz : ti106.sz = 10 := rfl
theorem ti106Ok : TIOk Tryz.prog 106 ti106 := ⟨by kernel_rfl, by kernel_rfl, fun z h => (by cases h; kernel_rfl), by kernel_rfl, ⟨by kernel_rfl, by kernel_rfl, by kernel_rfl⟩, fun ks h => (by cases h; exact ⟨by kernel_rfl, by kernel_rfl, by kernel_rfl⟩), by kernel_rfl⟩
def ti108 : TI := ⟨1, false, (some .pnil), 8, .oth, none, (some 1)⟩
@[simp] theorem ti108_sz : ti108.sz = 1 := rfl
theorem ti108Ok : TIOk Tryz.prog 108 ti108 := ⟨by kernel_rfl, by kernel_rfl, fun z h => (by cases h; kernel_rfl), by kernel_rfl, trivial, fun ks h => (by cases h), by kernel_rfl⟩
def ti109 : TI := ⟨1, false, (some .fnil), 8, .oth, none, (some 2)⟩
@[simp] theorem ti109_sz : ti109.sz = 1 := rfl
theorem ti109Ok : TIOk Tryz.prog 109 ti109 := ⟨by kernel_rfl, by kernel_rfl, fun z h => (by cases h; kernel_rfl), by kernel_rfl, trivial, fun ks h => (by cases h), by kernel_rfl⟩
def ti111 : TI := ⟨1, false, (some .fnil), 8, .oth, none, (some 2)⟩
@[simp] theorem ti111_sz : ti111.sz = 1 := rfl
theorem ti111Ok : TIOk Tryz.prog 111 ti111 := ⟨by kernel_rfl, by kernel_rfl, fun z h => (by cases h; kernel_rfl), by kernel_rfl, trivial, fun ks h => (by cases h), by kernel_rfl⟩
def ti114 : TI := ⟨1, false, (some .pnil), 8, .oth, none, (some 1)⟩
@[simp] theorem ti114_sz : ti114.sz = 1 := rfl
theorem ti114Ok : TIOk Tryz.prog 114 ti114 := ⟨by kernel_rfl, by kernel_rfl, fun z h => (by cases h; kernel_rfl), by kernel_rfl, trivial, fun ks h => (by cases h), by kernel_rfl⟩
def ti118 : TI := ⟨1, false, (some (.u64 0)), 8, (.int .u64), none, none⟩
@[simp] theorem ti118_sz : ti118.sz = 1 := rfl
theorem ti118Ok : TIOk Tryz.prog 118 ti118 := ⟨by kernel_rfl, by kernel_rfl, fun z h => (by cases h; kernel_rfl), by kernel_rfl, (by kernel_rfl : Tryz.prog.underlying 118 = _), fun ks h => (by cases h), by kernel_rfl⟩
def ti119 : TI := ⟨4, true, (some (.agg [(.u64 0), (.u64 0), (.u64 0), (.u64 0)])), 32, (.arr 4 81), (some [4, 4, 4, 4]), none⟩
@[simp] theorem ti119_sz : ti119.sz = 4 := rfl
theorem ti119Ok : TIOk Tryz.prog 119 ti119 := ⟨by kernel_rfl, by kernel_rfl, fun z h => (by cases h; kernel_rfl), by kernel_rfl, (by kernel_rfl : Tryz.prog.underlying 119 = _), fun ks h => (by cases h; exact ⟨by kernel_rfl, by kernel_rfl, by kernel_rfl⟩), by kernel_rfl⟩
def ti123 : TI := ⟨1, false, (some .slnil), 24, (.slc 66), none, (some 3)⟩
@[simp] theorem ti123_sz : ti123.sz = 1 := rfl
theorem ti123Ok : TIOk Tryz.prog 123 ti123 := ⟨by kernel_rfl, by kernel_rfl, fun z h => (by cases h; kernel_rfl), by kernel_rfl, (by kernel_rfl : Tryz.prog.underlying 123 = _), fun ks h => (by cases h), by kernel_rfl⟩
def ti130 : TI := ⟨1, false, (some .slnil), 24, (.slc 103), none, (some 3)⟩
@[simp] theorem ti130_sz : ti130.sz = 1 := rfl
theorem ti130Ok : TIOk Tryz.prog 130 ti130 := ⟨by kernel_rfl, by kernel_rfl, fun z h => (by cases h; kernel_rfl), by kernel_rfl, (by kernel_rfl : Tryz.prog.underlying 130 = _), fun ks h => (by cases h), by kernel_rfl⟩
def ti136 : TI := ⟨1, false, (some .fnil), 8, .oth, none, (some 2)⟩
@[simp] theorem ti136_sz : ti136.sz = 1 := rfl
theorem ti136Ok : TIOk Tryz.prog 136 ti136 := ⟨by kernel_rfl, by kernel_rfl, fun z h => (by cases h; kernel_rfl), by kernel_rfl, trivial, fun ks h => (by cases h), by kernel_rfl⟩
def ti141 : TI := ⟨1, false, (some .fnil), 8, .oth, none, (some 2)⟩
@[simp] theorem ti141_sz : ti141.sz = 1 := rfl
theorem ti141Ok : TIOk Tryz.prog 141 ti141 := ⟨by kernel_rfl, by kernel_rfl, fun z h => (by cases h; kernel_rfl), by kernel_rfl, trivial, fun ks h => (by cases h), by kernel_rfl⟩
def ti146 : TI := ⟨1, false, (some .fnil), 8, .oth, none, (some 2)⟩
@[simp] theorem ti146_sz : ti146.sz = 1 := rfl
theorem ti146Ok : TIOk Tryz.prog 146 ti146 := ⟨by kernel_rfl, by kernel_rfl, fun z h => (by cases h; kernel_rfl), by kernel_rfl, trivial, fun ks h => (by cases h), by kernel_rfl⟩
def ti148 : TI := ⟨64, true, (some (.agg (List.replicate 64 (.u8 0)))), 64, (.arr 64 5), (some (List.replicate 64 1)), none⟩
@[simp] theorem ti148_sz : ti148.sz = 64 := rfl
theorem ti148Ok : TIOk Tryz.prog 148 ti148 := ⟨by kernel_rfl, by kernel_rfl, fun z h => (by cases h; kernel_rfl), by kernel_rfl, (by kernel_rfl : Tryz.prog.underlying 148 = _), fun ks h => (by cases h; exact ⟨by kernel_rfl, by kernel_rfl, by kernel_rfl⟩), by kernel_rfl⟩
def ti157 : TI := ⟨1, false, (some .pnil), 8, .oth, none, (some 1)⟩
@[simp] theorem ti157_sz : ti157.sz = 1 := rfl
theorem ti157Ok : TIOk Tryz.prog 157 ti157 := ⟨by kernel_rfl, by kernel_rfl, fun z h => (by cases h; kernel_rfl), by kernel_rfl, trivial, fun ks h => (by cases h), by kernel_rfl⟩
def ti160 : TI := ⟨1, false, (some .pnil), 8, .oth, none, (some 1)⟩
@[simp] theorem ti160_sz : ti160.sz = 1 := rfl
theorem ti160Ok : TIOk Tryz.prog 160 ti160 := ⟨by kernel_rfl, by kernel_rfl, fun z h => (by cases h; kernel_rfl), by kernel_rfl, trivial, fun ks h => (by cases h), by kernel_rfl⟩
def ti166 : TI := ⟨1, false, (some .slnil), 24, (.slc 29), none, (some 3)⟩
@[simp] theorem ti166_sz : ti166.sz = 1 := rfl
theorem ti166Ok : TIOk Tryz.prog 166 ti166 := ⟨by kernel_rfl, by kernel_rfl, fun z h => (by cases h; kernel_rfl), by kernel_rfl, (by kernel_rfl : Tryz.prog.underlying 166 = _), fun ks h => (by cases h), by kernel_rfl⟩
def ti168 : TI := ⟨3, true, (some (.agg [(.i 0), (.i 0), (.i 0)])), 24, (.arr 3 3), (some [0, 0, 0]), none⟩
@[simp] theorem ti168_sz : ti168.sz = 3 := rfl
theorem ti168Ok : TIOk Tryz.prog 168 ti168 := ⟨by kernel_rfl, by kernel_rfl, fun z h => (by cases h; kernel_rfl), by kernel_rfl, (by kernel_rfl : Tryz.prog.underlying 168 = _), fun ks h => (by cases h; exact ⟨by kernel_rfl, by kernel_rfl, by kernel_rfl⟩), by kernel_rfl⟩
def ti170 : TI := ⟨12, true, (some (.agg (List.replicate 12 (.i 0)))), 96, (.st [(0, 168, 3), (3, 168, 3), (6, 168, 3), (9, 168, 3)]), (some (List.replicate 12 0)), none⟩
@[simp] theorem ti170_sz : ti170.sz = 12 := rfl
theorem ti170Ok : TIOk Tryz.prog 170 ti170 := ⟨by kernel_rfl, by kernel_rfl, fun z h => (by cases h; kernel_rfl), by kernel_rfl, ⟨by kernel_rfl, by kernel_rfl, by kernel_rfl⟩, fun ks h => (by cases h; exact ⟨by kernel_rfl, by kernel_rfl, by kernel_rfl⟩), by kernel_rfl⟩
def ti172 : TI := ⟨15, true, (some (.agg ([.slnil, .slnil] ++ List.replicate 13 (.i 0)))), 152, (.st [(0, 166, 1), (1, 166, 1), (2, 3, 1), (3, 170, 12)]), none, none⟩
@[simp] theorem ti172_sz : ti172.sz = 15 := rfl
theorem ti172Ok : TIOk Tryz.prog 172 ti172 := ⟨by kernel_rfl, by kernel_rfl, fun z h => (by cases h; kernel_rfl), by kernel_rfl, ⟨by kernel_rfl, by kernel_rfl, by kernel_rfl⟩, fun ks h => (by cases h), by kernel_rfl⟩
def ti175 : TI := ⟨15, true, (some (.agg ([.slnil, .slnil] ++ List.replicate 13 (.i 0)))), 152, (.st [(0, 102, 1), (1, 102, 1), (2, 3, 1), (3, 170, 12)]), none, none⟩
@[simp] theorem ti175_sz : ti175.sz = 15 := rfl
theorem ti175Ok : TIOk Tryz.prog 175 ti175 := ⟨by kernel_rfl, by kernel_rfl, fun z h => (by cases h; kernel_rfl), by kernel_rfl, ⟨by kernel_rfl, by kernel_rfl, by kernel_rfl⟩, fun ks h => (by cases h), by kernel_rfl⟩
def ti180 : TI := ⟨8, true, (some (.agg [(.u32 0), (.u32 0), (.u32 0), (.u32 0), (.u32 0), (.u32 0), (.u32 0), (.u32 0)])), 32, (.arr 8 29), (some [3, 3, 3, 3, 3, 3, 3, 3]), none⟩
@[simp] theorem ti180_sz : ti180.sz = 8 := rfl
theorem ti180Ok : TIOk Tryz.prog 180 ti180 := ⟨by kernel_rfl, by kernel_rfl, fun z h => (by cases h; kernel_rfl), by kernel_rfl, (by kernel_rfl : Tryz.prog.underlying 180 = _), fun ks h => (by cases h; exact ⟨by kernel_rfl, by kernel_rfl, by kernel_rfl⟩), by kernel_rfl⟩
def ti182 : TI := ⟨8, true, (some (.agg [(.u64 0), (.u64 0), (.u64 0), (.u64 0), (.u64 0), (.u64 0), (.u64 0), (.u64 0)])), 64, (.arr 8 81), (some [4, 4, 4, 4, 4, 4, 4, 4]), none⟩
@[simp] theorem ti182_sz : ti182.sz = 8 := rfl
theorem ti182Ok : TIOk Tryz.prog 182 ti182 := ⟨by kernel_rfl, by kernel_rfl, fun z h => (by cases h; kernel_rfl), by kernel_rfl, (by kernel_rfl : Tryz.prog.underlying 182 = _), fun ks h => (by cases h; exact ⟨by kernel_rfl, by kernel_rfl, by kernel_rfl⟩), by kernel_rfl⟩
set_option maxRecDepth 100000
def tt : TT := [(0, ti0), (1, ti1), (3, ti3), (4, ti4), (5, ti5), (23, ti23), (24, ti24), (25, ti25), (26, ti26), (28, ti28), (29, ti29), (31, ti31), (33, ti33), (35, ti35), (37, ti37), (40, ti40), (41, ti41), (52, ti52), (58, ti58), (60, ti60), (62, ti62), (63, ti63), (65, ti65), (66, ti66), (81, ti81), (82, ti82), (84, ti84), (92, ti92), (100, ti100), (102, ti102), (103, ti103), (106, ti106), (108, ti108), (109, ti109), (111, ti111), (114, ti114), (118, ti118), (119, ti119), (123, ti123), (130, ti130), (136, ti136), (141, ti141), (146, ti146), (148, ti148), (157, ti157), (160, ti160), (166, ti166), (168, ti168), (170, ti170), (172, ti172), (175, ti175), (180, ti180), (182, ti182)]
theorem ttOk : TOk Tryz.prog tt := TOk.of ⟨ti0Ok, ti1Ok, ti3Ok, ti4Ok, ti5Ok, ti23Ok, ti24Ok, ti25Ok, ti26Ok, ti28Ok, ti29Ok, ti31Ok, ti33Ok, ti35Ok, ti37Ok, ti40Ok, ti41Ok, ti52Ok, ti58Ok, ti60Ok, ti62Ok, ti63Ok, ti65Ok, ti66Ok, ti81Ok, ti82Ok, ti84Ok, ti92Ok, ti100Ok, ti102Ok, ti103Ok, ti106Ok, ti108Ok, ti109Ok, ti111Ok, ti114Ok, ti118Ok, ti119Ok, ti123Ok, ti130Ok, ti136Ok, ti141Ok, ti146Ok, ti148Ok, ti157Ok, ti160Ok, ti166Ok, ti168Ok, ti170Ok, ti172Ok, ti175Ok, ti180Ok, ti182Ok, trivial⟩
theorem mixed : Tryz.prog.follows .mixedOrders = true := by kernel_rfl
end Go.Sh
