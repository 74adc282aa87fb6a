/-
  No cell of these rows narrows 'for every input' (looked for: loops, veiled, ifaces, maps, wideKeys, modest, calm, conditions, laid).
  DERIVED. THE GIVEN ROWS OF THIS SEAT. 17 by the template 'for every input the law returns true; each argument reads behind the call as it read before'; 0 by the template 'total and deterministic' (their statements: YtannakicfkjhbaaTotals.lean).
  GIVEN WITH THE SEED: the statements are not yours to turn. If you find one false, say at which input.
  Laid BY PROGRAM, IN A SANDBOX (cutbox-rows.mjs): the forced cells as the released guide's own fill.sh prints them over the translation 9fa79dd74830d8bc… (all of the seat's roots in one cut). By AI agents, Wed Nov 11 2026. No macro, syntax, notation, axiom, sorry.
-/
import Derived.Test.YtannakicfkjhbaaChecked
import GoSem.Claim
import GoSem.ClaimJoined
import GoSem.ClaimMapViews
import Derived.JoinedTies
import Derived.KernelRfl
namespace Go.Proofs.Ytannakicfkjhbaa
/- THE CELL 'sum', in the pinned program and in every row, IS THE sha256 OF THE DUMP (.gsa) THAT YtannakicfkjhbaaProg.lean LOADS. Nothing in Lean hashes anything: it is a label: what it is worth is what the hold of that sum in a sandbox is worth. -/
noncomputable def Try.pinned : Pinned := { name := "ytannakicfkjhbaa", sum := "9fa79dd74830d8bc13d2afb11a9528a0ca9071e413c4ad50adfece7e33975c12", checked := Try.checked }
namespace Rows
def none {H : Type} : Left H := { results := [], args := [] }

/-- 'hailerlaw06.FieldTells': WHATEVER THE INPUT: true; the input reads as it did. -/
def fieldTellsSpec : ChangeSpec := { name := "fieldTells", fn := fun _ => fun
  | [d1, d2, d3] => { results := [.lit (.bool true)], args := [d1, d2, d3] }
  | _ => none }
def fieldTellsRow : OpenClaim := { program := "ytannakicfkjhbaa", sum := "9fa79dd74830d8bc13d2afb11a9528a0ca9071e413c4ad50adfece7e33975c12", func := "hailer/hailerlaw06.FieldTells", spec := "fieldTells", inPlace := ["math/bits.Add64"], unfollowed := true, recurses := true, apart := false }
def FieldTellsSaid : Prop := fieldTellsRow.holds Try.pinned (OpenSpec.ofChange fieldTellsSpec)

/-- ITS FALSE NEIGHBOUR: 'it returns false'. Refute it at one input. -/
def fieldTellsWrong : ChangeSpec := { name := "fieldTells", fn := fun _ => fun
  | [d1, d2, d3] => { results := [.lit (.bool false)], args := [d1, d2, d3] }
  | _ => none }
def FieldTellsWrongFalsely : Prop := fieldTellsRow.holds Try.pinned (OpenSpec.ofChange fieldTellsWrong)

/-- 'hailerlaw06.FieldPlays': WHATEVER THE INPUT: true; the input reads as it did. -/
def fieldPlaysSpec : ChangeSpec := { name := "fieldPlays", fn := fun _ => fun
  | [d1, d2] => { results := [.lit (.bool true)], args := [d1, d2] }
  | _ => none }
def fieldPlaysRow : OpenClaim := { program := "ytannakicfkjhbaa", sum := "9fa79dd74830d8bc13d2afb11a9528a0ca9071e413c4ad50adfece7e33975c12", func := "hailer/hailerlaw06.FieldPlays", spec := "fieldPlays", inPlace := ["math/bits.Add64"], unfollowed := true, recurses := true, apart := false }
def FieldPlaysSaid : Prop := fieldPlaysRow.holds Try.pinned (OpenSpec.ofChange fieldPlaysSpec)

/-- ITS FALSE NEIGHBOUR: 'it returns false'. Refute it at one input. -/
def fieldPlaysWrong : ChangeSpec := { name := "fieldPlays", fn := fun _ => fun
  | [d1, d2] => { results := [.lit (.bool false)], args := [d1, d2] }
  | _ => none }
def FieldPlaysWrongFalsely : Prop := fieldPlaysRow.holds Try.pinned (OpenSpec.ofChange fieldPlaysWrong)

/-- 'hailerlaw06.FieldLaws': WHATEVER THE INPUT: true; the input reads as it did. -/
def fieldLawsSpec : ChangeSpec := { name := "fieldLaws", fn := fun _ => fun
  | [d1, d2, d3] => { results := [.lit (.bool true)], args := [d1, d2, d3] }
  | _ => none }
def fieldLawsRow : OpenClaim := { program := "ytannakicfkjhbaa", sum := "9fa79dd74830d8bc13d2afb11a9528a0ca9071e413c4ad50adfece7e33975c12", func := "hailer/hailerlaw06.FieldLaws", spec := "fieldLaws", inPlace := ["math/bits.Add64"], unfollowed := true, recurses := true, apart := false }
def FieldLawsSaid : Prop := fieldLawsRow.holds Try.pinned (OpenSpec.ofChange fieldLawsSpec)

/-- ITS FALSE NEIGHBOUR: 'it returns false'. Refute it at one input. -/
def fieldLawsWrong : ChangeSpec := { name := "fieldLaws", fn := fun _ => fun
  | [d1, d2, d3] => { results := [.lit (.bool false)], args := [d1, d2, d3] }
  | _ => none }
def FieldLawsWrongFalsely : Prop := fieldLawsRow.holds Try.pinned (OpenSpec.ofChange fieldLawsWrong)

/-- 'hailerlaw06.FieldSwaps': WHATEVER THE INPUT: true; the input reads as it did. -/
def fieldSwapsSpec : ChangeSpec := { name := "fieldSwaps", fn := fun _ => fun
  | [d1, d2, d3] => { results := [.lit (.bool true)], args := [d1, d2, d3] }
  | _ => none }
def fieldSwapsRow : OpenClaim := { program := "ytannakicfkjhbaa", sum := "9fa79dd74830d8bc13d2afb11a9528a0ca9071e413c4ad50adfece7e33975c12", func := "hailer/hailerlaw06.FieldSwaps", spec := "fieldSwaps", inPlace := ["math/bits.Add64"], unfollowed := true, recurses := true, apart := false }
def FieldSwapsSaid : Prop := fieldSwapsRow.holds Try.pinned (OpenSpec.ofChange fieldSwapsSpec)

/-- ITS FALSE NEIGHBOUR: 'it returns false'. Refute it at one input. -/
def fieldSwapsWrong : ChangeSpec := { name := "fieldSwaps", fn := fun _ => fun
  | [d1, d2, d3] => { results := [.lit (.bool false)], args := [d1, d2, d3] }
  | _ => none }
def FieldSwapsWrongFalsely : Prop := fieldSwapsRow.holds Try.pinned (OpenSpec.ofChange fieldSwapsWrong)

/-- 'hailerlaw07.CurveTells': WHATEVER THE INPUT: true; the input reads as it did. -/
def curveTellsSpec : ChangeSpec := { name := "curveTells", fn := fun _ => fun
  | [d1, d2] => { results := [.lit (.bool true)], args := [d1, d2] }
  | _ => none }
def curveTellsRow : OpenClaim := { program := "ytannakicfkjhbaa", sum := "9fa79dd74830d8bc13d2afb11a9528a0ca9071e413c4ad50adfece7e33975c12", func := "hailer/hailerlaw07.CurveTells", spec := "curveTells", inPlace := ["math/bits.Add64"], unfollowed := true, recurses := true, apart := false }
def CurveTellsSaid : Prop := curveTellsRow.holds Try.pinned (OpenSpec.ofChange curveTellsSpec)

/-- ITS FALSE NEIGHBOUR: 'it returns false'. Refute it at one input. -/
def curveTellsWrong : ChangeSpec := { name := "curveTells", fn := fun _ => fun
  | [d1, d2] => { results := [.lit (.bool false)], args := [d1, d2] }
  | _ => none }
def CurveTellsWrongFalsely : Prop := curveTellsRow.holds Try.pinned (OpenSpec.ofChange curveTellsWrong)

/-- 'hailerlaw07.CurveSame': WHATEVER THE INPUT: true; the input reads as it did. -/
def curveSameSpec : ChangeSpec := { name := "curveSame", fn := fun _ => fun
  | [d1, d2, d3, d4] => { results := [.lit (.bool true)], args := [d1, d2, d3, d4] }
  | _ => none }
def curveSameRow : OpenClaim := { program := "ytannakicfkjhbaa", sum := "9fa79dd74830d8bc13d2afb11a9528a0ca9071e413c4ad50adfece7e33975c12", func := "hailer/hailerlaw07.CurveSame", spec := "curveSame", inPlace := ["math/bits.Add64"], unfollowed := true, recurses := true, apart := false }
def CurveSameSaid : Prop := curveSameRow.holds Try.pinned (OpenSpec.ofChange curveSameSpec)

/-- ITS FALSE NEIGHBOUR: 'it returns false'. Refute it at one input. -/
def curveSameWrong : ChangeSpec := { name := "curveSame", fn := fun _ => fun
  | [d1, d2, d3, d4] => { results := [.lit (.bool false)], args := [d1, d2, d3, d4] }
  | _ => none }
def CurveSameWrongFalsely : Prop := curveSameRow.holds Try.pinned (OpenSpec.ofChange curveSameWrong)

/-- 'hailerlaw02.MacTells': WHATEVER THE INPUT: true; the input reads as it did. -/
def macTellsSpec : ChangeSpec := { name := "macTells", fn := fun _ => fun
  | [d1, d2, d3] => { results := [.lit (.bool true)], args := [d1, d2, d3] }
  | _ => none }
def macTellsRow : OpenClaim := { program := "ytannakicfkjhbaa", sum := "9fa79dd74830d8bc13d2afb11a9528a0ca9071e413c4ad50adfece7e33975c12", func := "hailer/hailerlaw02.MacTells", spec := "macTells", inPlace := ["internal/bytealg.MakeNoZero"], apart := false }
def MacTellsSaid : Prop := macTellsRow.holds Try.pinned (OpenSpec.ofChange macTellsSpec)

/-- ITS FALSE NEIGHBOUR: 'it returns false'. Refute it at one input. -/
def macTellsWrong : ChangeSpec := { name := "macTells", fn := fun _ => fun
  | [d1, d2, d3] => { results := [.lit (.bool false)], args := [d1, d2, d3] }
  | _ => none }
def MacTellsWrongFalsely : Prop := macTellsRow.holds Try.pinned (OpenSpec.ofChange macTellsWrong)

/-- 'hailerlaw02.MacExpands': WHATEVER THE INPUT: true; the input reads as it did. -/
def macExpandsSpec : ChangeSpec := { name := "macExpands", fn := fun _ => fun
  | [d1, d2, d3, d4] => { results := [.lit (.bool true)], args := [d1, d2, d3, d4] }
  | _ => none }
def macExpandsRow : OpenClaim := { program := "ytannakicfkjhbaa", sum := "9fa79dd74830d8bc13d2afb11a9528a0ca9071e413c4ad50adfece7e33975c12", func := "hailer/hailerlaw02.MacExpands", spec := "macExpands", inPlace := ["internal/bytealg.MakeNoZero"], apart := false }
def MacExpandsSaid : Prop := macExpandsRow.holds Try.pinned (OpenSpec.ofChange macExpandsSpec)

/-- ITS FALSE NEIGHBOUR: 'it returns false'. Refute it at one input. -/
def macExpandsWrong : ChangeSpec := { name := "macExpands", fn := fun _ => fun
  | [d1, d2, d3, d4] => { results := [.lit (.bool false)], args := [d1, d2, d3, d4] }
  | _ => none }
def MacExpandsWrongFalsely : Prop := macExpandsRow.holds Try.pinned (OpenSpec.ofChange macExpandsWrong)

/-- 'hailerlaw02.MacFirst': WHATEVER THE INPUT: true; the input reads as it did. -/
def macFirstSpec : ChangeSpec := { name := "macFirst", fn := fun _ => fun
  | [d1, d2, d3, d4, d5, d6] => { results := [.lit (.bool true)], args := [d1, d2, d3, d4, d5, d6] }
  | _ => none }
def macFirstRow : OpenClaim := { program := "ytannakicfkjhbaa", sum := "9fa79dd74830d8bc13d2afb11a9528a0ca9071e413c4ad50adfece7e33975c12", func := "hailer/hailerlaw02.MacFirst", spec := "macFirst", inPlace := ["internal/bytealg.MakeNoZero"], apart := false }
def MacFirstSaid : Prop := macFirstRow.holds Try.pinned (OpenSpec.ofChange macFirstSpec)

/-- ITS FALSE NEIGHBOUR: 'it returns false'. Refute it at one input. -/
def macFirstWrong : ChangeSpec := { name := "macFirst", fn := fun _ => fun
  | [d1, d2, d3, d4, d5, d6] => { results := [.lit (.bool false)], args := [d1, d2, d3, d4, d5, d6] }
  | _ => none }
def MacFirstWrongFalsely : Prop := macFirstRow.holds Try.pinned (OpenSpec.ofChange macFirstWrong)

/-- 'hailerlaw02.MacSame': WHATEVER THE INPUT: true; the input reads as it did. -/
def macSameSpec : ChangeSpec := { name := "macSame", fn := fun _ => fun
  | [d1, d2] => { results := [.lit (.bool true)], args := [d1, d2] }
  | _ => none }
def macSameRow : OpenClaim := { program := "ytannakicfkjhbaa", sum := "9fa79dd74830d8bc13d2afb11a9528a0ca9071e413c4ad50adfece7e33975c12", func := "hailer/hailerlaw02.MacSame", spec := "macSame", inPlace := ["internal/bytealg.MakeNoZero"], apart := false }
def MacSameSaid : Prop := macSameRow.holds Try.pinned (OpenSpec.ofChange macSameSpec)

/-- ITS FALSE NEIGHBOUR: 'it returns false'. Refute it at one input. -/
def macSameWrong : ChangeSpec := { name := "macSame", fn := fun _ => fun
  | [d1, d2] => { results := [.lit (.bool false)], args := [d1, d2] }
  | _ => none }
def MacSameWrongFalsely : Prop := macSameRow.holds Try.pinned (OpenSpec.ofChange macSameWrong)

/-- 'hailerlaw17.ChainKnown': WHATEVER THE INPUT: true; the input reads as it did. -/
def chainKnownSpec : ChangeSpec := { name := "chainKnown", fn := fun _ => fun
  | [] => { results := [.lit (.bool true)], args := [] }
  | _ => none }
def chainKnownRow : OpenClaim := { program := "ytannakicfkjhbaa", sum := "9fa79dd74830d8bc13d2afb11a9528a0ca9071e413c4ad50adfece7e33975c12", func := "hailer/hailerlaw17.ChainKnown", spec := "chainKnown", inPlace := ["internal/bytealg.MakeNoZero"], unfollowed := true, recurses := true, apart := false }
def ChainKnownSaid : Prop := chainKnownRow.holds Try.pinned (OpenSpec.ofChange chainKnownSpec)

/-- ITS FALSE NEIGHBOUR: 'it returns false'. Refute it at one input. -/
def chainKnownWrong : ChangeSpec := { name := "chainKnown", fn := fun _ => fun
  | [] => { results := [.lit (.bool false)], args := [] }
  | _ => none }
def ChainKnownWrongFalsely : Prop := chainKnownRow.holds Try.pinned (OpenSpec.ofChange chainKnownWrong)

/-- 'hailerlaw17.ChainSteps': WHATEVER THE INPUT: true; the input reads as it did. -/
def chainStepsSpec : ChangeSpec := { name := "chainSteps", fn := fun _ => fun
  | [d1, d2, d3] => { results := [.lit (.bool true)], args := [d1, d2, d3] }
  | _ => none }
def chainStepsRow : OpenClaim := { program := "ytannakicfkjhbaa", sum := "9fa79dd74830d8bc13d2afb11a9528a0ca9071e413c4ad50adfece7e33975c12", func := "hailer/hailerlaw17.ChainSteps", spec := "chainSteps", inPlace := ["internal/bytealg.MakeNoZero"], unfollowed := true, recurses := true, apart := false }
def ChainStepsSaid : Prop := chainStepsRow.holds Try.pinned (OpenSpec.ofChange chainStepsSpec)

/-- ITS FALSE NEIGHBOUR: 'it returns false'. Refute it at one input. -/
def chainStepsWrong : ChangeSpec := { name := "chainSteps", fn := fun _ => fun
  | [d1, d2, d3] => { results := [.lit (.bool false)], args := [d1, d2, d3] }
  | _ => none }
def ChainStepsWrongFalsely : Prop := chainStepsRow.holds Try.pinned (OpenSpec.ofChange chainStepsWrong)

/-- 'hailerlaw17.ChainAlike': WHATEVER THE INPUT: true; the input reads as it did. -/
def chainAlikeSpec : ChangeSpec := { name := "chainAlike", fn := fun _ => fun
  | [d1, d2, d3, d4] => { results := [.lit (.bool true)], args := [d1, d2, d3, d4] }
  | _ => none }
def chainAlikeRow : OpenClaim := { program := "ytannakicfkjhbaa", sum := "9fa79dd74830d8bc13d2afb11a9528a0ca9071e413c4ad50adfece7e33975c12", func := "hailer/hailerlaw17.ChainAlike", spec := "chainAlike", inPlace := ["internal/bytealg.MakeNoZero"], unfollowed := true, recurses := true, apart := false }
def ChainAlikeSaid : Prop := chainAlikeRow.holds Try.pinned (OpenSpec.ofChange chainAlikeSpec)

/-- ITS FALSE NEIGHBOUR: 'it returns false'. Refute it at one input. -/
def chainAlikeWrong : ChangeSpec := { name := "chainAlike", fn := fun _ => fun
  | [d1, d2, d3, d4] => { results := [.lit (.bool false)], args := [d1, d2, d3, d4] }
  | _ => none }
def ChainAlikeWrongFalsely : Prop := chainAlikeRow.holds Try.pinned (OpenSpec.ofChange chainAlikeWrong)

/-- 'hailerlaw17.ChainRoots': WHATEVER THE INPUT: true; the input reads as it did. -/
def chainRootsSpec : ChangeSpec := { name := "chainRoots", fn := fun _ => fun
  | [d1, d2] => { results := [.lit (.bool true)], args := [d1, d2] }
  | _ => none }
def chainRootsRow : OpenClaim := { program := "ytannakicfkjhbaa", sum := "9fa79dd74830d8bc13d2afb11a9528a0ca9071e413c4ad50adfece7e33975c12", func := "hailer/hailerlaw17.ChainRoots", spec := "chainRoots", inPlace := ["internal/bytealg.MakeNoZero"], unfollowed := true, recurses := true, apart := false }
def ChainRootsSaid : Prop := chainRootsRow.holds Try.pinned (OpenSpec.ofChange chainRootsSpec)

/-- ITS FALSE NEIGHBOUR: 'it returns false'. Refute it at one input. -/
def chainRootsWrong : ChangeSpec := { name := "chainRoots", fn := fun _ => fun
  | [d1, d2] => { results := [.lit (.bool false)], args := [d1, d2] }
  | _ => none }
def ChainRootsWrongFalsely : Prop := chainRootsRow.holds Try.pinned (OpenSpec.ofChange chainRootsWrong)

/-- 'hailerlaw13.SuiteTells': WHATEVER THE INPUT: true; the input reads as it did. -/
def suiteTellsSpec : ChangeSpec := { name := "suiteTells", fn := fun _ => fun
  | [d1, d2, d3, d4] => { results := [.lit (.bool true)], args := [d1, d2, d3, d4] }
  | _ => none }
def suiteTellsRow : OpenClaim := { program := "ytannakicfkjhbaa", sum := "9fa79dd74830d8bc13d2afb11a9528a0ca9071e413c4ad50adfece7e33975c12", func := "hailer/hailerlaw13.SuiteTells", spec := "suiteTells", inPlace := ["internal/bytealg.MakeNoZero"], apart := false }
def SuiteTellsSaid : Prop := suiteTellsRow.holds Try.pinned (OpenSpec.ofChange suiteTellsSpec)

/-- ITS FALSE NEIGHBOUR: 'it returns false'. Refute it at one input. -/
def suiteTellsWrong : ChangeSpec := { name := "suiteTells", fn := fun _ => fun
  | [d1, d2, d3, d4] => { results := [.lit (.bool false)], args := [d1, d2, d3, d4] }
  | _ => none }
def SuiteTellsWrongFalsely : Prop := suiteTellsRow.holds Try.pinned (OpenSpec.ofChange suiteTellsWrong)

/-- 'hailerlaw13.SuiteApart': WHATEVER THE INPUT: true; the input reads as it did. -/
def suiteApartSpec : ChangeSpec := { name := "suiteApart", fn := fun _ => fun
  | [d1, d2, d3, d4, d5] => { results := [.lit (.bool true)], args := [d1, d2, d3, d4, d5] }
  | _ => none }
def suiteApartRow : OpenClaim := { program := "ytannakicfkjhbaa", sum := "9fa79dd74830d8bc13d2afb11a9528a0ca9071e413c4ad50adfece7e33975c12", func := "hailer/hailerlaw13.SuiteApart", spec := "suiteApart", inPlace := ["internal/bytealg.MakeNoZero"], apart := false }
def SuiteApartSaid : Prop := suiteApartRow.holds Try.pinned (OpenSpec.ofChange suiteApartSpec)

/-- ITS FALSE NEIGHBOUR: 'it returns false'. Refute it at one input. -/
def suiteApartWrong : ChangeSpec := { name := "suiteApart", fn := fun _ => fun
  | [d1, d2, d3, d4, d5] => { results := [.lit (.bool false)], args := [d1, d2, d3, d4, d5] }
  | _ => none }
def SuiteApartWrongFalsely : Prop := suiteApartRow.holds Try.pinned (OpenSpec.ofChange suiteApartWrong)

/-- 'hailerlaw18.SetupKnown': WHATEVER THE INPUT: true; the input reads as it did. -/
def setupKnownSpec : ChangeSpec := { name := "setupKnown", fn := fun _ => fun
  | [] => { results := [.lit (.bool true)], args := [] }
  | _ => none }
def setupKnownRow : OpenClaim := { program := "ytannakicfkjhbaa", sum := "9fa79dd74830d8bc13d2afb11a9528a0ca9071e413c4ad50adfece7e33975c12", func := "hailer/hailerlaw18.SetupKnown", spec := "setupKnown", inPlace := ["math/bits.Add64", "internal/bytealg.MakeNoZero"], unfollowed := true, recurses := true, apart := false }
def SetupKnownSaid : Prop := setupKnownRow.holds Try.pinned (OpenSpec.ofChange setupKnownSpec)

/-- ITS FALSE NEIGHBOUR: 'it returns false'. Refute it at one input. -/
def setupKnownWrong : ChangeSpec := { name := "setupKnown", fn := fun _ => fun
  | [] => { results := [.lit (.bool false)], args := [] }
  | _ => none }
def SetupKnownWrongFalsely : Prop := setupKnownRow.holds Try.pinned (OpenSpec.ofChange setupKnownWrong)

/- THE SECOND FORM. 'bulk': how many values and letters a reading holds, each counted each time it is reached (what is shared counts as often as it is met; a slice's spare places count too). A statement '..UptoSaid' is the law's where the arguments, and the package variables that the reading takes, are together of bulk at most 1048576: NARROWER than '..Said'. Prove '..Said' where nothing that the law and all that it calls make is longer than what came in: it says more and counts as full. Else prove '..UptoSaid'. A law counts once. -/
mutual
def uptoBulk {H : Type} : DataW H → Nat
  | .lit (.string bytes) => bytes.length + 1
  | .lit _ => 1
  | .nil => 1
  | .ptr d => uptoBulk d + 1
  | .slice elems spare => uptoBulkAll elems + uptoBulkAll spare + 1
  | .agg parts => uptoBulkAll parts + 1
  | .iface _ d => uptoBulk d + 1
  | .map entries => uptoBulkEntries entries + 1
  | .held _ => 1
def uptoBulkAll {H : Type} : List (DataW H) → Nat
  | [] => 0
  | d :: r => uptoBulk d + uptoBulkAll r
def uptoBulkEntries {H : Type} : List (Lit × DataW H) → Nat
  | [] => 0
  | x :: r => uptoBulkEntry x + uptoBulkEntries r
def uptoBulkEntry {H : Type} : Lit × DataW H → Nat
  | (.string bytes, d) => bytes.length + uptoBulk d + 1
  | (_, d) => uptoBulk d + 1
 end
def uptoSmall : (H : Type) → List (DataW H) → Bool := fun _ ds => decide (uptoBulkAll ds ≤ 1048576)
def OpenSpec.upto (s : _root_.Go.ChangeSpec) : _root_.Go.OpenSpec := { _root_.Go.OpenSpec.ofChange s with cond := some uptoSmall }

/-- 'hailerlaw06.FieldTells', WHERE WHAT IT READS IS OF BULK AT MOST 1048576: true; the input reads as it did. -/
def fieldTellsUptoRow : OpenClaim := { program := "ytannakicfkjhbaa", sum := "9fa79dd74830d8bc13d2afb11a9528a0ca9071e413c4ad50adfece7e33975c12", func := "hailer/hailerlaw06.FieldTells", spec := "fieldTells", inPlace := ["math/bits.Add64"], unfollowed := true, recurses := true, apart := false, narrowed := true }
def FieldTellsUptoSaid : Prop := fieldTellsUptoRow.holds Try.pinned (OpenSpec.upto fieldTellsSpec)

/-- 'hailerlaw06.FieldPlays', WHERE WHAT IT READS IS OF BULK AT MOST 1048576: true; the input reads as it did. -/
def fieldPlaysUptoRow : OpenClaim := { program := "ytannakicfkjhbaa", sum := "9fa79dd74830d8bc13d2afb11a9528a0ca9071e413c4ad50adfece7e33975c12", func := "hailer/hailerlaw06.FieldPlays", spec := "fieldPlays", inPlace := ["math/bits.Add64"], unfollowed := true, recurses := true, apart := false, narrowed := true }
def FieldPlaysUptoSaid : Prop := fieldPlaysUptoRow.holds Try.pinned (OpenSpec.upto fieldPlaysSpec)

/-- 'hailerlaw06.FieldLaws', WHERE WHAT IT READS IS OF BULK AT MOST 1048576: true; the input reads as it did. -/
def fieldLawsUptoRow : OpenClaim := { program := "ytannakicfkjhbaa", sum := "9fa79dd74830d8bc13d2afb11a9528a0ca9071e413c4ad50adfece7e33975c12", func := "hailer/hailerlaw06.FieldLaws", spec := "fieldLaws", inPlace := ["math/bits.Add64"], unfollowed := true, recurses := true, apart := false, narrowed := true }
def FieldLawsUptoSaid : Prop := fieldLawsUptoRow.holds Try.pinned (OpenSpec.upto fieldLawsSpec)

/-- 'hailerlaw06.FieldSwaps', WHERE WHAT IT READS IS OF BULK AT MOST 1048576: true; the input reads as it did. -/
def fieldSwapsUptoRow : OpenClaim := { program := "ytannakicfkjhbaa", sum := "9fa79dd74830d8bc13d2afb11a9528a0ca9071e413c4ad50adfece7e33975c12", func := "hailer/hailerlaw06.FieldSwaps", spec := "fieldSwaps", inPlace := ["math/bits.Add64"], unfollowed := true, recurses := true, apart := false, narrowed := true }
def FieldSwapsUptoSaid : Prop := fieldSwapsUptoRow.holds Try.pinned (OpenSpec.upto fieldSwapsSpec)

/-- 'hailerlaw07.CurveTells', WHERE WHAT IT READS IS OF BULK AT MOST 1048576: true; the input reads as it did. -/
def curveTellsUptoRow : OpenClaim := { program := "ytannakicfkjhbaa", sum := "9fa79dd74830d8bc13d2afb11a9528a0ca9071e413c4ad50adfece7e33975c12", func := "hailer/hailerlaw07.CurveTells", spec := "curveTells", inPlace := ["math/bits.Add64"], unfollowed := true, recurses := true, apart := false, narrowed := true }
def CurveTellsUptoSaid : Prop := curveTellsUptoRow.holds Try.pinned (OpenSpec.upto curveTellsSpec)

/-- 'hailerlaw07.CurveSame', WHERE WHAT IT READS IS OF BULK AT MOST 1048576: true; the input reads as it did. -/
def curveSameUptoRow : OpenClaim := { program := "ytannakicfkjhbaa", sum := "9fa79dd74830d8bc13d2afb11a9528a0ca9071e413c4ad50adfece7e33975c12", func := "hailer/hailerlaw07.CurveSame", spec := "curveSame", inPlace := ["math/bits.Add64"], unfollowed := true, recurses := true, apart := false, narrowed := true }
def CurveSameUptoSaid : Prop := curveSameUptoRow.holds Try.pinned (OpenSpec.upto curveSameSpec)

/-- 'hailerlaw02.MacTells', WHERE WHAT IT READS IS OF BULK AT MOST 1048576: true; the input reads as it did. -/
def macTellsUptoRow : OpenClaim := { program := "ytannakicfkjhbaa", sum := "9fa79dd74830d8bc13d2afb11a9528a0ca9071e413c4ad50adfece7e33975c12", func := "hailer/hailerlaw02.MacTells", spec := "macTells", inPlace := ["internal/bytealg.MakeNoZero"], apart := false, narrowed := true }
def MacTellsUptoSaid : Prop := macTellsUptoRow.holds Try.pinned (OpenSpec.upto macTellsSpec)

/-- 'hailerlaw02.MacExpands', WHERE WHAT IT READS IS OF BULK AT MOST 1048576: true; the input reads as it did. -/
def macExpandsUptoRow : OpenClaim := { program := "ytannakicfkjhbaa", sum := "9fa79dd74830d8bc13d2afb11a9528a0ca9071e413c4ad50adfece7e33975c12", func := "hailer/hailerlaw02.MacExpands", spec := "macExpands", inPlace := ["internal/bytealg.MakeNoZero"], apart := false, narrowed := true }
def MacExpandsUptoSaid : Prop := macExpandsUptoRow.holds Try.pinned (OpenSpec.upto macExpandsSpec)

/-- 'hailerlaw02.MacFirst', WHERE WHAT IT READS IS OF BULK AT MOST 1048576: true; the input reads as it did. -/
def macFirstUptoRow : OpenClaim := { program := "ytannakicfkjhbaa", sum := "9fa79dd74830d8bc13d2afb11a9528a0ca9071e413c4ad50adfece7e33975c12", func := "hailer/hailerlaw02.MacFirst", spec := "macFirst", inPlace := ["internal/bytealg.MakeNoZero"], apart := false, narrowed := true }
def MacFirstUptoSaid : Prop := macFirstUptoRow.holds Try.pinned (OpenSpec.upto macFirstSpec)

/-- 'hailerlaw02.MacSame', WHERE WHAT IT READS IS OF BULK AT MOST 1048576: true; the input reads as it did. -/
def macSameUptoRow : OpenClaim := { program := "ytannakicfkjhbaa", sum := "9fa79dd74830d8bc13d2afb11a9528a0ca9071e413c4ad50adfece7e33975c12", func := "hailer/hailerlaw02.MacSame", spec := "macSame", inPlace := ["internal/bytealg.MakeNoZero"], apart := false, narrowed := true }
def MacSameUptoSaid : Prop := macSameUptoRow.holds Try.pinned (OpenSpec.upto macSameSpec)

/-- 'hailerlaw17.ChainKnown', WHERE WHAT IT READS IS OF BULK AT MOST 1048576: true; the input reads as it did. -/
def chainKnownUptoRow : OpenClaim := { program := "ytannakicfkjhbaa", sum := "9fa79dd74830d8bc13d2afb11a9528a0ca9071e413c4ad50adfece7e33975c12", func := "hailer/hailerlaw17.ChainKnown", spec := "chainKnown", inPlace := ["internal/bytealg.MakeNoZero"], unfollowed := true, recurses := true, apart := false, narrowed := true }
def ChainKnownUptoSaid : Prop := chainKnownUptoRow.holds Try.pinned (OpenSpec.upto chainKnownSpec)

/-- 'hailerlaw17.ChainSteps', WHERE WHAT IT READS IS OF BULK AT MOST 1048576: true; the input reads as it did. -/
def chainStepsUptoRow : OpenClaim := { program := "ytannakicfkjhbaa", sum := "9fa79dd74830d8bc13d2afb11a9528a0ca9071e413c4ad50adfece7e33975c12", func := "hailer/hailerlaw17.ChainSteps", spec := "chainSteps", inPlace := ["internal/bytealg.MakeNoZero"], unfollowed := true, recurses := true, apart := false, narrowed := true }
def ChainStepsUptoSaid : Prop := chainStepsUptoRow.holds Try.pinned (OpenSpec.upto chainStepsSpec)

/-- 'hailerlaw17.ChainAlike', WHERE WHAT IT READS IS OF BULK AT MOST 1048576: true; the input reads as it did. -/
def chainAlikeUptoRow : OpenClaim := { program := "ytannakicfkjhbaa", sum := "9fa79dd74830d8bc13d2afb11a9528a0ca9071e413c4ad50adfece7e33975c12", func := "hailer/hailerlaw17.ChainAlike", spec := "chainAlike", inPlace := ["internal/bytealg.MakeNoZero"], unfollowed := true, recurses := true, apart := false, narrowed := true }
def ChainAlikeUptoSaid : Prop := chainAlikeUptoRow.holds Try.pinned (OpenSpec.upto chainAlikeSpec)

/-- 'hailerlaw17.ChainRoots', WHERE WHAT IT READS IS OF BULK AT MOST 1048576: true; the input reads as it did. -/
def chainRootsUptoRow : OpenClaim := { program := "ytannakicfkjhbaa", sum := "9fa79dd74830d8bc13d2afb11a9528a0ca9071e413c4ad50adfece7e33975c12", func := "hailer/hailerlaw17.ChainRoots", spec := "chainRoots", inPlace := ["internal/bytealg.MakeNoZero"], unfollowed := true, recurses := true, apart := false, narrowed := true }
def ChainRootsUptoSaid : Prop := chainRootsUptoRow.holds Try.pinned (OpenSpec.upto chainRootsSpec)

/-- 'hailerlaw13.SuiteTells', WHERE WHAT IT READS IS OF BULK AT MOST 1048576: true; the input reads as it did. -/
def suiteTellsUptoRow : OpenClaim := { program := "ytannakicfkjhbaa", sum := "9fa79dd74830d8bc13d2afb11a9528a0ca9071e413c4ad50adfece7e33975c12", func := "hailer/hailerlaw13.SuiteTells", spec := "suiteTells", inPlace := ["internal/bytealg.MakeNoZero"], apart := false, narrowed := true }
def SuiteTellsUptoSaid : Prop := suiteTellsUptoRow.holds Try.pinned (OpenSpec.upto suiteTellsSpec)

/-- 'hailerlaw13.SuiteApart', WHERE WHAT IT READS IS OF BULK AT MOST 1048576: true; the input reads as it did. -/
def suiteApartUptoRow : OpenClaim := { program := "ytannakicfkjhbaa", sum := "9fa79dd74830d8bc13d2afb11a9528a0ca9071e413c4ad50adfece7e33975c12", func := "hailer/hailerlaw13.SuiteApart", spec := "suiteApart", inPlace := ["internal/bytealg.MakeNoZero"], apart := false, narrowed := true }
def SuiteApartUptoSaid : Prop := suiteApartUptoRow.holds Try.pinned (OpenSpec.upto suiteApartSpec)

/-- 'hailerlaw18.SetupKnown', WHERE WHAT IT READS IS OF BULK AT MOST 1048576: true; the input reads as it did. -/
def setupKnownUptoRow : OpenClaim := { program := "ytannakicfkjhbaa", sum := "9fa79dd74830d8bc13d2afb11a9528a0ca9071e413c4ad50adfece7e33975c12", func := "hailer/hailerlaw18.SetupKnown", spec := "setupKnown", inPlace := ["math/bits.Add64", "internal/bytealg.MakeNoZero"], unfollowed := true, recurses := true, apart := false, narrowed := true }
def SetupKnownUptoSaid : Prop := setupKnownUptoRow.holds Try.pinned (OpenSpec.upto setupKnownSpec)

end Rows
end Go.Proofs.Ytannakicfkjhbaa
