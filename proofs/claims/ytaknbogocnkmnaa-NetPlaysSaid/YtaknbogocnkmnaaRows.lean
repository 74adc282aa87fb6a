/-
  No cell of these rows narrows 'for every input' (looked for: loops, veiled, ifaces, maps, wideKeys, modest, calm, conditions, laid).
  DERIVED. THE GIVEN ROWS OF THIS SEAT. 12 by the template 'for every input the law returns true; each argument reads behind the call as it read before'; 0 by the template 'total and deterministic' (their statements: YtaknbogocnkmnaaTotals.lean).
  GIVEN WITH THE SEED: the statements are not yours to turn. If you find one false, say at which input.
  Laid BY PROGRAM, IN A SANDBOX (cutbox-rows.mjs): the forced cells as the released guide's own fill.sh prints them over the translation 93c98e4c8c2867c6… (all of the seat's roots in one cut). By AI agents, Wed Nov 11 2026. No macro, syntax, notation, axiom, sorry.
-/
import Derived.Test.YtaknbogocnkmnaaChecked
import GoSem.Claim
import GoSem.ClaimJoined
import GoSem.ClaimMapViews
import Derived.JoinedTies
import Derived.KernelRfl
namespace Go.Proofs.Ytaknbogocnkmnaa
/- THE CELL 'sum', in the pinned program and in every row, IS THE sha256 OF THE DUMP (.gsa) THAT YtaknbogocnkmnaaProg.lean LOADS. Nothing in Lean hashes anything: it is a label: what it is worth is what the hold of that sum in a sandbox is worth. -/
noncomputable def Try.pinned : Pinned := { name := "ytaknbogocnkmnaa", sum := "93c98e4c8c2867c60ea29a83b4f4c5ae2785cacbe5b2681acc1e3c262adefffd", checked := Try.checked }
namespace Rows
def none {H : Type} : Left H := { results := [], args := [] }

/-- 'hailerlaw12.HeadTells': WHATEVER THE INPUT: true; the input reads as it did. -/
def headTellsSpec : ChangeSpec := { name := "headTells", fn := fun _ => fun
  | [d1, d2] => { results := [.lit (.bool true)], args := [d1, d2] }
  | _ => none }
def headTellsRow : OpenClaim := { program := "ytaknbogocnkmnaa", sum := "93c98e4c8c2867c60ea29a83b4f4c5ae2785cacbe5b2681acc1e3c262adefffd", func := "hailer/hailerlaw12.HeadTells", spec := "headTells", apart := false }
def HeadTellsSaid : Prop := headTellsRow.holds Try.pinned (OpenSpec.ofChange headTellsSpec)

/-- ITS FALSE NEIGHBOUR: 'it returns false'. Refute it at one input. -/
def headTellsWrong : ChangeSpec := { name := "headTells", fn := fun _ => fun
  | [d1, d2] => { results := [.lit (.bool false)], args := [d1, d2] }
  | _ => none }
def HeadTellsWrongFalsely : Prop := headTellsRow.holds Try.pinned (OpenSpec.ofChange headTellsWrong)

/-- 'hailerlaw12.HeadBack': WHATEVER THE INPUT: true; the input reads as it did. -/
def headBackSpec : ChangeSpec := { name := "headBack", fn := fun _ => fun
  | [d1, d2, d3] => { results := [.lit (.bool true)], args := [d1, d2, d3] }
  | _ => none }
def headBackRow : OpenClaim := { program := "ytaknbogocnkmnaa", sum := "93c98e4c8c2867c60ea29a83b4f4c5ae2785cacbe5b2681acc1e3c262adefffd", func := "hailer/hailerlaw12.HeadBack", spec := "headBack", apart := false }
def HeadBackSaid : Prop := headBackRow.holds Try.pinned (OpenSpec.ofChange headBackSpec)

/-- ITS FALSE NEIGHBOUR: 'it returns false'. Refute it at one input. -/
def headBackWrong : ChangeSpec := { name := "headBack", fn := fun _ => fun
  | [d1, d2, d3] => { results := [.lit (.bool false)], args := [d1, d2, d3] }
  | _ => none }
def HeadBackWrongFalsely : Prop := headBackRow.holds Try.pinned (OpenSpec.ofChange headBackWrong)

/-- 'hailerlaw29.NetTurns': WHATEVER THE INPUT: true; the input reads as it did. -/
def netTurnsSpec : ChangeSpec := { name := "netTurns", fn := fun _ => fun
  | [d1, d2, d3] => { results := [.lit (.bool true)], args := [d1, d2, d3] }
  | _ => none }
def netTurnsRow : OpenClaim := { program := "ytaknbogocnkmnaa", sum := "93c98e4c8c2867c60ea29a83b4f4c5ae2785cacbe5b2681acc1e3c262adefffd", func := "hailer/hailerlaw29.NetTurns", spec := "netTurns", apart := false }
def NetTurnsSaid : Prop := netTurnsRow.holds Try.pinned (OpenSpec.ofChange netTurnsSpec)

/-- ITS FALSE NEIGHBOUR: 'it returns false'. Refute it at one input. -/
def netTurnsWrong : ChangeSpec := { name := "netTurns", fn := fun _ => fun
  | [d1, d2, d3] => { results := [.lit (.bool false)], args := [d1, d2, d3] }
  | _ => none }
def NetTurnsWrongFalsely : Prop := netTurnsRow.holds Try.pinned (OpenSpec.ofChange netTurnsWrong)

/-- 'hailerlaw29.NetOnce': WHATEVER THE INPUT: true; the input reads as it did. -/
def netOnceSpec : ChangeSpec := { name := "netOnce", fn := fun _ => fun
  | [d1, d2, d3, d4] => { results := [.lit (.bool true)], args := [d1, d2, d3, d4] }
  | _ => none }
def netOnceRow : OpenClaim := { program := "ytaknbogocnkmnaa", sum := "93c98e4c8c2867c60ea29a83b4f4c5ae2785cacbe5b2681acc1e3c262adefffd", func := "hailer/hailerlaw29.NetOnce", spec := "netOnce", apart := false }
def NetOnceSaid : Prop := netOnceRow.holds Try.pinned (OpenSpec.ofChange netOnceSpec)

/-- ITS FALSE NEIGHBOUR: 'it returns false'. Refute it at one input. -/
def netOnceWrong : ChangeSpec := { name := "netOnce", fn := fun _ => fun
  | [d1, d2, d3, d4] => { results := [.lit (.bool false)], args := [d1, d2, d3, d4] }
  | _ => none }
def NetOnceWrongFalsely : Prop := netOnceRow.holds Try.pinned (OpenSpec.ofChange netOnceWrong)

/-- 'hailerlaw29.NetPlays': WHATEVER THE INPUT: true; the input reads as it did. -/
def netPlaysSpec : ChangeSpec := { name := "netPlays", fn := fun _ => fun
  | [d1, d2] => { results := [.lit (.bool true)], args := [d1, d2] }
  | _ => none }
def netPlaysRow : OpenClaim := { program := "ytaknbogocnkmnaa", sum := "93c98e4c8c2867c60ea29a83b4f4c5ae2785cacbe5b2681acc1e3c262adefffd", func := "hailer/hailerlaw29.NetPlays", spec := "netPlays", unfollowed := true, recurses := true, apart := false }
def NetPlaysSaid : Prop := netPlaysRow.holds Try.pinned (OpenSpec.ofChange netPlaysSpec)

/-- ITS FALSE NEIGHBOUR: 'it returns false'. Refute it at one input. -/
def netPlaysWrong : ChangeSpec := { name := "netPlays", fn := fun _ => fun
  | [d1, d2] => { results := [.lit (.bool false)], args := [d1, d2] }
  | _ => none }
def NetPlaysWrongFalsely : Prop := netPlaysRow.holds Try.pinned (OpenSpec.ofChange netPlaysWrong)

/-- 'hailerlaw29.NetKnown': WHATEVER THE INPUT: true; the input reads as it did. -/
def netKnownSpec : ChangeSpec := { name := "netKnown", fn := fun _ => fun
  | [] => { results := [.lit (.bool true)], args := [] }
  | _ => none }
def netKnownRow : OpenClaim := { program := "ytaknbogocnkmnaa", sum := "93c98e4c8c2867c60ea29a83b4f4c5ae2785cacbe5b2681acc1e3c262adefffd", func := "hailer/hailerlaw29.NetKnown", spec := "netKnown", unfollowed := true, recurses := true, apart := false }
def NetKnownSaid : Prop := netKnownRow.holds Try.pinned (OpenSpec.ofChange netKnownSpec)

/-- ITS FALSE NEIGHBOUR: 'it returns false'. Refute it at one input. -/
def netKnownWrong : ChangeSpec := { name := "netKnown", fn := fun _ => fun
  | [] => { results := [.lit (.bool false)], args := [] }
  | _ => none }
def NetKnownWrongFalsely : Prop := netKnownRow.holds Try.pinned (OpenSpec.ofChange netKnownWrong)

/-- 'hailerlaw03.AesSeals': WHATEVER THE INPUT: true; the input reads as it did. -/
def aesSealsSpec : ChangeSpec := { name := "aesSeals", fn := fun _ => fun
  | [d1, d2, d3] => { results := [.lit (.bool true)], args := [d1, d2, d3] }
  | _ => none }
def aesSealsRow : OpenClaim := { program := "ytaknbogocnkmnaa", sum := "93c98e4c8c2867c60ea29a83b4f4c5ae2785cacbe5b2681acc1e3c262adefffd", func := "hailer/hailerlaw03.AesSeals", spec := "aesSeals", unfollowed := true, recurses := true, apart := false }
def AesSealsSaid : Prop := aesSealsRow.holds Try.pinned (OpenSpec.ofChange aesSealsSpec)

/-- ITS FALSE NEIGHBOUR: 'it returns false'. Refute it at one input. -/
def aesSealsWrong : ChangeSpec := { name := "aesSeals", fn := fun _ => fun
  | [d1, d2, d3] => { results := [.lit (.bool false)], args := [d1, d2, d3] }
  | _ => none }
def AesSealsWrongFalsely : Prop := aesSealsRow.holds Try.pinned (OpenSpec.ofChange aesSealsWrong)

/-- 'hailerlaw03.AesApart': WHATEVER THE INPUT: true; the input reads as it did. -/
def aesApartSpec : ChangeSpec := { name := "aesApart", fn := fun _ => fun
  | [d1, d2, d3, d4, d5, d6] => { results := [.lit (.bool true)], args := [d1, d2, d3, d4, d5, d6] }
  | _ => none }
def aesApartRow : OpenClaim := { program := "ytaknbogocnkmnaa", sum := "93c98e4c8c2867c60ea29a83b4f4c5ae2785cacbe5b2681acc1e3c262adefffd", func := "hailer/hailerlaw03.AesApart", spec := "aesApart", unfollowed := true, recurses := true, apart := false }
def AesApartSaid : Prop := aesApartRow.holds Try.pinned (OpenSpec.ofChange aesApartSpec)

/-- ITS FALSE NEIGHBOUR: 'it returns false'. Refute it at one input. -/
def aesApartWrong : ChangeSpec := { name := "aesApart", fn := fun _ => fun
  | [d1, d2, d3, d4, d5, d6] => { results := [.lit (.bool false)], args := [d1, d2, d3, d4, d5, d6] }
  | _ => none }
def AesApartWrongFalsely : Prop := aesApartRow.holds Try.pinned (OpenSpec.ofChange aesApartWrong)

/-- 'hailerlaw04.CtrTurns': WHATEVER THE INPUT: true; the input reads as it did. -/
def ctrTurnsSpec : ChangeSpec := { name := "ctrTurns", fn := fun _ => fun
  | [d1, d2, d3] => { results := [.lit (.bool true)], args := [d1, d2, d3] }
  | _ => none }
def ctrTurnsRow : OpenClaim := { program := "ytaknbogocnkmnaa", sum := "93c98e4c8c2867c60ea29a83b4f4c5ae2785cacbe5b2681acc1e3c262adefffd", func := "hailer/hailerlaw04.CtrTurns", spec := "ctrTurns", unfollowed := true, recurses := true, apart := false }
def CtrTurnsSaid : Prop := ctrTurnsRow.holds Try.pinned (OpenSpec.ofChange ctrTurnsSpec)

/-- ITS FALSE NEIGHBOUR: 'it returns false'. Refute it at one input. -/
def ctrTurnsWrong : ChangeSpec := { name := "ctrTurns", fn := fun _ => fun
  | [d1, d2, d3] => { results := [.lit (.bool false)], args := [d1, d2, d3] }
  | _ => none }
def CtrTurnsWrongFalsely : Prop := ctrTurnsRow.holds Try.pinned (OpenSpec.ofChange ctrTurnsWrong)

/-- 'hailerlaw04.CtrTwice': WHATEVER THE INPUT: true; the input reads as it did. -/
def ctrTwiceSpec : ChangeSpec := { name := "ctrTwice", fn := fun _ => fun
  | [d1, d2, d3, d4] => { results := [.lit (.bool true)], args := [d1, d2, d3, d4] }
  | _ => none }
def ctrTwiceRow : OpenClaim := { program := "ytaknbogocnkmnaa", sum := "93c98e4c8c2867c60ea29a83b4f4c5ae2785cacbe5b2681acc1e3c262adefffd", func := "hailer/hailerlaw04.CtrTwice", spec := "ctrTwice", unfollowed := true, recurses := true, apart := false }
def CtrTwiceSaid : Prop := ctrTwiceRow.holds Try.pinned (OpenSpec.ofChange ctrTwiceSpec)

/-- ITS FALSE NEIGHBOUR: 'it returns false'. Refute it at one input. -/
def ctrTwiceWrong : ChangeSpec := { name := "ctrTwice", fn := fun _ => fun
  | [d1, d2, d3, d4] => { results := [.lit (.bool false)], args := [d1, d2, d3, d4] }
  | _ => none }
def CtrTwiceWrongFalsely : Prop := ctrTwiceRow.holds Try.pinned (OpenSpec.ofChange ctrTwiceWrong)

/-- 'hailerlaw05.GcmSeals': WHATEVER THE INPUT: true; the input reads as it did. -/
def gcmSealsSpec : ChangeSpec := { name := "gcmSeals", fn := fun _ => fun
  | [d1, d2, d3, d4, d5] => { results := [.lit (.bool true)], args := [d1, d2, d3, d4, d5] }
  | _ => none }
def gcmSealsRow : OpenClaim := { program := "ytaknbogocnkmnaa", sum := "93c98e4c8c2867c60ea29a83b4f4c5ae2785cacbe5b2681acc1e3c262adefffd", func := "hailer/hailerlaw05.GcmSeals", spec := "gcmSeals", unfollowed := true, recurses := true, apart := false }
def GcmSealsSaid : Prop := gcmSealsRow.holds Try.pinned (OpenSpec.ofChange gcmSealsSpec)

/-- ITS FALSE NEIGHBOUR: 'it returns false'. Refute it at one input. -/
def gcmSealsWrong : ChangeSpec := { name := "gcmSeals", fn := fun _ => fun
  | [d1, d2, d3, d4, d5] => { results := [.lit (.bool false)], args := [d1, d2, d3, d4, d5] }
  | _ => none }
def GcmSealsWrongFalsely : Prop := gcmSealsRow.holds Try.pinned (OpenSpec.ofChange gcmSealsWrong)

/-- 'hailerlaw05.GcmSums': WHATEVER THE INPUT: true; the input reads as it did. -/
def gcmSumsSpec : ChangeSpec := { name := "gcmSums", fn := fun _ => fun
  | [d1, d2, d3] => { results := [.lit (.bool true)], args := [d1, d2, d3] }
  | _ => none }
def gcmSumsRow : OpenClaim := { program := "ytaknbogocnkmnaa", sum := "93c98e4c8c2867c60ea29a83b4f4c5ae2785cacbe5b2681acc1e3c262adefffd", func := "hailer/hailerlaw05.GcmSums", spec := "gcmSums", unfollowed := true, recurses := true, apart := false }
def GcmSumsSaid : Prop := gcmSumsRow.holds Try.pinned (OpenSpec.ofChange gcmSumsSpec)

/-- ITS FALSE NEIGHBOUR: 'it returns false'. Refute it at one input. -/
def gcmSumsWrong : ChangeSpec := { name := "gcmSums", fn := fun _ => fun
  | [d1, d2, d3] => { results := [.lit (.bool false)], args := [d1, d2, d3] }
  | _ => none }
def GcmSumsWrongFalsely : Prop := gcmSumsRow.holds Try.pinned (OpenSpec.ofChange gcmSumsWrong)

/- THE SECOND FORM. 'bulk': how many values and letters a reading holds, each counted each time it is reached (what is shared counts as often as it is met; a slice's spare places count too). A statement '..UptoSaid' is the law's where the arguments, and the package variables that the reading takes, are together of bulk at most 1048576: NARROWER than '..Said'. Prove '..Said' where nothing that the law and all that it calls make is longer than what came in: it says more and counts as full. Else prove '..UptoSaid'. A law counts once. -/
mutual
def uptoBulk {H : Type} : DataW H → Nat
  | .lit (.string bytes) => bytes.length + 1
  | .lit _ => 1
  | .nil => 1
  | .ptr d => uptoBulk d + 1
  | .slice elems spare => uptoBulkAll elems + uptoBulkAll spare + 1
  | .agg parts => uptoBulkAll parts + 1
  | .iface _ d => uptoBulk d + 1
  | .map entries => uptoBulkEntries entries + 1
  | .held _ => 1
def uptoBulkAll {H : Type} : List (DataW H) → Nat
  | [] => 0
  | d :: r => uptoBulk d + uptoBulkAll r
def uptoBulkEntries {H : Type} : List (Lit × DataW H) → Nat
  | [] => 0
  | x :: r => uptoBulkEntry x + uptoBulkEntries r
def uptoBulkEntry {H : Type} : Lit × DataW H → Nat
  | (.string bytes, d) => bytes.length + uptoBulk d + 1
  | (_, d) => uptoBulk d + 1
 end
def uptoSmall : (H : Type) → List (DataW H) → Bool := fun _ ds => decide (uptoBulkAll ds ≤ 1048576)
def OpenSpec.upto (s : _root_.Go.ChangeSpec) : _root_.Go.OpenSpec := { _root_.Go.OpenSpec.ofChange s with cond := some uptoSmall }

/-- 'hailerlaw12.HeadTells', WHERE WHAT IT READS IS OF BULK AT MOST 1048576: true; the input reads as it did. -/
def headTellsUptoRow : OpenClaim := { program := "ytaknbogocnkmnaa", sum := "93c98e4c8c2867c60ea29a83b4f4c5ae2785cacbe5b2681acc1e3c262adefffd", func := "hailer/hailerlaw12.HeadTells", spec := "headTells", apart := false, narrowed := true }
def HeadTellsUptoSaid : Prop := headTellsUptoRow.holds Try.pinned (OpenSpec.upto headTellsSpec)

/-- 'hailerlaw12.HeadBack', WHERE WHAT IT READS IS OF BULK AT MOST 1048576: true; the input reads as it did. -/
def headBackUptoRow : OpenClaim := { program := "ytaknbogocnkmnaa", sum := "93c98e4c8c2867c60ea29a83b4f4c5ae2785cacbe5b2681acc1e3c262adefffd", func := "hailer/hailerlaw12.HeadBack", spec := "headBack", apart := false, narrowed := true }
def HeadBackUptoSaid : Prop := headBackUptoRow.holds Try.pinned (OpenSpec.upto headBackSpec)

/-- 'hailerlaw29.NetTurns', WHERE WHAT IT READS IS OF BULK AT MOST 1048576: true; the input reads as it did. -/
def netTurnsUptoRow : OpenClaim := { program := "ytaknbogocnkmnaa", sum := "93c98e4c8c2867c60ea29a83b4f4c5ae2785cacbe5b2681acc1e3c262adefffd", func := "hailer/hailerlaw29.NetTurns", spec := "netTurns", apart := false, narrowed := true }
def NetTurnsUptoSaid : Prop := netTurnsUptoRow.holds Try.pinned (OpenSpec.upto netTurnsSpec)

/-- 'hailerlaw29.NetOnce', WHERE WHAT IT READS IS OF BULK AT MOST 1048576: true; the input reads as it did. -/
def netOnceUptoRow : OpenClaim := { program := "ytaknbogocnkmnaa", sum := "93c98e4c8c2867c60ea29a83b4f4c5ae2785cacbe5b2681acc1e3c262adefffd", func := "hailer/hailerlaw29.NetOnce", spec := "netOnce", apart := false, narrowed := true }
def NetOnceUptoSaid : Prop := netOnceUptoRow.holds Try.pinned (OpenSpec.upto netOnceSpec)

/-- 'hailerlaw29.NetPlays', WHERE WHAT IT READS IS OF BULK AT MOST 1048576: true; the input reads as it did. -/
def netPlaysUptoRow : OpenClaim := { program := "ytaknbogocnkmnaa", sum := "93c98e4c8c2867c60ea29a83b4f4c5ae2785cacbe5b2681acc1e3c262adefffd", func := "hailer/hailerlaw29.NetPlays", spec := "netPlays", unfollowed := true, recurses := true, apart := false, narrowed := true }
def NetPlaysUptoSaid : Prop := netPlaysUptoRow.holds Try.pinned (OpenSpec.upto netPlaysSpec)

/-- 'hailerlaw29.NetKnown', WHERE WHAT IT READS IS OF BULK AT MOST 1048576: true; the input reads as it did. -/
def netKnownUptoRow : OpenClaim := { program := "ytaknbogocnkmnaa", sum := "93c98e4c8c2867c60ea29a83b4f4c5ae2785cacbe5b2681acc1e3c262adefffd", func := "hailer/hailerlaw29.NetKnown", spec := "netKnown", unfollowed := true, recurses := true, apart := false, narrowed := true }
def NetKnownUptoSaid : Prop := netKnownUptoRow.holds Try.pinned (OpenSpec.upto netKnownSpec)

/-- 'hailerlaw03.AesSeals', WHERE WHAT IT READS IS OF BULK AT MOST 1048576: true; the input reads as it did. -/
def aesSealsUptoRow : OpenClaim := { program := "ytaknbogocnkmnaa", sum := "93c98e4c8c2867c60ea29a83b4f4c5ae2785cacbe5b2681acc1e3c262adefffd", func := "hailer/hailerlaw03.AesSeals", spec := "aesSeals", unfollowed := true, recurses := true, apart := false, narrowed := true }
def AesSealsUptoSaid : Prop := aesSealsUptoRow.holds Try.pinned (OpenSpec.upto aesSealsSpec)

/-- 'hailerlaw03.AesApart', WHERE WHAT IT READS IS OF BULK AT MOST 1048576: true; the input reads as it did. -/
def aesApartUptoRow : OpenClaim := { program := "ytaknbogocnkmnaa", sum := "93c98e4c8c2867c60ea29a83b4f4c5ae2785cacbe5b2681acc1e3c262adefffd", func := "hailer/hailerlaw03.AesApart", spec := "aesApart", unfollowed := true, recurses := true, apart := false, narrowed := true }
def AesApartUptoSaid : Prop := aesApartUptoRow.holds Try.pinned (OpenSpec.upto aesApartSpec)

/-- 'hailerlaw04.CtrTurns', WHERE WHAT IT READS IS OF BULK AT MOST 1048576: true; the input reads as it did. -/
def ctrTurnsUptoRow : OpenClaim := { program := "ytaknbogocnkmnaa", sum := "93c98e4c8c2867c60ea29a83b4f4c5ae2785cacbe5b2681acc1e3c262adefffd", func := "hailer/hailerlaw04.CtrTurns", spec := "ctrTurns", unfollowed := true, recurses := true, apart := false, narrowed := true }
def CtrTurnsUptoSaid : Prop := ctrTurnsUptoRow.holds Try.pinned (OpenSpec.upto ctrTurnsSpec)

/-- 'hailerlaw04.CtrTwice', WHERE WHAT IT READS IS OF BULK AT MOST 1048576: true; the input reads as it did. -/
def ctrTwiceUptoRow : OpenClaim := { program := "ytaknbogocnkmnaa", sum := "93c98e4c8c2867c60ea29a83b4f4c5ae2785cacbe5b2681acc1e3c262adefffd", func := "hailer/hailerlaw04.CtrTwice", spec := "ctrTwice", unfollowed := true, recurses := true, apart := false, narrowed := true }
def CtrTwiceUptoSaid : Prop := ctrTwiceUptoRow.holds Try.pinned (OpenSpec.upto ctrTwiceSpec)

/-- 'hailerlaw05.GcmSeals', WHERE WHAT IT READS IS OF BULK AT MOST 1048576: true; the input reads as it did. -/
def gcmSealsUptoRow : OpenClaim := { program := "ytaknbogocnkmnaa", sum := "93c98e4c8c2867c60ea29a83b4f4c5ae2785cacbe5b2681acc1e3c262adefffd", func := "hailer/hailerlaw05.GcmSeals", spec := "gcmSeals", unfollowed := true, recurses := true, apart := false, narrowed := true }
def GcmSealsUptoSaid : Prop := gcmSealsUptoRow.holds Try.pinned (OpenSpec.upto gcmSealsSpec)

/-- 'hailerlaw05.GcmSums', WHERE WHAT IT READS IS OF BULK AT MOST 1048576: true; the input reads as it did. -/
def gcmSumsUptoRow : OpenClaim := { program := "ytaknbogocnkmnaa", sum := "93c98e4c8c2867c60ea29a83b4f4c5ae2785cacbe5b2681acc1e3c262adefffd", func := "hailer/hailerlaw05.GcmSums", spec := "gcmSums", unfollowed := true, recurses := true, apart := false, narrowed := true }
def GcmSumsUptoSaid : Prop := gcmSumsUptoRow.holds Try.pinned (OpenSpec.upto gcmSumsSpec)

end Rows
end Go.Proofs.Ytaknbogocnkmnaa
