/-
  No cell of these rows narrows 'for every input' (looked for: loops, veiled, ifaces, maps, wideKeys, modest, calm, conditions, laid).
  DERIVED. THE GIVEN ROWS OF THIS SEAT. 8 by the template 'for every input the law returns true; each argument reads behind the call as it read before'; 0 by the template 'total and deterministic' (their statements: YtnadggcfdakpoaaTotals.lean).
  GIVEN WITH THE SEED: the statements are not yours to turn. If you find one false, say at which input.
  Laid BY PROGRAM, IN A SANDBOX (cutbox-rows.mjs): the forced cells as the released guide's own fill.sh prints them over the translation 7adca4e863a4a71d… (all of the seat's roots in one cut). By AI agents, Wed Nov 11 2026. No macro, syntax, notation, axiom, sorry.
-/
import Derived.Test.YtnadggcfdakpoaaChecked
import GoSem.Claim
import GoSem.ClaimJoined
import GoSem.ClaimMapViews
import Derived.JoinedTies
import Derived.KernelRfl
namespace Go.Proofs.Ytnadggcfdakpoaa
/- THE CELL 'sum', in the pinned program and in every row, IS THE sha256 OF THE DUMP (.gsa) THAT YtnadggcfdakpoaaProg.lean LOADS. Nothing in Lean hashes anything: it is a label: what it is worth is what the hold of that sum in a sandbox is worth. -/
noncomputable def Try.pinned : Pinned := { name := "ytnadggcfdakpoaa", sum := "7adca4e863a4a71df9ad528262ee6c8e0c29d5ffe7d9efba1897fc8e5745df26", checked := Try.checked }
namespace Rows
def none {H : Type} : Left H := { results := [], args := [] }

/-- 'sealringlaw.DerNumbers': WHATEVER THE INPUT: true; the input reads as it did. -/
def derNumbersSpec : ChangeSpec := { name := "derNumbers", fn := fun _ => fun
  | [d1, d2, d3] => { results := [.lit (.bool true)], args := [d1, d2, d3] }
  | _ => none }
def derNumbersRow : OpenClaim := { program := "ytnadggcfdakpoaa", sum := "7adca4e863a4a71df9ad528262ee6c8e0c29d5ffe7d9efba1897fc8e5745df26", func := "sealring/sealringlaw.DerNumbers", spec := "derNumbers", inPlace := ["internal/bytealg.IndexByteString", "internal/abi.NoEscape"], apart := false }
def DerNumbersSaid : Prop := derNumbersRow.holds Try.pinned (OpenSpec.ofChange derNumbersSpec)

/-- ITS FALSE NEIGHBOUR: 'it returns false'. Refute it at one input. -/
def derNumbersWrong : ChangeSpec := { name := "derNumbers", fn := fun _ => fun
  | [d1, d2, d3] => { results := [.lit (.bool false)], args := [d1, d2, d3] }
  | _ => none }
def DerNumbersWrongFalsely : Prop := derNumbersRow.holds Try.pinned (OpenSpec.ofChange derNumbersWrong)

/-- 'sealringlaw.ModeStreams': WHATEVER THE INPUT: true; the input reads as it did. -/
def modeStreamsSpec : ChangeSpec := { name := "modeStreams", fn := fun _ => fun
  | [d1, d2, d3, d4] => { results := [.lit (.bool true)], args := [d1, d2, d3, d4] }
  | _ => none }
def modeStreamsRow : OpenClaim := { program := "ytnadggcfdakpoaa", sum := "7adca4e863a4a71df9ad528262ee6c8e0c29d5ffe7d9efba1897fc8e5745df26", func := "sealring/sealringlaw.ModeStreams", spec := "modeStreams", unfollowed := true, recurses := true, apart := false }
def ModeStreamsSaid : Prop := modeStreamsRow.holds Try.pinned (OpenSpec.ofChange modeStreamsSpec)

/-- ITS FALSE NEIGHBOUR: 'it returns false'. Refute it at one input. -/
def modeStreamsWrong : ChangeSpec := { name := "modeStreams", fn := fun _ => fun
  | [d1, d2, d3, d4] => { results := [.lit (.bool false)], args := [d1, d2, d3, d4] }
  | _ => none }
def ModeStreamsWrongFalsely : Prop := modeStreamsRow.holds Try.pinned (OpenSpec.ofChange modeStreamsWrong)

/-- 'sealringlaw.AesTells': WHATEVER THE INPUT: true; the input reads as it did. -/
def aesTellsSpec : ChangeSpec := { name := "aesTells", fn := fun _ => fun
  | [d1, d2] => { results := [.lit (.bool true)], args := [d1, d2] }
  | _ => none }
def aesTellsRow : OpenClaim := { program := "ytnadggcfdakpoaa", sum := "7adca4e863a4a71df9ad528262ee6c8e0c29d5ffe7d9efba1897fc8e5745df26", func := "sealring/sealringlaw.AesTells", spec := "aesTells", unfollowed := true, recurses := true, apart := false }
def AesTellsSaid : Prop := aesTellsRow.holds Try.pinned (OpenSpec.ofChange aesTellsSpec)

/-- ITS FALSE NEIGHBOUR: 'it returns false'. Refute it at one input. -/
def aesTellsWrong : ChangeSpec := { name := "aesTells", fn := fun _ => fun
  | [d1, d2] => { results := [.lit (.bool false)], args := [d1, d2] }
  | _ => none }
def AesTellsWrongFalsely : Prop := aesTellsRow.holds Try.pinned (OpenSpec.ofChange aesTellsWrong)

/-- 'sealringlaw.ModeSeals': WHATEVER THE INPUT: true; the input reads as it did. -/
def modeSealsSpec : ChangeSpec := { name := "modeSeals", fn := fun _ => fun
  | [d1, d2, d3, d4] => { results := [.lit (.bool true)], args := [d1, d2, d3, d4] }
  | _ => none }
def modeSealsRow : OpenClaim := { program := "ytnadggcfdakpoaa", sum := "7adca4e863a4a71df9ad528262ee6c8e0c29d5ffe7d9efba1897fc8e5745df26", func := "sealring/sealringlaw.ModeSeals", spec := "modeSeals", unfollowed := true, recurses := true, apart := false }
def ModeSealsSaid : Prop := modeSealsRow.holds Try.pinned (OpenSpec.ofChange modeSealsSpec)

/-- ITS FALSE NEIGHBOUR: 'it returns false'. Refute it at one input. -/
def modeSealsWrong : ChangeSpec := { name := "modeSeals", fn := fun _ => fun
  | [d1, d2, d3, d4] => { results := [.lit (.bool false)], args := [d1, d2, d3, d4] }
  | _ => none }
def ModeSealsWrongFalsely : Prop := modeSealsRow.holds Try.pinned (OpenSpec.ofChange modeSealsWrong)

/-- 'sealringlaw.WrapTells': WHATEVER THE INPUT: true; the input reads as it did. -/
def wrapTellsSpec : ChangeSpec := { name := "wrapTells", fn := fun _ => fun
  | [d1, d2, d3] => { results := [.lit (.bool true)], args := [d1, d2, d3] }
  | _ => none }
def wrapTellsRow : OpenClaim := { program := "ytnadggcfdakpoaa", sum := "7adca4e863a4a71df9ad528262ee6c8e0c29d5ffe7d9efba1897fc8e5745df26", func := "sealring/sealringlaw.WrapTells", spec := "wrapTells", unfollowed := true, recurses := true, apart := false }
def WrapTellsSaid : Prop := wrapTellsRow.holds Try.pinned (OpenSpec.ofChange wrapTellsSpec)

/-- ITS FALSE NEIGHBOUR: 'it returns false'. Refute it at one input. -/
def wrapTellsWrong : ChangeSpec := { name := "wrapTells", fn := fun _ => fun
  | [d1, d2, d3] => { results := [.lit (.bool false)], args := [d1, d2, d3] }
  | _ => none }
def WrapTellsWrongFalsely : Prop := wrapTellsRow.holds Try.pinned (OpenSpec.ofChange wrapTellsWrong)

/-- 'sealringlaw.CurveTells': WHATEVER THE INPUT: true; the input reads as it did. -/
def curveTellsSpec : ChangeSpec := { name := "curveTells", fn := fun _ => fun
  | [d1, d2] => { results := [.lit (.bool true)], args := [d1, d2] }
  | _ => none }
def curveTellsRow : OpenClaim := { program := "ytnadggcfdakpoaa", sum := "7adca4e863a4a71df9ad528262ee6c8e0c29d5ffe7d9efba1897fc8e5745df26", func := "sealring/sealringlaw.CurveTells", spec := "curveTells", inPlace := ["math/bits.Sub64", "math/bits.Add64"], apart := false }
def CurveTellsSaid : Prop := curveTellsRow.holds Try.pinned (OpenSpec.ofChange curveTellsSpec)

/-- ITS FALSE NEIGHBOUR: 'it returns false'. Refute it at one input. -/
def curveTellsWrong : ChangeSpec := { name := "curveTells", fn := fun _ => fun
  | [d1, d2] => { results := [.lit (.bool false)], args := [d1, d2] }
  | _ => none }
def CurveTellsWrongFalsely : Prop := curveTellsRow.holds Try.pinned (OpenSpec.ofChange curveTellsWrong)

/-- 'sealringlaw.LadderTells': WHATEVER THE INPUT: true; the input reads as it did. -/
def ladderTellsSpec : ChangeSpec := { name := "ladderTells", fn := fun _ => fun
  | [d1, d2, d3] => { results := [.lit (.bool true)], args := [d1, d2, d3] }
  | _ => none }
def ladderTellsRow : OpenClaim := { program := "ytnadggcfdakpoaa", sum := "7adca4e863a4a71df9ad528262ee6c8e0c29d5ffe7d9efba1897fc8e5745df26", func := "sealring/sealringlaw.LadderTells", spec := "ladderTells", inPlace := ["math/bits.Sub64", "math/bits.Add64"], recurses := true, apart := false }
def LadderTellsSaid : Prop := ladderTellsRow.holds Try.pinned (OpenSpec.ofChange ladderTellsSpec)

/-- ITS FALSE NEIGHBOUR: 'it returns false'. Refute it at one input. -/
def ladderTellsWrong : ChangeSpec := { name := "ladderTells", fn := fun _ => fun
  | [d1, d2, d3] => { results := [.lit (.bool false)], args := [d1, d2, d3] }
  | _ => none }
def LadderTellsWrongFalsely : Prop := ladderTellsRow.holds Try.pinned (OpenSpec.ofChange ladderTellsWrong)

/-- 'sealringlaw.AgreeTells': WHATEVER THE INPUT: true; the input reads as it did. -/
def agreeTellsSpec : ChangeSpec := { name := "agreeTells", fn := fun _ => fun
  | [d1, d2] => { results := [.lit (.bool true)], args := [d1, d2] }
  | _ => none }
def agreeTellsRow : OpenClaim := { program := "ytnadggcfdakpoaa", sum := "7adca4e863a4a71df9ad528262ee6c8e0c29d5ffe7d9efba1897fc8e5745df26", func := "sealring/sealringlaw.AgreeTells", spec := "agreeTells", inPlace := ["math/bits.Sub64", "math/bits.Add64"], recurses := true, apart := false }
def AgreeTellsSaid : Prop := agreeTellsRow.holds Try.pinned (OpenSpec.ofChange agreeTellsSpec)

/-- ITS FALSE NEIGHBOUR: 'it returns false'. Refute it at one input. -/
def agreeTellsWrong : ChangeSpec := { name := "agreeTells", fn := fun _ => fun
  | [d1, d2] => { results := [.lit (.bool false)], args := [d1, d2] }
  | _ => none }
def AgreeTellsWrongFalsely : Prop := agreeTellsRow.holds Try.pinned (OpenSpec.ofChange agreeTellsWrong)

/- THE SECOND FORM. 'bulk': how many values and letters a reading holds, each counted each time it is reached (what is shared counts as often as it is met; a slice's spare places count too). A statement '..UptoSaid' is the law's where the arguments, and the package variables that the reading takes, are together of bulk at most 1048576: NARROWER than '..Said'. Prove '..Said' where nothing that the law and all that it calls make is longer than what came in: it says more and counts as full. Else prove '..UptoSaid'. A law counts once. -/
mutual
def uptoBulk {H : Type} : DataW H → Nat
  | .lit (.string bytes) => bytes.length + 1
  | .lit _ => 1
  | .nil => 1
  | .ptr d => uptoBulk d + 1
  | .slice elems spare => uptoBulkAll elems + uptoBulkAll spare + 1
  | .agg parts => uptoBulkAll parts + 1
  | .iface _ d => uptoBulk d + 1
  | .map entries => uptoBulkEntries entries + 1
  | .held _ => 1
def uptoBulkAll {H : Type} : List (DataW H) → Nat
  | [] => 0
  | d :: r => uptoBulk d + uptoBulkAll r
def uptoBulkEntries {H : Type} : List (Lit × DataW H) → Nat
  | [] => 0
  | x :: r => uptoBulkEntry x + uptoBulkEntries r
def uptoBulkEntry {H : Type} : Lit × DataW H → Nat
  | (.string bytes, d) => bytes.length + uptoBulk d + 1
  | (_, d) => uptoBulk d + 1
 end
def uptoSmall : (H : Type) → List (DataW H) → Bool := fun _ ds => decide (uptoBulkAll ds ≤ 1048576)
def OpenSpec.upto (s : _root_.Go.ChangeSpec) : _root_.Go.OpenSpec := { _root_.Go.OpenSpec.ofChange s with cond := some uptoSmall }

/-- 'sealringlaw.DerNumbers', WHERE WHAT IT READS IS OF BULK AT MOST 1048576: true; the input reads as it did. -/
def derNumbersUptoRow : OpenClaim := { program := "ytnadggcfdakpoaa", sum := "7adca4e863a4a71df9ad528262ee6c8e0c29d5ffe7d9efba1897fc8e5745df26", func := "sealring/sealringlaw.DerNumbers", spec := "derNumbers", inPlace := ["internal/bytealg.IndexByteString", "internal/abi.NoEscape"], apart := false, narrowed := true }
def DerNumbersUptoSaid : Prop := derNumbersUptoRow.holds Try.pinned (OpenSpec.upto derNumbersSpec)

/-- 'sealringlaw.ModeStreams', WHERE WHAT IT READS IS OF BULK AT MOST 1048576: true; the input reads as it did. -/
def modeStreamsUptoRow : OpenClaim := { program := "ytnadggcfdakpoaa", sum := "7adca4e863a4a71df9ad528262ee6c8e0c29d5ffe7d9efba1897fc8e5745df26", func := "sealring/sealringlaw.ModeStreams", spec := "modeStreams", unfollowed := true, recurses := true, apart := false, narrowed := true }
def ModeStreamsUptoSaid : Prop := modeStreamsUptoRow.holds Try.pinned (OpenSpec.upto modeStreamsSpec)

/-- 'sealringlaw.AesTells', WHERE WHAT IT READS IS OF BULK AT MOST 1048576: true; the input reads as it did. -/
def aesTellsUptoRow : OpenClaim := { program := "ytnadggcfdakpoaa", sum := "7adca4e863a4a71df9ad528262ee6c8e0c29d5ffe7d9efba1897fc8e5745df26", func := "sealring/sealringlaw.AesTells", spec := "aesTells", unfollowed := true, recurses := true, apart := false, narrowed := true }
def AesTellsUptoSaid : Prop := aesTellsUptoRow.holds Try.pinned (OpenSpec.upto aesTellsSpec)

/-- 'sealringlaw.ModeSeals', WHERE WHAT IT READS IS OF BULK AT MOST 1048576: true; the input reads as it did. -/
def modeSealsUptoRow : OpenClaim := { program := "ytnadggcfdakpoaa", sum := "7adca4e863a4a71df9ad528262ee6c8e0c29d5ffe7d9efba1897fc8e5745df26", func := "sealring/sealringlaw.ModeSeals", spec := "modeSeals", unfollowed := true, recurses := true, apart := false, narrowed := true }
def ModeSealsUptoSaid : Prop := modeSealsUptoRow.holds Try.pinned (OpenSpec.upto modeSealsSpec)

/-- 'sealringlaw.WrapTells', WHERE WHAT IT READS IS OF BULK AT MOST 1048576: true; the input reads as it did. -/
def wrapTellsUptoRow : OpenClaim := { program := "ytnadggcfdakpoaa", sum := "7adca4e863a4a71df9ad528262ee6c8e0c29d5ffe7d9efba1897fc8e5745df26", func := "sealring/sealringlaw.WrapTells", spec := "wrapTells", unfollowed := true, recurses := true, apart := false, narrowed := true }
def WrapTellsUptoSaid : Prop := wrapTellsUptoRow.holds Try.pinned (OpenSpec.upto wrapTellsSpec)

/-- 'sealringlaw.CurveTells', WHERE WHAT IT READS IS OF BULK AT MOST 1048576: true; the input reads as it did. -/
def curveTellsUptoRow : OpenClaim := { program := "ytnadggcfdakpoaa", sum := "7adca4e863a4a71df9ad528262ee6c8e0c29d5ffe7d9efba1897fc8e5745df26", func := "sealring/sealringlaw.CurveTells", spec := "curveTells", inPlace := ["math/bits.Sub64", "math/bits.Add64"], apart := false, narrowed := true }
def CurveTellsUptoSaid : Prop := curveTellsUptoRow.holds Try.pinned (OpenSpec.upto curveTellsSpec)

/-- 'sealringlaw.LadderTells', WHERE WHAT IT READS IS OF BULK AT MOST 1048576: true; the input reads as it did. -/
def ladderTellsUptoRow : OpenClaim := { program := "ytnadggcfdakpoaa", sum := "7adca4e863a4a71df9ad528262ee6c8e0c29d5ffe7d9efba1897fc8e5745df26", func := "sealring/sealringlaw.LadderTells", spec := "ladderTells", inPlace := ["math/bits.Sub64", "math/bits.Add64"], recurses := true, apart := false, narrowed := true }
def LadderTellsUptoSaid : Prop := ladderTellsUptoRow.holds Try.pinned (OpenSpec.upto ladderTellsSpec)

/-- 'sealringlaw.AgreeTells', WHERE WHAT IT READS IS OF BULK AT MOST 1048576: true; the input reads as it did. -/
def agreeTellsUptoRow : OpenClaim := { program := "ytnadggcfdakpoaa", sum := "7adca4e863a4a71df9ad528262ee6c8e0c29d5ffe7d9efba1897fc8e5745df26", func := "sealring/sealringlaw.AgreeTells", spec := "agreeTells", inPlace := ["math/bits.Sub64", "math/bits.Add64"], recurses := true, apart := false, narrowed := true }
def AgreeTellsUptoSaid : Prop := agreeTellsUptoRow.holds Try.pinned (OpenSpec.upto agreeTellsSpec)

end Rows
end Go.Proofs.Ytnadggcfdakpoaa
