/-
  NARROWER THAN 'FOR EVERY INPUT', by the rows' own cells (each row's printed sentence says how): TreeLogs: laid · TreeTells: laid · PinRestores: laid · PinPlays: laid · TapeTells: laid · DrawTells: laid · ScalarTells: laid · ShareSplits: laid.
  DERIVED. THE GIVEN ROWS OF THIS SEAT. 8 by the template 'for every input the law returns true; each argument reads behind the call as it read before'; 0 by the template 'total and deterministic' (their statements: YtkicjckhkefnpaaDoorTotals.lean).
  GIVEN WITH THE SEED: the statements are not yours to turn. If you find one false, say at which input.
  Laid BY PROGRAM, IN A SANDBOX (cutbox-rows.mjs): the forced cells as the released guide's own fill.sh prints them over the translation 678d8ea46215b777… (all of the seat's roots in one cut). By AI agents, Wed Nov 11 2026. No macro, syntax, notation, axiom, sorry.
-/
import Derived.Test.YtkicjckhkefnpaaDoorChecked
import GoSem.Claim
import GoSem.ClaimJoined
import GoSem.ClaimMapViews
import Derived.JoinedTies
import Derived.KernelRfl
namespace Go.Proofs.YtkicjckhkefnpaaDoor
/- THE CELL 'sum', in the pinned program and in every row, IS THE sha256 OF THE DUMP (.gsa) THAT YtkicjckhkefnpaaDoorProg.lean LOADS. Nothing in Lean hashes anything: it is a label: what it is worth is what the hold of that sum in a sandbox is worth. -/
noncomputable def Tryd.pinned : Pinned := { name := "ytkicjckhkefnpaadoor", sum := "678d8ea46215b777e4b8a95864dc5da95d28e7b2995d88108db67c16ed093a6f", checked := Tryd.checked }
namespace Rows
def none {H : Type} : Left H := { results := [], args := [] }

/- WHAT THE LISTED PACKAGE-LEVEL VARIABLES READ AS WHEN THE CALL BEGINS. Each datum BY PROGRAM (the guide's laid-datum.mjs) off the statement by which the dump's own 'gosem.cut.vars' lays the variable. In a bare row this is a premise. The card (YtkicjckhkefnpaaDoorCards.lean) ties it to the program's text. -/
def laid_sealring_hash_primeRoots {H : Type} : DataW H := .agg [.lit (.int .u32 1116352408), .lit (.int .u32 1899447441), .lit (.int .u32 3049323471), .lit (.int .u32 3921009573), .lit (.int .u32 961987163), .lit (.int .u32 1508970993), .lit (.int .u32 2453635748), .lit (.int .u32 2870763221), .lit (.int .u32 3624381080), .lit (.int .u32 310598401), .lit (.int .u32 607225278), .lit (.int .u32 1426881987), .lit (.int .u32 1925078388), .lit (.int .u32 2162078206), .lit (.int .u32 2614888103), .lit (.int .u32 3248222580), .lit (.int .u32 3835390401), .lit (.int .u32 4022224774), .lit (.int .u32 264347078), .lit (.int .u32 604807628), .lit (.int .u32 770255983), .lit (.int .u32 1249150122), .lit (.int .u32 1555081692), .lit (.int .u32 1996064986), .lit (.int .u32 2554220882), .lit (.int .u32 2821834349), .lit (.int .u32 2952996808), .lit (.int .u32 3210313671), .lit (.int .u32 3336571891), .lit (.int .u32 3584528711), .lit (.int .u32 113926993), .lit (.int .u32 338241895), .lit (.int .u32 666307205), .lit (.int .u32 773529912), .lit (.int .u32 1294757372), .lit (.int .u32 1396182291), .lit (.int .u32 1695183700), .lit (.int .u32 1986661051), .lit (.int .u32 2177026350), .lit (.int .u32 2456956037), .lit (.int .u32 2730485921), .lit (.int .u32 2820302411), .lit (.int .u32 3259730800), .lit (.int .u32 3345764771), .lit (.int .u32 3516065817), .lit (.int .u32 3600352804), .lit (.int .u32 4094571909), .lit (.int .u32 275423344), .lit (.int .u32 430227734), .lit (.int .u32 506948616), .lit (.int .u32 659060556), .lit (.int .u32 883997877), .lit (.int .u32 958139571), .lit (.int .u32 1322822218), .lit (.int .u32 1537002063), .lit (.int .u32 1747873779), .lit (.int .u32 1955562222), .lit (.int .u32 2024104815), .lit (.int .u32 2227730452), .lit (.int .u32 2361852424), .lit (.int .u32 2428436474), .lit (.int .u32 2756734187), .lit (.int .u32 3204031479), .lit (.int .u32 3329325298)]
def laid_sealring_sealringref_roundNumbers {H : Type} : DataW H := .agg [.lit (.int .u32 1116352408), .lit (.int .u32 1899447441), .lit (.int .u32 3049323471), .lit (.int .u32 3921009573), .lit (.int .u32 961987163), .lit (.int .u32 1508970993), .lit (.int .u32 2453635748), .lit (.int .u32 2870763221), .lit (.int .u32 3624381080), .lit (.int .u32 310598401), .lit (.int .u32 607225278), .lit (.int .u32 1426881987), .lit (.int .u32 1925078388), .lit (.int .u32 2162078206), .lit (.int .u32 2614888103), .lit (.int .u32 3248222580), .lit (.int .u32 3835390401), .lit (.int .u32 4022224774), .lit (.int .u32 264347078), .lit (.int .u32 604807628), .lit (.int .u32 770255983), .lit (.int .u32 1249150122), .lit (.int .u32 1555081692), .lit (.int .u32 1996064986), .lit (.int .u32 2554220882), .lit (.int .u32 2821834349), .lit (.int .u32 2952996808), .lit (.int .u32 3210313671), .lit (.int .u32 3336571891), .lit (.int .u32 3584528711), .lit (.int .u32 113926993), .lit (.int .u32 338241895), .lit (.int .u32 666307205), .lit (.int .u32 773529912), .lit (.int .u32 1294757372), .lit (.int .u32 1396182291), .lit (.int .u32 1695183700), .lit (.int .u32 1986661051), .lit (.int .u32 2177026350), .lit (.int .u32 2456956037), .lit (.int .u32 2730485921), .lit (.int .u32 2820302411), .lit (.int .u32 3259730800), .lit (.int .u32 3345764771), .lit (.int .u32 3516065817), .lit (.int .u32 3600352804), .lit (.int .u32 4094571909), .lit (.int .u32 275423344), .lit (.int .u32 430227734), .lit (.int .u32 506948616), .lit (.int .u32 659060556), .lit (.int .u32 883997877), .lit (.int .u32 958139571), .lit (.int .u32 1322822218), .lit (.int .u32 1537002063), .lit (.int .u32 1747873779), .lit (.int .u32 1955562222), .lit (.int .u32 2024104815), .lit (.int .u32 2227730452), .lit (.int .u32 2361852424), .lit (.int .u32 2428436474), .lit (.int .u32 2756734187), .lit (.int .u32 3204031479), .lit (.int .u32 3329325298)]

/-- 'sealringlaw.TreeLogs': WHATEVER THE INPUT: true; the input reads as it did. -/
def treeLogsSpec : ChangeSpec := { name := "treeLogs", fn := fun _ => fun
  | [d] => { results := [.lit (.bool true)], args := [d] }
  | _ => none }
def treeLogsRow : OpenClaim := { program := "ytkicjckhkefnpaadoor", sum := "678d8ea46215b777e4b8a95864dc5da95d28e7b2995d88108db67c16ed093a6f", func := "sealring/sealringlaw.TreeLogs", spec := "treeLogs", named := ["sealring/hash.primeRoots", "sealring/sealringref.roundNumbers"], apart := false, laid := [("sealring/hash.primeRoots", laid_sealring_hash_primeRoots), ("sealring/sealringref.roundNumbers", laid_sealring_sealringref_roundNumbers)] }
def TreeLogsSaid : Prop := treeLogsRow.holds Tryd.pinned (OpenSpec.ofChange treeLogsSpec)

/-- ITS FALSE NEIGHBOUR: 'it returns false'. Refute it at one input. -/
def treeLogsWrong : ChangeSpec := { name := "treeLogs", fn := fun _ => fun
  | [d] => { results := [.lit (.bool false)], args := [d] }
  | _ => none }
def TreeLogsWrongFalsely : Prop := treeLogsRow.holds Tryd.pinned (OpenSpec.ofChange treeLogsWrong)

/-- 'sealringlaw.TreeTells': WHATEVER THE INPUT: true; the input reads as it did. -/
def treeTellsSpec : ChangeSpec := { name := "treeTells", fn := fun _ => fun
  | [d1, d2, d3, d4, d5] => { results := [.lit (.bool true)], args := [d1, d2, d3, d4, d5] }
  | _ => none }
def treeTellsRow : OpenClaim := { program := "ytkicjckhkefnpaadoor", sum := "678d8ea46215b777e4b8a95864dc5da95d28e7b2995d88108db67c16ed093a6f", func := "sealring/sealringlaw.TreeTells", spec := "treeTells", recurses := true, named := ["sealring/hash.primeRoots", "sealring/sealringref.roundNumbers"], apart := false, laid := [("sealring/hash.primeRoots", laid_sealring_hash_primeRoots), ("sealring/sealringref.roundNumbers", laid_sealring_sealringref_roundNumbers)] }
def TreeTellsSaid : Prop := treeTellsRow.holds Tryd.pinned (OpenSpec.ofChange treeTellsSpec)

/-- ITS FALSE NEIGHBOUR: 'it returns false'. Refute it at one input. -/
def treeTellsWrong : ChangeSpec := { name := "treeTells", fn := fun _ => fun
  | [d1, d2, d3, d4, d5] => { results := [.lit (.bool false)], args := [d1, d2, d3, d4, d5] }
  | _ => none }
def TreeTellsWrongFalsely : Prop := treeTellsRow.holds Tryd.pinned (OpenSpec.ofChange treeTellsWrong)

/-- 'sealringlaw.PinRestores': WHATEVER THE INPUT: true; the input reads as it did. -/
def pinRestoresSpec : ChangeSpec := { name := "pinRestores", fn := fun _ => fun
  | [d1, d2, d3] => { results := [.lit (.bool true)], args := [d1, d2, d3] }
  | _ => none }
def pinRestoresRow : OpenClaim := { program := "ytkicjckhkefnpaadoor", sum := "678d8ea46215b777e4b8a95864dc5da95d28e7b2995d88108db67c16ed093a6f", func := "sealring/sealringlaw.PinRestores", spec := "pinRestores", named := ["sealring/sealringref.roundNumbers", "sealring/hash.primeRoots"], apart := false, laid := [("sealring/hash.primeRoots", laid_sealring_hash_primeRoots), ("sealring/sealringref.roundNumbers", laid_sealring_sealringref_roundNumbers)] }
def PinRestoresSaid : Prop := pinRestoresRow.holds Tryd.pinned (OpenSpec.ofChange pinRestoresSpec)

/-- ITS FALSE NEIGHBOUR: 'it returns false'. Refute it at one input. -/
def pinRestoresWrong : ChangeSpec := { name := "pinRestores", fn := fun _ => fun
  | [d1, d2, d3] => { results := [.lit (.bool false)], args := [d1, d2, d3] }
  | _ => none }
def PinRestoresWrongFalsely : Prop := pinRestoresRow.holds Tryd.pinned (OpenSpec.ofChange pinRestoresWrong)

/-- 'sealringlaw.PinPlays': WHATEVER THE INPUT: true; the input reads as it did. -/
def pinPlaysSpec : ChangeSpec := { name := "pinPlays", fn := fun _ => fun
  | [d1, d2, d3] => { results := [.lit (.bool true)], args := [d1, d2, d3] }
  | _ => none }
def pinPlaysRow : OpenClaim := { program := "ytkicjckhkefnpaadoor", sum := "678d8ea46215b777e4b8a95864dc5da95d28e7b2995d88108db67c16ed093a6f", func := "sealring/sealringlaw.PinPlays", spec := "pinPlays", unfollowed := true, recurses := true, named := ["sealring/hash.primeRoots", "sealring/sealringref.roundNumbers"], apart := false, laid := [("sealring/hash.primeRoots", laid_sealring_hash_primeRoots), ("sealring/sealringref.roundNumbers", laid_sealring_sealringref_roundNumbers)] }
def PinPlaysSaid : Prop := pinPlaysRow.holds Tryd.pinned (OpenSpec.ofChange pinPlaysSpec)

/-- ITS FALSE NEIGHBOUR: 'it returns false'. Refute it at one input. -/
def pinPlaysWrong : ChangeSpec := { name := "pinPlays", fn := fun _ => fun
  | [d1, d2, d3] => { results := [.lit (.bool false)], args := [d1, d2, d3] }
  | _ => none }
def PinPlaysWrongFalsely : Prop := pinPlaysRow.holds Tryd.pinned (OpenSpec.ofChange pinPlaysWrong)

/-- 'sealringlaw.TapeTells': WHATEVER THE INPUT: true; the input reads as it did. -/
def tapeTellsSpec : ChangeSpec := { name := "tapeTells", fn := fun _ => fun
  | [d1, d2, d3] => { results := [.lit (.bool true)], args := [d1, d2, d3] }
  | _ => none }
def tapeTellsRow : OpenClaim := { program := "ytkicjckhkefnpaadoor", sum := "678d8ea46215b777e4b8a95864dc5da95d28e7b2995d88108db67c16ed093a6f", func := "sealring/sealringlaw.TapeTells", spec := "tapeTells", named := ["sealring/hash.primeRoots", "sealring/sealringref.roundNumbers"], apart := false, laid := [("sealring/hash.primeRoots", laid_sealring_hash_primeRoots), ("sealring/sealringref.roundNumbers", laid_sealring_sealringref_roundNumbers)] }
def TapeTellsSaid : Prop := tapeTellsRow.holds Tryd.pinned (OpenSpec.ofChange tapeTellsSpec)

/-- ITS FALSE NEIGHBOUR: 'it returns false'. Refute it at one input. -/
def tapeTellsWrong : ChangeSpec := { name := "tapeTells", fn := fun _ => fun
  | [d1, d2, d3] => { results := [.lit (.bool false)], args := [d1, d2, d3] }
  | _ => none }
def TapeTellsWrongFalsely : Prop := tapeTellsRow.holds Tryd.pinned (OpenSpec.ofChange tapeTellsWrong)

/-- 'sealringlaw.DrawTells': WHATEVER THE INPUT: true; the input reads as it did. -/
def drawTellsSpec : ChangeSpec := { name := "drawTells", fn := fun _ => fun
  | [d1, d2] => { results := [.lit (.bool true)], args := [d1, d2] }
  | _ => none }
def drawTellsRow : OpenClaim := { program := "ytkicjckhkefnpaadoor", sum := "678d8ea46215b777e4b8a95864dc5da95d28e7b2995d88108db67c16ed093a6f", func := "sealring/sealringlaw.DrawTells", spec := "drawTells", inPlace := ["math/bits.Sub64"], named := ["sealring/hash.primeRoots", "sealring/sealringref.roundNumbers"], apart := false, laid := [("sealring/hash.primeRoots", laid_sealring_hash_primeRoots), ("sealring/sealringref.roundNumbers", laid_sealring_sealringref_roundNumbers)] }
def DrawTellsSaid : Prop := drawTellsRow.holds Tryd.pinned (OpenSpec.ofChange drawTellsSpec)

/-- ITS FALSE NEIGHBOUR: 'it returns false'. Refute it at one input. -/
def drawTellsWrong : ChangeSpec := { name := "drawTells", fn := fun _ => fun
  | [d1, d2] => { results := [.lit (.bool false)], args := [d1, d2] }
  | _ => none }
def DrawTellsWrongFalsely : Prop := drawTellsRow.holds Tryd.pinned (OpenSpec.ofChange drawTellsWrong)

/-- 'sealringlaw.ScalarTells': WHATEVER THE INPUT: true; the input reads as it did. -/
def scalarTellsSpec : ChangeSpec := { name := "scalarTells", fn := fun _ => fun
  | [d1, d2, d3, d4, d5] => { results := [.lit (.bool true)], args := [d1, d2, d3, d4, d5] }
  | _ => none }
def scalarTellsRow : OpenClaim := { program := "ytkicjckhkefnpaadoor", sum := "678d8ea46215b777e4b8a95864dc5da95d28e7b2995d88108db67c16ed093a6f", func := "sealring/sealringlaw.ScalarTells", spec := "scalarTells", inPlace := ["math/bits.Sub64", "math/bits.Add64"], unfollowed := true, recurses := true, named := ["sealring/hash.primeRoots", "sealring/sealringref.roundNumbers"], apart := false, laid := [("sealring/hash.primeRoots", laid_sealring_hash_primeRoots), ("sealring/sealringref.roundNumbers", laid_sealring_sealringref_roundNumbers)] }
def ScalarTellsSaid : Prop := scalarTellsRow.holds Tryd.pinned (OpenSpec.ofChange scalarTellsSpec)

/-- ITS FALSE NEIGHBOUR: 'it returns false'. Refute it at one input. -/
def scalarTellsWrong : ChangeSpec := { name := "scalarTells", fn := fun _ => fun
  | [d1, d2, d3, d4, d5] => { results := [.lit (.bool false)], args := [d1, d2, d3, d4, d5] }
  | _ => none }
def ScalarTellsWrongFalsely : Prop := scalarTellsRow.holds Tryd.pinned (OpenSpec.ofChange scalarTellsWrong)

/-- 'sealringlaw.ShareSplits': WHATEVER THE INPUT: true; the input reads as it did. -/
def shareSplitsSpec : ChangeSpec := { name := "shareSplits", fn := fun _ => fun
  | [d1, d2, d3, d4] => { results := [.lit (.bool true)], args := [d1, d2, d3, d4] }
  | _ => none }
def shareSplitsRow : OpenClaim := { program := "ytkicjckhkefnpaadoor", sum := "678d8ea46215b777e4b8a95864dc5da95d28e7b2995d88108db67c16ed093a6f", func := "sealring/sealringlaw.ShareSplits", spec := "shareSplits", inPlace := ["math/bits.Sub64", "math/bits.Add64"], named := ["sealring/hash.primeRoots", "sealring/sealringref.roundNumbers"], apart := false, laid := [("sealring/hash.primeRoots", laid_sealring_hash_primeRoots), ("sealring/sealringref.roundNumbers", laid_sealring_sealringref_roundNumbers)] }
def ShareSplitsSaid : Prop := shareSplitsRow.holds Tryd.pinned (OpenSpec.ofChange shareSplitsSpec)

/-- ITS FALSE NEIGHBOUR: 'it returns false'. Refute it at one input. -/
def shareSplitsWrong : ChangeSpec := { name := "shareSplits", fn := fun _ => fun
  | [d1, d2, d3, d4] => { results := [.lit (.bool false)], args := [d1, d2, d3, d4] }
  | _ => none }
def ShareSplitsWrongFalsely : Prop := shareSplitsRow.holds Tryd.pinned (OpenSpec.ofChange shareSplitsWrong)

/- THE SECOND FORM. 'bulk': how many values and letters a reading holds, each counted each time it is reached (what is shared counts as often as it is met; a slice's spare places count too). A statement '..UptoSaid' is the law's where the arguments, and the package variables that the reading takes, are together of bulk at most 1048576: NARROWER than '..Said'. Prove '..Said' where nothing that the law and all that it calls make is longer than what came in: it says more and counts as full. Else prove '..UptoSaid'. A law counts once. -/
mutual
def uptoBulk {H : Type} : DataW H → Nat
  | .lit (.string bytes) => bytes.length + 1
  | .lit _ => 1
  | .nil => 1
  | .ptr d => uptoBulk d + 1
  | .slice elems spare => uptoBulkAll elems + uptoBulkAll spare + 1
  | .agg parts => uptoBulkAll parts + 1
  | .iface _ d => uptoBulk d + 1
  | .map entries => uptoBulkEntries entries + 1
  | .held _ => 1
def uptoBulkAll {H : Type} : List (DataW H) → Nat
  | [] => 0
  | d :: r => uptoBulk d + uptoBulkAll r
def uptoBulkEntries {H : Type} : List (Lit × DataW H) → Nat
  | [] => 0
  | x :: r => uptoBulkEntry x + uptoBulkEntries r
def uptoBulkEntry {H : Type} : Lit × DataW H → Nat
  | (.string bytes, d) => bytes.length + uptoBulk d + 1
  | (_, d) => uptoBulk d + 1
 end
def uptoSmall : (H : Type) → List (DataW H) → Bool := fun _ ds => decide (uptoBulkAll ds ≤ 1048576)
def OpenSpec.upto (s : _root_.Go.ChangeSpec) : _root_.Go.OpenSpec := { _root_.Go.OpenSpec.ofChange s with cond := some uptoSmall }

/-- 'sealringlaw.TreeLogs', WHERE WHAT IT READS IS OF BULK AT MOST 1048576: true; the input reads as it did. -/
def treeLogsUptoRow : OpenClaim := { program := "ytkicjckhkefnpaadoor", sum := "678d8ea46215b777e4b8a95864dc5da95d28e7b2995d88108db67c16ed093a6f", func := "sealring/sealringlaw.TreeLogs", spec := "treeLogs", named := ["sealring/hash.primeRoots", "sealring/sealringref.roundNumbers"], apart := false, laid := [("sealring/hash.primeRoots", laid_sealring_hash_primeRoots), ("sealring/sealringref.roundNumbers", laid_sealring_sealringref_roundNumbers)], narrowed := true }
def TreeLogsUptoSaid : Prop := treeLogsUptoRow.holds Tryd.pinned (OpenSpec.upto treeLogsSpec)

/-- 'sealringlaw.TreeTells', WHERE WHAT IT READS IS OF BULK AT MOST 1048576: true; the input reads as it did. -/
def treeTellsUptoRow : OpenClaim := { program := "ytkicjckhkefnpaadoor", sum := "678d8ea46215b777e4b8a95864dc5da95d28e7b2995d88108db67c16ed093a6f", func := "sealring/sealringlaw.TreeTells", spec := "treeTells", recurses := true, named := ["sealring/hash.primeRoots", "sealring/sealringref.roundNumbers"], apart := false, laid := [("sealring/hash.primeRoots", laid_sealring_hash_primeRoots), ("sealring/sealringref.roundNumbers", laid_sealring_sealringref_roundNumbers)], narrowed := true }
def TreeTellsUptoSaid : Prop := treeTellsUptoRow.holds Tryd.pinned (OpenSpec.upto treeTellsSpec)

/-- 'sealringlaw.PinRestores', WHERE WHAT IT READS IS OF BULK AT MOST 1048576: true; the input reads as it did. -/
def pinRestoresUptoRow : OpenClaim := { program := "ytkicjckhkefnpaadoor", sum := "678d8ea46215b777e4b8a95864dc5da95d28e7b2995d88108db67c16ed093a6f", func := "sealring/sealringlaw.PinRestores", spec := "pinRestores", named := ["sealring/sealringref.roundNumbers", "sealring/hash.primeRoots"], apart := false, laid := [("sealring/hash.primeRoots", laid_sealring_hash_primeRoots), ("sealring/sealringref.roundNumbers", laid_sealring_sealringref_roundNumbers)], narrowed := true }
def PinRestoresUptoSaid : Prop := pinRestoresUptoRow.holds Tryd.pinned (OpenSpec.upto pinRestoresSpec)

/-- 'sealringlaw.PinPlays', WHERE WHAT IT READS IS OF BULK AT MOST 1048576: true; the input reads as it did. -/
def pinPlaysUptoRow : OpenClaim := { program := "ytkicjckhkefnpaadoor", sum := "678d8ea46215b777e4b8a95864dc5da95d28e7b2995d88108db67c16ed093a6f", func := "sealring/sealringlaw.PinPlays", spec := "pinPlays", unfollowed := true, recurses := true, named := ["sealring/hash.primeRoots", "sealring/sealringref.roundNumbers"], apart := false, laid := [("sealring/hash.primeRoots", laid_sealring_hash_primeRoots), ("sealring/sealringref.roundNumbers", laid_sealring_sealringref_roundNumbers)], narrowed := true }
def PinPlaysUptoSaid : Prop := pinPlaysUptoRow.holds Tryd.pinned (OpenSpec.upto pinPlaysSpec)

/-- 'sealringlaw.TapeTells', WHERE WHAT IT READS IS OF BULK AT MOST 1048576: true; the input reads as it did. -/
def tapeTellsUptoRow : OpenClaim := { program := "ytkicjckhkefnpaadoor", sum := "678d8ea46215b777e4b8a95864dc5da95d28e7b2995d88108db67c16ed093a6f", func := "sealring/sealringlaw.TapeTells", spec := "tapeTells", named := ["sealring/hash.primeRoots", "sealring/sealringref.roundNumbers"], apart := false, laid := [("sealring/hash.primeRoots", laid_sealring_hash_primeRoots), ("sealring/sealringref.roundNumbers", laid_sealring_sealringref_roundNumbers)], narrowed := true }
def TapeTellsUptoSaid : Prop := tapeTellsUptoRow.holds Tryd.pinned (OpenSpec.upto tapeTellsSpec)

/-- 'sealringlaw.DrawTells', WHERE WHAT IT READS IS OF BULK AT MOST 1048576: true; the input reads as it did. -/
def drawTellsUptoRow : OpenClaim := { program := "ytkicjckhkefnpaadoor", sum := "678d8ea46215b777e4b8a95864dc5da95d28e7b2995d88108db67c16ed093a6f", func := "sealring/sealringlaw.DrawTells", spec := "drawTells", inPlace := ["math/bits.Sub64"], named := ["sealring/hash.primeRoots", "sealring/sealringref.roundNumbers"], apart := false, laid := [("sealring/hash.primeRoots", laid_sealring_hash_primeRoots), ("sealring/sealringref.roundNumbers", laid_sealring_sealringref_roundNumbers)], narrowed := true }
def DrawTellsUptoSaid : Prop := drawTellsUptoRow.holds Tryd.pinned (OpenSpec.upto drawTellsSpec)

/-- 'sealringlaw.ScalarTells', WHERE WHAT IT READS IS OF BULK AT MOST 1048576: true; the input reads as it did. -/
def scalarTellsUptoRow : OpenClaim := { program := "ytkicjckhkefnpaadoor", sum := "678d8ea46215b777e4b8a95864dc5da95d28e7b2995d88108db67c16ed093a6f", func := "sealring/sealringlaw.ScalarTells", spec := "scalarTells", inPlace := ["math/bits.Sub64", "math/bits.Add64"], unfollowed := true, recurses := true, named := ["sealring/hash.primeRoots", "sealring/sealringref.roundNumbers"], apart := false, laid := [("sealring/hash.primeRoots", laid_sealring_hash_primeRoots), ("sealring/sealringref.roundNumbers", laid_sealring_sealringref_roundNumbers)], narrowed := true }
def ScalarTellsUptoSaid : Prop := scalarTellsUptoRow.holds Tryd.pinned (OpenSpec.upto scalarTellsSpec)

/-- 'sealringlaw.ShareSplits', WHERE WHAT IT READS IS OF BULK AT MOST 1048576: true; the input reads as it did. -/
def shareSplitsUptoRow : OpenClaim := { program := "ytkicjckhkefnpaadoor", sum := "678d8ea46215b777e4b8a95864dc5da95d28e7b2995d88108db67c16ed093a6f", func := "sealring/sealringlaw.ShareSplits", spec := "shareSplits", inPlace := ["math/bits.Sub64", "math/bits.Add64"], named := ["sealring/hash.primeRoots", "sealring/sealringref.roundNumbers"], apart := false, laid := [("sealring/hash.primeRoots", laid_sealring_hash_primeRoots), ("sealring/sealringref.roundNumbers", laid_sealring_sealringref_roundNumbers)], narrowed := true }
def ShareSplitsUptoSaid : Prop := shareSplitsUptoRow.holds Tryd.pinned (OpenSpec.upto shareSplitsSpec)

end Rows
end Go.Proofs.YtkicjckhkefnpaaDoor
