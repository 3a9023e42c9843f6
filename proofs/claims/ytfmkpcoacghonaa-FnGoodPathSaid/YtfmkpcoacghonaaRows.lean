/-
  No cell of these rows narrows 'for every input' (looked for: loops, veiled, ifaces, maps, wideKeys, modest, calm, conditions, laid).
  DERIVED. THE GIVEN ROWS OF THIS SEAT. 12 by the template 'for every input the law returns true; each argument reads behind the call as it read before'; 0 by the template 'total and deterministic' (their statements: YtfmkpcoacghonaaTotals.lean).
  GIVEN WITH THE SEED: the statements are not yours to turn. If you find one false, say at which input.
  Laid BY PROGRAM, IN A SANDBOX (cutbox-rows.mjs): the forced cells as the released guide's own fill.sh prints them over the translation a46c0a78a604eddc… (all of the seat's roots in one cut). By AI agents, Wed Nov 11 2026. No macro, syntax, notation, axiom, sorry.
-/
import Derived.Test.YtfmkpcoacghonaaChecked
import GoSem.Claim
import GoSem.ClaimJoined
import GoSem.ClaimMapViews
import Derived.JoinedTies
import Derived.KernelRfl
namespace Go.Proofs.Ytfmkpcoacghonaa
/- THE CELL 'sum', in the pinned program and in every row, IS THE sha256 OF THE DUMP (.gsa) THAT YtfmkpcoacghonaaProg.lean LOADS. Nothing in Lean hashes anything: it is a label: what it is worth is what the hold of that sum in a sandbox is worth. -/
noncomputable def Try.pinned : Pinned := { name := "ytfmkpcoacghonaa", sum := "a46c0a78a604eddc22356f54bda00df358c3dca0d2593ddf451face5bd7681b1", checked := Try.checked }
namespace Rows
def none {H : Type} : Left H := { results := [], args := [] }

/-- 'laws.FnExactLastRun': WHATEVER THE INPUT: true; the input reads as it did. -/
def fnExactLastRunSpec : ChangeSpec := { name := "fnExactLastRun", fn := fun _ => fun
  | [d] => { results := [.lit (.bool true)], args := [d] }
  | _ => none }
def fnExactLastRunRow : OpenClaim := { program := "ytfmkpcoacghonaa", sum := "a46c0a78a604eddc22356f54bda00df358c3dca0d2593ddf451face5bd7681b1", func := "loop.example/connectionpool/laws.FnExactLastRun", spec := "fnExactLastRun", apart := false }
def FnExactLastRunSaid : Prop := fnExactLastRunRow.holds Try.pinned (OpenSpec.ofChange fnExactLastRunSpec)

/-- ITS FALSE NEIGHBOUR: 'it returns false'. Refute it at one input. -/
def fnExactLastRunWrong : ChangeSpec := { name := "fnExactLastRun", fn := fun _ => fun
  | [d] => { results := [.lit (.bool false)], args := [d] }
  | _ => none }
def FnExactLastRunWrongFalsely : Prop := fnExactLastRunRow.holds Try.pinned (OpenSpec.ofChange fnExactLastRunWrong)

/-- 'laws.FnLastRun': WHATEVER THE INPUT: true; the input reads as it did. -/
def fnLastRunSpec : ChangeSpec := { name := "fnLastRun", fn := fun _ => fun
  | [d] => { results := [.lit (.bool true)], args := [d] }
  | _ => none }
def fnLastRunRow : OpenClaim := { program := "ytfmkpcoacghonaa", sum := "a46c0a78a604eddc22356f54bda00df358c3dca0d2593ddf451face5bd7681b1", func := "loop.example/connectionpool/laws.FnLastRun", spec := "fnLastRun", apart := false }
def FnLastRunSaid : Prop := fnLastRunRow.holds Try.pinned (OpenSpec.ofChange fnLastRunSpec)

/-- ITS FALSE NEIGHBOUR: 'it returns false'. Refute it at one input. -/
def fnLastRunWrong : ChangeSpec := { name := "fnLastRun", fn := fun _ => fun
  | [d] => { results := [.lit (.bool false)], args := [d] }
  | _ => none }
def FnLastRunWrongFalsely : Prop := fnLastRunRow.holds Try.pinned (OpenSpec.ofChange fnLastRunWrong)

/-- 'laws.FnLastRunParts': WHATEVER THE INPUT: true; the input reads as it did. -/
def fnLastRunPartsSpec : ChangeSpec := { name := "fnLastRunParts", fn := fun _ => fun
  | [d] => { results := [.lit (.bool true)], args := [d] }
  | _ => none }
def fnLastRunPartsRow : OpenClaim := { program := "ytfmkpcoacghonaa", sum := "a46c0a78a604eddc22356f54bda00df358c3dca0d2593ddf451face5bd7681b1", func := "loop.example/connectionpool/laws.FnLastRunParts", spec := "fnLastRunParts", apart := false }
def FnLastRunPartsSaid : Prop := fnLastRunPartsRow.holds Try.pinned (OpenSpec.ofChange fnLastRunPartsSpec)

/-- ITS FALSE NEIGHBOUR: 'it returns false'. Refute it at one input. -/
def fnLastRunPartsWrong : ChangeSpec := { name := "fnLastRunParts", fn := fun _ => fun
  | [d] => { results := [.lit (.bool false)], args := [d] }
  | _ => none }
def FnLastRunPartsWrongFalsely : Prop := fnLastRunPartsRow.holds Try.pinned (OpenSpec.ofChange fnLastRunPartsWrong)

/-- 'laws.FnLastRunSame': WHATEVER THE INPUT: true; the input reads as it did. -/
def fnLastRunSameSpec : ChangeSpec := { name := "fnLastRunSame", fn := fun _ => fun
  | [d] => { results := [.lit (.bool true)], args := [d] }
  | _ => none }
def fnLastRunSameRow : OpenClaim := { program := "ytfmkpcoacghonaa", sum := "a46c0a78a604eddc22356f54bda00df358c3dca0d2593ddf451face5bd7681b1", func := "loop.example/connectionpool/laws.FnLastRunSame", spec := "fnLastRunSame", apart := false }
def FnLastRunSameSaid : Prop := fnLastRunSameRow.holds Try.pinned (OpenSpec.ofChange fnLastRunSameSpec)

/-- ITS FALSE NEIGHBOUR: 'it returns false'. Refute it at one input. -/
def fnLastRunSameWrong : ChangeSpec := { name := "fnLastRunSame", fn := fun _ => fun
  | [d] => { results := [.lit (.bool false)], args := [d] }
  | _ => none }
def FnLastRunSameWrongFalsely : Prop := fnLastRunSameRow.holds Try.pinned (OpenSpec.ofChange fnLastRunSameWrong)

/-- 'laws.FnExactIsGood': WHATEVER THE INPUT: true; the input reads as it did. -/
def fnExactIsGoodSpec : ChangeSpec := { name := "fnExactIsGood", fn := fun _ => fun
  | [d1, d2, d3] => { results := [.lit (.bool true)], args := [d1, d2, d3] }
  | _ => none }
def fnExactIsGoodRow : OpenClaim := { program := "ytfmkpcoacghonaa", sum := "a46c0a78a604eddc22356f54bda00df358c3dca0d2593ddf451face5bd7681b1", func := "loop.example/connectionpool/laws.FnExactIsGood", spec := "fnExactIsGood", apart := false }
def FnExactIsGoodSaid : Prop := fnExactIsGoodRow.holds Try.pinned (OpenSpec.ofChange fnExactIsGoodSpec)

/-- ITS FALSE NEIGHBOUR: 'it returns false'. Refute it at one input. -/
def fnExactIsGoodWrong : ChangeSpec := { name := "fnExactIsGood", fn := fun _ => fun
  | [d1, d2, d3] => { results := [.lit (.bool false)], args := [d1, d2, d3] }
  | _ => none }
def FnExactIsGoodWrongFalsely : Prop := fnExactIsGoodRow.holds Try.pinned (OpenSpec.ofChange fnExactIsGoodWrong)

/-- 'laws.FnIsGood': WHATEVER THE INPUT: true; the input reads as it did. -/
def fnIsGoodSpec : ChangeSpec := { name := "fnIsGood", fn := fun _ => fun
  | [d] => { results := [.lit (.bool true)], args := [d] }
  | _ => none }
def fnIsGoodRow : OpenClaim := { program := "ytfmkpcoacghonaa", sum := "a46c0a78a604eddc22356f54bda00df358c3dca0d2593ddf451face5bd7681b1", func := "loop.example/connectionpool/laws.FnIsGood", spec := "fnIsGood", apart := false }
def FnIsGoodSaid : Prop := fnIsGoodRow.holds Try.pinned (OpenSpec.ofChange fnIsGoodSpec)

/-- ITS FALSE NEIGHBOUR: 'it returns false'. Refute it at one input. -/
def fnIsGoodWrong : ChangeSpec := { name := "fnIsGood", fn := fun _ => fun
  | [d] => { results := [.lit (.bool false)], args := [d] }
  | _ => none }
def FnIsGoodWrongFalsely : Prop := fnIsGoodRow.holds Try.pinned (OpenSpec.ofChange fnIsGoodWrong)

/-- 'laws.FnIsGoodNone': WHATEVER THE INPUT: true; the input reads as it did. -/
def fnIsGoodNoneSpec : ChangeSpec := { name := "fnIsGoodNone", fn := fun _ => fun
  | [d] => { results := [.lit (.bool true)], args := [d] }
  | _ => none }
def fnIsGoodNoneRow : OpenClaim := { program := "ytfmkpcoacghonaa", sum := "a46c0a78a604eddc22356f54bda00df358c3dca0d2593ddf451face5bd7681b1", func := "loop.example/connectionpool/laws.FnIsGoodNone", spec := "fnIsGoodNone", apart := false }
def FnIsGoodNoneSaid : Prop := fnIsGoodNoneRow.holds Try.pinned (OpenSpec.ofChange fnIsGoodNoneSpec)

/-- ITS FALSE NEIGHBOUR: 'it returns false'. Refute it at one input. -/
def fnIsGoodNoneWrong : ChangeSpec := { name := "fnIsGoodNone", fn := fun _ => fun
  | [d] => { results := [.lit (.bool false)], args := [d] }
  | _ => none }
def FnIsGoodNoneWrongFalsely : Prop := fnIsGoodNoneRow.holds Try.pinned (OpenSpec.ofChange fnIsGoodNoneWrong)

/-- 'laws.FnIsGoodStep': WHATEVER THE INPUT: true; the input reads as it did. -/
def fnIsGoodStepSpec : ChangeSpec := { name := "fnIsGoodStep", fn := fun _ => fun
  | [d] => { results := [.lit (.bool true)], args := [d] }
  | _ => none }
def fnIsGoodStepRow : OpenClaim := { program := "ytfmkpcoacghonaa", sum := "a46c0a78a604eddc22356f54bda00df358c3dca0d2593ddf451face5bd7681b1", func := "loop.example/connectionpool/laws.FnIsGoodStep", spec := "fnIsGoodStep", apart := false }
def FnIsGoodStepSaid : Prop := fnIsGoodStepRow.holds Try.pinned (OpenSpec.ofChange fnIsGoodStepSpec)

/-- ITS FALSE NEIGHBOUR: 'it returns false'. Refute it at one input. -/
def fnIsGoodStepWrong : ChangeSpec := { name := "fnIsGoodStep", fn := fun _ => fun
  | [d] => { results := [.lit (.bool false)], args := [d] }
  | _ => none }
def FnIsGoodStepWrongFalsely : Prop := fnIsGoodStepRow.holds Try.pinned (OpenSpec.ofChange fnIsGoodStepWrong)

/-- 'laws.FnExactGoodPath': WHATEVER THE INPUT: true; the input reads as it did. -/
def fnExactGoodPathSpec : ChangeSpec := { name := "fnExactGoodPath", fn := fun _ => fun
  | [d1, d2, d3] => { results := [.lit (.bool true)], args := [d1, d2, d3] }
  | _ => none }
def fnExactGoodPathRow : OpenClaim := { program := "ytfmkpcoacghonaa", sum := "a46c0a78a604eddc22356f54bda00df358c3dca0d2593ddf451face5bd7681b1", func := "loop.example/connectionpool/laws.FnExactGoodPath", spec := "fnExactGoodPath", apart := false }
def FnExactGoodPathSaid : Prop := fnExactGoodPathRow.holds Try.pinned (OpenSpec.ofChange fnExactGoodPathSpec)

/-- ITS FALSE NEIGHBOUR: 'it returns false'. Refute it at one input. -/
def fnExactGoodPathWrong : ChangeSpec := { name := "fnExactGoodPath", fn := fun _ => fun
  | [d1, d2, d3] => { results := [.lit (.bool false)], args := [d1, d2, d3] }
  | _ => none }
def FnExactGoodPathWrongFalsely : Prop := fnExactGoodPathRow.holds Try.pinned (OpenSpec.ofChange fnExactGoodPathWrong)

/-- 'laws.FnGoodPathOne': WHATEVER THE INPUT: true; the input reads as it did. -/
def fnGoodPathOneSpec : ChangeSpec := { name := "fnGoodPathOne", fn := fun _ => fun
  | [d] => { results := [.lit (.bool true)], args := [d] }
  | _ => none }
def fnGoodPathOneRow : OpenClaim := { program := "ytfmkpcoacghonaa", sum := "a46c0a78a604eddc22356f54bda00df358c3dca0d2593ddf451face5bd7681b1", func := "loop.example/connectionpool/laws.FnGoodPathOne", spec := "fnGoodPathOne", apart := false }
def FnGoodPathOneSaid : Prop := fnGoodPathOneRow.holds Try.pinned (OpenSpec.ofChange fnGoodPathOneSpec)

/-- ITS FALSE NEIGHBOUR: 'it returns false'. Refute it at one input. -/
def fnGoodPathOneWrong : ChangeSpec := { name := "fnGoodPathOne", fn := fun _ => fun
  | [d] => { results := [.lit (.bool false)], args := [d] }
  | _ => none }
def FnGoodPathOneWrongFalsely : Prop := fnGoodPathOneRow.holds Try.pinned (OpenSpec.ofChange fnGoodPathOneWrong)

/-- 'laws.FnGoodPathShort': WHATEVER THE INPUT: true; the input reads as it did. -/
def fnGoodPathShortSpec : ChangeSpec := { name := "fnGoodPathShort", fn := fun _ => fun
  | [d] => { results := [.lit (.bool true)], args := [d] }
  | _ => none }
def fnGoodPathShortRow : OpenClaim := { program := "ytfmkpcoacghonaa", sum := "a46c0a78a604eddc22356f54bda00df358c3dca0d2593ddf451face5bd7681b1", func := "loop.example/connectionpool/laws.FnGoodPathShort", spec := "fnGoodPathShort", apart := false }
def FnGoodPathShortSaid : Prop := fnGoodPathShortRow.holds Try.pinned (OpenSpec.ofChange fnGoodPathShortSpec)

/-- ITS FALSE NEIGHBOUR: 'it returns false'. Refute it at one input. -/
def fnGoodPathShortWrong : ChangeSpec := { name := "fnGoodPathShort", fn := fun _ => fun
  | [d] => { results := [.lit (.bool false)], args := [d] }
  | _ => none }
def FnGoodPathShortWrongFalsely : Prop := fnGoodPathShortRow.holds Try.pinned (OpenSpec.ofChange fnGoodPathShortWrong)

/-- 'laws.FnGoodPath': WHATEVER THE INPUT: true; the input reads as it did. -/
def fnGoodPathSpec : ChangeSpec := { name := "fnGoodPath", fn := fun _ => fun
  | [d] => { results := [.lit (.bool true)], args := [d] }
  | _ => none }
def fnGoodPathRow : OpenClaim := { program := "ytfmkpcoacghonaa", sum := "a46c0a78a604eddc22356f54bda00df358c3dca0d2593ddf451face5bd7681b1", func := "loop.example/connectionpool/laws.FnGoodPath", spec := "fnGoodPath", apart := false }
def FnGoodPathSaid : Prop := fnGoodPathRow.holds Try.pinned (OpenSpec.ofChange fnGoodPathSpec)

/-- ITS FALSE NEIGHBOUR: 'it returns false'. Refute it at one input. -/
def fnGoodPathWrong : ChangeSpec := { name := "fnGoodPath", fn := fun _ => fun
  | [d] => { results := [.lit (.bool false)], args := [d] }
  | _ => none }
def FnGoodPathWrongFalsely : Prop := fnGoodPathRow.holds Try.pinned (OpenSpec.ofChange fnGoodPathWrong)

/- THE SECOND FORM. 'bulk': how many values and letters a reading holds, each counted each time it is reached (what is shared counts as often as it is met; a slice's spare places count too). A statement '..UptoSaid' is the law's where the arguments, and the package variables that the reading takes, are together of bulk at most 1048576: NARROWER than '..Said'. Prove '..Said' where nothing that the law and all that it calls make is longer than what came in: it says more and counts as full. Else prove '..UptoSaid'. A law counts once. -/
mutual
def uptoBulk {H : Type} : DataW H → Nat
  | .lit (.string bytes) => bytes.length + 1
  | .lit _ => 1
  | .nil => 1
  | .ptr d => uptoBulk d + 1
  | .slice elems spare => uptoBulkAll elems + uptoBulkAll spare + 1
  | .agg parts => uptoBulkAll parts + 1
  | .iface _ d => uptoBulk d + 1
  | .map entries => uptoBulkEntries entries + 1
  | .held _ => 1
def uptoBulkAll {H : Type} : List (DataW H) → Nat
  | [] => 0
  | d :: r => uptoBulk d + uptoBulkAll r
def uptoBulkEntries {H : Type} : List (Lit × DataW H) → Nat
  | [] => 0
  | x :: r => uptoBulkEntry x + uptoBulkEntries r
def uptoBulkEntry {H : Type} : Lit × DataW H → Nat
  | (.string bytes, d) => bytes.length + uptoBulk d + 1
  | (_, d) => uptoBulk d + 1
 end
def uptoSmall : (H : Type) → List (DataW H) → Bool := fun _ ds => decide (uptoBulkAll ds ≤ 1048576)
def OpenSpec.upto (s : _root_.Go.ChangeSpec) : _root_.Go.OpenSpec := { _root_.Go.OpenSpec.ofChange s with cond := some uptoSmall }

/-- 'laws.FnExactLastRun', WHERE WHAT IT READS IS OF BULK AT MOST 1048576: true; the input reads as it did. -/
def fnExactLastRunUptoRow : OpenClaim := { program := "ytfmkpcoacghonaa", sum := "a46c0a78a604eddc22356f54bda00df358c3dca0d2593ddf451face5bd7681b1", func := "loop.example/connectionpool/laws.FnExactLastRun", spec := "fnExactLastRun", apart := false, narrowed := true }
def FnExactLastRunUptoSaid : Prop := fnExactLastRunUptoRow.holds Try.pinned (OpenSpec.upto fnExactLastRunSpec)

/-- 'laws.FnLastRun', WHERE WHAT IT READS IS OF BULK AT MOST 1048576: true; the input reads as it did. -/
def fnLastRunUptoRow : OpenClaim := { program := "ytfmkpcoacghonaa", sum := "a46c0a78a604eddc22356f54bda00df358c3dca0d2593ddf451face5bd7681b1", func := "loop.example/connectionpool/laws.FnLastRun", spec := "fnLastRun", apart := false, narrowed := true }
def FnLastRunUptoSaid : Prop := fnLastRunUptoRow.holds Try.pinned (OpenSpec.upto fnLastRunSpec)

/-- 'laws.FnLastRunParts', WHERE WHAT IT READS IS OF BULK AT MOST 1048576: true; the input reads as it did. -/
def fnLastRunPartsUptoRow : OpenClaim := { program := "ytfmkpcoacghonaa", sum := "a46c0a78a604eddc22356f54bda00df358c3dca0d2593ddf451face5bd7681b1", func := "loop.example/connectionpool/laws.FnLastRunParts", spec := "fnLastRunParts", apart := false, narrowed := true }
def FnLastRunPartsUptoSaid : Prop := fnLastRunPartsUptoRow.holds Try.pinned (OpenSpec.upto fnLastRunPartsSpec)

/-- 'laws.FnLastRunSame', WHERE WHAT IT READS IS OF BULK AT MOST 1048576: true; the input reads as it did. -/
def fnLastRunSameUptoRow : OpenClaim := { program := "ytfmkpcoacghonaa", sum := "a46c0a78a604eddc22356f54bda00df358c3dca0d2593ddf451face5bd7681b1", func := "loop.example/connectionpool/laws.FnLastRunSame", spec := "fnLastRunSame", apart := false, narrowed := true }
def FnLastRunSameUptoSaid : Prop := fnLastRunSameUptoRow.holds Try.pinned (OpenSpec.upto fnLastRunSameSpec)

/-- 'laws.FnExactIsGood', WHERE WHAT IT READS IS OF BULK AT MOST 1048576: true; the input reads as it did. -/
def fnExactIsGoodUptoRow : OpenClaim := { program := "ytfmkpcoacghonaa", sum := "a46c0a78a604eddc22356f54bda00df358c3dca0d2593ddf451face5bd7681b1", func := "loop.example/connectionpool/laws.FnExactIsGood", spec := "fnExactIsGood", apart := false, narrowed := true }
def FnExactIsGoodUptoSaid : Prop := fnExactIsGoodUptoRow.holds Try.pinned (OpenSpec.upto fnExactIsGoodSpec)

/-- 'laws.FnIsGood', WHERE WHAT IT READS IS OF BULK AT MOST 1048576: true; the input reads as it did. -/
def fnIsGoodUptoRow : OpenClaim := { program := "ytfmkpcoacghonaa", sum := "a46c0a78a604eddc22356f54bda00df358c3dca0d2593ddf451face5bd7681b1", func := "loop.example/connectionpool/laws.FnIsGood", spec := "fnIsGood", apart := false, narrowed := true }
def FnIsGoodUptoSaid : Prop := fnIsGoodUptoRow.holds Try.pinned (OpenSpec.upto fnIsGoodSpec)

/-- 'laws.FnIsGoodNone', WHERE WHAT IT READS IS OF BULK AT MOST 1048576: true; the input reads as it did. -/
def fnIsGoodNoneUptoRow : OpenClaim := { program := "ytfmkpcoacghonaa", sum := "a46c0a78a604eddc22356f54bda00df358c3dca0d2593ddf451face5bd7681b1", func := "loop.example/connectionpool/laws.FnIsGoodNone", spec := "fnIsGoodNone", apart := false, narrowed := true }
def FnIsGoodNoneUptoSaid : Prop := fnIsGoodNoneUptoRow.holds Try.pinned (OpenSpec.upto fnIsGoodNoneSpec)

/-- 'laws.FnIsGoodStep', WHERE WHAT IT READS IS OF BULK AT MOST 1048576: true; the input reads as it did. -/
def fnIsGoodStepUptoRow : OpenClaim := { program := "ytfmkpcoacghonaa", sum := "a46c0a78a604eddc22356f54bda00df358c3dca0d2593ddf451face5bd7681b1", func := "loop.example/connectionpool/laws.FnIsGoodStep", spec := "fnIsGoodStep", apart := false, narrowed := true }
def FnIsGoodStepUptoSaid : Prop := fnIsGoodStepUptoRow.holds Try.pinned (OpenSpec.upto fnIsGoodStepSpec)

/-- 'laws.FnExactGoodPath', WHERE WHAT IT READS IS OF BULK AT MOST 1048576: true; the input reads as it did. -/
def fnExactGoodPathUptoRow : OpenClaim := { program := "ytfmkpcoacghonaa", sum := "a46c0a78a604eddc22356f54bda00df358c3dca0d2593ddf451face5bd7681b1", func := "loop.example/connectionpool/laws.FnExactGoodPath", spec := "fnExactGoodPath", apart := false, narrowed := true }
def FnExactGoodPathUptoSaid : Prop := fnExactGoodPathUptoRow.holds Try.pinned (OpenSpec.upto fnExactGoodPathSpec)

/-- 'laws.FnGoodPathOne', WHERE WHAT IT READS IS OF BULK AT MOST 1048576: true; the input reads as it did. -/
def fnGoodPathOneUptoRow : OpenClaim := { program := "ytfmkpcoacghonaa", sum := "a46c0a78a604eddc22356f54bda00df358c3dca0d2593ddf451face5bd7681b1", func := "loop.example/connectionpool/laws.FnGoodPathOne", spec := "fnGoodPathOne", apart := false, narrowed := true }
def FnGoodPathOneUptoSaid : Prop := fnGoodPathOneUptoRow.holds Try.pinned (OpenSpec.upto fnGoodPathOneSpec)

/-- 'laws.FnGoodPathShort', WHERE WHAT IT READS IS OF BULK AT MOST 1048576: true; the input reads as it did. -/
def fnGoodPathShortUptoRow : OpenClaim := { program := "ytfmkpcoacghonaa", sum := "a46c0a78a604eddc22356f54bda00df358c3dca0d2593ddf451face5bd7681b1", func := "loop.example/connectionpool/laws.FnGoodPathShort", spec := "fnGoodPathShort", apart := false, narrowed := true }
def FnGoodPathShortUptoSaid : Prop := fnGoodPathShortUptoRow.holds Try.pinned (OpenSpec.upto fnGoodPathShortSpec)

/-- 'laws.FnGoodPath', WHERE WHAT IT READS IS OF BULK AT MOST 1048576: true; the input reads as it did. -/
def fnGoodPathUptoRow : OpenClaim := { program := "ytfmkpcoacghonaa", sum := "a46c0a78a604eddc22356f54bda00df358c3dca0d2593ddf451face5bd7681b1", func := "loop.example/connectionpool/laws.FnGoodPath", spec := "fnGoodPath", apart := false, narrowed := true }
def FnGoodPathUptoSaid : Prop := fnGoodPathUptoRow.holds Try.pinned (OpenSpec.upto fnGoodPathSpec)

end Rows
end Go.Proofs.Ytfmkpcoacghonaa
