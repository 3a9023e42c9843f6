/-
  No cell of these rows narrows 'for every input' (looked for: loops, veiled, ifaces, maps, wideKeys, modest, calm, conditions, laid).
  DERIVED. THE GIVEN ROWS OF THIS SEAT. 9 by the template 'for every input the law returns true; each argument reads behind the call as it read before'; 0 by the template 'total and deterministic' (their statements: YtagmhmhhjkfhgaaTotals.lean).
  GIVEN WITH THE SEED: the statements are not yours to turn. If you find one false, say at which input.
  Laid BY PROGRAM, IN A SANDBOX (cutbox-rows.mjs): the forced cells as the released guide's own fill.sh prints them over the translation 6c1c2b3ae85d50e9… (all of the seat's roots in one cut). By AI agents, Wed Nov 11 2026. No macro, syntax, notation, axiom, sorry.
-/
import Derived.Test.YtagmhmhhjkfhgaaChecked
import GoSem.Claim
import GoSem.ClaimJoined
import GoSem.ClaimMapViews
import Derived.JoinedTies
import Derived.KernelRfl
namespace Go.Proofs.Ytagmhmhhjkfhgaa
/- THE CELL 'sum', in the pinned program and in every row, IS THE sha256 OF THE DUMP (.gsa) THAT YtagmhmhhjkfhgaaProg.lean LOADS. Nothing in Lean hashes anything: it is a label: what it is worth is what the hold of that sum in a sandbox is worth. -/
noncomputable def Try.pinned : Pinned := { name := "ytagmhmhhjkfhgaa", sum := "6c1c2b3ae85d50e9ff2b4bec3bac7cb63e8d44f088570f791a2be0fd8f4241e0", checked := Try.checked }
namespace Rows
def none {H : Type} : Left H := { results := [], args := [] }

/-- 'laws.FnStepNestKeep': WHATEVER THE INPUT: true; the input reads as it did. -/
def fnStepNestKeepSpec : ChangeSpec := { name := "fnStepNestKeep", fn := fun _ => fun
  | [d] => { results := [.lit (.bool true)], args := [d] }
  | _ => none }
def fnStepNestKeepRow : OpenClaim := { program := "ytagmhmhhjkfhgaa", sum := "6c1c2b3ae85d50e9ff2b4bec3bac7cb63e8d44f088570f791a2be0fd8f4241e0", func := "loop.example/connectionpool/laws.FnStepNestKeep", spec := "fnStepNestKeep", apart := false }
def FnStepNestKeepSaid : Prop := fnStepNestKeepRow.holds Try.pinned (OpenSpec.ofChange fnStepNestKeepSpec)

/-- ITS FALSE NEIGHBOUR: 'it returns false'. Refute it at one input. -/
def fnStepNestKeepWrong : ChangeSpec := { name := "fnStepNestKeep", fn := fun _ => fun
  | [d] => { results := [.lit (.bool false)], args := [d] }
  | _ => none }
def FnStepNestKeepWrongFalsely : Prop := fnStepNestKeepRow.holds Try.pinned (OpenSpec.ofChange fnStepNestKeepWrong)

/-- 'laws.FnExactRunNest': WHATEVER THE INPUT: true; the input reads as it did. -/
def fnExactRunNestSpec : ChangeSpec := { name := "fnExactRunNest", fn := fun _ => fun
  | [d] => { results := [.lit (.bool true)], args := [d] }
  | _ => none }
def fnExactRunNestRow : OpenClaim := { program := "ytagmhmhhjkfhgaa", sum := "6c1c2b3ae85d50e9ff2b4bec3bac7cb63e8d44f088570f791a2be0fd8f4241e0", func := "loop.example/connectionpool/laws.FnExactRunNest", spec := "fnExactRunNest", apart := false }
def FnExactRunNestSaid : Prop := fnExactRunNestRow.holds Try.pinned (OpenSpec.ofChange fnExactRunNestSpec)

/-- ITS FALSE NEIGHBOUR: 'it returns false'. Refute it at one input. -/
def fnExactRunNestWrong : ChangeSpec := { name := "fnExactRunNest", fn := fun _ => fun
  | [d] => { results := [.lit (.bool false)], args := [d] }
  | _ => none }
def FnExactRunNestWrongFalsely : Prop := fnExactRunNestRow.holds Try.pinned (OpenSpec.ofChange fnExactRunNestWrong)

/-- 'laws.FnRunNest': WHATEVER THE INPUT: true; the input reads as it did. -/
def fnRunNestSpec : ChangeSpec := { name := "fnRunNest", fn := fun _ => fun
  | [d] => { results := [.lit (.bool true)], args := [d] }
  | _ => none }
def fnRunNestRow : OpenClaim := { program := "ytagmhmhhjkfhgaa", sum := "6c1c2b3ae85d50e9ff2b4bec3bac7cb63e8d44f088570f791a2be0fd8f4241e0", func := "loop.example/connectionpool/laws.FnRunNest", spec := "fnRunNest", apart := false }
def FnRunNestSaid : Prop := fnRunNestRow.holds Try.pinned (OpenSpec.ofChange fnRunNestSpec)

/-- ITS FALSE NEIGHBOUR: 'it returns false'. Refute it at one input. -/
def fnRunNestWrong : ChangeSpec := { name := "fnRunNest", fn := fun _ => fun
  | [d] => { results := [.lit (.bool false)], args := [d] }
  | _ => none }
def FnRunNestWrongFalsely : Prop := fnRunNestRow.holds Try.pinned (OpenSpec.ofChange fnRunNestWrong)

/-- 'laws.FnRunNestBound': WHATEVER THE INPUT: true; the input reads as it did. -/
def fnRunNestBoundSpec : ChangeSpec := { name := "fnRunNestBound", fn := fun _ => fun
  | [d] => { results := [.lit (.bool true)], args := [d] }
  | _ => none }
def fnRunNestBoundRow : OpenClaim := { program := "ytagmhmhhjkfhgaa", sum := "6c1c2b3ae85d50e9ff2b4bec3bac7cb63e8d44f088570f791a2be0fd8f4241e0", func := "loop.example/connectionpool/laws.FnRunNestBound", spec := "fnRunNestBound", apart := false }
def FnRunNestBoundSaid : Prop := fnRunNestBoundRow.holds Try.pinned (OpenSpec.ofChange fnRunNestBoundSpec)

/-- ITS FALSE NEIGHBOUR: 'it returns false'. Refute it at one input. -/
def fnRunNestBoundWrong : ChangeSpec := { name := "fnRunNestBound", fn := fun _ => fun
  | [d] => { results := [.lit (.bool false)], args := [d] }
  | _ => none }
def FnRunNestBoundWrongFalsely : Prop := fnRunNestBoundRow.holds Try.pinned (OpenSpec.ofChange fnRunNestBoundWrong)

/-- 'laws.FnRunNestWork': WHATEVER THE INPUT: true; the input reads as it did. -/
def fnRunNestWorkSpec : ChangeSpec := { name := "fnRunNestWork", fn := fun _ => fun
  | [d] => { results := [.lit (.bool true)], args := [d] }
  | _ => none }
def fnRunNestWorkRow : OpenClaim := { program := "ytagmhmhhjkfhgaa", sum := "6c1c2b3ae85d50e9ff2b4bec3bac7cb63e8d44f088570f791a2be0fd8f4241e0", func := "loop.example/connectionpool/laws.FnRunNestWork", spec := "fnRunNestWork", apart := false }
def FnRunNestWorkSaid : Prop := fnRunNestWorkRow.holds Try.pinned (OpenSpec.ofChange fnRunNestWorkSpec)

/-- ITS FALSE NEIGHBOUR: 'it returns false'. Refute it at one input. -/
def fnRunNestWorkWrong : ChangeSpec := { name := "fnRunNestWork", fn := fun _ => fun
  | [d] => { results := [.lit (.bool false)], args := [d] }
  | _ => none }
def FnRunNestWorkWrongFalsely : Prop := fnRunNestWorkRow.holds Try.pinned (OpenSpec.ofChange fnRunNestWorkWrong)

/-- 'laws.FnExactKeptWork': WHATEVER THE INPUT: true; the input reads as it did. -/
def fnExactKeptWorkSpec : ChangeSpec := { name := "fnExactKeptWork", fn := fun _ => fun
  | [d] => { results := [.lit (.bool true)], args := [d] }
  | _ => none }
def fnExactKeptWorkRow : OpenClaim := { program := "ytagmhmhhjkfhgaa", sum := "6c1c2b3ae85d50e9ff2b4bec3bac7cb63e8d44f088570f791a2be0fd8f4241e0", func := "loop.example/connectionpool/laws.FnExactKeptWork", spec := "fnExactKeptWork", apart := false }
def FnExactKeptWorkSaid : Prop := fnExactKeptWorkRow.holds Try.pinned (OpenSpec.ofChange fnExactKeptWorkSpec)

/-- ITS FALSE NEIGHBOUR: 'it returns false'. Refute it at one input. -/
def fnExactKeptWorkWrong : ChangeSpec := { name := "fnExactKeptWork", fn := fun _ => fun
  | [d] => { results := [.lit (.bool false)], args := [d] }
  | _ => none }
def FnExactKeptWorkWrongFalsely : Prop := fnExactKeptWorkRow.holds Try.pinned (OpenSpec.ofChange fnExactKeptWorkWrong)

/-- 'laws.FnKeptWork': WHATEVER THE INPUT: true; the input reads as it did. -/
def fnKeptWorkSpec : ChangeSpec := { name := "fnKeptWork", fn := fun _ => fun
  | [d] => { results := [.lit (.bool true)], args := [d] }
  | _ => none }
def fnKeptWorkRow : OpenClaim := { program := "ytagmhmhhjkfhgaa", sum := "6c1c2b3ae85d50e9ff2b4bec3bac7cb63e8d44f088570f791a2be0fd8f4241e0", func := "loop.example/connectionpool/laws.FnKeptWork", spec := "fnKeptWork", apart := false }
def FnKeptWorkSaid : Prop := fnKeptWorkRow.holds Try.pinned (OpenSpec.ofChange fnKeptWorkSpec)

/-- ITS FALSE NEIGHBOUR: 'it returns false'. Refute it at one input. -/
def fnKeptWorkWrong : ChangeSpec := { name := "fnKeptWork", fn := fun _ => fun
  | [d] => { results := [.lit (.bool false)], args := [d] }
  | _ => none }
def FnKeptWorkWrongFalsely : Prop := fnKeptWorkRow.holds Try.pinned (OpenSpec.ofChange fnKeptWorkWrong)

/-- 'laws.FnKeptWorkMore': WHATEVER THE INPUT: true; the input reads as it did. -/
def fnKeptWorkMoreSpec : ChangeSpec := { name := "fnKeptWorkMore", fn := fun _ => fun
  | [d] => { results := [.lit (.bool true)], args := [d] }
  | _ => none }
def fnKeptWorkMoreRow : OpenClaim := { program := "ytagmhmhhjkfhgaa", sum := "6c1c2b3ae85d50e9ff2b4bec3bac7cb63e8d44f088570f791a2be0fd8f4241e0", func := "loop.example/connectionpool/laws.FnKeptWorkMore", spec := "fnKeptWorkMore", apart := false }
def FnKeptWorkMoreSaid : Prop := fnKeptWorkMoreRow.holds Try.pinned (OpenSpec.ofChange fnKeptWorkMoreSpec)

/-- ITS FALSE NEIGHBOUR: 'it returns false'. Refute it at one input. -/
def fnKeptWorkMoreWrong : ChangeSpec := { name := "fnKeptWorkMore", fn := fun _ => fun
  | [d] => { results := [.lit (.bool false)], args := [d] }
  | _ => none }
def FnKeptWorkMoreWrongFalsely : Prop := fnKeptWorkMoreRow.holds Try.pinned (OpenSpec.ofChange fnKeptWorkMoreWrong)

/-- 'laws.FnKeptWorkSimple': WHATEVER THE INPUT: true; the input reads as it did. -/
def fnKeptWorkSimpleSpec : ChangeSpec := { name := "fnKeptWorkSimple", fn := fun _ => fun
  | [d] => { results := [.lit (.bool true)], args := [d] }
  | _ => none }
def fnKeptWorkSimpleRow : OpenClaim := { program := "ytagmhmhhjkfhgaa", sum := "6c1c2b3ae85d50e9ff2b4bec3bac7cb63e8d44f088570f791a2be0fd8f4241e0", func := "loop.example/connectionpool/laws.FnKeptWorkSimple", spec := "fnKeptWorkSimple", apart := false }
def FnKeptWorkSimpleSaid : Prop := fnKeptWorkSimpleRow.holds Try.pinned (OpenSpec.ofChange fnKeptWorkSimpleSpec)

/-- ITS FALSE NEIGHBOUR: 'it returns false'. Refute it at one input. -/
def fnKeptWorkSimpleWrong : ChangeSpec := { name := "fnKeptWorkSimple", fn := fun _ => fun
  | [d] => { results := [.lit (.bool false)], args := [d] }
  | _ => none }
def FnKeptWorkSimpleWrongFalsely : Prop := fnKeptWorkSimpleRow.holds Try.pinned (OpenSpec.ofChange fnKeptWorkSimpleWrong)

/- THE SECOND FORM. 'bulk': how many values and letters a reading holds, each counted each time it is reached (what is shared counts as often as it is met; a slice's spare places count too). A statement '..UptoSaid' is the law's where the arguments, and the package variables that the reading takes, are together of bulk at most 1048576: NARROWER than '..Said'. Prove '..Said' where nothing that the law and all that it calls make is longer than what came in: it says more and counts as full. Else prove '..UptoSaid'. A law counts once. -/
mutual
def uptoBulk {H : Type} : DataW H → Nat
  | .lit (.string bytes) => bytes.length + 1
  | .lit _ => 1
  | .nil => 1
  | .ptr d => uptoBulk d + 1
  | .slice elems spare => uptoBulkAll elems + uptoBulkAll spare + 1
  | .agg parts => uptoBulkAll parts + 1
  | .iface _ d => uptoBulk d + 1
  | .map entries => uptoBulkEntries entries + 1
  | .held _ => 1
def uptoBulkAll {H : Type} : List (DataW H) → Nat
  | [] => 0
  | d :: r => uptoBulk d + uptoBulkAll r
def uptoBulkEntries {H : Type} : List (Lit × DataW H) → Nat
  | [] => 0
  | x :: r => uptoBulkEntry x + uptoBulkEntries r
def uptoBulkEntry {H : Type} : Lit × DataW H → Nat
  | (.string bytes, d) => bytes.length + uptoBulk d + 1
  | (_, d) => uptoBulk d + 1
 end
def uptoSmall : (H : Type) → List (DataW H) → Bool := fun _ ds => decide (uptoBulkAll ds ≤ 1048576)
def OpenSpec.upto (s : _root_.Go.ChangeSpec) : _root_.Go.OpenSpec := { _root_.Go.OpenSpec.ofChange s with cond := some uptoSmall }

/-- 'laws.FnStepNestKeep', WHERE WHAT IT READS IS OF BULK AT MOST 1048576: true; the input reads as it did. -/
def fnStepNestKeepUptoRow : OpenClaim := { program := "ytagmhmhhjkfhgaa", sum := "6c1c2b3ae85d50e9ff2b4bec3bac7cb63e8d44f088570f791a2be0fd8f4241e0", func := "loop.example/connectionpool/laws.FnStepNestKeep", spec := "fnStepNestKeep", apart := false, narrowed := true }
def FnStepNestKeepUptoSaid : Prop := fnStepNestKeepUptoRow.holds Try.pinned (OpenSpec.upto fnStepNestKeepSpec)

/-- 'laws.FnExactRunNest', WHERE WHAT IT READS IS OF BULK AT MOST 1048576: true; the input reads as it did. -/
def fnExactRunNestUptoRow : OpenClaim := { program := "ytagmhmhhjkfhgaa", sum := "6c1c2b3ae85d50e9ff2b4bec3bac7cb63e8d44f088570f791a2be0fd8f4241e0", func := "loop.example/connectionpool/laws.FnExactRunNest", spec := "fnExactRunNest", apart := false, narrowed := true }
def FnExactRunNestUptoSaid : Prop := fnExactRunNestUptoRow.holds Try.pinned (OpenSpec.upto fnExactRunNestSpec)

/-- 'laws.FnRunNest', WHERE WHAT IT READS IS OF BULK AT MOST 1048576: true; the input reads as it did. -/
def fnRunNestUptoRow : OpenClaim := { program := "ytagmhmhhjkfhgaa", sum := "6c1c2b3ae85d50e9ff2b4bec3bac7cb63e8d44f088570f791a2be0fd8f4241e0", func := "loop.example/connectionpool/laws.FnRunNest", spec := "fnRunNest", apart := false, narrowed := true }
def FnRunNestUptoSaid : Prop := fnRunNestUptoRow.holds Try.pinned (OpenSpec.upto fnRunNestSpec)

/-- 'laws.FnRunNestBound', WHERE WHAT IT READS IS OF BULK AT MOST 1048576: true; the input reads as it did. -/
def fnRunNestBoundUptoRow : OpenClaim := { program := "ytagmhmhhjkfhgaa", sum := "6c1c2b3ae85d50e9ff2b4bec3bac7cb63e8d44f088570f791a2be0fd8f4241e0", func := "loop.example/connectionpool/laws.FnRunNestBound", spec := "fnRunNestBound", apart := false, narrowed := true }
def FnRunNestBoundUptoSaid : Prop := fnRunNestBoundUptoRow.holds Try.pinned (OpenSpec.upto fnRunNestBoundSpec)

/-- 'laws.FnRunNestWork', WHERE WHAT IT READS IS OF BULK AT MOST 1048576: true; the input reads as it did. -/
def fnRunNestWorkUptoRow : OpenClaim := { program := "ytagmhmhhjkfhgaa", sum := "6c1c2b3ae85d50e9ff2b4bec3bac7cb63e8d44f088570f791a2be0fd8f4241e0", func := "loop.example/connectionpool/laws.FnRunNestWork", spec := "fnRunNestWork", apart := false, narrowed := true }
def FnRunNestWorkUptoSaid : Prop := fnRunNestWorkUptoRow.holds Try.pinned (OpenSpec.upto fnRunNestWorkSpec)

/-- 'laws.FnExactKeptWork', WHERE WHAT IT READS IS OF BULK AT MOST 1048576: true; the input reads as it did. -/
def fnExactKeptWorkUptoRow : OpenClaim := { program := "ytagmhmhhjkfhgaa", sum := "6c1c2b3ae85d50e9ff2b4bec3bac7cb63e8d44f088570f791a2be0fd8f4241e0", func := "loop.example/connectionpool/laws.FnExactKeptWork", spec := "fnExactKeptWork", apart := false, narrowed := true }
def FnExactKeptWorkUptoSaid : Prop := fnExactKeptWorkUptoRow.holds Try.pinned (OpenSpec.upto fnExactKeptWorkSpec)

/-- 'laws.FnKeptWork', WHERE WHAT IT READS IS OF BULK AT MOST 1048576: true; the input reads as it did. -/
def fnKeptWorkUptoRow : OpenClaim := { program := "ytagmhmhhjkfhgaa", sum := "6c1c2b3ae85d50e9ff2b4bec3bac7cb63e8d44f088570f791a2be0fd8f4241e0", func := "loop.example/connectionpool/laws.FnKeptWork", spec := "fnKeptWork", apart := false, narrowed := true }
def FnKeptWorkUptoSaid : Prop := fnKeptWorkUptoRow.holds Try.pinned (OpenSpec.upto fnKeptWorkSpec)

/-- 'laws.FnKeptWorkMore', WHERE WHAT IT READS IS OF BULK AT MOST 1048576: true; the input reads as it did. -/
def fnKeptWorkMoreUptoRow : OpenClaim := { program := "ytagmhmhhjkfhgaa", sum := "6c1c2b3ae85d50e9ff2b4bec3bac7cb63e8d44f088570f791a2be0fd8f4241e0", func := "loop.example/connectionpool/laws.FnKeptWorkMore", spec := "fnKeptWorkMore", apart := false, narrowed := true }
def FnKeptWorkMoreUptoSaid : Prop := fnKeptWorkMoreUptoRow.holds Try.pinned (OpenSpec.upto fnKeptWorkMoreSpec)

/-- 'laws.FnKeptWorkSimple', WHERE WHAT IT READS IS OF BULK AT MOST 1048576: true; the input reads as it did. -/
def fnKeptWorkSimpleUptoRow : OpenClaim := { program := "ytagmhmhhjkfhgaa", sum := "6c1c2b3ae85d50e9ff2b4bec3bac7cb63e8d44f088570f791a2be0fd8f4241e0", func := "loop.example/connectionpool/laws.FnKeptWorkSimple", spec := "fnKeptWorkSimple", apart := false, narrowed := true }
def FnKeptWorkSimpleUptoSaid : Prop := fnKeptWorkSimpleUptoRow.holds Try.pinned (OpenSpec.upto fnKeptWorkSimpleSpec)

end Rows
end Go.Proofs.Ytagmhmhhjkfhgaa
