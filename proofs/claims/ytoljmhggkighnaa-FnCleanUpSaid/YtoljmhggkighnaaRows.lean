/-
  No cell of these rows narrows 'for every input' (looked for: loops, veiled, ifaces, maps, wideKeys, modest, calm, conditions, laid).
  DERIVED. THE GIVEN ROWS OF THIS SEAT. 9 by the template 'for every input the law returns true; each argument reads behind the call as it read before'; 0 by the template 'total and deterministic' (their statements: YtoljmhggkighnaaTotals.lean).
  GIVEN WITH THE SEED: the statements are not yours to turn. If you find one false, say at which input.
  Laid BY PROGRAM, IN A SANDBOX (cutbox-rows.mjs): the forced cells as the released guide's own fill.sh prints them over the translation 7317a1ffa9173ecc… (all of the seat's roots in one cut). By AI agents, Wed Nov 11 2026. No macro, syntax, notation, axiom, sorry.
-/
import Derived.Test.YtoljmhggkighnaaChecked
import GoSem.Claim
import GoSem.ClaimJoined
import GoSem.ClaimMapViews
import Derived.JoinedTies
import Derived.KernelRfl
namespace Go.Proofs.Ytoljmhggkighnaa
/- THE CELL 'sum', in the pinned program and in every row, IS THE sha256 OF THE DUMP (.gsa) THAT YtoljmhggkighnaaProg.lean LOADS. Nothing in Lean hashes anything: it is a label: what it is worth is what the hold of that sum in a sandbox is worth. -/
noncomputable def Try.pinned : Pinned := { name := "ytoljmhggkighnaa", sum := "7317a1ffa9173ecc83f83eb915c01353e508739ca7289a4d59a0cc970dfaa576", checked := Try.checked }
namespace Rows
def none {H : Type} : Left H := { results := [], args := [] }

/-- 'laws.FnExactValidNest': WHATEVER THE INPUT: true; the input reads as it did. -/
def fnExactValidNestSpec : ChangeSpec := { name := "fnExactValidNest", fn := fun _ => fun
  | [d] => { results := [.lit (.bool true)], args := [d] }
  | _ => none }
def fnExactValidNestRow : OpenClaim := { program := "ytoljmhggkighnaa", sum := "7317a1ffa9173ecc83f83eb915c01353e508739ca7289a4d59a0cc970dfaa576", func := "loop.example/connectionpool/laws.FnExactValidNest", spec := "fnExactValidNest", apart := false }
def FnExactValidNestSaid : Prop := fnExactValidNestRow.holds Try.pinned (OpenSpec.ofChange fnExactValidNestSpec)

/-- ITS FALSE NEIGHBOUR: 'it returns false'. Refute it at one input. -/
def fnExactValidNestWrong : ChangeSpec := { name := "fnExactValidNest", fn := fun _ => fun
  | [d] => { results := [.lit (.bool false)], args := [d] }
  | _ => none }
def FnExactValidNestWrongFalsely : Prop := fnExactValidNestRow.holds Try.pinned (OpenSpec.ofChange fnExactValidNestWrong)

/-- 'laws.FnValidNest': WHATEVER THE INPUT: true; the input reads as it did. -/
def fnValidNestSpec : ChangeSpec := { name := "fnValidNest", fn := fun _ => fun
  | [d] => { results := [.lit (.bool true)], args := [d] }
  | _ => none }
def fnValidNestRow : OpenClaim := { program := "ytoljmhggkighnaa", sum := "7317a1ffa9173ecc83f83eb915c01353e508739ca7289a4d59a0cc970dfaa576", func := "loop.example/connectionpool/laws.FnValidNest", spec := "fnValidNest", apart := false }
def FnValidNestSaid : Prop := fnValidNestRow.holds Try.pinned (OpenSpec.ofChange fnValidNestSpec)

/-- ITS FALSE NEIGHBOUR: 'it returns false'. Refute it at one input. -/
def fnValidNestWrong : ChangeSpec := { name := "fnValidNest", fn := fun _ => fun
  | [d] => { results := [.lit (.bool false)], args := [d] }
  | _ => none }
def FnValidNestWrongFalsely : Prop := fnValidNestRow.holds Try.pinned (OpenSpec.ofChange fnValidNestWrong)

/-- 'laws.FnExactCleanUp': WHATEVER THE INPUT: true; the input reads as it did. -/
def fnExactCleanUpSpec : ChangeSpec := { name := "fnExactCleanUp", fn := fun _ => fun
  | [d] => { results := [.lit (.bool true)], args := [d] }
  | _ => none }
def fnExactCleanUpRow : OpenClaim := { program := "ytoljmhggkighnaa", sum := "7317a1ffa9173ecc83f83eb915c01353e508739ca7289a4d59a0cc970dfaa576", func := "loop.example/connectionpool/laws.FnExactCleanUp", spec := "fnExactCleanUp", apart := false }
def FnExactCleanUpSaid : Prop := fnExactCleanUpRow.holds Try.pinned (OpenSpec.ofChange fnExactCleanUpSpec)

/-- ITS FALSE NEIGHBOUR: 'it returns false'. Refute it at one input. -/
def fnExactCleanUpWrong : ChangeSpec := { name := "fnExactCleanUp", fn := fun _ => fun
  | [d] => { results := [.lit (.bool false)], args := [d] }
  | _ => none }
def FnExactCleanUpWrongFalsely : Prop := fnExactCleanUpRow.holds Try.pinned (OpenSpec.ofChange fnExactCleanUpWrong)

/-- 'laws.FnCleanUpKinds': WHATEVER THE INPUT: true; the input reads as it did. -/
def fnCleanUpKindsSpec : ChangeSpec := { name := "fnCleanUpKinds", fn := fun _ => fun
  | [d] => { results := [.lit (.bool true)], args := [d] }
  | _ => none }
def fnCleanUpKindsRow : OpenClaim := { program := "ytoljmhggkighnaa", sum := "7317a1ffa9173ecc83f83eb915c01353e508739ca7289a4d59a0cc970dfaa576", func := "loop.example/connectionpool/laws.FnCleanUpKinds", spec := "fnCleanUpKinds", apart := false }
def FnCleanUpKindsSaid : Prop := fnCleanUpKindsRow.holds Try.pinned (OpenSpec.ofChange fnCleanUpKindsSpec)

/-- ITS FALSE NEIGHBOUR: 'it returns false'. Refute it at one input. -/
def fnCleanUpKindsWrong : ChangeSpec := { name := "fnCleanUpKinds", fn := fun _ => fun
  | [d] => { results := [.lit (.bool false)], args := [d] }
  | _ => none }
def FnCleanUpKindsWrongFalsely : Prop := fnCleanUpKindsRow.holds Try.pinned (OpenSpec.ofChange fnCleanUpKindsWrong)

/-- 'laws.FnCleanUp': WHATEVER THE INPUT: true; the input reads as it did. -/
def fnCleanUpSpec : ChangeSpec := { name := "fnCleanUp", fn := fun _ => fun
  | [d] => { results := [.lit (.bool true)], args := [d] }
  | _ => none }
def fnCleanUpRow : OpenClaim := { program := "ytoljmhggkighnaa", sum := "7317a1ffa9173ecc83f83eb915c01353e508739ca7289a4d59a0cc970dfaa576", func := "loop.example/connectionpool/laws.FnCleanUp", spec := "fnCleanUp", apart := false }
def FnCleanUpSaid : Prop := fnCleanUpRow.holds Try.pinned (OpenSpec.ofChange fnCleanUpSpec)

/-- ITS FALSE NEIGHBOUR: 'it returns false'. Refute it at one input. -/
def fnCleanUpWrong : ChangeSpec := { name := "fnCleanUp", fn := fun _ => fun
  | [d] => { results := [.lit (.bool false)], args := [d] }
  | _ => none }
def FnCleanUpWrongFalsely : Prop := fnCleanUpRow.holds Try.pinned (OpenSpec.ofChange fnCleanUpWrong)

/-- 'laws.FnExactStepNest': WHATEVER THE INPUT: true; the input reads as it did. -/
def fnExactStepNestSpec : ChangeSpec := { name := "fnExactStepNest", fn := fun _ => fun
  | [d1, d2] => { results := [.lit (.bool true)], args := [d1, d2] }
  | _ => none }
def fnExactStepNestRow : OpenClaim := { program := "ytoljmhggkighnaa", sum := "7317a1ffa9173ecc83f83eb915c01353e508739ca7289a4d59a0cc970dfaa576", func := "loop.example/connectionpool/laws.FnExactStepNest", spec := "fnExactStepNest", apart := false }
def FnExactStepNestSaid : Prop := fnExactStepNestRow.holds Try.pinned (OpenSpec.ofChange fnExactStepNestSpec)

/-- ITS FALSE NEIGHBOUR: 'it returns false'. Refute it at one input. -/
def fnExactStepNestWrong : ChangeSpec := { name := "fnExactStepNest", fn := fun _ => fun
  | [d1, d2] => { results := [.lit (.bool false)], args := [d1, d2] }
  | _ => none }
def FnExactStepNestWrongFalsely : Prop := fnExactStepNestRow.holds Try.pinned (OpenSpec.ofChange fnExactStepNestWrong)

/-- 'laws.FnStepNest': WHATEVER THE INPUT: true; the input reads as it did. -/
def fnStepNestSpec : ChangeSpec := { name := "fnStepNest", fn := fun _ => fun
  | [d] => { results := [.lit (.bool true)], args := [d] }
  | _ => none }
def fnStepNestRow : OpenClaim := { program := "ytoljmhggkighnaa", sum := "7317a1ffa9173ecc83f83eb915c01353e508739ca7289a4d59a0cc970dfaa576", func := "loop.example/connectionpool/laws.FnStepNest", spec := "fnStepNest", apart := false }
def FnStepNestSaid : Prop := fnStepNestRow.holds Try.pinned (OpenSpec.ofChange fnStepNestSpec)

/-- ITS FALSE NEIGHBOUR: 'it returns false'. Refute it at one input. -/
def fnStepNestWrong : ChangeSpec := { name := "fnStepNest", fn := fun _ => fun
  | [d] => { results := [.lit (.bool false)], args := [d] }
  | _ => none }
def FnStepNestWrongFalsely : Prop := fnStepNestRow.holds Try.pinned (OpenSpec.ofChange fnStepNestWrong)

/-- 'laws.FnStepNestBack': WHATEVER THE INPUT: true; the input reads as it did. -/
def fnStepNestBackSpec : ChangeSpec := { name := "fnStepNestBack", fn := fun _ => fun
  | [d] => { results := [.lit (.bool true)], args := [d] }
  | _ => none }
def fnStepNestBackRow : OpenClaim := { program := "ytoljmhggkighnaa", sum := "7317a1ffa9173ecc83f83eb915c01353e508739ca7289a4d59a0cc970dfaa576", func := "loop.example/connectionpool/laws.FnStepNestBack", spec := "fnStepNestBack", apart := false }
def FnStepNestBackSaid : Prop := fnStepNestBackRow.holds Try.pinned (OpenSpec.ofChange fnStepNestBackSpec)

/-- ITS FALSE NEIGHBOUR: 'it returns false'. Refute it at one input. -/
def fnStepNestBackWrong : ChangeSpec := { name := "fnStepNestBack", fn := fun _ => fun
  | [d] => { results := [.lit (.bool false)], args := [d] }
  | _ => none }
def FnStepNestBackWrongFalsely : Prop := fnStepNestBackRow.holds Try.pinned (OpenSpec.ofChange fnStepNestBackWrong)

/-- 'laws.FnStepNestBroken': WHATEVER THE INPUT: true; the input reads as it did. -/
def fnStepNestBrokenSpec : ChangeSpec := { name := "fnStepNestBroken", fn := fun _ => fun
  | [d] => { results := [.lit (.bool true)], args := [d] }
  | _ => none }
def fnStepNestBrokenRow : OpenClaim := { program := "ytoljmhggkighnaa", sum := "7317a1ffa9173ecc83f83eb915c01353e508739ca7289a4d59a0cc970dfaa576", func := "loop.example/connectionpool/laws.FnStepNestBroken", spec := "fnStepNestBroken", apart := false }
def FnStepNestBrokenSaid : Prop := fnStepNestBrokenRow.holds Try.pinned (OpenSpec.ofChange fnStepNestBrokenSpec)

/-- ITS FALSE NEIGHBOUR: 'it returns false'. Refute it at one input. -/
def fnStepNestBrokenWrong : ChangeSpec := { name := "fnStepNestBroken", fn := fun _ => fun
  | [d] => { results := [.lit (.bool false)], args := [d] }
  | _ => none }
def FnStepNestBrokenWrongFalsely : Prop := fnStepNestBrokenRow.holds Try.pinned (OpenSpec.ofChange fnStepNestBrokenWrong)

/- THE SECOND FORM. 'bulk': how many values and letters a reading holds, each counted each time it is reached (what is shared counts as often as it is met; a slice's spare places count too). A statement '..UptoSaid' is the law's where the arguments, and the package variables that the reading takes, are together of bulk at most 1048576: NARROWER than '..Said'. Prove '..Said' where nothing that the law and all that it calls make is longer than what came in: it says more and counts as full. Else prove '..UptoSaid'. A law counts once. -/
mutual
def uptoBulk {H : Type} : DataW H → Nat
  | .lit (.string bytes) => bytes.length + 1
  | .lit _ => 1
  | .nil => 1
  | .ptr d => uptoBulk d + 1
  | .slice elems spare => uptoBulkAll elems + uptoBulkAll spare + 1
  | .agg parts => uptoBulkAll parts + 1
  | .iface _ d => uptoBulk d + 1
  | .map entries => uptoBulkEntries entries + 1
  | .held _ => 1
def uptoBulkAll {H : Type} : List (DataW H) → Nat
  | [] => 0
  | d :: r => uptoBulk d + uptoBulkAll r
def uptoBulkEntries {H : Type} : List (Lit × DataW H) → Nat
  | [] => 0
  | x :: r => uptoBulkEntry x + uptoBulkEntries r
def uptoBulkEntry {H : Type} : Lit × DataW H → Nat
  | (.string bytes, d) => bytes.length + uptoBulk d + 1
  | (_, d) => uptoBulk d + 1
 end
def uptoSmall : (H : Type) → List (DataW H) → Bool := fun _ ds => decide (uptoBulkAll ds ≤ 1048576)
def OpenSpec.upto (s : _root_.Go.ChangeSpec) : _root_.Go.OpenSpec := { _root_.Go.OpenSpec.ofChange s with cond := some uptoSmall }

/-- 'laws.FnExactValidNest', WHERE WHAT IT READS IS OF BULK AT MOST 1048576: true; the input reads as it did. -/
def fnExactValidNestUptoRow : OpenClaim := { program := "ytoljmhggkighnaa", sum := "7317a1ffa9173ecc83f83eb915c01353e508739ca7289a4d59a0cc970dfaa576", func := "loop.example/connectionpool/laws.FnExactValidNest", spec := "fnExactValidNest", apart := false, narrowed := true }
def FnExactValidNestUptoSaid : Prop := fnExactValidNestUptoRow.holds Try.pinned (OpenSpec.upto fnExactValidNestSpec)

/-- 'laws.FnValidNest', WHERE WHAT IT READS IS OF BULK AT MOST 1048576: true; the input reads as it did. -/
def fnValidNestUptoRow : OpenClaim := { program := "ytoljmhggkighnaa", sum := "7317a1ffa9173ecc83f83eb915c01353e508739ca7289a4d59a0cc970dfaa576", func := "loop.example/connectionpool/laws.FnValidNest", spec := "fnValidNest", apart := false, narrowed := true }
def FnValidNestUptoSaid : Prop := fnValidNestUptoRow.holds Try.pinned (OpenSpec.upto fnValidNestSpec)

/-- 'laws.FnExactCleanUp', WHERE WHAT IT READS IS OF BULK AT MOST 1048576: true; the input reads as it did. -/
def fnExactCleanUpUptoRow : OpenClaim := { program := "ytoljmhggkighnaa", sum := "7317a1ffa9173ecc83f83eb915c01353e508739ca7289a4d59a0cc970dfaa576", func := "loop.example/connectionpool/laws.FnExactCleanUp", spec := "fnExactCleanUp", apart := false, narrowed := true }
def FnExactCleanUpUptoSaid : Prop := fnExactCleanUpUptoRow.holds Try.pinned (OpenSpec.upto fnExactCleanUpSpec)

/-- 'laws.FnCleanUpKinds', WHERE WHAT IT READS IS OF BULK AT MOST 1048576: true; the input reads as it did. -/
def fnCleanUpKindsUptoRow : OpenClaim := { program := "ytoljmhggkighnaa", sum := "7317a1ffa9173ecc83f83eb915c01353e508739ca7289a4d59a0cc970dfaa576", func := "loop.example/connectionpool/laws.FnCleanUpKinds", spec := "fnCleanUpKinds", apart := false, narrowed := true }
def FnCleanUpKindsUptoSaid : Prop := fnCleanUpKindsUptoRow.holds Try.pinned (OpenSpec.upto fnCleanUpKindsSpec)

/-- 'laws.FnCleanUp', WHERE WHAT IT READS IS OF BULK AT MOST 1048576: true; the input reads as it did. -/
def fnCleanUpUptoRow : OpenClaim := { program := "ytoljmhggkighnaa", sum := "7317a1ffa9173ecc83f83eb915c01353e508739ca7289a4d59a0cc970dfaa576", func := "loop.example/connectionpool/laws.FnCleanUp", spec := "fnCleanUp", apart := false, narrowed := true }
def FnCleanUpUptoSaid : Prop := fnCleanUpUptoRow.holds Try.pinned (OpenSpec.upto fnCleanUpSpec)

/-- 'laws.FnExactStepNest', WHERE WHAT IT READS IS OF BULK AT MOST 1048576: true; the input reads as it did. -/
def fnExactStepNestUptoRow : OpenClaim := { program := "ytoljmhggkighnaa", sum := "7317a1ffa9173ecc83f83eb915c01353e508739ca7289a4d59a0cc970dfaa576", func := "loop.example/connectionpool/laws.FnExactStepNest", spec := "fnExactStepNest", apart := false, narrowed := true }
def FnExactStepNestUptoSaid : Prop := fnExactStepNestUptoRow.holds Try.pinned (OpenSpec.upto fnExactStepNestSpec)

/-- 'laws.FnStepNest', WHERE WHAT IT READS IS OF BULK AT MOST 1048576: true; the input reads as it did. -/
def fnStepNestUptoRow : OpenClaim := { program := "ytoljmhggkighnaa", sum := "7317a1ffa9173ecc83f83eb915c01353e508739ca7289a4d59a0cc970dfaa576", func := "loop.example/connectionpool/laws.FnStepNest", spec := "fnStepNest", apart := false, narrowed := true }
def FnStepNestUptoSaid : Prop := fnStepNestUptoRow.holds Try.pinned (OpenSpec.upto fnStepNestSpec)

/-- 'laws.FnStepNestBack', WHERE WHAT IT READS IS OF BULK AT MOST 1048576: true; the input reads as it did. -/
def fnStepNestBackUptoRow : OpenClaim := { program := "ytoljmhggkighnaa", sum := "7317a1ffa9173ecc83f83eb915c01353e508739ca7289a4d59a0cc970dfaa576", func := "loop.example/connectionpool/laws.FnStepNestBack", spec := "fnStepNestBack", apart := false, narrowed := true }
def FnStepNestBackUptoSaid : Prop := fnStepNestBackUptoRow.holds Try.pinned (OpenSpec.upto fnStepNestBackSpec)

/-- 'laws.FnStepNestBroken', WHERE WHAT IT READS IS OF BULK AT MOST 1048576: true; the input reads as it did. -/
def fnStepNestBrokenUptoRow : OpenClaim := { program := "ytoljmhggkighnaa", sum := "7317a1ffa9173ecc83f83eb915c01353e508739ca7289a4d59a0cc970dfaa576", func := "loop.example/connectionpool/laws.FnStepNestBroken", spec := "fnStepNestBroken", apart := false, narrowed := true }
def FnStepNestBrokenUptoSaid : Prop := fnStepNestBrokenUptoRow.holds Try.pinned (OpenSpec.upto fnStepNestBrokenSpec)

end Rows
end Go.Proofs.Ytoljmhggkighnaa
