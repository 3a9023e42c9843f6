/-
  No cell of these rows narrows 'for every input' (looked for: loops, veiled, ifaces, maps, wideKeys, modest, calm, conditions, laid).
  DERIVED. THE GIVEN ROWS OF THIS SEAT. 9 by the template 'for every input the law returns true; each argument reads behind the call as it read before'; 0 by the template 'total and deterministic' (their statements: YtjidcickkfaljaaTotals.lean).
  GIVEN WITH THE SEED: the statements are not yours to turn. If you find one false, say at which input.
  Laid BY PROGRAM, IN A SANDBOX (cutbox-rows.mjs): the forced cells as the released guide's own fill.sh prints them over the translation a56b48a8479c21b5… (all of the seat's roots in one cut). By AI agents, Wed Nov 11 2026. No macro, syntax, notation, axiom, sorry.
-/
import Derived.Test.YtjidcickkfaljaaChecked
import GoSem.Claim
import GoSem.ClaimJoined
import GoSem.ClaimMapViews
import Derived.JoinedTies
import Derived.KernelRfl
namespace Go.Proofs.Ytjidcickkfaljaa
/- THE CELL 'sum', in the pinned program and in every row, IS THE sha256 OF THE DUMP (.gsa) THAT YtjidcickkfaljaaProg.lean LOADS. Nothing in Lean hashes anything: it is a label: what it is worth is what the hold of that sum in a sandbox is worth. -/
noncomputable def Try.pinned : Pinned := { name := "ytjidcickkfaljaa", sum := "a56b48a8479c21b581f5c03012cfa7872b036d33e396ace487f29e7cd789a54c", checked := Try.checked }
namespace Rows
def none {H : Type} : Left H := { results := [], args := [] }

/-- 'laws.FnExactAddCounts': WHATEVER THE INPUT: true; the input reads as it did. -/
def fnExactAddCountsSpec : ChangeSpec := { name := "fnExactAddCounts", fn := fun _ => fun
  | [d1, d2] => { results := [.lit (.bool true)], args := [d1, d2] }
  | _ => none }
def fnExactAddCountsRow : OpenClaim := { program := "ytjidcickkfaljaa", sum := "a56b48a8479c21b581f5c03012cfa7872b036d33e396ace487f29e7cd789a54c", func := "loop.example/connectionpool/laws.FnExactAddCounts", spec := "fnExactAddCounts", unfollowed := true, recurses := true, apart := false }
def FnExactAddCountsSaid : Prop := fnExactAddCountsRow.holds Try.pinned (OpenSpec.ofChange fnExactAddCountsSpec)

/-- ITS FALSE NEIGHBOUR: 'it returns false'. Refute it at one input. -/
def fnExactAddCountsWrong : ChangeSpec := { name := "fnExactAddCounts", fn := fun _ => fun
  | [d1, d2] => { results := [.lit (.bool false)], args := [d1, d2] }
  | _ => none }
def FnExactAddCountsWrongFalsely : Prop := fnExactAddCountsRow.holds Try.pinned (OpenSpec.ofChange fnExactAddCountsWrong)

/-- 'laws.FnExactWaitUnder': WHATEVER THE INPUT: true; the input reads as it did. -/
def fnExactWaitUnderSpec : ChangeSpec := { name := "fnExactWaitUnder", fn := fun _ => fun
  | [d1, d2] => { results := [.lit (.bool true)], args := [d1, d2] }
  | _ => none }
def fnExactWaitUnderRow : OpenClaim := { program := "ytjidcickkfaljaa", sum := "a56b48a8479c21b581f5c03012cfa7872b036d33e396ace487f29e7cd789a54c", func := "loop.example/connectionpool/laws.FnExactWaitUnder", spec := "fnExactWaitUnder", unfollowed := true, recurses := true, apart := false }
def FnExactWaitUnderSaid : Prop := fnExactWaitUnderRow.holds Try.pinned (OpenSpec.ofChange fnExactWaitUnderSpec)

/-- ITS FALSE NEIGHBOUR: 'it returns false'. Refute it at one input. -/
def fnExactWaitUnderWrong : ChangeSpec := { name := "fnExactWaitUnder", fn := fun _ => fun
  | [d1, d2] => { results := [.lit (.bool false)], args := [d1, d2] }
  | _ => none }
def FnExactWaitUnderWrongFalsely : Prop := fnExactWaitUnderRow.holds Try.pinned (OpenSpec.ofChange fnExactWaitUnderWrong)

/-- 'laws.FnExactCountWaits': WHATEVER THE INPUT: true; the input reads as it did. -/
def fnExactCountWaitsSpec : ChangeSpec := { name := "fnExactCountWaits", fn := fun _ => fun
  | [d] => { results := [.lit (.bool true)], args := [d] }
  | _ => none }
def fnExactCountWaitsRow : OpenClaim := { program := "ytjidcickkfaljaa", sum := "a56b48a8479c21b581f5c03012cfa7872b036d33e396ace487f29e7cd789a54c", func := "loop.example/connectionpool/laws.FnExactCountWaits", spec := "fnExactCountWaits", unfollowed := true, recurses := true, apart := false }
def FnExactCountWaitsSaid : Prop := fnExactCountWaitsRow.holds Try.pinned (OpenSpec.ofChange fnExactCountWaitsSpec)

/-- ITS FALSE NEIGHBOUR: 'it returns false'. Refute it at one input. -/
def fnExactCountWaitsWrong : ChangeSpec := { name := "fnExactCountWaits", fn := fun _ => fun
  | [d] => { results := [.lit (.bool false)], args := [d] }
  | _ => none }
def FnExactCountWaitsWrongFalsely : Prop := fnExactCountWaitsRow.holds Try.pinned (OpenSpec.ofChange fnExactCountWaitsWrong)

/-- 'laws.FnAddCounts': WHATEVER THE INPUT: true; the input reads as it did. -/
def fnAddCountsSpec : ChangeSpec := { name := "fnAddCounts", fn := fun _ => fun
  | [d] => { results := [.lit (.bool true)], args := [d] }
  | _ => none }
def fnAddCountsRow : OpenClaim := { program := "ytjidcickkfaljaa", sum := "a56b48a8479c21b581f5c03012cfa7872b036d33e396ace487f29e7cd789a54c", func := "loop.example/connectionpool/laws.FnAddCounts", spec := "fnAddCounts", unfollowed := true, recurses := true, apart := false }
def FnAddCountsSaid : Prop := fnAddCountsRow.holds Try.pinned (OpenSpec.ofChange fnAddCountsSpec)

/-- ITS FALSE NEIGHBOUR: 'it returns false'. Refute it at one input. -/
def fnAddCountsWrong : ChangeSpec := { name := "fnAddCounts", fn := fun _ => fun
  | [d] => { results := [.lit (.bool false)], args := [d] }
  | _ => none }
def FnAddCountsWrongFalsely : Prop := fnAddCountsRow.holds Try.pinned (OpenSpec.ofChange fnAddCountsWrong)

/-- 'laws.FnWaitUnderAll': WHATEVER THE INPUT: true; the input reads as it did. -/
def fnWaitUnderAllSpec : ChangeSpec := { name := "fnWaitUnderAll", fn := fun _ => fun
  | [d] => { results := [.lit (.bool true)], args := [d] }
  | _ => none }
def fnWaitUnderAllRow : OpenClaim := { program := "ytjidcickkfaljaa", sum := "a56b48a8479c21b581f5c03012cfa7872b036d33e396ace487f29e7cd789a54c", func := "loop.example/connectionpool/laws.FnWaitUnderAll", spec := "fnWaitUnderAll", unfollowed := true, recurses := true, apart := false }
def FnWaitUnderAllSaid : Prop := fnWaitUnderAllRow.holds Try.pinned (OpenSpec.ofChange fnWaitUnderAllSpec)

/-- ITS FALSE NEIGHBOUR: 'it returns false'. Refute it at one input. -/
def fnWaitUnderAllWrong : ChangeSpec := { name := "fnWaitUnderAll", fn := fun _ => fun
  | [d] => { results := [.lit (.bool false)], args := [d] }
  | _ => none }
def FnWaitUnderAllWrongFalsely : Prop := fnWaitUnderAllRow.holds Try.pinned (OpenSpec.ofChange fnWaitUnderAllWrong)

/-- 'laws.FnWaitUnderMore': WHATEVER THE INPUT: true; the input reads as it did. -/
def fnWaitUnderMoreSpec : ChangeSpec := { name := "fnWaitUnderMore", fn := fun _ => fun
  | [d] => { results := [.lit (.bool true)], args := [d] }
  | _ => none }
def fnWaitUnderMoreRow : OpenClaim := { program := "ytjidcickkfaljaa", sum := "a56b48a8479c21b581f5c03012cfa7872b036d33e396ace487f29e7cd789a54c", func := "loop.example/connectionpool/laws.FnWaitUnderMore", spec := "fnWaitUnderMore", unfollowed := true, recurses := true, apart := false }
def FnWaitUnderMoreSaid : Prop := fnWaitUnderMoreRow.holds Try.pinned (OpenSpec.ofChange fnWaitUnderMoreSpec)

/-- ITS FALSE NEIGHBOUR: 'it returns false'. Refute it at one input. -/
def fnWaitUnderMoreWrong : ChangeSpec := { name := "fnWaitUnderMore", fn := fun _ => fun
  | [d] => { results := [.lit (.bool false)], args := [d] }
  | _ => none }
def FnWaitUnderMoreWrongFalsely : Prop := fnWaitUnderMoreRow.holds Try.pinned (OpenSpec.ofChange fnWaitUnderMoreWrong)

/-- 'laws.FnCountWaitsParts': WHATEVER THE INPUT: true; the input reads as it did. -/
def fnCountWaitsPartsSpec : ChangeSpec := { name := "fnCountWaitsParts", fn := fun _ => fun
  | [d] => { results := [.lit (.bool true)], args := [d] }
  | _ => none }
def fnCountWaitsPartsRow : OpenClaim := { program := "ytjidcickkfaljaa", sum := "a56b48a8479c21b581f5c03012cfa7872b036d33e396ace487f29e7cd789a54c", func := "loop.example/connectionpool/laws.FnCountWaitsParts", spec := "fnCountWaitsParts", unfollowed := true, recurses := true, apart := false }
def FnCountWaitsPartsSaid : Prop := fnCountWaitsPartsRow.holds Try.pinned (OpenSpec.ofChange fnCountWaitsPartsSpec)

/-- ITS FALSE NEIGHBOUR: 'it returns false'. Refute it at one input. -/
def fnCountWaitsPartsWrong : ChangeSpec := { name := "fnCountWaitsParts", fn := fun _ => fun
  | [d] => { results := [.lit (.bool false)], args := [d] }
  | _ => none }
def FnCountWaitsPartsWrongFalsely : Prop := fnCountWaitsPartsRow.holds Try.pinned (OpenSpec.ofChange fnCountWaitsPartsWrong)

/-- 'laws.FnCountWaits': WHATEVER THE INPUT: true; the input reads as it did. -/
def fnCountWaitsSpec : ChangeSpec := { name := "fnCountWaits", fn := fun _ => fun
  | [d] => { results := [.lit (.bool true)], args := [d] }
  | _ => none }
def fnCountWaitsRow : OpenClaim := { program := "ytjidcickkfaljaa", sum := "a56b48a8479c21b581f5c03012cfa7872b036d33e396ace487f29e7cd789a54c", func := "loop.example/connectionpool/laws.FnCountWaits", spec := "fnCountWaits", unfollowed := true, recurses := true, apart := false }
def FnCountWaitsSaid : Prop := fnCountWaitsRow.holds Try.pinned (OpenSpec.ofChange fnCountWaitsSpec)

/-- ITS FALSE NEIGHBOUR: 'it returns false'. Refute it at one input. -/
def fnCountWaitsWrong : ChangeSpec := { name := "fnCountWaits", fn := fun _ => fun
  | [d] => { results := [.lit (.bool false)], args := [d] }
  | _ => none }
def FnCountWaitsWrongFalsely : Prop := fnCountWaitsRow.holds Try.pinned (OpenSpec.ofChange fnCountWaitsWrong)

/-- 'laws.FnWaitUnder': WHATEVER THE INPUT: true; the input reads as it did. -/
def fnWaitUnderSpec : ChangeSpec := { name := "fnWaitUnder", fn := fun _ => fun
  | [d] => { results := [.lit (.bool true)], args := [d] }
  | _ => none }
def fnWaitUnderRow : OpenClaim := { program := "ytjidcickkfaljaa", sum := "a56b48a8479c21b581f5c03012cfa7872b036d33e396ace487f29e7cd789a54c", func := "loop.example/connectionpool/laws.FnWaitUnder", spec := "fnWaitUnder", unfollowed := true, recurses := true, apart := false }
def FnWaitUnderSaid : Prop := fnWaitUnderRow.holds Try.pinned (OpenSpec.ofChange fnWaitUnderSpec)

/-- ITS FALSE NEIGHBOUR: 'it returns false'. Refute it at one input. -/
def fnWaitUnderWrong : ChangeSpec := { name := "fnWaitUnder", fn := fun _ => fun
  | [d] => { results := [.lit (.bool false)], args := [d] }
  | _ => none }
def FnWaitUnderWrongFalsely : Prop := fnWaitUnderRow.holds Try.pinned (OpenSpec.ofChange fnWaitUnderWrong)

/- THE SECOND FORM. 'bulk': how many values and letters a reading holds, each counted each time it is reached (what is shared counts as often as it is met; a slice's spare places count too). A statement '..UptoSaid' is the law's where the arguments, and the package variables that the reading takes, are together of bulk at most 1048576: NARROWER than '..Said'. Prove '..Said' where nothing that the law and all that it calls make is longer than what came in: it says more and counts as full. Else prove '..UptoSaid'. A law counts once. -/
mutual
def uptoBulk {H : Type} : DataW H → Nat
  | .lit (.string bytes) => bytes.length + 1
  | .lit _ => 1
  | .nil => 1
  | .ptr d => uptoBulk d + 1
  | .slice elems spare => uptoBulkAll elems + uptoBulkAll spare + 1
  | .agg parts => uptoBulkAll parts + 1
  | .iface _ d => uptoBulk d + 1
  | .map entries => uptoBulkEntries entries + 1
  | .held _ => 1
def uptoBulkAll {H : Type} : List (DataW H) → Nat
  | [] => 0
  | d :: r => uptoBulk d + uptoBulkAll r
def uptoBulkEntries {H : Type} : List (Lit × DataW H) → Nat
  | [] => 0
  | x :: r => uptoBulkEntry x + uptoBulkEntries r
def uptoBulkEntry {H : Type} : Lit × DataW H → Nat
  | (.string bytes, d) => bytes.length + uptoBulk d + 1
  | (_, d) => uptoBulk d + 1
 end
def uptoSmall : (H : Type) → List (DataW H) → Bool := fun _ ds => decide (uptoBulkAll ds ≤ 1048576)
def OpenSpec.upto (s : _root_.Go.ChangeSpec) : _root_.Go.OpenSpec := { _root_.Go.OpenSpec.ofChange s with cond := some uptoSmall }

/-- 'laws.FnExactAddCounts', WHERE WHAT IT READS IS OF BULK AT MOST 1048576: true; the input reads as it did. -/
def fnExactAddCountsUptoRow : OpenClaim := { program := "ytjidcickkfaljaa", sum := "a56b48a8479c21b581f5c03012cfa7872b036d33e396ace487f29e7cd789a54c", func := "loop.example/connectionpool/laws.FnExactAddCounts", spec := "fnExactAddCounts", unfollowed := true, recurses := true, apart := false, narrowed := true }
def FnExactAddCountsUptoSaid : Prop := fnExactAddCountsUptoRow.holds Try.pinned (OpenSpec.upto fnExactAddCountsSpec)

/-- 'laws.FnExactWaitUnder', WHERE WHAT IT READS IS OF BULK AT MOST 1048576: true; the input reads as it did. -/
def fnExactWaitUnderUptoRow : OpenClaim := { program := "ytjidcickkfaljaa", sum := "a56b48a8479c21b581f5c03012cfa7872b036d33e396ace487f29e7cd789a54c", func := "loop.example/connectionpool/laws.FnExactWaitUnder", spec := "fnExactWaitUnder", unfollowed := true, recurses := true, apart := false, narrowed := true }
def FnExactWaitUnderUptoSaid : Prop := fnExactWaitUnderUptoRow.holds Try.pinned (OpenSpec.upto fnExactWaitUnderSpec)

/-- 'laws.FnExactCountWaits', WHERE WHAT IT READS IS OF BULK AT MOST 1048576: true; the input reads as it did. -/
def fnExactCountWaitsUptoRow : OpenClaim := { program := "ytjidcickkfaljaa", sum := "a56b48a8479c21b581f5c03012cfa7872b036d33e396ace487f29e7cd789a54c", func := "loop.example/connectionpool/laws.FnExactCountWaits", spec := "fnExactCountWaits", unfollowed := true, recurses := true, apart := false, narrowed := true }
def FnExactCountWaitsUptoSaid : Prop := fnExactCountWaitsUptoRow.holds Try.pinned (OpenSpec.upto fnExactCountWaitsSpec)

/-- 'laws.FnAddCounts', WHERE WHAT IT READS IS OF BULK AT MOST 1048576: true; the input reads as it did. -/
def fnAddCountsUptoRow : OpenClaim := { program := "ytjidcickkfaljaa", sum := "a56b48a8479c21b581f5c03012cfa7872b036d33e396ace487f29e7cd789a54c", func := "loop.example/connectionpool/laws.FnAddCounts", spec := "fnAddCounts", unfollowed := true, recurses := true, apart := false, narrowed := true }
def FnAddCountsUptoSaid : Prop := fnAddCountsUptoRow.holds Try.pinned (OpenSpec.upto fnAddCountsSpec)

/-- 'laws.FnWaitUnderAll', WHERE WHAT IT READS IS OF BULK AT MOST 1048576: true; the input reads as it did. -/
def fnWaitUnderAllUptoRow : OpenClaim := { program := "ytjidcickkfaljaa", sum := "a56b48a8479c21b581f5c03012cfa7872b036d33e396ace487f29e7cd789a54c", func := "loop.example/connectionpool/laws.FnWaitUnderAll", spec := "fnWaitUnderAll", unfollowed := true, recurses := true, apart := false, narrowed := true }
def FnWaitUnderAllUptoSaid : Prop := fnWaitUnderAllUptoRow.holds Try.pinned (OpenSpec.upto fnWaitUnderAllSpec)

/-- 'laws.FnWaitUnderMore', WHERE WHAT IT READS IS OF BULK AT MOST 1048576: true; the input reads as it did. -/
def fnWaitUnderMoreUptoRow : OpenClaim := { program := "ytjidcickkfaljaa", sum := "a56b48a8479c21b581f5c03012cfa7872b036d33e396ace487f29e7cd789a54c", func := "loop.example/connectionpool/laws.FnWaitUnderMore", spec := "fnWaitUnderMore", unfollowed := true, recurses := true, apart := false, narrowed := true }
def FnWaitUnderMoreUptoSaid : Prop := fnWaitUnderMoreUptoRow.holds Try.pinned (OpenSpec.upto fnWaitUnderMoreSpec)

/-- 'laws.FnCountWaitsParts', WHERE WHAT IT READS IS OF BULK AT MOST 1048576: true; the input reads as it did. -/
def fnCountWaitsPartsUptoRow : OpenClaim := { program := "ytjidcickkfaljaa", sum := "a56b48a8479c21b581f5c03012cfa7872b036d33e396ace487f29e7cd789a54c", func := "loop.example/connectionpool/laws.FnCountWaitsParts", spec := "fnCountWaitsParts", unfollowed := true, recurses := true, apart := false, narrowed := true }
def FnCountWaitsPartsUptoSaid : Prop := fnCountWaitsPartsUptoRow.holds Try.pinned (OpenSpec.upto fnCountWaitsPartsSpec)

/-- 'laws.FnCountWaits', WHERE WHAT IT READS IS OF BULK AT MOST 1048576: true; the input reads as it did. -/
def fnCountWaitsUptoRow : OpenClaim := { program := "ytjidcickkfaljaa", sum := "a56b48a8479c21b581f5c03012cfa7872b036d33e396ace487f29e7cd789a54c", func := "loop.example/connectionpool/laws.FnCountWaits", spec := "fnCountWaits", unfollowed := true, recurses := true, apart := false, narrowed := true }
def FnCountWaitsUptoSaid : Prop := fnCountWaitsUptoRow.holds Try.pinned (OpenSpec.upto fnCountWaitsSpec)

/-- 'laws.FnWaitUnder', WHERE WHAT IT READS IS OF BULK AT MOST 1048576: true; the input reads as it did. -/
def fnWaitUnderUptoRow : OpenClaim := { program := "ytjidcickkfaljaa", sum := "a56b48a8479c21b581f5c03012cfa7872b036d33e396ace487f29e7cd789a54c", func := "loop.example/connectionpool/laws.FnWaitUnder", spec := "fnWaitUnder", unfollowed := true, recurses := true, apart := false, narrowed := true }
def FnWaitUnderUptoSaid : Prop := fnWaitUnderUptoRow.holds Try.pinned (OpenSpec.upto fnWaitUnderSpec)

end Rows
end Go.Proofs.Ytjidcickkfaljaa
