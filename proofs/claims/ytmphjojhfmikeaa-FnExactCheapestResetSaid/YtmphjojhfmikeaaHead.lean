/- The head of the program's translation, read cheaply: its word list as characters, so that the row's closed facts need no evaluation of the long head. -/
import Derived.Test.YtmphjojhfmikeaaBase
import Derived.Test.YtmphjojhfmikeaaProg
import Derived.ProofKit
import Derived.JoinedOf
set_option linter.unusedVariables false
set_option linter.unusedSimpArgs false
namespace Go.Proofs.Ytmphjojhfmikeaa
open Go.RowKit
theorem toList_of {s : String} {l : List Char} (h : s = String.ofList l) : s.toList = l := by rw [h]; exact String.toList_ofList
theorem ws_word (cs r : List Char) (h : cs.all (fun c => c != ' ') = true) : wordsSigns (cs ++ ' ' :: r) = cs :: wordsSigns r := by
  induction cs with
  | nil => rfl
  | cons c cs ih =>
    simp only [List.all_cons, Bool.and_eq_true, bne_iff_ne] at h
    rw [List.cons_append, wordsSigns.eq_3 _ _ (fun e => h.1 e), ih h.2]
theorem ws_last (cs : List Char) (h : cs.all (fun c => c != ' ') = true) : wordsSigns cs = [cs] := by
  induction cs with
  | nil => rfl
  | cons c cs ih =>
    simp only [List.all_cons, Bool.and_eq_true, bne_iff_ne] at h
    rw [wordsSigns.eq_3 _ _ (fun e => h.1 e), ih h.2]
set_option maxRecDepth 100000 in
theorem headSigns : Try.prog.initOrder.toList =
  ['h', 'a', 'r', 'n', 'e', 's', 's'] ++ ' ' :: (['5', '6', 'd', 'c', '7', '1', '9', '9', '2', 'b', 'c', '9', 'c', 'c', '5', 'c', 'e', '3', 'a', '4', '6', '6', 'e', 'b', '9', 'b', '7', 'c', 'b', '0', '0', '6', 'c', '5', '4', 'd', '0', '1', 'c', '3', '2', '4', 'c', 'c', 'c', '9', 'f', '6', 'b', '9', 'a', 'c', 'f', '0', '0', '4', 'd', 'd', 'b', '7', '3', '7', '3', '5'] ++ ' ' :: (['c', 'u', 't'] ++ ' ' :: (['a', 't'] ++ ' ' :: (['l', 'o', 'o', 'p', '.', 'e', 'x', 'a', 'm', 'p', 'l', 'e', '/', 'c', 'o', 'n', 'n', 'e', 'c', 't', 'i', 'o', 'n', 'p', 'o', 'o', 'l', '/', 'l', 'a', 'w', 's', '.', 'F', 'n', 'E', 'x', 'a', 'c', 't', 'C', 'h', 'e', 'a', 'p', 'e', 's', 't', 'R', 'e', 's', 'e', 't'])))) := toList_of (by kernel_rfl)
set_option maxRecDepth 100000 in
theorem headWords : ∃ l, behindMainWord (wordsSigns Try.prog.initOrder.toList) = ['c', 'u', 't'] :: l := by
  refine ⟨[['a', 't'], ['l', 'o', 'o', 'p', '.', 'e', 'x', 'a', 'm', 'p', 'l', 'e', '/', 'c', 'o', 'n', 'n', 'e', 'c', 't', 'i', 'o', 'n', 'p', 'o', 'o', 'l', '/', 'l', 'a', 'w', 's', '.', 'F', 'n', 'E', 'x', 'a', 'c', 't', 'C', 'h', 'e', 'a', 'p', 'e', 's', 't', 'R', 'e', 's', 'e', 't']], ?_⟩
  rw [headSigns, ws_word _ _ (by kernel_rfl), ws_word _ _ (by kernel_rfl), ws_word _ _ (by kernel_rfl), ws_word _ _ (by kernel_rfl), ws_last _ (by kernel_rfl)]
  kernel_rfl
def mkOf (hl : List String) : List (List Char) → Option Make
  | c :: rest => if c == "gc".toList || c == "spec".toList then some .whole else if c == "cut".toList || (c == "finals".toList && rest.head? == some "cut".toList) then some .cut else if c == "carried".toList then some .carried else if hl.isEmpty then none else some (.lifted hl)
  | [] => none
theorem mkOf_cut (l : List (List Char)) (hl : List String) : mkOf hl (['c','u','t'] :: l) = some .cut := by kernel_rfl
theorem mkOf_of (P : Program) : P.make = mkOf P.headLifts (behindMainWord (wordsSigns P.initOrder.toList)) := rfl
theorem make_ok : Try.prog.make = some .cut := by
  obtain ⟨l, h⟩ := headWords
  rw [mkOf_of, h]
  exact mkOf_cut _ _
theorem strip_cut (l : List (List Char)) : stripLifts liftWords (['c','u','t'] :: l) = ([], ['c','u','t'] :: l) := by kernel_rfl
theorem lifts_of (P : Program) : P.headLifts = (if (stripLifts liftWords (behindMainWord (wordsSigns P.initOrder.toList))).2.head? == some "cut".toList then (stripLifts liftWords (behindMainWord (wordsSigns P.initOrder.toList))).1 else []) := rfl
theorem headLifts_ok : Try.prog.headLifts = [] := by
  obtain ⟨l, h⟩ := headWords
  rw [lifts_of, h, strip_cut]
  split <;> rfl
def lfOf (hl : List String) (ws : List (List Char)) : Bool :=
  (ws.head? == some "carried".toList && ws.take 3 != ["carried".toList, "gc".toList, "cut".toList]) || hl.contains "finals"
theorem lfOf_of (P : Program) : P.liftsFinal = lfOf P.headLifts (behindMainWord (wordsSigns P.initOrder.toList)) := rfl
theorem lfOf_cut (l : List (List Char)) : lfOf [] (['c','u','t'] :: l) = false := by kernel_rfl
theorem liftsFinal_ok : Try.prog.liftsFinal = false := by
  obtain ⟨l, h⟩ := headWords
  rw [lfOf_of, headLifts_ok, h]
  exact lfOf_cut _
def meOf (ll br : Bool) (df : List String → Bool) : List (List Char) → Bool
  | c :: rest =>
    ((c == "gc".toList || c == "spec".toList) && (rest.isEmpty || rest.head? == some "stop".toList)) ||
    (c == "carried".toList && rest.take 2 == ["gc".toList, "cut".toList] && !ll && !br) ||
    ((stripLifts liftWords (c :: rest)).2.head? == some "cut".toList &&
      ((stripLifts liftWords (c :: rest)).1.contains "finals" || !ll) && ((stripLifts liftWords (c :: rest)).1.contains "reflectrows" || !br) &&
      ((stripLifts liftWords (c :: rest)).1.contains "reflectrows" || !(stripLifts liftWords (c :: rest)).1.contains "leanrows") &&
      df (stripLifts liftWords (c :: rest)).1)
  | [] => false
theorem meOf_of (P : Program) : P.mayEnter = meOf P.laysLater P.bearsReflect P.doorFits (behindMainWord (wordsSigns P.initOrder.toList)) := rfl
theorem meOf_cut (l : List (List Char)) (df : List String → Bool) (h : df [] = true) : meOf false false df (['c','u','t'] :: l) = true := by
  unfold meOf
  dsimp only
  rw [strip_cut]
  show (_ || _ || (_ && _ && _ && _ && df [])) = true
  rw [h]
  kernel_rfl
theorem laysLater_ok : Try.prog.laysLater = false := by kernel_rfl
theorem bearsReflect_ok : Try.prog.bearsReflect = false := by kernel_rfl
theorem doorRows_ok : Try.prog.doorRows = [] := by kernel_rfl
theorem doorFits_ok : Try.prog.doorFits [] = true := by
  unfold Program.doorFits
  rw [doorRows_ok]
  kernel_rfl
theorem mayEnter_ok : Try.prog.mayEnter = true := by
  obtain ⟨l, h⟩ := headWords
  rw [meOf_of, laysLater_ok, bearsReflect_ok, h]
  exact meOf_cut _ _ doorFits_ok
/-- The row's closed Bool, with what hangs on the head taken as words. -/
theorem facts_of {P : Program} {f : FuncId} {fn : Func} {s : ChangeSpec} {c : OpenClaim} (h1 : P.mayEnter = true) (h2 : P.liftsFinal = false) (h3 : P.make = some .cut)
    (h : ((c.wf (OpenSpec.ofChange s) && laidOutB P && mapsRowed P &&
  fn.params.all (P.readableRec ·) && namedTie P c.named s.vars &&
  (c.stops == []) && (P.stops == []) && (c.knobs == []) && (P.stopKnobs == []) &&
  (c.inPlace == P.inPlace f) && (c.unfollowed == P.unfollowed f) && (c.recurses == P.recurses f) && (c.named == P.varsNamed f) &&
  (c.maps == (fn.params.toList ++ s.plain.varTypes P).any (P.mapsRec ·)) && (c.ifaces == (fn.params.toList ++ s.plain.varTypes P).any (P.ifacesRec ·)) && (c.mapsOut == P.mapsAmong fn.resultTypes.toList) &&
  (c.loops == (fn.params.toList ++ s.plain.varTypes P).any (P.loopsFrom ·)) && (c.wideKeys == (fn.params.toList ++ s.plain.varTypes P ++ fn.resultTypes.toList).any (P.wideKeysFrom ·)) &&
  s.vars.all (P.varReadable ·) && fn.resultTypes.all (fun t => P.readableRec t && decide (t < P.types.size)) && (c.ifacesOut == fn.resultTypes.toList.any (P.ifacesRec ·)) && (c.loopsOut == fn.resultTypes.toList.any (P.loopsFrom ·)) && (c.plainKeys == P.plainKeys) && c.shortTexts.isNone && P.stopsHeard) &&
  (c.lifted == false) && ((some Make.cut : Option Make) == some c.make) && (c.kinds == (if c.domain.isEmpty then [] else fn.params.toList.map fun t => match P.underlying t with | some (.int k) => some k | _ => none)) && (c.pinned == c.pinnedBy) &&
  (c.veiled == (fn.params.toList ++ s.plain.varTypes P ++ fn.resultTypes.toList).any (P.veiledRec ·)) && c.veiledFits P fn.params.toList (fn.params.toList ++ s.plain.varTypes P ++ fn.resultTypes.toList)) = true) :
    joinedFacts P f fn s c = true := by
  unfold joinedFacts
  rw [h1, h2, h3, Bool.and_true]
  exact h
end Go.Proofs.Ytmphjojhfmikeaa
