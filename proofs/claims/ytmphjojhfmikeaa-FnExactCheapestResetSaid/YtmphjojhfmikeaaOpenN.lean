/- Slices of slices of pairs that came in, opened to the words of the walks. No program in sight. -/
import Derived.Test.YtmphjojhfmikeaaOpenS
import Derived.Test.YtmphjojhfmikeaaResA
set_option linter.unusedVariables false
set_option linter.unusedSimpArgs false
namespace Go.Proofs.Ytmphjojhfmikeaa
open Go.ChangeShapes Go.WideShapes Go.Deep Go.RowKit

section
variable {H : Type} {enc : TypeId × Value → H} {P : Program} {w : World} {base : Nat} {spare : Nat → Bool} {held : Bool}
theorem open_rd_lists {tt t e : TypeId} {f0 f1 : Field} {fuel len cap : Nat} {A : Option Addr} {x : DataW H × List MemPlace}
    (htt : P.underlying tt = some (.slice t)) (hCt : P.cellsOf t = 1) (ht : P.underlying t = some (.slice e)) (he : P.underlying e = some (.struct #[f0, f1])) (ce : P.cellsOf e = 2) (o0 : f0.offset = 0) (o1 : f1.offset = 1) (c0 : P.cellsOf f0.type = 1) (c1 : P.cellsOf f1.type = 1)
    (u0 : P.underlying f0.type = some (.int .i64)) (u1 : P.underlying f1.type = some (.int .i64))
    (h : DataW.trod enc P w base spare held fuel tt [.slice A len cap] = some x) :
    ∃ es : List El, es.length = len ∧ len ≤ cap ∧ cap ≤ maxLen ∧ RdN w A es ∧ ∀ e ∈ es, e.2.2.length ≤ maxLen := by
  obtain ⟨es, h1, h2, h3, h4, h5⟩ := open_rd (α := El) cellE (fun e => Rd w e.1 (sc e.2.2) ∧ e.2.2.length ≤ maxLen) htt hCt (fun n v y hy => by
    have hv : ∃ A l c, v = .slice A l c := by
      rcases open_slice_pairs ht he ce o0 o1 c0 c1 hy with ⟨hcs, _⟩ | ⟨a, l, c, m, n', V0, V1, D0, D1, P0, P1, hcs, _⟩
      · exact ⟨none, 0, 0, by simpa using hcs⟩
      · exact ⟨some a, l, c, by simpa using hcs⟩
    obtain ⟨A', l, c, rfl⟩ := hv
    obtain ⟨xs, g1, g2, g3, g4⟩ := open_rd_pairs ht he ce o0 o1 c0 c1 u0 u1 hy
    exact ⟨(A', c, xs), by unfold cellE; simp only; rw [g1], g4, by simp only; omega⟩) h
  exact ⟨es, h1, h2, h3, ⟨h4, fun e he => (h5 e he).1⟩, fun e he => (h5 e he).2⟩
end
end Go.Proofs.Ytmphjojhfmikeaa
