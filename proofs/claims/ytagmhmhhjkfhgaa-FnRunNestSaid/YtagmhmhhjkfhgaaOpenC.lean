/- Arguments that are structs with a slice among their fields, opened to the words of the walks. No program in sight. -/
import Derived.Test.YtagmhmhhjkfhgaaOpen
import Derived.Lib.SmallJoins
set_option linter.unusedVariables false
set_option linter.unusedSimpArgs false
namespace Go.Proofs.Ytagmhmhhjkfhgaa
open Go.Joins Go.ChangeShapes Go.WideShapes Go.Deep Go.RowKit

section
variable {H : Type} {enc : TypeId × Value → H} {P : Program} {w : World} {base : Nat} {spare : Nat → Bool} {held : Bool}
/-- A value that reads as a slice is a slice. -/
theorem slice_of_trod {t e : TypeId} {fuel : Nat} {v : Value} {x : DataW H × List MemPlace} (ht : P.underlying t = some (.slice e)) (hC : P.cellsOf e = 1)
    (h : DataW.trod enc P w base spare held fuel t [v] = some x) : ∃ A len cap, v = .slice A len cap := by
  rcases open_slice1 ht hC h with ⟨hcs, _⟩ | ⟨a, len', cap', m, n, V, D, Pl, hcs, _⟩
  · exact ⟨none, 0, 0, by simpa using hcs⟩
  · exact ⟨some a, len', cap', by simpa using hcs⟩
theorem int_of_trod {k : IntKind} {t : TypeId} {fuel : Nat} {v : Value} {x : DataW H × List MemPlace} (ht : P.underlying t = some (.int k))
    (h : DataW.trod enc P w base spare held fuel t [v] = some x) : ∃ z, v = .int k z ∧ (Lit.int k z).wf = true := by
  obtain ⟨b, hb, _, hw⟩ := DataW.trod_int ht h
  exact ⟨b, by simpa using hb, hw⟩
theorem bool_of_trod {t : TypeId} {fuel : Nat} {v : Value} {x : DataW H × List MemPlace} (ht : P.underlying t = some .bool)
    (h : DataW.trod enc P w base spare held fuel t [v] = some x) : ∃ z, v = .bool z := by
  obtain ⟨b, hb, _⟩ := DataW.trod_bool ht h
  exact ⟨b, by simpa using hb⟩
/-- Two numbers, a slice of numbers, a bool. -/
theorem open_iisb {r : Reach} {b0 : Nat} {t e : TypeId} {f0 f1 f2 f3 : Field} {v : Value} {d : DataW H} {p : List MemPlace} (hs : P.underlying t = some (.struct #[f0, f1, f2, f3])) (hone : oneCellFields P #[f0, f1, f2, f3] = true) (hC : P.cellsOf t = 4)
    (h0 : P.underlying f0.type = some (.int .i64)) (h1 : P.underlying f1.type = some (.int .i64)) (h2 : P.underlying f2.type = some (.slice e)) (he : P.underlying e = some (.int .i64)) (hCe : P.cellsOf e = 1) (h3 : P.underlying f3.type = some .bool)
    (hv : Value.okWide P w r b0 t v) (h : DataW.Trod enc P w base spare held t v d p) :
    ∃ (d0 k0 : Int) (A : Option Addr) (n c : Nat) (b : Bool) (xs : List Int), v = .agg #[.int .i64 d0, .int .i64 k0, .slice A n c, .bool b] ∧ (Lit.int .i64 d0).wf = true ∧ (Lit.int .i64 k0).wf = true ∧
      xs.length = n ∧ n ≤ c ∧ c ≤ maxLen ∧ Rd w A (xs.map (.int .i64)) ∧ ∀ x ∈ xs, (Lit.int .i64 x).wf = true := by
  obtain ⟨v0, v1, v2, v3, y0, y1, y2, y3, n, rfl, _, _, t0, t1, t2, t3⟩ := open_agg4 hs hone hC hv h
  obtain ⟨d0, rfl, w0⟩ := int_of_trod h0 t0
  obtain ⟨k0, rfl, w1⟩ := int_of_trod h1 t1
  obtain ⟨A, len, cap, rfl⟩ := slice_of_trod h2 hCe t2
  obtain ⟨b, rfl⟩ := bool_of_trod h3 t3
  obtain ⟨xs, e1, e2, e3, e4, e5⟩ := open_rd (α := Int) (Value.int .i64) (fun x => (Lit.int .i64 x).wf = true) h2 hCe (fun n v y hy => int_of_trod he hy) t2
  exact ⟨d0, k0, A, len, cap, b, xs, rfl, w0, w1, e1, e2, e3, e4, e5⟩
end
end Go.Proofs.Ytagmhmhhjkfhgaa
