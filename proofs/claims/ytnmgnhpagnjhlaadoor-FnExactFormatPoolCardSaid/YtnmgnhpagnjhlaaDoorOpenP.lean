/- Pools that came in, opened to the words of the walks. No program in sight. -/
import Derived.Test.YtnmgnhpagnjhlaaDoorOpenS
import Derived.Test.YtnmgnhpagnjhlaaDoorPlainP
import Derived.Lib.SmallJoins
set_option linter.unusedVariables false
set_option linter.unusedSimpArgs false
namespace Go.Proofs.YtnmgnhpagnjhlaaDoor
open Go.Joins Go.ChangeShapes Go.WideShapes Go.Deep Go.RowKit

section
variable {H : Type} {enc : TypeId × Value → H} {P : Program} {w : World} {base : Nat} {spare : Nat → Bool} {held : Bool}
/-- A value that reads as a slice is a slice. -/
theorem slice_of_trod {t e : TypeId} {fuel : Nat} {v : Value} {x : DataW H × List MemPlace} (ht : P.underlying t = some (.slice e)) (hC : P.cellsOf e = 1)
    (h : DataW.trod enc P w base spare held fuel t [v] = some x) : ∃ A len cap, v = .slice A len cap := by
  rcases open_slice1 ht hC h with ⟨hcs, _⟩ | ⟨a, len', cap', m, n, V, D, Pl, hcs, _⟩
  · exact ⟨none, 0, 0, by simpa using hcs⟩
  · exact ⟨some a, len', cap', by simpa using hcs⟩
theorem slice_of_trod2 {t e : TypeId} {f0 f1 : Field} {fuel : Nat} {v : Value} {x : DataW H × List MemPlace}
    (ht : P.underlying t = some (.slice e)) (he : P.underlying e = some (.struct #[f0, f1])) (ce : P.cellsOf e = 2) (o0 : f0.offset = 0) (o1 : f1.offset = 1) (c0 : P.cellsOf f0.type = 1) (c1 : P.cellsOf f1.type = 1)
    (h : DataW.trod enc P w base spare held fuel t [v] = some x) : ∃ A len cap, v = .slice A len cap := by
  rcases open_slice_pairs ht he ce o0 o1 c0 c1 h with ⟨hcs, _⟩ | ⟨a, len', cap', m, n, V0, V1, D0, D1, P0, P1, hcs, _⟩
  · exact ⟨none, 0, 0, by simpa using hcs⟩
  · exact ⟨some a, len', cap', by simpa using hcs⟩
theorem int_of_trod {k : IntKind} {t : TypeId} {fuel : Nat} {v : Value} {x : DataW H × List MemPlace} (ht : P.underlying t = some (.int k))
    (h : DataW.trod enc P w base spare held fuel t [v] = some x) : ∃ z, v = .int k z ∧ (Lit.int k z).wf = true := by
  obtain ⟨b, hb, _, hw⟩ := DataW.trod_int ht h
  exact ⟨b, by simpa using hb, hw⟩
/-- A number, a slice of numbers, a slice of pairs, a slice of numbers. -/
theorem open_ispi {r : Reach} {b0 : Nat} {t e e2 : TypeId} {f0 f1 f2 f3 g0 g1 : Field} {v : Value} {d : DataW H} {p : List MemPlace} (hs : P.underlying t = some (.struct #[f0, f1, f2, f3])) (hone : oneCellFields P #[f0, f1, f2, f3] = true) (hC : P.cellsOf t = 4)
    (h0 : P.underlying f0.type = some (.int .i64)) (h1 : P.underlying f1.type = some (.slice e)) (h2 : P.underlying f2.type = some (.slice e2)) (h3 : P.underlying f3.type = some (.slice e)) (he : P.underlying e = some (.int .i64)) (hCe : P.cellsOf e = 1)
    (he2 : P.underlying e2 = some (.struct #[g0, g1])) (ce : P.cellsOf e2 = 2) (o0 : g0.offset = 0) (o1 : g1.offset = 1) (c0 : P.cellsOf g0.type = 1) (c1 : P.cellsOf g1.type = 1) (u0 : P.underlying g0.type = some (.int .i64)) (u1 : P.underlying g1.type = some (.int .i64))
    (hv : Value.okWide P w r b0 t v) (h : DataW.Trod enc P w base spare held t v d p) :
    ∃ (mx : Int) (A : Option Addr) (n c : Nat) (B : Option Addr) (m d : Nat) (C : Option Addr) (k f : Nat) (ids : List Int) (hs : List Pr) (wt : List Int), v = .agg #[.int .i64 mx, .slice A n c, .slice B m d, .slice C k f] ∧ (Lit.int .i64 mx).wf = true ∧
      ids.length = n ∧ n ≤ c ∧ c ≤ maxLen ∧ Rd w A (ids.map (.int .i64)) ∧ hs.length = m ∧ m ≤ d ∧ d ≤ maxLen ∧ Rd w B (sc hs) ∧ wt.length = k ∧ k ≤ f ∧ f ≤ maxLen ∧ Rd w C (wt.map (.int .i64)) := by
  obtain ⟨v0, v1, v2, v3, y0, y1, y2, y3, n, rfl, _, _, t0, t1, t2, t3⟩ := open_agg4 hs hone hC hv h
  obtain ⟨d0, rfl, w0⟩ := int_of_trod h0 t0
  obtain ⟨A, n1, k1, rfl⟩ := slice_of_trod h1 hCe t1
  obtain ⟨B, n2, k2, rfl⟩ := slice_of_trod2 h2 he2 ce o0 o1 c0 c1 t2
  obtain ⟨C, n3, k3, rfl⟩ := slice_of_trod h3 hCe t3
  obtain ⟨xs, e1, e2, e3, e4, e5⟩ := open_rd (α := Int) (Value.int .i64) (fun x => (Lit.int .i64 x).wf = true) h1 hCe (fun n v y hy => int_of_trod he hy) t1
  obtain ⟨zs, z1, z2, z3, z4, z5⟩ := open_rd (α := Int) (Value.int .i64) (fun x => (Lit.int .i64 x).wf = true) h3 hCe (fun n v y hy => int_of_trod he hy) t3
  obtain ⟨ys, y1, y2, y3, y4⟩ := open_rd_pairs h2 he2 ce o0 o1 c0 c1 u0 u1 t2
  exact ⟨d0, A, n1, k1, B, n2, k2, C, n3, k3, xs, ys, zs, rfl, w0, e1, e2, e3, e4, y1, y2, y3, y4, z1, z2, z3, z4⟩
end
end Go.Proofs.YtnmgnhpagnjhlaaDoor
