/- Slices of pairs that came in, opened to the words of the walks. No program in sight. -/
import Derived.Test.YtnmgnhpagnjhlaaDoorOpen
import Derived.Test.YtnmgnhpagnjhlaaDoorHolds
import Derived.Deep.SlicePairs
set_option linter.unusedVariables false
set_option linter.unusedSimpArgs false
namespace Go.Proofs.YtnmgnhpagnjhlaaDoor
open Go.ChangeShapes Go.WideShapes Go.Deep Go.RowKit

section
variable {H : Type} {enc : TypeId × Value → H} {P : Program} {w : World} {base : Nat} {spare : Nat → Bool} {held : Bool}
theorem sc_at : ∀ (xs : List Pr) (x : Pr) (i : Nat) (u : Value), (sc (xs ++ [x]))[i]? = some u → (sc xs)[i]? = some u ∨ (i = xs.length * 2 ∧ u = .int .i64 x.1) ∨ (i = xs.length * 2 + 1 ∧ u = .int .i64 x.2) := by
  intro xs x i u h
  rw [sc_append] at h
  rcases Nat.lt_or_ge i (xs.length * 2) with hi | hi
  · rw [List.getElem?_append_left (by rw [sc_len]; exact hi)] at h
    exact .inl h
  · rw [List.getElem?_append_right (by rw [sc_len]; exact hi), sc_len] at h
    have hlt := (List.getElem?_eq_some_iff.1 h).1
    simp [sc] at hlt
    have : i = xs.length * 2 ∨ i = xs.length * 2 + 1 := by omega
    rcases this with rfl | rfl
    · simp [sc] at h
      exact .inr (.inl ⟨rfl, h.symm⟩)
    · rw [show xs.length * 2 + 1 - xs.length * 2 = 1 by omega] at h
      simp [sc] at h
      exact .inr (.inr ⟨rfl, h.symm⟩)
theorem open_rd_pairs {t e : TypeId} {f0 f1 : Field} {fuel len cap : Nat} {A : Option Addr} {x : DataW H × List MemPlace}
    (ht : P.underlying t = some (.slice e)) (he : P.underlying e = some (.struct #[f0, f1])) (ce : P.cellsOf e = 2) (o0 : f0.offset = 0) (o1 : f1.offset = 1) (c0 : P.cellsOf f0.type = 1) (c1 : P.cellsOf f1.type = 1)
    (u0 : P.underlying f0.type = some (.int .i64)) (u1 : P.underlying f1.type = some (.int .i64))
    (h : DataW.trod enc P w base spare held fuel t [.slice A len cap] = some x) :
    ∃ xs : List Pr, xs.length = len ∧ len ≤ cap ∧ cap ≤ maxLen ∧ Rd w A (sc xs) := by
  rcases open_slice_pairs ht he ce o0 o1 c0 c1 h with ⟨hcs, _⟩ | ⟨a, len', cap', m, n, V0, V1, D0, D1, P0, P1, hcs, _, hl, hm, hmm, _, hx⟩
  · obtain ⟨rfl, rfl, rfl⟩ : A = none ∧ len = 0 ∧ cap = 0 := by simpa using hcs
    exact ⟨[], rfl, Nat.le_refl _, by unfold maxLen; omega, Rd.nil _ _⟩
  · obtain ⟨rfl, rfl, rfl⟩ : A = some a ∧ len = len' ∧ cap = cap' := by simpa using hcs
    have hml : len ≤ m := by rw [hmm]; split <;> omega
    have key : ∀ k, k ≤ len → ∃ xs : List Pr, xs.length = k ∧ ∀ i u, (sc xs)[i]? = some u → w.cell? (a.add i) = some u := by
      intro k
      induction k with
      | zero => intro _; exact ⟨[], rfl, by simp [sc]⟩
      | succ k ih =>
        intro hk
        obtain ⟨xs, hxl, hxc⟩ := ih (by omega)
        obtain ⟨h1, h2, t1, t2⟩ := hx k (by omega)
        obtain ⟨y1, hy1, _⟩ := DataW.trod_int u0 t1
        obtain ⟨y2, hy2, _⟩ := DataW.trod_int u1 t2
        have e1 : V0 k = .int .i64 y1 := by simpa using hy1
        have e2 : V1 k = .int .i64 y2 := by simpa using hy2
        refine ⟨xs ++ [(y1, y2)], by simp [hxl], fun i u hu => ?_⟩
        rcases sc_at xs (y1, y2) i u hu with h | ⟨rfl, rfl⟩ | ⟨rfl, rfl⟩
        · exact hxc i u h
        · rw [hxl, h1, e1]
        · rw [hxl, h2, e2]
    obtain ⟨xs, hxl, hxc⟩ := key len (Nat.le_refl _)
    refine ⟨xs, hxl, hl, hm, fun hpos => ?_⟩
    obtain ⟨b, off, spot⟩ := a
    have h0 := hxc 0 _ (List.getElem?_eq_getElem hpos)
    have hs : spot = none := by simpa [Addr.add] using World.cell?_spot h0
    subst hs
    exact ⟨b, off, rfl, fun j u hu => by have := hxc j u hu; rwa [add_none] at this⟩
end
end Go.Proofs.YtnmgnhpagnjhlaaDoor
