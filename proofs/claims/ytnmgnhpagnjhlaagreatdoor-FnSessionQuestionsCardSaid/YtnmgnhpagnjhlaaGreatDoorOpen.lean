/- Arguments opened to the words of the walks: a slice of one-cell elements that came in reads as a list. No program in sight. -/
import Derived.Test.YtnmgnhpagnjhlaaGreatDoorBase
import Derived.Test.YtnmgnhpagnjhlaaGreatDoorProg
import Derived.LaidMore
import Derived.Lay
import Derived.SevenTiedAt
import Derived.Stop.Joined
import Derived.ProofKit
import Derived.OpenShut
import Derived.ShutString
import Derived.ChangeOld
import Derived.Deep.Slices
set_option linter.unusedVariables false
set_option linter.unusedSimpArgs false
namespace Go.Proofs.YtnmgnhpagnjhlaaGreatDoor
open Go.ChangeShapes Go.WideShapes Go.Deep Go.RowKit

section
variable {H : Type} {enc : TypeId × Value → H} {P : Program} {w : World} {base : Nat} {spare : Nat → Bool} {held : Bool}
theorem open_rd {α : Type} (F : α → Value) (ok : α → Prop) {t e : TypeId} {fuel len cap : Nat} {A : Option Addr} {x : DataW H × List MemPlace}
    (ht : P.underlying t = some (.slice e)) (hC : P.cellsOf e = 1)
    (hF : ∀ n v y, DataW.trod enc P w base spare held n e [v] = some y → ∃ a, v = F a ∧ ok a)
    (h : DataW.trod enc P w base spare held fuel t [.slice A len cap] = some x) :
    ∃ xs : List α, xs.length = len ∧ len ≤ cap ∧ cap ≤ maxLen ∧ Rd w A (xs.map F) ∧ ∀ y ∈ xs, ok y := by
  rcases open_slice1 ht hC h with ⟨hcs, _⟩ | ⟨a, len', cap', m, n, V, D, Pl, hcs, _, hl, hm, hmm, _, hx⟩
  · obtain ⟨rfl, rfl, rfl⟩ : A = none ∧ len = 0 ∧ cap = 0 := by simpa using hcs
    exact ⟨[], rfl, Nat.le_refl _, by unfold maxLen; omega, Rd.nil _ _, by simp⟩
  · obtain ⟨rfl, rfl, rfl⟩ : A = some a ∧ len = len' ∧ cap = cap' := by simpa using hcs
    have hml : len ≤ m := by rw [hmm]; split <;> omega
    have key : ∀ k, k ≤ len → ∃ xs : List α, xs.length = k ∧ (∀ i u, (xs.map F)[i]? = some u → w.cell? (a.add i) = some u) ∧ ∀ y ∈ xs, ok y := by
      intro k
      induction k with
      | zero => intro _; exact ⟨[], rfl, by simp, by simp⟩
      | succ k ih =>
        intro hk
        obtain ⟨xs, hxl, hxc, hxo⟩ := ih (by omega)
        obtain ⟨hc, htr⟩ := hx k (by omega)
        obtain ⟨y, hy, hok⟩ := hF _ _ _ htr
        refine ⟨xs ++ [y], by simp [hxl], fun i u hu => ?_, fun z hz => ?_⟩
        · rcases Nat.lt_or_ge i k with hi | hi
          · refine hxc i u ?_
            rwa [List.map_append, List.getElem?_append_left (by simpa [hxl] using hi)] at hu
          · have hi' : i = k := by
              have := (List.getElem?_eq_some_iff.1 hu).1
              simp [hxl] at this
              omega
            subst hi'
            rw [List.map_append, List.getElem?_append_right (by simp [hxl])] at hu
            simp [hxl] at hu
            rw [← hu, ← hy]
            exact hc
        · rcases List.mem_append.1 hz with hz | hz
          · exact hxo z hz
          · simp at hz; subst hz; exact hok
    obtain ⟨xs, hxl, hxc, hxo⟩ := key len (Nat.le_refl _)
    refine ⟨xs, hxl, hl, hm, fun hpos => ?_, hxo⟩
    obtain ⟨b, off, spot⟩ := a
    have h0 := hxc 0 _ (List.getElem?_eq_getElem hpos)
    have hs : spot = none := by simpa [Addr.add] using World.cell?_spot h0
    subst hs
    exact ⟨b, off, rfl, fun j u hu => by have := hxc j u hu; rwa [add_none] at this⟩

theorem open_rd_bool {t e : TypeId} {len cap : Nat} {A : Option Addr} {d : DataW H} {p : List MemPlace}
    (ht : P.underlying t = some (.slice e)) (he : P.underlying e = some .bool) (hC : P.cellsOf e = 1)
    (h : DataW.Trod enc P w base spare held t (.slice A len cap) d p) :
    ∃ xs : List Bool, xs.length = len ∧ len ≤ cap ∧ cap ≤ maxLen ∧ Rd w A (xs.map .bool) := by
  obtain ⟨fuel, hf⟩ := h
  obtain ⟨xs, h1, h2, h3, h4, _⟩ := open_rd (α := Bool) Value.bool (fun _ => True) ht hC (fun n v y hy => by
    obtain ⟨b, hb, _⟩ := DataW.trod_bool he hy
    exact ⟨b, by simpa using hb, trivial⟩) hf
  exact ⟨xs, h1, h2, h3, h4⟩
theorem open_rd_int {k : IntKind} {t e : TypeId} {len cap : Nat} {A : Option Addr} {d : DataW H} {p : List MemPlace}
    (ht : P.underlying t = some (.slice e)) (he : P.underlying e = some (.int k)) (hC : P.cellsOf e = 1)
    (h : DataW.Trod enc P w base spare held t (.slice A len cap) d p) :
    ∃ xs : List Int, xs.length = len ∧ len ≤ cap ∧ cap ≤ maxLen ∧ Rd w A (xs.map (.int k)) ∧ ∀ x ∈ xs, (Lit.int k x).wf = true := by
  obtain ⟨fuel, hf⟩ := h
  exact open_rd (α := Int) (Value.int k) (fun x => (Lit.int k x).wf = true) ht hC (fun n v y hy => by
    obtain ⟨b, hb, _, hw⟩ := DataW.trod_int he hy
    exact ⟨b, by simpa using hb, hw⟩) hf
theorem wf_u8 {x : Int} (h : (Lit.int .u8 x).wf = true) : 0 ≤ x ∧ x ≤ 255 := bounds_u8 h
theorem wf_i64 {x : Int} (h : (Lit.int .i64 x).wf = true) : -9223372036854775808 ≤ x ∧ x ≤ 9223372036854775807 := bounds_i64 h
end
end Go.Proofs.YtnmgnhpagnjhlaaGreatDoor
