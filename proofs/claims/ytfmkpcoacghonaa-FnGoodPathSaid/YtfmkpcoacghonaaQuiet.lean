/- A region that draws its order, whose operations only read and whose callees make memory of their own and answer alike in every world: walked once. No program in sight. -/
import Derived.Test.YtfmkpcoacghonaaBase
set_option linter.unusedVariables false
set_option linter.unusedSimpArgs false
namespace Go.Proofs.Ytfmkpcoacghonaa
open Go.RowKit

/-- A world that leaves what was there in w as it was. -/
structure Wb (w : World) where
  v : World
  h : Below w.heap.size w v

instance (w : World) : Nonempty (Wb w) := ⟨⟨w, Below.refl _ _⟩⟩

theorem Wb.cell {w : World} (x : Wb w) {p : Addr} {u : Value} (h : w.cell? p = some u) : x.v.cell? p = some u :=
  (x.h.cell (World.block_lt_of_cell? w p h)).trans h

theorem wp_region_wb {P : Program} {id : Nat} {Q : Exit → Act → World → Prop} {a : Act} {w : World} {l : List Oper} (hm : P.follows .mixedOrders = true) (hB : Region.lexB .any l.toArray = true)
    (h : wpQuiet P l.toArray (fun w' => ∃ x : Wb w, w' = x.v) (fun a' => ∀ w', (∃ x : Wb w, w' = x.v) → Q .normal a' w') l a) : (Code.region id l.toArray true).wp P Q a w :=
  wp_region_quiet (C := fun w' => ∃ x : Wb w, w' = x.v) hm hB ⟨⟨w.drew, (Below.refl _ _).drew⟩, rfl⟩ (by simpa using h)

theorem wb_call {P : Program} {f : FuncId} {args : Array Value} {w : World} {v : Value} (x : Wb w)
    (h : Calls P f args x.v fun e w' => e = .returned v ∧ Below x.v.heap.size x.v w') : Calls P f args x.v fun e w'' => e = .returned v ∧ ∃ y : Wb w, w'' = y.v :=
  h.mono fun _ _ ⟨he, hb⟩ => ⟨he, ⟨_, x.h.trans (hb.mono x.h.size)⟩, rfl⟩
theorem wb_call_q {P : Program} {f : FuncId} {args : Array Value} {w : World} {v : Value} (x : Wb w)
    (h : Calls P f args x.v fun e w' => e = .returned v ∧ ∃ m, w' = x.v.drewN m) : Calls P f args x.v fun e w'' => e = .returned v ∧ ∃ y : Wb w, w'' = y.v :=
  wb_call x (h.mono fun _ _ ⟨he, m, hm⟩ => ⟨he, by rw [hm]; exact below_drewN (Below.refl _ _) m⟩)
theorem wb_call_s {P : Program} {f : FuncId} {args : Array Value} {w : World} {v : Value} (x : Wb w)
    (h : Calls P f args x.v fun e w' => e = .returned v ∧ x.v = w') : Calls P f args x.v fun e w'' => e = .returned v ∧ ∃ y : Wb w, w'' = y.v :=
  wb_call x (h.mono fun _ _ ⟨he, hm⟩ => ⟨he, by rw [← hm]; exact Below.refl _ _⟩)
end Go.Proofs.Ytfmkpcoacghonaa
