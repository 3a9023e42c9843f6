/- Contracts of the laws' own functions on nests, and of CleanUp. -/
import Derived.Test.YtagmhmhhjkfhgaaNestA
import Derived.Test.YtagmhmhhjkfhgaaMark
set_option linter.unusedVariables false
set_option linter.unusedSimpArgs false
set_option linter.unnecessarySimpa false
namespace Go.Proofs.Ytagmhmhhjkfhgaa
open Go.RowKit

theorem Blk.new_at' (w : World) {g : Nat} (hg : g = w.heap.size) (t : TypeId) (cs : Array Value) : Blk (w.alloc (.cells cs t)) g t cs := by subst hg; exact Blk.new w t cs
/-- A state of a nest in new memory; what was there is as it was. -/
def RetNest (d k : Int) (ms : List Int) (b : Bool) (w : World) (e : Ending) (w' : World) : Prop :=
  ∃ A c, e = .returned (.agg #[.int .i64 d, .int .i64 k, .slice A ms.length c, .bool b]) ∧ Row w' w.heap.size 3 1 A ms.length c (ms.map (.int .i64)) ∧ Below w.heap.size w w'
set_option maxRecDepth 100000 in
set_option maxHeartbeats 1000000 in
theorem eqNest_c (d k : Int) (zs : List Int) (b : Bool) (A A' : Option Addr) (n c c' : Nat) (w : World) (hN : zs.length = n) (h : Rd w A (zs.map (Value.int .i64))) (h' : Rd w A' (zs.map (Value.int .i64))) (hn : n ≤ 1099511627776) :
    Calls Try.prog 20 #[.agg #[.int .i64 d, .int .i64 k, .slice A n c, .bool b], .agg #[.int .i64 d, .int .i64 k, .slice A' n c', .bool b]] w fun e w' => e = .returned (.bool true) ∧ Below w.heap.size w w' := by
  have H := Lib.hid h; have H' := Lib.hid h'; have HN := Lib.hid hN
  clear h h' hN
  go_enter Try.func20, Try.ntmps20
  go_wp2_with fail
  refine (eqInts_c zs zs A A' n n c c' _ HN.out HN.out ((H.out.alloc _).alloc _) ((H'.out.alloc _).alloc _) hn hn).mono ?_
  rw [decide_eq_true rfl]
  rintro e w1 ⟨rfl, m, rfl⟩
  go_wp2_with fail
  go_ret
  exact ⟨by first | rfl | trivial, below_drewN (((Below.refl _ _).alloc (Nat.le_refl _) _).alloc (by simp) _) _⟩
set_option maxRecDepth 100000 in
set_option maxHeartbeats 1000000 in
theorem equalNest_c (d k : Int) (zs : List Int) (b : Bool) (A A' : Option Addr) (n c c' : Nat) (w : World) (hN : zs.length = n) (h : Rd w A (zs.map (Value.int .i64))) (h' : Rd w A' (zs.map (Value.int .i64))) (hn : n ≤ 1099511627776) :
    Calls Try.prog 15 #[.agg #[.int .i64 d, .int .i64 k, .slice A n c, .bool b], .agg #[.int .i64 d, .int .i64 k, .slice A' n c', .bool b]] w fun e w' => e = .returned (.bool true) ∧ Below w.heap.size w w' := by
  have H := Lib.hid h; have H' := Lib.hid h'; have HN := Lib.hid hN
  clear h h' hN
  go_enter Try.func15, Try.ntmps15
  go_wp2_with fail
  refine (equalInts_c zs zs A A' n n c c' _ HN.out HN.out ((H.out.alloc _).alloc _) ((H'.out.alloc _).alloc _) hn hn).mono ?_
  rw [decide_eq_true rfl]
  rintro e w1 ⟨rfl, m, rfl⟩
  go_wp2_with fail
  go_ret
  exact ⟨by first | rfl | trivial, below_drewN (((Below.refl _ _).alloc (Nat.le_refl _) _).alloc (by simp) _) _⟩
/-- The marks are marked; nothing else that was there has turned. -/
def RetMarkN (B : Nat) (k0 : Nat) (A : Option Addr) (n c : Nat) (w : World) (e : Ending) (w' : World) : Prop :=
  e = .returned (.int .i64 (k0 + n : Nat)) ∧ Row w' B 3 1 A n c ((runFrom k0 n).map (Value.int .i64)) ∧ w.grownBy w' (rb A c)
set_option maxHeartbeats 400000 in
theorem markN_c (B : Nat) (d k : Int) (zs : List Int) (b : Bool) (k0 : Nat) (A : Option Addr) (n c : Nat) (w : World) (hN : zs.length = n) (h : Row w B 3 1 A n c (zs.map (Value.int .i64))) (hn : n ≤ 1099511627776) (hk0 : k0 ≤ 1099511627776) :
    Calls Try.prog 23 #[.agg #[.int .i64 d, .int .i64 k, .slice A n c, .bool b], .int .i64 k0] w (RetMarkN B k0 A n c w) := by
  have H := Lib.hid h; clear h
  have HN := Lib.hid hN; clear hN
  go_enter Try.func23, Try.ntmps23
  go_wp2_with fail
  refine (markR_c B zs k0 A n c _ HN.out (H.out.alloc _) hn hk0).mono ?_
  rintro e w1 ⟨rfl, row1, g1⟩
  go_wp2_with fail
  go_ret
  exact ⟨rfl, row1, only_trans (World.grownBy_alloc w _ _) g1⟩
set_option maxHeartbeats 400000 in
theorem heldN_c (k0 : Nat) (d k : Int) (b : Bool) (A : Option Addr) (n c : Nat) (w : World) (h : Rd w A ((runFrom k0 n).map (Value.int .i64))) (hn : n ≤ 1099511627776) (hk0 : k0 ≤ 1099511627776) :
    Calls Try.prog 24 #[.agg #[.int .i64 d, .int .i64 k, .slice A n c, .bool b], .int .i64 k0] w fun e w' => e = .returned (.int .i64 (k0 + n : Nat)) ∧ Below w.heap.size w w' := by
  have H := Lib.hid h; clear h
  go_enter Try.func24, Try.ntmps24
  go_wp2_with fail
  refine (heldInts_c k0 A n c _ (H.out.alloc _) hn hk0).mono ?_
  rintro e w1 ⟨rfl, rfl⟩
  go_wp2_with fail
  go_ret
  exact ⟨rfl, (Below.refl _ _).alloc (Nat.le_refl _) _⟩
def cleanV (d k : Int) (ms : List Int) (b : Bool) : List Int := if validN d k ms b = true then List.replicate ms.length 4 else []
end Go.Proofs.Ytagmhmhhjkfhgaa
