/- Contracts of the laws' own functions on pools. -/
import Derived.Test.YtnmgnhpagnjhlaaGreatDoorPoolV
import Derived.Test.YtnmgnhpagnjhlaaGreatDoorLists
set_option linter.unusedVariables false
set_option linter.unusedSimpArgs false
set_option linter.unnecessarySimpa false
namespace Go.Proofs.YtnmgnhpagnjhlaaGreatDoor
open Go.RowKit

theorem blk4 {w : World} {g : Nat} {t : TypeId} {a b c d : Value} (h : Blk w g t #[a, b, c, d]) : w.cell? ⟨g, 0, none⟩ = some a ∧ w.cell? ⟨g, 1, none⟩ = some b ∧ w.cell? ⟨g, 2, none⟩ = some c ∧ w.cell? ⟨g, 3, none⟩ = some d ∧ ∀ i, w.frozen? ⟨g, i, none⟩ = false :=
  ⟨h.cell 0, h.cell 1, h.cell 2, h.cell 3, h.frozen⟩
theorem Row.setFar {w : World} {B : Nat} {e : TypeId} {size n c : Nat} {A : Option Addr} {xs : List Value} (h : Row w B e size A n c xs) {p : Addr} (hp : p.block < B) (u : Value) : Row (w.setCell p u) B e size A n c xs :=
  h.keep (only_setCell (World.grownBy.refl _ _) (.inl rfl) _) hp
theorem Blk.new_at (w : World) {g : Nat} (hg : g = w.heap.size) (t : TypeId) (cs : Array Value) : Blk (w.alloc (.cells cs t)) g t cs := by subst hg; exact Blk.new w t cs
/-- A pool in new memory; what was there is as it was. -/
def RetPool (p : Pl) (w : World) (e : Ending) (w' : World) : Prop :=
  ∃ A a B b C c, e = .returned (.agg #[.int .i64 p.mx, .slice A p.ids.length a, .slice B p.hs.length b, .slice C p.wt.length c]) ∧ Row w' w.heap.size 3 1 A p.ids.length a (p.ids.map (.int .i64)) ∧
    Row w' w.heap.size 48 2 B p.hs.length b (sc p.hs) ∧ Row w' w.heap.size 3 1 C p.wt.length c (p.wt.map (.int .i64)) ∧ Below w.heap.size w w'
/-- Three blocks of structs laid one behind the other. -/
def Lay3 (w0 : World) (t1 t2 t3 : TypeId) (x y z : Array Value) (W : World) : Prop :=
  Blk W w0.heap.size t1 x ∧ Blk W (w0.heap.size + 1) t2 y ∧ Blk W (w0.heap.size + 1 + 1) t3 z ∧ Below w0.heap.size w0 W ∧ w0.heap.size + 3 ≤ W.heap.size
theorem Lay3.new (w : World) (t1 t2 t3 : TypeId) (x y z : Array Value) : Lay3 w t1 t2 t3 x y z (((w.alloc (.cells x t1)).alloc (.cells y t2)).alloc (.cells z t3)) := by
  refine ⟨((Blk.new _ _ _).alloc _).alloc _, ?_, ?_, (((Below.refl _ _).alloc (Nat.le_refl _) _).alloc (by simp) _).alloc (by simp <;> omega) _, by simp⟩
  · have := (Blk.new (w.alloc (.cells x t1)) t2 y).alloc (.cells z t3)
    simpa using this
  · have := Blk.new ((w.alloc (.cells x t1)).alloc (.cells y t2)) t3 z
    simpa using this
theorem Lay3.call {w0 W W' : World} {t1 t2 t3 : TypeId} {x y z : Array Value} (h : Lay3 w0 t1 t2 t3 x y z W) (b : Below W.heap.size W W') : Lay3 w0 t1 t2 t3 x y z W' := by
  obtain ⟨a1, a2, a3, a4, a5⟩ := h
  exact ⟨a1.below b a1.lt, a2.below b a2.lt, a3.below b a3.lt, a4.trans (b.mono a4.size), Nat.le_trans a5 b.size⟩
theorem Lay3.set_ {w0 W : World} {t1 t2 t3 : TypeId} {x y z : Array Value} (h : Lay3 w0 t1 t2 t3 x y z W) (i : Nat) (u : Value) : Lay3 w0 t1 t2 t3 x y (z.setIfInBounds i u) (W.setCell ⟨w0.heap.size + 1 + 1, i, none⟩ u) := by
  obtain ⟨a1, a2, a3, a4, a5⟩ := h
  exact ⟨a1.far (by simp <;> omega) _, a2.far (by simp <;> omega) _, a3.set_ i u, a4.setCell (by simp <;> omega) _, by simpa [World.setCell] using a5⟩
/-- Two blocks of structs laid one behind the other. -/
def Lay2 (w0 : World) (t1 t2 : TypeId) (x y : Array Value) (W : World) : Prop :=
  Blk W w0.heap.size t1 x ∧ Blk W (w0.heap.size + 1) t2 y ∧ Below w0.heap.size w0 W ∧ w0.heap.size + 2 ≤ W.heap.size
theorem Lay2.new (w : World) (t1 t2 : TypeId) (x y : Array Value) : Lay2 w t1 t2 x y ((w.alloc (.cells x t1)).alloc (.cells y t2)) := by
  refine ⟨(Blk.new _ _ _).alloc _, ?_, ((Below.refl _ _).alloc (Nat.le_refl _) _).alloc (by simp) _, by simp⟩
  have := Blk.new (w.alloc (.cells x t1)) t2 y
  simpa using this
theorem Lay2.call {w0 W W' : World} {t1 t2 : TypeId} {x y : Array Value} (h : Lay2 w0 t1 t2 x y W) (b : Below W.heap.size W W') : Lay2 w0 t1 t2 x y W' := by
  obtain ⟨a1, a2, a4, a5⟩ := h
  exact ⟨a1.below b a1.lt, a2.below b a2.lt, a4.trans (b.mono a4.size), Nat.le_trans a5 b.size⟩
set_option maxRecDepth 100000 in
set_option maxHeartbeats 2000000 in
theorem eqPool_c (mx : Int) (ids : List Int) (hs : List Pr) (wt : List Int) (A : Option Addr) (n c : Nat) (B : Option Addr) (m d : Nat) (C : Option Addr) (k f : Nat) (A' : Option Addr) (c' : Nat) (B' : Option Addr) (d' : Nat) (C' : Option Addr) (f' : Nat) (w : World) (hA : ids.length = n) (hB : hs.length = m) (hC : wt.length = k)
    (h1 : Rd w A (ids.map (.int .i64))) (h2 : Rd w B (sc hs)) (h3 : Rd w C (wt.map (.int .i64))) (h1' : Rd w A' (ids.map (.int .i64))) (h2' : Rd w B' (sc hs)) (h3' : Rd w C' (wt.map (.int .i64))) (l1 : n ≤ 1073741824) (l2 : m ≤ 1073741824) (l3 : k ≤ 1073741824) :
    Calls Tryz.prog 17 #[.agg #[.int .i64 mx, .slice A n c, .slice B m d, .slice C k f], .agg #[.int .i64 mx, .slice A' n c', .slice B' m d', .slice C' k f']] w fun e w' => e = .returned (.bool true) ∧ Below w.heap.size w w' := by
  have HC1 := Lib.hid (fun W hW hW' => eqInts_c ids ids A A' n n c c' W hA hA hW hW' (by omega) (by omega))
  have HC2 := Lib.hid (fun W hW hW' => eqSets_c hs B B' m d d' W hB hW hW' l2)
  have HC3 := Lib.hid (fun W hW hW' => eqInts_c wt wt C C' k k f f' W hC hC hW hW' (by omega) (by omega))
  rw [decide_eq_true rfl] at HC1 HC3
  have H1 := Lib.hid h1; have H2 := Lib.hid h2; have H3 := Lib.hid h3; have H1' := Lib.hid h1'; have H2' := Lib.hid h2'; have H3' := Lib.hid h3'
  have L0 := Lib.hid (Lay2.new w 26 26 #[.int .i64 mx, .slice A n c, .slice B m d, .slice C k f] #[.int .i64 mx, .slice A' n c', .slice B' m d', .slice C' k f'])
  clear h1 h2 h3 h1' h2' h3' hA hB hC
  go_enter Tryz.func17, Tryz.ntmps17
  go_wp2_with fail
  refine (HC1.out _ (H1.out.below L0.out.2.2.1) (H1'.out.below L0.out.2.2.1)).mono ?_
  rintro e w1 ⟨rfl, q1, hq1⟩
  have L1 : Hid (Lay2 w 26 26 #[.int .i64 mx, .slice A n c, .slice B m d, .slice C k f] #[.int .i64 mx, .slice A' n c', .slice B' m d', .slice C' k f'] w1) := by rw [hq1]; exact L0.out.call (below_of_drewN _ _ _)
  have LL := L1.out
  obtain ⟨i0c, i1c, i2c, i3c, ifz⟩ := blk4 LL.1
  obtain ⟨o0c, o1c, o2c, o3c, ofz⟩ := blk4 LL.2.1
  clear LL hq1
  go_wp2_with fail
  refine (HC2.out _ (H2.out.below L1.out.2.2.1) (H2'.out.below L1.out.2.2.1)).mono ?_
  rintro e w2 ⟨rfl, b2⟩
  have L2 := Lib.hid (L1.out.call b2)
  have LL := L2.out
  clear i0c i1c i2c i3c ifz o0c o1c o2c o3c ofz
  obtain ⟨i0c, i1c, i2c, i3c, ifz⟩ := blk4 LL.1
  obtain ⟨o0c, o1c, o2c, o3c, ofz⟩ := blk4 LL.2.1
  clear LL b2
  go_wp2_with fail
  refine (HC3.out _ (H3.out.below L2.out.2.2.1) (H3'.out.below L2.out.2.2.1)).mono ?_
  rintro e w3 ⟨rfl, q3, hq3⟩
  have L3 : Hid (Lay2 w 26 26 #[.int .i64 mx, .slice A n c, .slice B m d, .slice C k f] #[.int .i64 mx, .slice A' n c', .slice B' m d', .slice C' k f'] w3) := by rw [hq3]; exact L2.out.call (below_of_drewN _ _ _)
  clear i0c i1c i2c i3c ifz o0c o1c o2c o3c ofz hq3
  go_wp2_with fail
  go_ret
  exact ⟨rfl, L3.out.2.2.1⟩
end Go.Proofs.YtnmgnhpagnjhlaaGreatDoor
