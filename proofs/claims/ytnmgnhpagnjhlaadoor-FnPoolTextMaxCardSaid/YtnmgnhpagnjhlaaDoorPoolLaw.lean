/- Contracts of the laws' own functions on pools. -/
import Derived.Test.YtnmgnhpagnjhlaaDoorPoolV
import Derived.Test.YtnmgnhpagnjhlaaDoorLists
set_option linter.unusedVariables false
set_option linter.unusedSimpArgs false
set_option linter.unnecessarySimpa false
namespace Go.Proofs.YtnmgnhpagnjhlaaDoor
open Go.RowKit

theorem blk4 {w : World} {g : Nat} {t : TypeId} {a b c d : Value} (h : Blk w g t #[a, b, c, d]) : w.cell? ⟨g, 0, none⟩ = some a ∧ w.cell? ⟨g, 1, none⟩ = some b ∧ w.cell? ⟨g, 2, none⟩ = some c ∧ w.cell? ⟨g, 3, none⟩ = some d ∧ ∀ i, w.frozen? ⟨g, i, none⟩ = false :=
  ⟨h.cell 0, h.cell 1, h.cell 2, h.cell 3, h.frozen⟩
theorem Row.setFar {w : World} {B : Nat} {e : TypeId} {size n c : Nat} {A : Option Addr} {xs : List Value} (h : Row w B e size A n c xs) {p : Addr} (hp : p.block < B) (u : Value) : Row (w.setCell p u) B e size A n c xs :=
  h.keep (only_setCell (World.grownBy.refl _ _) (.inl rfl) _) hp
theorem Blk.new_at (w : World) {g : Nat} (hg : g = w.heap.size) (t : TypeId) (cs : Array Value) : Blk (w.alloc (.cells cs t)) g t cs := by subst hg; exact Blk.new w t cs
/-- A pool in new memory; what was there is as it was. -/
def RetPool (p : Pl) (w : World) (e : Ending) (w' : World) : Prop :=
  ∃ A a B b C c, e = .returned (.agg #[.int .i64 p.mx, .slice A p.ids.length a, .slice B p.hs.length b, .slice C p.wt.length c]) ∧ Row w' w.heap.size 3 1 A p.ids.length a (p.ids.map (.int .i64)) ∧
    Row w' w.heap.size 44 2 B p.hs.length b (sc p.hs) ∧ Row w' w.heap.size 3 1 C p.wt.length c (p.wt.map (.int .i64)) ∧ Below w.heap.size w w'
/-- Three blocks of structs laid one behind the other. -/
def Lay3 (w0 : World) (t1 t2 t3 : TypeId) (x y z : Array Value) (W : World) : Prop :=
  Blk W w0.heap.size t1 x ∧ Blk W (w0.heap.size + 1) t2 y ∧ Blk W (w0.heap.size + 1 + 1) t3 z ∧ Below w0.heap.size w0 W ∧ w0.heap.size + 3 ≤ W.heap.size
theorem Lay3.new (w : World) (t1 t2 t3 : TypeId) (x y z : Array Value) : Lay3 w t1 t2 t3 x y z (((w.alloc (.cells x t1)).alloc (.cells y t2)).alloc (.cells z t3)) := by
  refine ⟨((Blk.new _ _ _).alloc _).alloc _, ?_, ?_, (((Below.refl _ _).alloc (Nat.le_refl _) _).alloc (by simp) _).alloc (by simp <;> omega) _, by simp⟩
  · have := (Blk.new (w.alloc (.cells x t1)) t2 y).alloc (.cells z t3)
    simpa using this
  · have := Blk.new ((w.alloc (.cells x t1)).alloc (.cells y t2)) t3 z
    simpa using this
theorem Lay3.call {w0 W W' : World} {t1 t2 t3 : TypeId} {x y z : Array Value} (h : Lay3 w0 t1 t2 t3 x y z W) (b : Below W.heap.size W W') : Lay3 w0 t1 t2 t3 x y z W' := by
  obtain ⟨a1, a2, a3, a4, a5⟩ := h
  exact ⟨a1.below b a1.lt, a2.below b a2.lt, a3.below b a3.lt, a4.trans (b.mono a4.size), Nat.le_trans a5 b.size⟩
theorem Lay3.set_ {w0 W : World} {t1 t2 t3 : TypeId} {x y z : Array Value} (h : Lay3 w0 t1 t2 t3 x y z W) (i : Nat) (u : Value) : Lay3 w0 t1 t2 t3 x y (z.setIfInBounds i u) (W.setCell ⟨w0.heap.size + 1 + 1, i, none⟩ u) := by
  obtain ⟨a1, a2, a3, a4, a5⟩ := h
  exact ⟨a1.far (by simp <;> omega) _, a2.far (by simp <;> omega) _, a3.set_ i u, a4.setCell (by simp <;> omega) _, by simpa [World.setCell] using a5⟩
set_option maxRecDepth 100000 in
set_option maxHeartbeats 4000000 in
theorem toPool_c (mx : Int) (ids : List Int) (hs : List Pr) (wt : List Int) (A : Option Addr) (n c : Nat) (B : Option Addr) (m d : Nat) (C : Option Addr) (k f : Nat) (w : World) (hA : ids.length = n) (hB : hs.length = m) (hC : wt.length = k)
    (h1 : Rd w A (ids.map (.int .i64))) (h2 : Rd w B (sc hs)) (h3 : Rd w C (wt.map (.int .i64))) (l1 : n ≤ 1073741824) (l2 : m ≤ 1073741824) (l3 : k ≤ 1073741824) :
    Calls Tryd.prog 8 #[.agg #[.int .i64 mx, .slice A n c, .slice B m d, .slice C k f]] w (RetPool ⟨mx, ids, hs, wt⟩ w) := by
  have HC1 := Lib.hid (fun W hW => toInts_c ids A n c W hA hW l1)
  have HC2 := Lib.hid (fun W hW => toSets_c hs B m d W hB hW l2)
  have HC3 := Lib.hid (fun W hW => toInts_c wt C k f W hC hW l3)
  have HA := Lib.hid hA; have HB := Lib.hid hB; have HC := Lib.hid hC
  have H1 := Lib.hid h1; have H2 := Lib.hid h2; have H3 := Lib.hid h3
  have L0 := Lib.hid (Lay3.new w 25 30 30 #[.int .i64 mx, .slice A n c, .slice B m d, .slice C k f] #[.int .i64 0, .slice none 0 0, .slice none 0 0, .slice none 0 0] #[.int .i64 mx, .slice none 0 0, .slice none 0 0, .slice none 0 0])
  clear h1 h2 h3 hA hB hC
  go_enter Tryd.func8, Tryd.ntmps8
  go_wp2_with fail
  refine (HC1.out _ (H1.out.below L0.out.2.2.2.1)).mono ?_
  rintro e w1 ⟨A1, a1, rfl, r1, b1⟩
  have L1 := Lib.hid ((L0.out.call b1).set_ 1 (.slice A1 ids.length a1))
  have R1 := Lib.hid (((Row.of_own r1).mono (B' := w.heap.size + 3) (by simp <;> omega)).setFar (p := ⟨w.heap.size + 1 + 1, 1, none⟩) (by simp) (.slice A1 ids.length a1))
  have LL := L0.out.call b1
  obtain ⟨i0c, i1c, i2c, i3c, ifz⟩ := blk4 LL.1
  obtain ⟨o0c, o1c, o2c, o3c, ofz⟩ := blk4 LL.2.2.1
  have hs1 : w.heap.size + 3 ≤ w1.heap.size := LL.2.2.2.2
  clear LL b1 r1
  go_wp2_with fail
  refine (HC2.out _ (H2.out.below L1.out.2.2.2.1)).mono ?_
  rintro e w2 ⟨A2, a2, rfl, r2, b2⟩
  have L2 := Lib.hid ((L1.out.call b2).set_ 2 (.slice A2 hs.length a2))
  have R12 := Lib.hid ((R1.out.below b2).setFar (p := ⟨w.heap.size + 1 + 1, 2, none⟩) (by simp) (.slice A2 hs.length a2))
  have R2 := Lib.hid ((r2.mono (B' := w.heap.size + 3) (by simpa [World.setCell] using hs1)).setFar (p := ⟨w.heap.size + 1 + 1, 2, none⟩) (by simp) (.slice A2 hs.length a2))
  have LL := L1.out.call b2
  clear i0c i1c i2c i3c ifz o0c o1c o2c o3c ofz
  obtain ⟨i0c, i1c, i2c, i3c, ifz⟩ := blk4 LL.1
  obtain ⟨o0c, o1c, o2c, o3c, ofz⟩ := blk4 LL.2.2.1
  have hs2 : w.heap.size + 3 ≤ w2.heap.size := LL.2.2.2.2
  clear LL b2 r2 R1 hs1
  go_wp2_with fail
  refine (HC3.out _ (H3.out.below L2.out.2.2.2.1)).mono ?_
  rintro e w3 ⟨A3, a3, rfl, r3, b3⟩
  have L3 := Lib.hid (L2.out.call b3)
  have R13 := Lib.hid (R12.out.below b3)
  have R23 := Lib.hid (R2.out.below b3)
  have R3 := Lib.hid ((Row.of_own r3).mono (B' := w.heap.size + 3) (by simpa [World.setCell] using hs2))
  have LL := L2.out.call b3
  clear i0c i1c i2c i3c ifz o0c o1c o2c o3c ofz
  obtain ⟨o0c, o1c, o2c, o3c, ofz⟩ := blk4 LL.2.2.1
  obtain ⟨r0c, r1c, r2c, r3c, rfz⟩ := blk4 LL.2.1
  clear LL b3 r3 R12 R2 hs2
  go_wp2_with fail
  refine bodyPost_ret (v := .agg #[.int .i64 mx, .slice A1 ids.length a1, .slice A2 hs.length a2, .slice A3 wt.length a3]) (by simp [results, Tryd.results8, go_sem, r0c, r1c, r2c, r3c, rfz, o0c, o1c, o2c, o3c, ofz]) rfl ?_
  refine ⟨A1, a1, A2, a2, A3, a3, rfl, ?_, ?_, ?_, ?_⟩
  · refine Row.mono (B := w.heap.size + 3) ?_ (by omega)
    repeat (with_reducible refine Row.setFar ?_ (by simp <;> omega) _)
    exact R13.out
  · refine Row.mono (B := w.heap.size + 3) ?_ (by omega)
    repeat (with_reducible refine Row.setFar ?_ (by simp <;> omega) _)
    exact R23.out
  · refine Row.mono (B := w.heap.size + 3) ?_ (by omega)
    repeat (with_reducible refine Row.setFar ?_ (by simp <;> omega) _)
    exact R3.out
  · repeat (with_reducible refine Below.setCell ?_ (by simp <;> omega) _)
    exact L3.out.2.2.2.1
set_option maxHeartbeats 400000 in
theorem szI_c (A : Option Addr) (n c : Nat) (l : Int) (w : World) (hn : n ≤ 9223372036854775807) (h0 : 0 ≤ l) (h1 : l ≤ 1048576) :
    Calls Tryd.prog 12 #[.slice A n c, .int .i64 l] w fun e w' => e = .returned (.int .i64 (if l < (n : Int) then -1 else l - (n : Int))) ∧ w = w' := by
  by_cases h : l < (n : Int)
  · rw [if_pos h]
    have hd : decide (l - (n : Int) < 0) = true := decide_eq_true (by omega)
    go_enter Tryd.func12, Tryd.ntmps12
    go_wp2_with fail
    go_ret
    exact ⟨rfl, rfl⟩
  · rw [if_neg h]
    have hd : decide (l - (n : Int) < 0) = false := decide_eq_false (by omega)
    go_enter Tryd.func12, Tryd.ntmps12
    go_wp2_with fail
    go_ret
    exact ⟨rfl, rfl⟩
set_option maxRecDepth 100000 in
set_option maxHeartbeats 2000000 in
theorem szPool_c (mx : Int) (A : Option Addr) (n c : Nat) (B : Option Addr) (m d : Nat) (C : Option Addr) (k f : Nat) (w : World) (l1 : n ≤ 9223372036854775807) (l2 : m ≤ 9223372036854775807) (l3 : k ≤ 9223372036854775807) :
    Calls Tryd.prog 6 #[.agg #[.int .i64 mx, .slice A n c, .slice B m d, .slice C k f], .int .i64 1048576] w fun e w' => e = .returned (.int .i64 (if 1048576 < n + m + k then -1 else 1048576 - ((n + m + k : Nat) : Int))) ∧ Below w.heap.size w w' := by
  obtain ⟨r, hr⟩ : ∃ r : Int, r = (if 1048576 < n + m + k then -1 else 1048576 - ((n + m + k : Nat) : Int)) := ⟨_, rfl⟩
  rw [← hr]
  have HR := Lib.hid hr
  clear hr
  have HC1 := Lib.hid (fun W => szI_c A n c 1048576 W l1 (by omega) (by omega))
  have HC2 := Lib.hid (fun l h0 h1 W => szS_c B m d l W l2 h0 h1)
  have HC3 := Lib.hid (fun l h0 h1 W => szI_c C k f l W l3 h0 h1)
  have BW := Lib.hid (fun cs t => ((Below.refl _ _).alloc (Nat.le_refl _) _ : Below w.heap.size w (w.alloc (.cells cs t))))
  by_cases q1 : (1048576 : Int) < (n : Int)
  · rw [if_pos q1] at HC1
    have HV : Hid (r = -1) := HR.out.trans (if_pos (by omega))
    go_enter Tryd.func6, Tryd.ntmps6
    go_wp2_with fail
    refine (HC1.out _).mono ?_
    rintro e w1 ⟨rfl, rfl⟩
    go_wp2_with fail
    go_ret
    rw [HV.out]
    exact ⟨rfl, BW.out _ _⟩
  · rw [if_neg q1] at HC1
    obtain ⟨x, hx⟩ : ∃ x, x = 1048576 - (n : Int) := ⟨_, rfl⟩
    have x0 : 0 ≤ x := by omega
    have x1 : x ≤ 1048576 := by omega
    have x2 : decide (x < 0) = false := decide_eq_false (by omega)
    rw [← hx] at HC1
    have HCX := HC2.out x x0 x1
    by_cases q2 : x < (m : Int)
    · rw [if_pos q2] at HCX
      have HC2' := Lib.hid HCX
      have HV : Hid (r = -1) := HR.out.trans (if_pos (by omega))
      clear hx HCX q1
      go_enter Tryd.func6, Tryd.ntmps6
      go_wp2_with fail
      refine (HC1.out _).mono ?_
      rintro e w1 ⟨rfl, rfl⟩
      go_wp2_with fail
      refine (HC2'.out _).mono ?_
      rintro e w1 ⟨rfl, rfl⟩
      go_wp2_with fail
      go_ret
      rw [HV.out]
      exact ⟨rfl, BW.out _ _⟩
    · rw [if_neg q2] at HCX
      obtain ⟨y, hy⟩ : ∃ y, y = x - (m : Int) := ⟨_, rfl⟩
      have y0 : 0 ≤ y := by omega
      have y1 : y ≤ 1048576 := by omega
      have y2 : decide (y < 0) = false := decide_eq_false (by omega)
      rw [← hy] at HCX
      have HC2' := Lib.hid HCX
      have HCY := HC3.out y y0 y1
      by_cases q3 : y < (k : Int)
      · rw [if_pos q3] at HCY
        have HC3' := Lib.hid HCY
        have HV : Hid (r = -1) := HR.out.trans (if_pos (by omega))
        clear hx hy HCX HCY q1 q2
        go_enter Tryd.func6, Tryd.ntmps6
        go_wp2_with fail
        refine (HC1.out _).mono ?_
        rintro e w1 ⟨rfl, rfl⟩
        go_wp2_with fail
        refine (HC2'.out _).mono ?_
        rintro e w1 ⟨rfl, rfl⟩
        go_wp2_with fail
        refine (HC3'.out _).mono ?_
        rintro e w1 ⟨rfl, rfl⟩
        go_wp2_with fail
        go_ret
        rw [HV.out]
        exact ⟨rfl, BW.out _ _⟩
      · rw [if_neg q3] at HCY
        obtain ⟨z, hz⟩ : ∃ z, z = y - (k : Int) := ⟨_, rfl⟩
        have z2 : decide (z < 0) = false := decide_eq_false (by omega)
        rw [← hz] at HCY
        have HC3' := Lib.hid HCY
        have HV : Hid (r = z) := HR.out.trans ((if_neg (by omega)).trans (by omega))
        clear hx hy hz HCX HCY q1 q2 q3
        go_enter Tryd.func6, Tryd.ntmps6
        go_wp2_with fail
        refine (HC1.out _).mono ?_
        rintro e w1 ⟨rfl, rfl⟩
        go_wp2_with fail
        refine (HC2'.out _).mono ?_
        rintro e w1 ⟨rfl, rfl⟩
        go_wp2_with fail
        refine (HC3'.out _).mono ?_
        rintro e w1 ⟨rfl, rfl⟩
        go_wp2_with fail
        go_ret
        rw [HV.out]
        exact ⟨rfl, BW.out _ _⟩
/-- Two blocks of structs laid one behind the other. -/
def Lay2 (w0 : World) (t1 t2 : TypeId) (x y : Array Value) (W : World) : Prop :=
  Blk W w0.heap.size t1 x ∧ Blk W (w0.heap.size + 1) t2 y ∧ Below w0.heap.size w0 W ∧ w0.heap.size + 2 ≤ W.heap.size
theorem Lay2.new (w : World) (t1 t2 : TypeId) (x y : Array Value) : Lay2 w t1 t2 x y ((w.alloc (.cells x t1)).alloc (.cells y t2)) := by
  refine ⟨(Blk.new _ _ _).alloc _, ?_, ((Below.refl _ _).alloc (Nat.le_refl _) _).alloc (by simp) _, by simp⟩
  have := Blk.new (w.alloc (.cells x t1)) t2 y
  simpa using this
theorem Lay2.call {w0 W W' : World} {t1 t2 : TypeId} {x y : Array Value} (h : Lay2 w0 t1 t2 x y W) (b : Below W.heap.size W W') : Lay2 w0 t1 t2 x y W' := by
  obtain ⟨a1, a2, a4, a5⟩ := h
  exact ⟨a1.below b a1.lt, a2.below b a2.lt, a4.trans (b.mono a4.size), Nat.le_trans a5 b.size⟩
set_option maxRecDepth 100000 in
set_option maxHeartbeats 2000000 in
theorem eqPool_c (mx : Int) (ids : List Int) (hs : List Pr) (wt : List Int) (A : Option Addr) (n c : Nat) (B : Option Addr) (m d : Nat) (C : Option Addr) (k f : Nat) (A' : Option Addr) (c' : Nat) (B' : Option Addr) (d' : Nat) (C' : Option Addr) (f' : Nat) (w : World) (hA : ids.length = n) (hB : hs.length = m) (hC : wt.length = k)
    (h1 : Rd w A (ids.map (.int .i64))) (h2 : Rd w B (sc hs)) (h3 : Rd w C (wt.map (.int .i64))) (h1' : Rd w A' (ids.map (.int .i64))) (h2' : Rd w B' (sc hs)) (h3' : Rd w C' (wt.map (.int .i64))) (l1 : n ≤ 1073741824) (l2 : m ≤ 1073741824) (l3 : k ≤ 1073741824) :
    Calls Tryd.prog 10 #[.agg #[.int .i64 mx, .slice A n c, .slice B m d, .slice C k f], .agg #[.int .i64 mx, .slice A' n c', .slice B' m d', .slice C' k f']] w fun e w' => e = .returned (.bool true) ∧ Below w.heap.size w w' := by
  have HC1 := Lib.hid (fun W hW hW' => eqInts_c ids ids A A' n n c c' W hA hA hW hW' (by omega) (by omega))
  have HC2 := Lib.hid (fun W hW hW' => eqSets_c hs B B' m d d' W hB hW hW' l2)
  have HC3 := Lib.hid (fun W hW hW' => eqInts_c wt wt C C' k k f f' W hC hC hW hW' (by omega) (by omega))
  rw [decide_eq_true rfl] at HC1 HC3
  have H1 := Lib.hid h1; have H2 := Lib.hid h2; have H3 := Lib.hid h3; have H1' := Lib.hid h1'; have H2' := Lib.hid h2'; have H3' := Lib.hid h3'
  have L0 := Lib.hid (Lay2.new w 30 30 #[.int .i64 mx, .slice A n c, .slice B m d, .slice C k f] #[.int .i64 mx, .slice A' n c', .slice B' m d', .slice C' k f'])
  clear h1 h2 h3 h1' h2' h3' hA hB hC
  go_enter Tryd.func10, Tryd.ntmps10
  go_wp2_with fail
  refine (HC1.out _ (H1.out.below L0.out.2.2.1) (H1'.out.below L0.out.2.2.1)).mono ?_
  rintro e w1 ⟨rfl, q1, hq1⟩
  have L1 : Hid (Lay2 w 30 30 #[.int .i64 mx, .slice A n c, .slice B m d, .slice C k f] #[.int .i64 mx, .slice A' n c', .slice B' m d', .slice C' k f'] w1) := by rw [hq1]; exact L0.out.call (below_of_drewN _ _ _)
  have LL := L1.out
  obtain ⟨i0c, i1c, i2c, i3c, ifz⟩ := blk4 LL.1
  obtain ⟨o0c, o1c, o2c, o3c, ofz⟩ := blk4 LL.2.1
  clear LL hq1
  go_wp2_with fail
  refine (HC2.out _ (H2.out.below L1.out.2.2.1) (H2'.out.below L1.out.2.2.1)).mono ?_
  rintro e w2 ⟨rfl, b2⟩
  have L2 := Lib.hid (L1.out.call b2)
  have LL := L2.out
  clear i0c i1c i2c i3c ifz o0c o1c o2c o3c ofz
  obtain ⟨i0c, i1c, i2c, i3c, ifz⟩ := blk4 LL.1
  obtain ⟨o0c, o1c, o2c, o3c, ofz⟩ := blk4 LL.2.1
  clear LL b2
  go_wp2_with fail
  refine (HC3.out _ (H3.out.below L2.out.2.2.1) (H3'.out.below L2.out.2.2.1)).mono ?_
  rintro e w3 ⟨rfl, q3, hq3⟩
  have L3 : Hid (Lay2 w 30 30 #[.int .i64 mx, .slice A n c, .slice B m d, .slice C k f] #[.int .i64 mx, .slice A' n c', .slice B' m d', .slice C' k f'] w3) := by rw [hq3]; exact L2.out.call (below_of_drewN _ _ _)
  clear i0c i1c i2c i3c ifz o0c o1c o2c o3c ofz hq3
  go_wp2_with fail
  go_ret
  exact ⟨rfl, L3.out.2.2.1⟩
end Go.Proofs.YtnmgnhpagnjhlaaDoor
