/- Pools are marked and looked at again. -/
import Derived.Test.YtnmgnhpagnjhlaaGreatDoorMarkH
import Derived.Test.YtnmgnhpagnjhlaaGreatDoorMark
import Derived.Test.YtnmgnhpagnjhlaaGreatDoorAcq
import Derived.Test.YtnmgnhpagnjhlaaGreatDoorPoolLaw
set_option linter.unusedVariables false
set_option linter.unusedSimpArgs false
set_option linter.unnecessarySimpa false
namespace Go.Proofs.YtnmgnhpagnjhlaaGreatDoor
open Go.RowKit

/-- Rows that hold running numbers. -/
def MRow (w : World) (base : Nat) (n1 n2 n3 : Nat) (A : Option Addr) (a : Nat) (B : Option Addr) (b : Nat) (C : Option Addr) (c : Nat) : Prop :=
  Row w base 3 1 A n1 a ((runFrom 1 n1).map (.int .i64)) ∧ Row w base 48 2 B n2 b (sc (mkP (1 + n1) n2)) ∧ Row w base 3 1 C n3 c ((runFrom (1 + n1 + 2 * n2) n3).map (.int .i64))
theorem MRow.below {w w' : World} {base n1 n2 n3 : Nat} {A B C : Option Addr} {a b c : Nat} (h : MRow w base n1 n2 n3 A a B b C c) (hb : Below w.heap.size w w') : MRow w' base n1 n2 n3 A a B b C c := ⟨h.1.below hb, h.2.1.below hb, h.2.2.below hb⟩
theorem MRow.alloc {w : World} {base n1 n2 n3 : Nat} {A B C : Option Addr} {a b c : Nat} (h : MRow w base n1 n2 n3 A a B b C c) (o : Obj) : MRow (w.alloc o) base n1 n2 n3 A a B b C c := ⟨h.1.alloc o, h.2.1.alloc o, h.2.2.alloc o⟩
set_option maxRecDepth 100000 in
set_option maxHeartbeats 4000000 in
theorem markPool_c (P : Pl) (x0 : Int) (n1 n2 n3 : Nat) (hn1 : P.ids.length = n1) (hn2 : P.hs.length = n2) (hn3 : P.wt.length = n3) (A : Option Addr) (a : Nat) (B : Option Addr) (b : Nat) (C : Option Addr) (c : Nat) (base : Nat) (w : World) (pr : PRow w base P A a B b C c) (l1 : n1 ≤ 1000000) (l2 : n2 ≤ 1000000) (l3 : n3 ≤ 1000000) :
    Calls Tryz.prog 18 #[.agg #[.int .i64 x0, .slice A n1 a, .slice B n2 b, .slice C n3 c], .int .i64 1] w fun e w' => e = .returned (.int .i64 (1 + n1 + 2 * n2 + n3 : Nat)) ∧ MRow w' base n1 n2 n3 A a B b C c ∧
      (∀ (g : Nat) (t : TypeId) (cs : Array Value), Blk w g t cs → Off g A a B b C c → Blk w' g t cs) ∧ (∀ k, k ≤ base → k ≤ w.heap.size → Below k w w') := by
  obtain ⟨w1, hw1⟩ : ∃ w1, w1 = w.alloc (.cells #[.int .i64 x0, .slice A n1 a, .slice B n2 b, .slice C n3 c] 26) := ⟨_, rfl⟩
  have hg : w1.heap.size = w.heap.size + 1 := by rw [hw1]; simp
  have BX := Lib.hid (show Blk w1 w.heap.size 26 #[.int .i64 x0, .slice A n1 a, .slice B n2 b, .slice C n3 c] by rw [hw1]; exact Blk.new w _ _)
  have PR := Lib.hid (show PRow w1 base P A a B b C c by rw [hw1]; exact pr.alloc _)
  have OFX := Lib.hid (pr.off (Nat.le_refl w.heap.size))
  have KB := Lib.hid (fun (g : Nat) (t : TypeId) (cs : Array Value) (h : Blk w g t cs) => (show Blk w1 g t cs by rw [hw1]; exact h.alloc _))
  have FR := Lib.hid (fun k (h : k ≤ w.heap.size) => (show Below k w w1 by rw [hw1]; exact (Below.refl _ _).alloc h _))
  have HN1 := Lib.hid hn1; have HN2 := Lib.hid hn2; have HN3 := Lib.hid hn3
  obtain ⟨k0, k1, k2, k3, _⟩ := blk4 BX.out
  clear pr hn1 hn2 hn3
  go_enter Tryz.func18, Tryz.ntmps18
  go_wp2_with fail
  rw [← hw1]
  clear hw1
  refine (markR_c base P.ids 1 A _ a w1 HN1.out (by rw [← HN1.out]; exact PR.out.1) (by omega) (by omega)).mono ?_
  rintro e w2 ⟨rfl, r1, g1⟩
  have BX2 := Lib.hid (BX.out.grown g1 (fun e => OFX.out.1 e.symm))
  have R1 := Lib.hid r1
  have RB := Lib.hid (PR.out.2.1.kept g1 PR.out.2.2.2.1.2)
  have RC := Lib.hid (PR.out.2.2.1.kept g1 PR.out.2.2.2.2.1.2)
  have G1 := Lib.hid g1
  have hs2 : w1.heap.size ≤ w2.heap.size := g1.size
  clear k0 k1 k2 k3 r1 g1
  obtain ⟨k0, k1, k2, k3, _⟩ := blk4 BX2.out
  go_wp2_with fail
  refine (markS_c base P.hs (1 + n1) B _ b w2 HN2.out (by rw [← HN2.out]; exact RB.out) (by omega) (by omega)).mono ?_
  rintro e w3 ⟨rfl, r2, g2⟩
  have BX3 := Lib.hid (BX2.out.grown g2 (fun e => OFX.out.2.1 e.symm))
  have R12 := Lib.hid (R1.out.kept g2 PR.out.2.2.2.1.1)
  have R2 := Lib.hid r2
  have RC3 := Lib.hid (RC.out.kept g2 PR.out.2.2.2.2.2.2)
  have G2 := Lib.hid g2
  have hs3 : w2.heap.size ≤ w3.heap.size := g2.size
  clear k0 k1 k2 k3 r2 g2
  obtain ⟨k0, k1, k2, k3, _⟩ := blk4 BX3.out
  go_wp2_with fail
  refine (markR_c base P.wt (1 + n1 + 2 * n2) C _ c w3 HN3.out (by rw [← HN3.out]; exact RC3.out) (by omega) (by omega)).mono ?_
  rintro e w4 ⟨rfl, r3, g3⟩
  have G3 := Lib.hid g3
  have M := Lib.hid (show MRow w4 base n1 n2 n3 A a B b C c from ⟨R12.out.kept g3 PR.out.2.2.2.2.1.1, R2.out.kept g3 PR.out.2.2.2.2.2.1, r3⟩)
  clear k0 k1 k2 k3 r3 g3
  go_wp2_with fail
  go_ret
  refine ⟨rfl, M.out, fun g t cs h ho => (((KB.out g t cs h).grown G1.out (fun e => ho.1 e.symm)).grown G2.out (fun e => ho.2.1 e.symm)).grown G3.out (fun e => ho.2.2 e.symm), fun k hk hk2 => ?_⟩
  have h1 := (FR.out k hk2).grown G1.out (by omega) (fun y hy => by have := (PR.out.1.lt y hy).1; omega)
  have h2 := h1.grown G2.out (by omega) (fun y hy => by have := (PR.out.2.1.lt y hy).1; omega)
  exact h2.grown G3.out (by omega) (fun y hy => by have := (PR.out.2.2.1.lt y hy).1; omega)
set_option maxRecDepth 100000 in
set_option maxHeartbeats 4000000 in
theorem heldPool_c (x0 : Int) (n1 n2 n3 : Nat) (A : Option Addr) (a : Nat) (B : Option Addr) (b : Nat) (C : Option Addr) (c : Nat) (base : Nat) (w : World) (m : MRow w base n1 n2 n3 A a B b C c) (l1 : n1 ≤ 1000000) (l2 : n2 ≤ 1000000) (l3 : n3 ≤ 1000000) :
    Calls Tryz.prog 19 #[.agg #[.int .i64 x0, .slice A n1 a, .slice B n2 b, .slice C n3 c], .int .i64 1] w fun e w' => e = .returned (.int .i64 (1 + n1 + 2 * n2 + n3 : Nat)) ∧ Below w.heap.size w w' := by
  obtain ⟨w1, hw1⟩ : ∃ w1, w1 = w.alloc (.cells #[.int .i64 x0, .slice A n1 a, .slice B n2 b, .slice C n3 c] 26) := ⟨_, rfl⟩
  have BX := Lib.hid (show Blk w1 w.heap.size 26 #[.int .i64 x0, .slice A n1 a, .slice B n2 b, .slice C n3 c] by rw [hw1]; exact Blk.new w _ _)
  have M := Lib.hid (show MRow w1 base n1 n2 n3 A a B b C c by rw [hw1]; exact m.alloc _)
  have FR := Lib.hid (show Below w.heap.size w w1 by rw [hw1]; exact (Below.refl _ _).alloc (Nat.le_refl _) _)
  obtain ⟨k0, k1, k2, k3, _⟩ := blk4 BX.out
  obtain ⟨q1, hq1⟩ : ∃ q1, q1 = 1 + n1 := ⟨_, rfl⟩
  obtain ⟨q2, hq2⟩ : ∃ q2, q2 = 1 + n1 + 2 * n2 := ⟨_, rfl⟩
  obtain ⟨q3, hq3⟩ : ∃ q3, q3 = 1 + n1 + 2 * n2 + n3 := ⟨_, rfl⟩
  have HQ3 := Lib.hid hq3
  have d1 : decide ((q1 : Int) < 0) = false := decide_eq_false (by omega)
  have d2 : decide ((q2 : Int) < 0) = false := decide_eq_false (by omega)
  have d3 : decide ((q3 : Int) < 0) = false := decide_eq_false (by omega)
  have C1 := Lib.hid (fun W hW => (show Calls Tryz.prog 52 #[.slice A n1 a, .int .i64 1] W (fun e w' => e = .returned (.int .i64 q1) ∧ Below W.heap.size W w') from (heldInts_c 1 A n1 a W hW (by omega) (by omega)).mono (fun e w' h => by rw [hq1]; first | exact ⟨h.1, by rw [← h.2]; exact Below.refl _ _⟩ | exact ⟨h.1, h.2⟩ | (obtain ⟨h1, n, h2⟩ := h; exact ⟨h1, by rw [h2]; exact below_of_drewN _ _ _⟩))))
  have C2 := Lib.hid (fun W hW => (show Calls Tryz.prog 53 #[.slice B n2 b, .int .i64 q1] W (fun e w' => e = .returned (.int .i64 q2) ∧ W = w') from by rw [hq1, hq2]; exact heldS_c (1 + n1) B n2 b W hW (by omega) (by omega)))
  have C3 := Lib.hid (fun W hW => (show Calls Tryz.prog 52 #[.slice C n3 c, .int .i64 q2] W (fun e w' => e = .returned (.int .i64 q3) ∧ Below W.heap.size W w') from by rw [hq2]; exact (heldInts_c (1 + n1 + 2 * n2) C n3 c W hW (by omega) (by omega)).mono (fun e w' h => by rw [hq3]; first | exact ⟨h.1, by rw [← h.2]; exact Below.refl _ _⟩ | exact ⟨h.1, h.2⟩ | (obtain ⟨h1, n, h2⟩ := h; exact ⟨h1, by rw [h2]; exact below_of_drewN _ _ _⟩))))
  have hgx : w.heap.size < w1.heap.size := BX.out.lt
  clear m hq1 hq2 hq3
  rw [← HQ3.out]
  clear HQ3
  go_enter Tryz.func19, Tryz.ntmps19
  go_wp2_with fail
  rw [← hw1]
  clear hw1
  refine (C1.out _ M.out.1.rd).mono ?_
  rintro e w2 ⟨rfl, b2⟩
  have M2 := Lib.hid (M.out.below b2); have FR2 := Lib.hid (FR.out.trans (b2.mono FR.out.size)); have BX2 := Lib.hid (BX.out.below b2 hgx)
  clear b2 k0 k1 k2 k3
  obtain ⟨k0, k1, k2, k3, _⟩ := blk4 BX2.out
  go_wp2_with fail
  refine (C2.out _ M2.out.2.1.rd).mono ?_
  rintro e w3 ⟨rfl, rfl⟩
  go_wp2_with fail
  refine (C3.out _ M2.out.2.2.rd).mono ?_
  rintro e w4 ⟨rfl, b4⟩
  go_wp2_with fail
  go_ret
  exact ⟨rfl, FR2.out.trans (b4.mono FR2.out.size)⟩
set_option maxRecDepth 100000 in
set_option maxHeartbeats 2000000 in
theorem equalPool_c (mx : Int) (ids : List Int) (hs : List Pr) (wt : List Int) (A : Option Addr) (n c : Nat) (B : Option Addr) (m d : Nat) (C : Option Addr) (k f : Nat) (A' : Option Addr) (c' : Nat) (B' : Option Addr) (d' : Nat) (C' : Option Addr) (f' : Nat) (w : World) (hA : ids.length = n) (hB : hs.length = m) (hC : wt.length = k)
    (h1 : Rd w A (ids.map (.int .i64))) (h2 : Rd w B (sc hs)) (h3 : Rd w C (wt.map (.int .i64))) (h1' : Rd w A' (ids.map (.int .i64))) (h2' : Rd w B' (sc hs)) (h3' : Rd w C' (wt.map (.int .i64))) (l1 : n ≤ 1073741824) (l2 : m ≤ 1073741824) (l3 : k ≤ 1073741824) :
    Calls Tryz.prog 15 #[.agg #[.int .i64 mx, .slice A n c, .slice B m d, .slice C k f], .agg #[.int .i64 mx, .slice A' n c', .slice B' m d', .slice C' k f']] w fun e w' => e = .returned (.bool true) ∧ Below w.heap.size w w' := by
  have HC1 := Lib.hid (fun W hW hW' => equalInts_c ids ids A A' n n c c' W hA hA hW hW' (by omega) (by omega))
  have HC2 := Lib.hid (fun W hW hW' => equalSets_c hs B B' m d d' W hB hW hW' l2)
  have HC3 := Lib.hid (fun W hW hW' => equalInts_c wt wt C C' k k f f' W hC hC hW hW' (by omega) (by omega))
  rw [decide_eq_true rfl] at HC1 HC3
  have H1 := Lib.hid h1; have H2 := Lib.hid h2; have H3 := Lib.hid h3; have H1' := Lib.hid h1'; have H2' := Lib.hid h2'; have H3' := Lib.hid h3'
  have L0 := Lib.hid (Lay2.new w 26 26 #[.int .i64 mx, .slice A n c, .slice B m d, .slice C k f] #[.int .i64 mx, .slice A' n c', .slice B' m d', .slice C' k f'])
  clear h1 h2 h3 h1' h2' h3' hA hB hC
  go_enter Tryz.func15, Tryz.ntmps15
  go_wp2_with fail
  refine (HC1.out _ (H1.out.below L0.out.2.2.1) (H1'.out.below L0.out.2.2.1)).mono ?_
  rintro e w1 ⟨rfl, q1, hq1⟩
  have L1 : Hid (Lay2 w 26 26 #[.int .i64 mx, .slice A n c, .slice B m d, .slice C k f] #[.int .i64 mx, .slice A' n c', .slice B' m d', .slice C' k f'] w1) := by rw [hq1]; exact L0.out.call (below_of_drewN _ _ _)
  have LL := L1.out
  obtain ⟨i0c, i1c, i2c, i3c, ifz⟩ := blk4 LL.1
  obtain ⟨o0c, o1c, o2c, o3c, ofz⟩ := blk4 LL.2.1
  clear LL hq1
  go_wp2_with fail
  refine (HC2.out _ (H2.out.below L1.out.2.2.1) (H2'.out.below L1.out.2.2.1)).mono ?_
  rintro e w2 ⟨rfl, b2⟩
  have L2 := Lib.hid (L1.out.call b2)
  have LL := L2.out
  clear i0c i1c i2c i3c ifz o0c o1c o2c o3c ofz
  obtain ⟨i0c, i1c, i2c, i3c, ifz⟩ := blk4 LL.1
  obtain ⟨o0c, o1c, o2c, o3c, ofz⟩ := blk4 LL.2.1
  clear LL b2
  go_wp2_with fail
  refine (HC3.out _ (H3.out.below L2.out.2.2.1) (H3'.out.below L2.out.2.2.1)).mono ?_
  rintro e w3 ⟨rfl, q3, hq3⟩
  have L3 : Hid (Lay2 w 26 26 #[.int .i64 mx, .slice A n c, .slice B m d, .slice C k f] #[.int .i64 mx, .slice A' n c', .slice B' m d', .slice C' k f'] w3) := by rw [hq3]; exact L2.out.call (below_of_drewN _ _ _)
  clear i0c i1c i2c i3c ifz o0c o1c o2c o3c ofz hq3
  go_wp2_with fail
  go_ret
  exact ⟨rfl, L3.out.2.2.1⟩
end Go.Proofs.YtnmgnhpagnjhlaaGreatDoor
