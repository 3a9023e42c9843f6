/- What the laws on nests draw. -/
import Derived.Test.YtagmhmhhjkfhgaaNestRun
set_option linter.unusedVariables false
set_option linter.unusedSimpArgs false
set_option linter.unnecessarySimpa false
namespace Go.Proofs.Ytagmhmhhjkfhgaa
open Go.RowKit

/-- What someKinds answers: a new list of at most 18 numbers. -/
def RetKinds (B g p : Nat) (w : World) (e : Ending) (w' : World) : Prop :=
  ∃ (A : Option Addr) (c : Nat) (zs : List Int) (q : Nat), e = .returned (.slice A zs.length c) ∧ zs.length ≤ 18 ∧ zs.length ≤ c ∧ Frd w' w.heap.size A (zs.map (.int .i64)) ∧ Rdr w' B g q ∧ q ≤ p + 50 ∧ w.grownBy w' (some g)
set_option maxRecDepth 100000 in
set_option maxHeartbeats 2000000 in
theorem someKinds_c (B g p : Nat) (w : World) (hr : Rdr w B g p) (hp : p ≤ 900000) :
    Calls Try.prog 41 #[.pointer (some ⟨g, 0, none⟩)] w (RetKinds B g p w) := by
  obtain ⟨i0, i0_i, i0_z0, i0_z1, i0_z2⟩ := info_parts intInfo
  have hgB := hr.1
  have hBw := hr.2.1
  go_enter Try.func41, Try.ntmps41
  go_wp2_with fail
  refine (one_c B g p [6, 8, 12, 16, 3, 0, 17] _ _ _ _ ((hr.alloc _).alloc _) (by omega) rfl (by simp) (by simp) (Rd.lit (Value.int .i64) [6, 8, 12, 16, 3, 0, 17] rfl (by simp) rfl) (fun b off e => by
    injection e with e; injection e with e; omega)).mono ?_
  rintro e w2 ⟨v, hv, rfl, hr2, hg2⟩
  have hv17 : 0 ≤ v ∧ v ≤ 17 := by simp at hv; omega
  obtain ⟨d, rfl⟩ := Int.eq_ofNat_of_zero_le hv17.1
  have hd : d ≤ 17 := by omega
  clear hv hv17
  have g2 : w.grownBy w2 (some g) := only_trans (only_alloc (only_alloc (World.grownBy.refl w (some g)) _) _) hg2
  have own2 : w2.ownsRow w.heap.size 3 1 (.slice (some ⟨w.heap.size, 0, none⟩) 0 0) 0 [] :=
    ((World.ownsRow_lit w #[] 0 (Nat.le_refl _) (by simp [maxLen]) rfl).alloc _).kept hg2 (.inr (by simp [Value.ownBlock]; omega))
  clear hr hg2
  go_wp2_with fail
  go_loopw [3, 4] (fun v i wr => ∃ (k : Nat) (A : Option Addr) (c q : Nat) (ys : List Int), k + ys.length ≤ 17 ∧ i = .int .i64 k ∧ v = .slice A ys.length c ∧ wr.ownsRow w.heap.size 3 1 (.slice A ys.length c) ys.length (ys.map (.int .i64)) ∧ Rdr wr B g q ∧ q + k ≤ p + 20 ∧ w.grownBy wr (some g)) (fun _ i _ => (intOf i).toNat)
  case atStart => exact ⟨d, _, _, _, [], by simpa using hd, rfl, rfl, own2, hr2, by omega, g2⟩
  case round =>
    clear own2 hr2 g2
    obtain ⟨k, A2, c2, q, ys, hk, rfl, rfl, own, hr, hq, hg⟩ := hrel
    have hsg := hg.size
    rcases Nat.eq_zero_or_pos k with h0 | h0
    · subst h0
      go_wp2_with fail
      refine (spoil_c _ _ _ ys _ _ _ 5 wr hr (by omega) rfl (Rd.of_own own) (by omega)).mono ?_
      rintro e w5 ⟨A5, c5, zs5, q5, rfl, h1, h2, h3, h4, h5, h6⟩
      have g5 := only_trans hg h6
      have h3' := h3.mono hsg
      clear own hr hg h6 h3
      go_wp2_with fail
      go_ret
      exact ⟨A5, c5, zs5, q5, rfl, by omega, h2, h3', h4, by omega, g5⟩
    · go_wp2_with fail
      refine (one_c _ _ _ [0, 1, 1, 3, 4, 0, 1, 2] _ _ _ _ (hr.alloc _) (by omega) rfl (by simp) (by simp) (Rd.lit (Value.int .i64) [0, 1, 1, 3, 4, 0, 1, 2] rfl (by simp) rfl) (fun b off e => by
        injection e with e; injection e with e; omega)).mono ?_
      rintro e w4 ⟨x, hx, rfl, hr4, hg4⟩
      have own4 := own_keep (own.alloc _) hg4 (by omega)
      have g4 := only_trans (only_alloc hg _) hg4
      have hs4 := g4.size
      clear own hr hg hg4 hx
      go_wp2_with (at_builtin; (refine wpList_append_any _ rfl (.tmp 13) (.tmp 17) 23 rfl w.heap.size 3 i0 (.int .i64 0) 8 Try.underlying23 i0_i i0_z0 i0_z1 i0_z2 rfl (.slice A2 ys.length c2) (ys.length) (ys.map (.int .i64)) rfl (own4.alloc _) (some ⟨w4.heap.size, 0, none⟩) (1) (1) ([.int .i64 x]) rfl rfl (Rd.one (cell_new _ _ _ 0)) (one1 _ rfl) (by unfold maxLen; omega) (by omega) (by simp <;> omega) ?_))
      intro A3 c3 w5 own5 hg5 _
      have hlt4 := own4.lt
      have hr5 := (hr4.alloc _).grown hg5 (fun y hy => by have := (hlt4 y hy).1; omega)
      have g5 : w.grownBy w5 (some g) := only_then (only_alloc g4 _) hg5 (fun y hy => .inr (hlt4 y hy).1)
      clear own4 hg5 hr4 g4 hlt4
      go_wp2
      go_roundw
      case rel => exact ⟨k - 1, A3, c3, q + 1, ys ++ [x], by simp; omega, by go_num, by simp, by simpa using own5, hr5, by omega, g5⟩
      case measure => simp [intOf]; omega
theorem only_set4 {a w : World} {r : Nat} (h : a.grownBy w (some r)) {g : Nat} (hg : a.heap.size ≤ g) (x y z v : Value) : a.grownBy ((((w.setCell ⟨g, 0, none⟩ x).setCell ⟨g, 1, none⟩ y).setCell ⟨g, 2, none⟩ z).setCell ⟨g, 3, none⟩ v) (some r) :=
  only_setCell (only_setCell (only_setCell (only_setCell h (.inr hg) _) (.inr hg) _) (.inr hg) _) (.inr hg) _
theorem Rdr.set1 {w : World} {B r p g j : Nat} (h : Rdr w B r p) (hg : B ≤ g) (x : Value) : Rdr (w.setCell ⟨g, j, none⟩ x) B r p :=
  h.grown (row := some g) (only_setCell (World.grownBy.refl _ _) (.inl rfl) _) (fun k hk => by injection hk; omega)
theorem Frd.set1 {w : World} {B g j : Nat} {A : Option Addr} {xs : List Value} (h : Frd w B A xs) (hg : g < B) (a : Value) : Frd (w.setCell ⟨g, j, none⟩ a) B A xs :=
  h.grown (row := some g) (only_setCell (World.grownBy.refl _ _) (.inl rfl) _) (fun k hk => by injection hk; omega)
theorem Frd.set4 {w : World} {B g : Nat} {A : Option Addr} {xs : List Value} (h : Frd w B A xs) (hg : g < B) (a b c d : Value) : Frd ((((w.setCell ⟨g, 0, none⟩ a).setCell ⟨g, 1, none⟩ b).setCell ⟨g, 2, none⟩ c).setCell ⟨g, 3, none⟩ d) B A xs :=
  Frd.set1 (Frd.set1 (Frd.set1 (Frd.set1 h hg a) hg b) hg c) hg d
theorem Rdr.set4 {w : World} {B r p g : Nat} (h : Rdr w B r p) (hg : B ≤ g) (x y z v : Value) : Rdr ((((w.setCell ⟨g, 0, none⟩ x).setCell ⟨g, 1, none⟩ y).setCell ⟨g, 2, none⟩ z).setCell ⟨g, 3, none⟩ v) B r p :=
  Rdr.set1 (Rdr.set1 (Rdr.set1 (Rdr.set1 h hg x) hg y) hg z) hg v
/-- What anyNest answers: a state in new memory. -/
def RetAny (B g p : Nat) (w : World) (e : Ending) (w' : World) : Prop :=
  ∃ (d k : Int) (ms : List Int) (b : Bool) (A : Option Addr) (c q : Nat), e = .returned (.agg #[.int .i64 d, .int .i64 k, .slice A ms.length c, .bool b]) ∧ ms.length ≤ 10 ∧ ms.length ≤ c ∧ Frd w' w.heap.size A (ms.map (.int .i64)) ∧ Rdr w' B g q ∧ q ≤ p + 100 ∧ w.grownBy w' (some g)
set_option maxRecDepth 100000 in
set_option maxHeartbeats 8000000 in
theorem anyNest_c (B g p : Nat) (w : World) (hr : Rdr w B g p) (hp : p ≤ 800000) :
    Calls Try.prog 31 #[.pointer (some ⟨g, 0, none⟩)] w (RetAny B g p w) := by
  obtain ⟨i0, i0_i, i0_z0, i0_z1, i0_z2⟩ := info_parts intInfo
  have hgB := hr.1
  have hBw := hr.2.1
  go_enter Try.func31, Try.ntmps31
  go_wp2_with fail
  refine (someKinds_c B g p _ (hr.alloc _) (by omega)).mono ?_
  rintro e w1 ⟨A1, c1, ks, q1, rfl, hl1, hc1, f1, hr1, hq1, g1⟩
  have g1' : w.grownBy w1 (some g) := only_trans (only_alloc (World.grownBy.refl w (some g)) _) g1
  have br1 : Blk w1 w.heap.size 25 #[.int .i64 0, .int .i64 0, .slice none 0 0, .bool false] := (Blk.new _ _ _).grown g1 (fun e => by injection e; omega)
  have hs1 : w.heap.size + 1 ≤ w1.heap.size := by have := g1.size; simp at this; omega
  clear hr g1
  go_wp2_with fail
  refine (sRunNest_c ks A1 _ c1 w1 rfl hc1 f1.rd (by omega)).mono ?_
  rintro e w2 ⟨A2, c2, rfl, row2, b2⟩
  have hbd : (runV ks).marks.length ≤ 4 := by
    unfold runV; split
    · have := runS_ok ks; rw [St.ok_iff] at this; exact this.1
    · simp [St.zero]
  obtain ⟨s, hs⟩ : ∃ s, s = runV ks := ⟨_, rfl⟩
  rw [← hs] at row2 hbd ⊢
  obtain ⟨k, ms, b⟩ := s
  obtain ⟨mv, hmv⟩ : ∃ mv, mv = missV ks := ⟨_, rfl⟩
  rw [← hmv]
  clear hs hmv f1
  simp only at row2 hbd
  have hcap2 := row2.le
  have hr2 := (hr1.below b2).alloc (.cells #[.int .i64 (ms.length : Int), .int .i64 k, .slice A2 ms.length c2, .bool b] 25)
  have g2 : w.grownBy (w2.alloc (.cells #[.int .i64 (ms.length : Int), .int .i64 k, .slice A2 ms.length c2, .bool b] 25)) (some g) := only_alloc (only_trans g1' (only_of_below b2 (some g))) _
  have br2 := (br1.below b2 (by omega)).alloc (.cells #[.int .i64 (ms.length : Int), .int .i64 k, .slice A2 ms.length c2, .bool b] 25)
  have bn2 := Blk.new w2 25 #[.int .i64 (ms.length : Int), .int .i64 k, .slice A2 ms.length c2, .bool b]
  have row2' := (row2.alloc (.cells #[.int .i64 (ms.length : Int), .int .i64 k, .slice A2 ms.length c2, .bool b] 25))
  have hs2 : w.heap.size + 1 ≤ w2.heap.size := by have := b2.size; omega
  clear hr1 g1' br1 b2 row2
  go_wp2_with fail
  refine (pick_c B g q1 24 _ hr2 (by omega) (by omega) (by omega)).mono ?_
  rintro e w3 ⟨x, hx, rfl, hr3, hg3⟩
  have br3 := br2.grown hg3 (fun e => by injection e; omega)
  have bn3 := bn2.grown hg3 (fun e => by injection e; omega)
  have g3 := only_trans g2 hg3
  have row3 := (row2'.mono (show w.heap.size + 1 ≤ w1.heap.size from hs1)).keep hg3 (by omega)
  have hs3 : w2.heap.size + 1 ≤ w3.heap.size := by have := hg3.size; simp at this; omega
  obtain ⟨n0c, n1c, n2c, n3c, nfz⟩ := blk4 bn3
  obtain ⟨r0c, r1c, r2c, r3c, rfz⟩ := blk4 br3
  have hne1 : ¬ w.heap.size = w2.heap.size := by omega
  have hne2 : ¬ w2.heap.size = w.heap.size := by omega
  have BN := Lib.hid bn3; have BR := Lib.hid br3; have G3 := Lib.hid g3; have ROW := Lib.hid row3; have HR3 := Lib.hid hr3
  clear hr2 g2 br2 bn2 row2' hg3 br3 bn3 g3 row3 hr3
  have hxc : x = 0 ∨ x = 1 ∨ x = 2 ∨ x = 3 ∨ (((x : Int) == 0) = false ∧ ((x : Int) == 1) = false ∧ ((x : Int) == 2) = false ∧ ((x : Int) == 3) = false) := by simp; omega
  rcases hxc with rfl | rfl | rfl | rfl | ⟨x0, x1, x2, x3⟩
  · go_wp2_with fail
    refine (one_c B g (q1 + 1) [-1, 5, (ms.length : Int) + 1] _ _ _ _ (HR3.out.alloc _) (by omega) rfl (by simp) (by simp) (Rd.lit (Value.int .i64) [-1, 5, (ms.length : Int) + 1] rfl (by simp) rfl) (fun b off e => by
      injection e with e; injection e with e; omega)).mono ?_
    rintro e w4 ⟨v, hv, rfl, hr4, hg4⟩
    have br4 := (BR.out.alloc (.cells #[.int .i64 (-1), .int .i64 5, .int .i64 ((ms.length : Int) + 1)] 3)).grown hg4 (fun e => by injection e; omega)
    have bn4 := (BN.out.alloc (.cells #[.int .i64 (-1), .int .i64 5, .int .i64 ((ms.length : Int) + 1)] 3)).grown hg4 (fun e => by injection e; omega)
    have g4 := only_trans (only_alloc G3.out (.cells #[.int .i64 (-1), .int .i64 5, .int .i64 ((ms.length : Int) + 1)] 3)) hg4
    have row4 := (ROW.out.alloc (.cells #[.int .i64 (-1), .int .i64 5, .int .i64 ((ms.length : Int) + 1)] 3)).keep hg4 (by omega)
    clear BN BR G3 ROW HR3 n0c n1c n2c n3c nfz r0c r1c r2c r3c rfz hv hg4
    obtain ⟨n0c, n1c, n2c, n3c, nfz⟩ := blk4 bn4
    obtain ⟨r0c, r1c, r2c, r3c, rfz⟩ := blk4 br4
    have BN := Lib.hid bn4; have BR := Lib.hid br4; have G4 := Lib.hid g4; have ROW := Lib.hid row4; have HR4 := Lib.hid hr4
    clear bn4 br4 g4 row4 hr4
    go_wp2_with fail
    refine bodyPost_ret (v := .agg #[.int .i64 v, .int .i64 k, .slice A2 ms.length c2, .bool b]) (by simp [results, Try.results31, go_sem, n0c, n1c, n2c, n3c, nfz, r0c, r1c, r2c, r3c, rfz, hne1, hne2]) rfl ?_
    refine ⟨v, k, ms, b, A2, c2, q1 + 1 + 1, rfl, by omega, hcap2, ?_, ?_, by omega, ?_⟩
    · exact (row_set4 (ROW.out.setBlk BN.out (by decide) 0 _) (BR.out.far hne1 _) (by decide)).frd.mono (by omega)
    · exact Rdr.set4 (Rdr.set1 (g := w2.heap.size) HR4.out (by omega) _) hBw _ _ _ _
    · exact only_set4 (only_setCell G4.out (.inr (by show w.heap.size ≤ w2.heap.size; omega)) _) (Nat.le_refl _) _ _ _ _
  · go_wp2_with fail
    refine (one_c B g (q1 + 1) [-1, 13, 1] _ _ _ _ (HR3.out.alloc _) (by omega) rfl (by simp) (by simp) (Rd.lit (Value.int .i64) [-1, 13, 1] rfl (by simp) rfl) (fun b off e => by
      injection e with e; injection e with e; omega)).mono ?_
    rintro e w4 ⟨v, hv, rfl, hr4, hg4⟩
    have br4 := (BR.out.alloc (.cells #[.int .i64 (-1), .int .i64 13, .int .i64 1] 3)).grown hg4 (fun e => by injection e; omega)
    have bn4 := (BN.out.alloc (.cells #[.int .i64 (-1), .int .i64 13, .int .i64 1] 3)).grown hg4 (fun e => by injection e; omega)
    have g4 := only_trans (only_alloc G3.out (.cells #[.int .i64 (-1), .int .i64 13, .int .i64 1] 3)) hg4
    have row4 := (ROW.out.alloc (.cells #[.int .i64 (-1), .int .i64 13, .int .i64 1] 3)).keep hg4 (by omega)
    clear BN BR G3 ROW HR3 n0c n1c n2c n3c nfz r0c r1c r2c r3c rfz hv hg4
    obtain ⟨n0c, n1c, n2c, n3c, nfz⟩ := blk4 bn4
    obtain ⟨r0c, r1c, r2c, r3c, rfz⟩ := blk4 br4
    have BN := Lib.hid bn4; have BR := Lib.hid br4; have G4 := Lib.hid g4; have ROW := Lib.hid row4; have HR4 := Lib.hid hr4
    clear bn4 br4 g4 row4 hr4
    go_wp2_with fail
    refine bodyPost_ret (v := .agg #[.int .i64 (ms.length : Int), .int .i64 v, .slice A2 ms.length c2, .bool b]) (by simp [results, Try.results31, go_sem, n0c, n1c, n2c, n3c, nfz, r0c, r1c, r2c, r3c, rfz, hne1, hne2]) rfl ?_
    refine ⟨(ms.length : Int), v, ms, b, A2, c2, q1 + 1 + 1, rfl, by omega, hcap2, ?_, ?_, by omega, ?_⟩
    · exact (row_set4 (ROW.out.setBlk BN.out (by decide) 1 _) (BR.out.far hne1 _) (by decide)).frd.mono (by omega)
    · exact Rdr.set4 (Rdr.set1 (g := w2.heap.size) HR4.out (by omega) _) hBw _ _ _ _
    · exact only_set4 (only_setCell G4.out (.inr (by show w.heap.size ≤ w2.heap.size; omega)) _) (Nat.le_refl _) _ _ _ _
  · skip
    go_wp2_with fail
    refine bodyPost_ret (v := .agg #[.int .i64 (ms.length : Int), .int .i64 k, .slice A2 ms.length c2, .bool true]) (by simp [results, Try.results31, go_sem, n0c, n1c, n2c, n3c, nfz, r0c, r1c, r2c, r3c, rfz, hne1, hne2]) rfl ?_
    refine ⟨(ms.length : Int), k, ms, true, A2, c2, q1 + 1, rfl, by omega, hcap2, ?_, ?_, by omega, ?_⟩
    · exact (row_set4 (ROW.out.setBlk BN.out (by decide) 3 _) (BR.out.far hne1 _) (by decide)).frd.mono (by omega)
    · exact Rdr.set4 (Rdr.set1 (g := w2.heap.size) HR3.out (by omega) _) hBw _ _ _ _
    · exact only_set4 (only_setCell G3.out (.inr (by show w.heap.size ≤ w2.heap.size; omega)) _) (Nat.le_refl _) _ _ _ _
  · go_wp2_with fail
    refine (copyInts_c ms A2 _ c2 w3 rfl ROW.out.rd (by omega)).mono ?_
    rintro e w4 ⟨A4, c4, rfl, o4, b4⟩
    have br4 := BR.out.below b4 BR.out.lt
    have bn4 := BN.out.below b4 BN.out.lt
    have g4 := only_trans G3.out (only_of_below b4 (some g))
    have hr4 := HR3.out.below b4
    have hs4 := b4.size
    clear BN BR G3 ROW HR3 n0c n1c n2c n3c nfz r0c r1c r2c r3c rfz b4
    go_wp2_with (at_builtin; (refine wpList_append_any _ rfl (.tmp 36) (.tmp 37) 23 rfl w3.heap.size 3 i0 (.int .i64 0) 8 Try.underlying23 i0_i i0_z0 i0_z1 i0_z2 rfl (.slice A4 ms.length c4) (ms.length) (ms.map (.int .i64)) rfl (o4.alloc _) (some ⟨w4.heap.size, 0, none⟩) (1) (1) ([.int .i64 2]) rfl rfl (Rd.one (cell_new _ _ _ 0)) (one1 _ rfl) (by unfold maxLen; omega) (by omega) (by simp <;> omega) ?_))
    intro A5 c5 w5 o5 g5 _
    have hlt4 := o4.lt
    have br5 := (br4.alloc (.cells #[.int .i64 2] 3)).grown g5 (fun e => by have := (hlt4 _ e.symm).1; omega)
    have bn5 := (bn4.alloc (.cells #[.int .i64 2] 3)).grown g5 (fun e => by have := (hlt4 _ e.symm).1; omega)
    have hr5 := (hr4.alloc (.cells #[.int .i64 2] 3)).grown g5 (fun y hy => by have := (hlt4 y hy).1; omega)
    have gg5 : w.grownBy w5 (some g) := only_then (only_alloc g4 _) g5 (fun y hy => .inr (by have := (hlt4 y hy).1; omega))
    have hs5 := g5.size
    simp at hs5
    have o5' : w5.ownsRow w3.heap.size 3 1 (.slice A5 (ms.length + 1) c5) (ms.length + 1) ((ms ++ [2]).map (.int .i64)) := by simpa using o5
    clear br4 bn4 hr4 g4 g5 hlt4 o4 o5
    go_wp2_with fail
    refine (spoil_c B g (q1 + 1) (ms ++ [2]) A5 (ms.length + 1) c5 13 w5 hr5 (by omega) (by simp) (Rd.of_own o5') (by omega)).mono ?_
    rintro e w6 ⟨A6, c6, ys, q6, rfl, h1, h2, h3, h4, h5, h6⟩
    have br6 := br5.grown h6 (fun e => by injection e; omega)
    have bn6 := bn5.grown h6 (fun e => by injection e; omega)
    have g6 := only_trans gg5 h6
    obtain ⟨n0c, n1c, n2c, n3c, nfz⟩ := blk4 bn6
    obtain ⟨r0c, r1c, r2c, r3c, rfz⟩ := blk4 br6
    have G6 := Lib.hid g6; have H3 := Lib.hid h3; have H4 := Lib.hid h4
    clear br5 bn5 hr5 gg5 o5' h6 g6 h3 h4 br6 bn6
    go_wp2_with fail
    refine bodyPost_ret (v := .agg #[.int .i64 (ms.length : Int), .int .i64 k, .slice A6 ys.length c6, .bool b]) (by simp [results, Try.results31, go_sem, n0c, n1c, n2c, n3c, nfz, r0c, r1c, r2c, r3c, rfz, hne1, hne2]) rfl ?_
    refine ⟨(ms.length : Int), k, ys, b, A6, c6, q6, rfl, by omega, h2, ?_, ?_, by omega, ?_⟩
    · exact Frd.mono (Frd.set4 (Frd.set1 (g := w2.heap.size) H3.out (by omega) _) (by omega) _ _ _ _) (by omega)
    · exact Rdr.set4 (Rdr.set1 (g := w2.heap.size) H4.out (by omega) _) hBw _ _ _ _
    · exact only_set4 (only_setCell G6.out (.inr (by show w.heap.size ≤ w2.heap.size; omega)) _) (Nat.le_refl _) _ _ _ _
  · skip
    go_wp2_with fail
    refine bodyPost_ret (v := .agg #[.int .i64 (ms.length : Int), .int .i64 k, .slice A2 ms.length c2, .bool b]) (by simp [results, Try.results31, go_sem, n0c, n1c, n2c, n3c, nfz, r0c, r1c, r2c, r3c, rfz, hne1, hne2]) rfl ?_
    refine ⟨(ms.length : Int), k, ms, b, A2, c2, q1 + 1, rfl, by omega, hcap2, ?_, ?_, by omega, ?_⟩
    · exact (row_set4 ROW.out BR.out (by decide)).frd.mono (by omega)
    · exact Rdr.set4 HR3.out hBw _ _ _ _
    · exact only_set4 G3.out (Nat.le_refl _) _ _ _ _
/-- A state drawn; what was there is as it was. -/
def RetDrawN (w : World) (e : Ending) (w' : World) : Prop :=
  ∃ (d k : Int) (ms : List Int) (b : Bool) (A : Option Addr) (c : Nat), e = .returned (.agg #[.int .i64 d, .int .i64 k, .slice A ms.length c, .bool b]) ∧ ms.length ≤ 10 ∧ ms.length ≤ c ∧ Frd w' w.heap.size A (ms.map (.int .i64)) ∧ Below w.heap.size w w'
/-- A state and a number drawn. -/
def RetDrawNK (w : World) (e : Ending) (w' : World) : Prop :=
  ∃ (d k : Int) (ms : List Int) (b : Bool) (A : Option Addr) (c : Nat) (x : Int), e = .returned (.tuple #[.agg #[.int .i64 d, .int .i64 k, .slice A ms.length c, .bool b], .int .i64 x]) ∧ ms.length ≤ 10 ∧ ms.length ≤ c ∧ Frd w' w.heap.size A (ms.map (.int .i64)) ∧ Below w.heap.size w w'
/-- Commands drawn. -/
def RetDrawK (w : World) (e : Ending) (w' : World) : Prop :=
  ∃ (A : Option Addr) (c : Nat) (zs : List Int), e = .returned (.slice A zs.length c) ∧ zs.length ≤ 18 ∧ zs.length ≤ c ∧ Frd w' w.heap.size A (zs.map (.int .i64)) ∧ Below w.heap.size w w'
set_option maxRecDepth 100000 in
set_option maxHeartbeats 2000000 in
theorem drawRunNest_c (zs : List Int) (A : Option Addr) (n c : Nat) (w : World) (hN : zs.length = n) (hc : n ≤ c) (hm : c ≤ maxLen) (h : Rd w A (zs.map (.int .u8))) (hz : ∀ z ∈ zs, 0 ≤ z ∧ z ≤ 255) :
    Calls Try.prog 25 #[.slice A n c] w (RetDrawK w) := by
  have HR := Lib.hid (newReader_c zs A n c w hN hc hm h hz)
  clear h hz hN
  go_enter Try.func25, Try.ntmps25
  go_wp2_with fail
  refine HR.out.mono ?_
  rintro e w1 ⟨rfl, hr, hb⟩
  have hs0 := hb.size
  go_wp2_with fail
  refine (someKinds_c _ _ _ _ hr (by omega)).mono ?_
  rintro e w2 ⟨A2, c2, ks, q, rfl, hl2, hc2, f2, hr2, hq2, g2⟩
  have bel2 : Below w.heap.size w w2 := hb.trans (below_grown g2 (Nat.le_refl _) hs0)
  have f2' := f2.mono hs0
  clear hr hr2 g2 hb f2
  go_wp2_with fail
  go_ret
  exact ⟨A2, c2, ks, rfl, hl2, hc2, f2', bel2⟩
set_option maxRecDepth 100000 in
set_option maxHeartbeats 2000000 in
theorem drawKeptWork_c (zs : List Int) (A : Option Addr) (n c : Nat) (w : World) (hN : zs.length = n) (hc : n ≤ c) (hm : c ≤ maxLen) (h : Rd w A (zs.map (.int .u8))) (hz : ∀ z ∈ zs, 0 ≤ z ∧ z ≤ 255) :
    Calls Try.prog 28 #[.slice A n c] w (RetDrawK w) := by
  have HR := Lib.hid (newReader_c zs A n c w hN hc hm h hz)
  clear h hz hN
  go_enter Try.func28, Try.ntmps28
  go_wp2_with fail
  refine HR.out.mono ?_
  rintro e w1 ⟨rfl, hr, hb⟩
  have hs0 := hb.size
  go_wp2_with fail
  refine (someKinds_c _ _ _ _ hr (by omega)).mono ?_
  rintro e w2 ⟨A2, c2, ks, q, rfl, hl2, hc2, f2, hr2, hq2, g2⟩
  have bel2 : Below w.heap.size w w2 := hb.trans (below_grown g2 (Nat.le_refl _) hs0)
  have f2' := f2.mono hs0
  clear hr hr2 g2 hb f2
  go_wp2_with fail
  go_ret
  exact ⟨A2, c2, ks, rfl, hl2, hc2, f2', bel2⟩
set_option maxRecDepth 100000 in
set_option maxHeartbeats 4000000 in
theorem drawStepNest_c (zs : List Int) (A : Option Addr) (n c : Nat) (w : World) (hN : zs.length = n) (hc : n ≤ c) (hm : c ≤ maxLen) (h : Rd w A (zs.map (.int .u8))) (hz : ∀ z ∈ zs, 0 ≤ z ∧ z ≤ 255) :
    Calls Try.prog 12 #[.slice A n c] w (RetDrawNK w) := by
  have HR := Lib.hid (fun W => newReader_c zs A n c (w.alloc W) hN hc hm (h.alloc _) hz)
  clear h hz hN
  go_enter Try.func12, Try.ntmps12
  go_wp2_with fail
  refine (HR.out _).mono ?_
  rintro e w1 ⟨rfl, hr, hb⟩
  have hs0 := hb.size
  have hs1 := hr.2.1
  simp at hs0 hs1
  have br1 := (Blk.new w 25 #[.int .i64 0, .int .i64 0, .slice none 0 0, .bool false]).below hb (by simp)
  have bel1 : Below w.heap.size w w1 := ((Below.refl _ _).alloc (Nat.le_refl _) _).trans (hb.mono (by simp))
  have hr' : Rdr w1 (w.heap.size + 1 + 1) (w.heap.size + 1) 0 := by simpa using hr
  clear HR hb hr
  go_wp2_with fail
  refine (anyNest_c _ _ _ _ hr' (by omega)).mono ?_
  rintro e w2 ⟨d, k, ms, b, A2, c2, q, rfl, hl2, hc2, f2, hr2, hq2, g2⟩
  have br2 := br1.grown g2 (fun e => by injection e; omega)
  have hs2 := g2.size
  have bel2 : Below w.heap.size w w2 := bel1.grown g2 (by omega) (fun y hy => by injection hy; omega)
  obtain ⟨r0c, r1c, r2c, r3c, rfz⟩ := blk4 br2
  have BR := Lib.hid br2; have BEL := Lib.hid bel2; have F2 := Lib.hid f2
  have HR2 := Lib.hid hr2
  clear hr' hr2 br1 bel1 g2 br2 bel2 f2
  go_wp2_with fail
  obtain ⟨W0, hW0⟩ : ∃ W0, W0 = w2.alloc (.cells #[.int .i64 d, .int .i64 k, .slice A2 ms.length c2, .bool b] 25) := ⟨_, rfl⟩
  rw [← hW0]
  have bn : Blk W0 w2.heap.size 25 #[.int .i64 d, .int .i64 k, .slice A2 ms.length c2, .bool b] := by rw [hW0]; exact Blk.new _ _ _
  have br : Blk W0 w.heap.size 25 #[.int .i64 0, .int .i64 0, .slice none 0 0, .bool false] := by rw [hW0]; exact BR.out.alloc _
  have hr0 : Rdr W0 (w.heap.size + 1 + 1) (w.heap.size + 1) q := by rw [hW0]; exact HR2.out.alloc _
  have f0 : Frd W0 w1.heap.size A2 (ms.map (.int .i64)) := by rw [hW0]; exact F2.out.alloc _
  have bel0 : Below w.heap.size w W0 := by rw [hW0]; exact BEL.out.alloc (by omega) _
  have hsz0 : W0.heap.size = w2.heap.size + 1 := by rw [hW0]; simp
  have hlt0 : w2.heap.size < W0.heap.size := by omega
  obtain ⟨gn, hgn⟩ : ∃ gn, gn = w2.heap.size := ⟨_, rfl⟩
  rw [← hgn] at bn hlt0 ⊢
  have hgn1 : w.heap.size + 1 < gn := by omega
  have hgn2 : ¬ gn = w.heap.size + 1 := by omega
  have hgn3 : ¬ gn = W0.heap.size := by omega
  have hgn4 : ¬ W0.heap.size = gn := by omega
  have hgn5 : ¬ gn = w.heap.size := by omega
  have hgn6 : ¬ w.heap.size = gn := by omega
  have hwlt : w.heap.size < W0.heap.size := by omega
  obtain ⟨n0c, n1c, n2c, n3c, nfz⟩ := blk4 bn
  obtain ⟨r0c, r1c, r2c, r3c, rfz⟩ := blk4 br
  have BN := Lib.hid bn; have BR0 := Lib.hid br; have HR0 := Lib.hid hr0; have F0 := Lib.hid f0; have BEL0 := Lib.hid bel0
  clear hW0 bn br hr0 f0 bel0 hgn BR BEL F2 HR2 hsz0
  go_region_held3 (fun w' => w'.cell? ⟨gn, 0, none⟩ = some (.int .i64 d) ∧ w'.cell? ⟨gn, 1, none⟩ = some (.int .i64 k) ∧ w'.cell? ⟨gn, 2, none⟩ = some (.slice A2 ms.length c2) ∧ w'.cell? ⟨gn, 3, none⟩ = some (.bool b)) (go_keep) ((go_at_call 32; refine (one_c (w.heap.size + 1 + 1) (w.heap.size + 1) q [0, 1, 2, 3, 4, 5, -1] _ _ _ _ ?_ ?_ rfl ?_ ?_ ?_ ?_).mono ?_; exact HR0.out.alloc _; omega; simp; simp; exact Rd.lit (W := W0.alloc (.cells #[.int .i64 0, .int .i64 1, .int .i64 2, .int .i64 3, .int .i64 4, .int .i64 5, .int .i64 (-1)] 3)) (Value.int .i64) [0, 1, 2, 3, 4, 5, -1] rfl (by simp) rfl; (intro b9 off9 e9; injection e9 with e9; injection e9 with e9; omega); rintro e w4 ⟨v, hv, rfl, hr4, hg4⟩; have bn4 := Blk.grown (w := (W0.alloc (.cells #[.int .i64 0, .int .i64 1, .int .i64 2, .int .i64 3, .int .i64 4, .int .i64 5, .int .i64 (-1)] 3)).drew) (BN.out.alloc _) hg4 (fun e => by injection e; omega); have br4 := Blk.grown (w := (W0.alloc (.cells #[.int .i64 0, .int .i64 1, .int .i64 2, .int .i64 3, .int .i64 4, .int .i64 5, .int .i64 (-1)] 3)).drew) (BR0.out.alloc _) hg4 (fun e => by injection e; omega); have f4 := Frd.grown (w := (W0.alloc (.cells #[.int .i64 0, .int .i64 1, .int .i64 2, .int .i64 3, .int .i64 4, .int .i64 5, .int .i64 (-1)] 3)).drew) (F0.out.alloc _) hg4 (fun k hk => by injection hk; omega); have bel4 := Below.grown (Below.drew (BEL0.out.alloc (by omega) (.cells #[.int .i64 0, .int .i64 1, .int .i64 2, .int .i64 3, .int .i64 4, .int .i64 5, .int .i64 (-1)] 3))) hg4 (by simp <;> omega) (fun k hk => by injection hk; omega); have F4 := Lib.hid f4; have BEL4 := Lib.hid bel4; clear f4 bel4 hr4 hg4 hv; obtain ⟨k0, k1, k2, k3, kf⟩ := blk4 bn4; obtain ⟨s0c, s1c, s2c, s3c, sfz⟩ := blk4 br4; clear bn4 br4))
  all_goals
    go_wp2_with fail
    refine bodyPost_ret (v := .tuple #[.agg #[.int .i64 d, .int .i64 k, .slice A2 ms.length c2, .bool b], .int .i64 v]) (by simp [results, Try.results12, go_sem, s0c, s1c, s2c, s3c, sfz]) rfl ?_
    exact ⟨d, k, ms, b, A2, c2, v, rfl, hl2, hc2, Frd.mono (Frd.set4 F4.out (by omega) _ _ _ _) (by omega), below_set4 BEL4.out (Nat.le_refl _)⟩
end Go.Proofs.Ytagmhmhhjkfhgaa
