/- Pools that the laws draw, valid or not. -/
import Derived.Test.YtnmgnhpagnjhlaaGreatDoorDrawP
import Derived.Deep.Cut
set_option linter.unusedVariables false
set_option linter.unusedSimpArgs false
set_option linter.unnecessarySimpa false
namespace Go.Proofs.YtnmgnhpagnjhlaaGreatDoor
open Go.RowKit

theorem PState.cell {w W : World} {Bs g q gp : Nat} {P P' : Pl} {A B C A' B' C' : Option Addr} {a b c a' b' c' : Nat} (h : PState w Bs g q gp P A a B b C c W) (i : Nat) (u : Value)
    (hc : (#[.int .i64 P.mx, .slice A P.ids.length a, .slice B P.hs.length b, .slice C P.wt.length c] : Array Value).setIfInBounds i u = #[.int .i64 P'.mx, .slice A' P'.ids.length a', .slice B' P'.hs.length b', .slice C' P'.wt.length c'])
    (hr : PRow W (w.heap.size + 1) P' A' a' B' b' C' c') (ho : Off gp A' a' B' b' C' c') : PState w Bs g q gp P' A' a' B' b' C' c' (W.setCell ⟨gp, i, none⟩ u) := by
  have h1 := h.hgp
  have h2 := h.hg
  have h3 := h.hB
  refine ⟨hc ▸ h.blk.set_ i u, hr.set (q := ⟨gp, i, none⟩) ho u, ho, ?_, ?_, ?_, h1, h2, h3⟩
  · exact h.rdr.grown (only_setCell (World.grownBy.refl W (some gp)) (.inl rfl) u) (fun k hk => by
      injection hk with hk
      have h4 : gp = k := hk
      omega)
  · exact only_setCell h.own (.inr (by show w.heap.size ≤ gp; omega)) u
  · exact h.res.far (by show w.heap.size ≠ gp; omega) u
theorem PState.grown {w W W' : World} {Bs g q gp : Nat} {P : Pl} {A B C : Option Addr} {a b c k : Nat} {row : Option Nat} (h : PState w Bs g q gp P A a B b C c W) (hg : W.grownBy W' row) (hk : ∀ y, row = some y → W.heap.size ≤ y ∨ (k ≤ y ∧ gp < k ∧ (∀ z, rb A a = some z → z < k) ∧ (∀ z, rb B b = some z → z < k) ∧ (∀ z, rb C c = some z → z < k))) : PState w Bs g q gp P A a B b C c W' := by
  have h1 := h.hgp
  have h2 := h.hg
  have h3 := h.hB
  have h4 := h.blk.lt
  have far : ∀ z, z < W.heap.size → (z ≤ gp ∨ rb A a = some z ∨ rb B b = some z ∨ rb C c = some z) → some z ≠ row := fun z hz hh e => by
    rcases hk z e.symm with h | ⟨h, h', ha, hb, hc⟩
    · omega
    · rcases hh with hh | hh | hh | hh
      · omega
      · have := ha z hh; omega
      · have := hb z hh; omega
      · have := hc z hh; omega
  have rowA : rb A a = none ∨ rb A a ≠ row := by
    cases hx : rb A a with
    | none => exact .inl rfl
    | some z => exact .inr (far z (h.row.1.lt z hx).2 (.inr (.inl hx)))
  have rowB : rb B b = none ∨ rb B b ≠ row := by
    cases hx : rb B b with
    | none => exact .inl rfl
    | some z => exact .inr (far z (h.row.2.1.lt z hx).2 (.inr (.inr (.inl hx))))
  have rowC : rb C c = none ∨ rb C c ≠ row := by
    cases hx : rb C c with
    | none => exact .inl rfl
    | some z => exact .inr (far z (h.row.2.2.1.lt z hx).2 (.inr (.inr (.inr hx))))
  have big : ∀ y, row = some y → gp < y := fun y e => by
    rcases hk y e with h | ⟨h, h', _⟩ <;> omega
  refine ⟨h.blk.grown hg (far gp h4 (.inl (Nat.le_refl _))), ⟨h.row.1.kept hg rowA, h.row.2.1.kept hg rowB, h.row.2.2.1.kept hg rowC, h.row.2.2.2⟩, h.off, h.rdr.grown hg (fun y e => by have := big y e; omega), only_then h.own hg (fun y e => .inr (by have := big y e; omega)), h.res.grown hg (fun e => by have := big _ e.symm; omega), h1, h2, h3⟩
/-- What anyPool answers. -/
def RetAP (Bs g p : Nat) (w : World) (e : Ending) (w' : World) : Prop :=
  ∃ (A : Option Addr) (a : Nat) (B : Option Addr) (b : Nat) (C : Option Addr) (c : Nat) (P : Pl), e = .returned (.agg #[.int .i64 P.mx, .slice A P.ids.length a, .slice B P.hs.length b, .slice C P.wt.length c]) ∧ (P.ids.length ≤ 21 ∧ P.hs.length ≤ 21 ∧ P.wt.length ≤ 21) ∧ PRow w' w.heap.size P A a B b C c ∧ w.grownBy w' (some g)
set_option maxRecDepth 100000 in
set_option maxHeartbeats 16000000 in
theorem anyPool_c (Bs g p : Nat) (w : World) (hr : Rdr w Bs g p) (hp : p ≤ 900000) :
    Calls Tryz.prog 28 #[.pointer (some ⟨g, 0, none⟩)] w (RetAP Bs g p w) := by
  obtain ⟨i0, i0_i, i0_z0, i0_z1, i0_z2⟩ := info_parts poolHoldInfo
  obtain ⟨j0, j0_i, j0_z0, j0_z1, j0_z2⟩ := info_parts poolIntInfo
  have hgB := hr.1
  have hBw := hr.2.1
  have hgw : g < w.heap.size := by omega
  have BR0 := Lib.hid (Blk.new w 26 #[.int .i64 0, .slice none 0 0, .slice none 0 0, .slice none 0 0])
  go_enter Tryz.func28, Tryz.ntmps28
  go_wp2_with fail
  refine (somePool_c Bs g p _ (hr.alloc _) hp).mono ?_
  rintro e w3 ⟨A, a, B, b, C, c, P, q, rfl, ⟨fe1, fe2, fe3⟩, pr3, hr3, hq, hg3⟩
  have BR3 := Lib.hid (BR0.out.grown hg3 (by intro e; injection e; omega))
  have g3 : w.grownBy w3 (some g) := only_trans (only_alloc (only_refl w _) _) hg3
  have hs3 : w.heap.size + 1 ≤ w3.heap.size := by have := hg3.size; simpa using this
  have pr3' : PRow w3 (w.heap.size + 1) P A a B b C c := by simpa using pr3
  obtain ⟨gp, hgp⟩ : ∃ gp, gp = w3.heap.size := ⟨_, rfl⟩
  obtain ⟨w4, hw4⟩ : ∃ w4, w4 = w3.alloc (.cells #[.int .i64 P.mx, .slice A P.ids.length a, .slice B P.hs.length b, .slice C P.wt.length c] 26) := ⟨_, rfl⟩
  have ST4 : Hid (PState w Bs g q gp P A a B b C c w4) := by
    rw [hw4]
    refine ⟨Blk.new_at _ hgp _ _, pr3'.alloc _, pr3'.off (by omega), hr3.alloc _, only_alloc g3 _, BR3.out.alloc _, by omega, hgw, hBw⟩
  clear pr3 pr3' BR3 BR0 g3 hg3 hr3
  go_upto_region 2 with fail
  rw [← hw4, ← hgp]
  have hgp4 : gp < w4.heap.size := ST4.out.blk.lt
  have hgpw : w.heap.size < gp := by omega
  clear hw4 hgp hs3
  go_wp2_with fail
  refine (pick_c Bs g q 24 w4 ST4.out.rdr (by omega) (by omega) (by omega)).mono ?_
  rintro e w2 ⟨t, ht, rfl, hr2, hg2⟩
  have ST := Lib.hid (ST4.out.read hr2 hg2)
  have hgp2 : gp < w2.heap.size := ST.out.blk.lt
  have hsw2 : w.heap.size + 1 ≤ w2.heap.size := by omega
  have LT := Lib.hid (show (∀ z, rb A a = some z → z < w2.heap.size) ∧ (∀ z, rb B b = some z → z < w2.heap.size) ∧ (∀ z, rb C c = some z → z < w2.heap.size) from ⟨fun z h => (ST.out.row.1.lt z h).2, fun z h => (ST.out.row.2.1.lt z h).2, fun z h => (ST.out.row.2.2.1.lt z h).2⟩)
  clear ST4 hr2 hg2
  have hb : ∀ k : Nat, t ≠ k → ((t : Int) == (k : Int)) = false := fun k h => beq_eq_false_iff_ne.2 (by omega)
  have HB := Lib.hid hb
  clear hb
  obtain ⟨k0, k1, k2, k3, kfz⟩ := blk4 ST.out.blk
  obtain ⟨r0, r1, r2, r3, rfz⟩ := blk4 ST.out.res
  by_cases t0 : t = 0
  · subst t0
    go_wp2_with fail
    refine (one_c Bs g (q + 1) [0, 7, 1] _ _ _ _ (ST.out.rdr.alloc _) (by omega) rfl (by simp) (by simp) (Rd.lit (Value.int .i64) [0, 7, 1] rfl (by simp) rfl) (fun b off e => by injection e with e; injection e with e; (try simp at e); omega)).mono ?_
    rintro e w5 ⟨v, hv, rfl, hr5, hg5⟩
    have ST5 := Lib.hid ((ST.out.alloc _).read hr5 hg5)
    clear ST hr5 hg5 hv k0 k1 k2 k3 kfz r0 r1 r2 r3 rfz
    have ST := Lib.hid (ST5.out.cell (P' := ⟨v, P.ids, P.hs, P.wt⟩) 0 (.int .i64 v) (by rfl) ST5.out.row ST5.out.off)
    obtain ⟨k0, k1, k2, k3, kfz⟩ := blk4 ST5.out.blk
    obtain ⟨r0, r1, r2, r3, rfz⟩ := blk4 ST5.out.res
    obtain ⟨w6, hw6⟩ : ∃ w6, w6 = w5.setCell ⟨gp, 0, none⟩ (.int .i64 v) := ⟨_, rfl⟩
    rw [← hw6] at ST
    go_upto_region 11 with fail
    rw [← hw6]
    clear hw6 ST5 k0 k1 k2 k3 kfz r0 r1 r2 r3 rfz
    obtain ⟨k0, k1, k2, k3, kfz⟩ := blk4 ST.out.blk
    obtain ⟨r0, r1, r2, r3, rfz⟩ := blk4 ST.out.res
    have ROW := Lib.hid ST.out.row; have OWN := Lib.hid ST.out.own
    clear ST
    go_wp2_with fail
    refine bodyPost_ret (v := .agg #[.int .i64 v, .slice A P.ids.length a, .slice B P.hs.length b, .slice C P.wt.length c]) (by simp [results, Tryz.results28, go_sem, r0, r1, r2, r3, rfz]) rfl ?_
    refine ⟨A, a, B, b, C, c, ⟨v, P.ids, P.hs, P.wt⟩, rfl, ⟨by show P.ids.length ≤ 21; omega, by show P.hs.length ≤ 21; omega, by show P.wt.length ≤ 21; omega⟩, ?_, ?_⟩
    · refine PRow.mono (base := w.heap.size + 1) ?_ (by omega)
      iterate 4 (with_reducible refine PRow.setFar ?_ (by simp) _)
      exact ROW.out
    · have key : ∀ (V : World) (i : Nat) (u : Value), w.grownBy V (some g) → w.grownBy (V.setCell ⟨w.heap.size, i, none⟩ u) (some g) := fun V i u hV => only_setCell hV (.inr (Nat.le_refl _)) u
      exact key _ _ _ (key _ _ _ (key _ _ _ (key _ _ _ OWN.out)))

  by_cases t1 : t = 1
  · subst t1
    have PR2 := Lib.hid ST.out.row
    have HCI := Lib.hid (copyInts_c P.ids A _ a w2 rfl ST.out.row.1.rd (by omega))
    go_wp2_with fail
    refine HCI.out.mono ?_
    rintro e w5 ⟨Y0, y0, rfl, rY, b5⟩
    have hs5 : w2.heap.size ≤ w5.heap.size := b5.size
    have ST5 := Lib.hid (ST.out.below b5)
    have RY := Lib.hid rY
    clear ST rY b5 k0 k1 k2 k3 kfz r0 r1 r2 r3 rfz
    go_wp2_with fail
    refine (one_c Bs g (q + 1) [0, 5, -1] _ _ _ _ (ST5.out.rdr.alloc _) (by omega) rfl (by simp) (by simp) (Rd.lit (Value.int .i64) [0, 5, -1] rfl (by simp) rfl) (fun b off e => by injection e with e; injection e with e; (try simp at e); omega)).mono ?_
    rintro e w6 ⟨v, hv, rfl, hr6, hg6⟩
    have hs6 : w5.heap.size + 1 ≤ w6.heap.size := by have := hg6.size; simpa using this
    have ST6 := Lib.hid ((ST5.out.alloc _).read hr6 hg6)
    have RY6 := Lib.hid ((RY.out.alloc _).keep hg6 (by omega))
    clear ST5 RY hr6 hg6 hv
    go_wp2_with (at_builtin; (refine wpList_append_row _ rfl (.tmp 18) (.tmp 22) 23 rfl w2.heap.size 3 j0 (.int .i64 0) 1 8 Tryz.underlying23 j0_i j0_z0 j0_z1 j0_z2 rfl Y0 P.ids.length y0 (P.ids.map (.int .i64)) (by first | rfl | simp) (RY6.out.alloc _) (some ⟨w6.heap.size, 0, none⟩) 1 1 [.int .i64 v] rfl rfl (Rd.one (cell_new _ _ _ 0)) (one1 _ rfl) (by omega) (by unfold maxLen; omega) (by omega) (by simp <;> omega) ?_))
    intro Y y w7 row7 hg7 hat7
    have hlt7 := RY6.out.lt
    have row7' : Row w7 w2.heap.size 3 1 Y (P.ids ++ [v]).length y ((P.ids ++ [v]).map (.int .i64)) := by rw [← snocI P.ids v _ rfl, List.length_append]; exact row7
    have ST7 := Lib.hid ((ST6.out.alloc _).grown (k := w2.heap.size) hg7 (fun z e => .inr ⟨(hlt7 z e).1, hgp2, LT.out.1, LT.out.2.1, LT.out.2.2⟩))
    have hgp7 : gp < w7.heap.size := ST7.out.blk.lt
    have APB := Apart.symm (row_apart PR2.out.2.1 row7' (Nat.le_refl _))
    have APC := Apart.symm (row_apart PR2.out.2.2.1 row7' (Nat.le_refl _))
    have OFF : Off gp Y y B b C c := ⟨row7'.offNew hgp2, ST7.out.off.2.1, ST7.out.off.2.2⟩
    have ROWN : PRow w7 (w.heap.size + 1) ⟨P.mx, P.ids ++ [v], P.hs, P.wt⟩ Y y B b C c := ⟨row7'.mono (by omega), ST7.out.row.2.1, ST7.out.row.2.2.1, APB, APC, ST7.out.row.2.2.2.2.2⟩
    have ST := Lib.hid (ST7.out.cell (P' := ⟨P.mx, P.ids ++ [v], P.hs, P.wt⟩) 1 (.slice Y (P.ids ++ [v]).length y) (by rfl) ROWN OFF)
    have hll : (P.ids ++ [v]).length = P.ids.length + 1 := by simp
    rw [hll] at ST
    clear row7' row7 hg7 hat7 hlt7 OFF ROWN hll
    obtain ⟨k0, k1, k2, k3, kfz⟩ := blk4 ST7.out.blk
    obtain ⟨r0, r1, r2, r3, rfz⟩ := blk4 ST7.out.res
    clear ST7 ST6 RY6
    obtain ⟨w8, hw8⟩ : ∃ w8, w8 = w7.setCell ⟨gp, 1, none⟩ (.slice Y (P.ids.length + 1) y) := ⟨_, rfl⟩
    rw [← hw8] at ST
    go_upto_region 11 with fail
    rw [← hw8]
    clear hw8 k0 k1 k2 k3 kfz r0 r1 r2 r3 rfz
    obtain ⟨k0, k1, k2, k3, kfz⟩ := blk4 ST.out.blk
    obtain ⟨r0, r1, r2, r3, rfz⟩ := blk4 ST.out.res
    have ROW := Lib.hid ST.out.row; have OWN := Lib.hid ST.out.own
    clear ST
    go_wp2_with fail
    refine bodyPost_ret (v := .agg #[.int .i64 P.mx, .slice Y (P.ids.length + 1) y, .slice B P.hs.length b, .slice C P.wt.length c]) (by simp [results, Tryz.results28, go_sem, r0, r1, r2, r3, rfz]) rfl ?_
    refine ⟨Y, y, B, b, C, c, ⟨P.mx, P.ids ++ [v], P.hs, P.wt⟩, by simp only [List.length_append]; rfl, ⟨by simp only [List.length_append, List.length_singleton]; omega, by show P.hs.length ≤ 21; omega, by show P.wt.length ≤ 21; omega⟩, ?_, ?_⟩
    · refine PRow.mono (base := w.heap.size + 1) ?_ (by omega)
      iterate 4 (with_reducible refine PRow.setFar ?_ (by simp) _)
      exact ROW.out
    · have key : ∀ (V : World) (i : Nat) (u : Value), w.grownBy V (some g) → w.grownBy (V.setCell ⟨w.heap.size, i, none⟩ u) (some g) := fun V i u hV => only_setCell hV (.inr (Nat.le_refl _)) u
      exact key _ _ _ (key _ _ _ (key _ _ _ (key _ _ _ OWN.out)))

  by_cases t2 : t = 2
  · subst t2
    have PR2 := Lib.hid ST.out.row
    have HCI := Lib.hid (copyInts_c P.wt C _ c w2 rfl ST.out.row.2.2.1.rd (by omega))
    go_wp2_with fail
    refine HCI.out.mono ?_
    rintro e w5 ⟨Y0, y0, rfl, rY, b5⟩
    have hs5 : w2.heap.size ≤ w5.heap.size := b5.size
    have ST5 := Lib.hid (ST.out.below b5)
    have RY := Lib.hid rY
    clear ST rY b5 k0 k1 k2 k3 kfz r0 r1 r2 r3 rfz
    go_wp2_with fail
    refine (one_c Bs g (q + 1) [0, 5, -1] _ _ _ _ (ST5.out.rdr.alloc _) (by omega) rfl (by simp) (by simp) (Rd.lit (Value.int .i64) [0, 5, -1] rfl (by simp) rfl) (fun b off e => by injection e with e; injection e with e; (try simp at e); omega)).mono ?_
    rintro e w6 ⟨v, hv, rfl, hr6, hg6⟩
    have hs6 : w5.heap.size + 1 ≤ w6.heap.size := by have := hg6.size; simpa using this
    have ST6 := Lib.hid ((ST5.out.alloc _).read hr6 hg6)
    have RY6 := Lib.hid ((RY.out.alloc _).keep hg6 (by omega))
    clear ST5 RY hr6 hg6 hv
    go_wp2_with (at_builtin; (refine wpList_append_row _ rfl (.tmp 29) (.tmp 33) 23 rfl w2.heap.size 3 j0 (.int .i64 0) 1 8 Tryz.underlying23 j0_i j0_z0 j0_z1 j0_z2 rfl Y0 P.wt.length y0 (P.wt.map (.int .i64)) (by first | rfl | simp) (RY6.out.alloc _) (some ⟨w6.heap.size, 0, none⟩) 1 1 [.int .i64 v] rfl rfl (Rd.one (cell_new _ _ _ 0)) (one1 _ rfl) (by omega) (by unfold maxLen; omega) (by omega) (by simp <;> omega) ?_))
    intro Y y w7 row7 hg7 hat7
    have hlt7 := RY6.out.lt
    have row7' : Row w7 w2.heap.size 3 1 Y (P.wt ++ [v]).length y ((P.wt ++ [v]).map (.int .i64)) := by rw [← snocI P.wt v _ rfl, List.length_append]; exact row7
    have ST7 := Lib.hid ((ST6.out.alloc _).grown (k := w2.heap.size) hg7 (fun z e => .inr ⟨(hlt7 z e).1, hgp2, LT.out.1, LT.out.2.1, LT.out.2.2⟩))
    have hgp7 : gp < w7.heap.size := ST7.out.blk.lt
    have APA := row_apart PR2.out.1 row7' (Nat.le_refl _)
    have APB := row_apart PR2.out.2.1 row7' (Nat.le_refl _)
    have OFF : Off gp A a B b Y y := ⟨ST7.out.off.1, ST7.out.off.2.1, row7'.offNew hgp2⟩
    have ROWN : PRow w7 (w.heap.size + 1) ⟨P.mx, P.ids, P.hs, P.wt ++ [v]⟩ A a B b Y y := ⟨ST7.out.row.1, ST7.out.row.2.1, row7'.mono (by omega), ST7.out.row.2.2.2.1, APA, APB⟩
    have ST := Lib.hid (ST7.out.cell (P' := ⟨P.mx, P.ids, P.hs, P.wt ++ [v]⟩) 3 (.slice Y (P.wt ++ [v]).length y) (by rfl) ROWN OFF)
    have hll : (P.wt ++ [v]).length = P.wt.length + 1 := by simp
    rw [hll] at ST
    clear row7' row7 hg7 hat7 hlt7 OFF ROWN hll
    obtain ⟨k0, k1, k2, k3, kfz⟩ := blk4 ST7.out.blk
    obtain ⟨r0, r1, r2, r3, rfz⟩ := blk4 ST7.out.res
    clear ST7 ST6 RY6
    obtain ⟨w8, hw8⟩ : ∃ w8, w8 = w7.setCell ⟨gp, 3, none⟩ (.slice Y (P.wt.length + 1) y) := ⟨_, rfl⟩
    rw [← hw8] at ST
    go_upto_region 11 with fail
    rw [← hw8]
    clear hw8 k0 k1 k2 k3 kfz r0 r1 r2 r3 rfz
    obtain ⟨k0, k1, k2, k3, kfz⟩ := blk4 ST.out.blk
    obtain ⟨r0, r1, r2, r3, rfz⟩ := blk4 ST.out.res
    have ROW := Lib.hid ST.out.row; have OWN := Lib.hid ST.out.own
    clear ST
    go_wp2_with fail
    refine bodyPost_ret (v := .agg #[.int .i64 P.mx, .slice A P.ids.length a, .slice B P.hs.length b, .slice Y (P.wt.length + 1) y]) (by simp [results, Tryz.results28, go_sem, r0, r1, r2, r3, rfz]) rfl ?_
    refine ⟨A, a, B, b, Y, y, ⟨P.mx, P.ids, P.hs, P.wt ++ [v]⟩, by simp only [List.length_append]; rfl, ⟨by show P.ids.length ≤ 21; omega, by show P.hs.length ≤ 21; omega, by simp only [List.length_append, List.length_singleton]; omega⟩, ?_, ?_⟩
    · refine PRow.mono (base := w.heap.size + 1) ?_ (by omega)
      iterate 4 (with_reducible refine PRow.setFar ?_ (by simp) _)
      exact ROW.out
    · have key : ∀ (V : World) (i : Nat) (u : Value), w.grownBy V (some g) → w.grownBy (V.setCell ⟨w.heap.size, i, none⟩ u) (some g) := fun V i u hV => only_setCell hV (.inr (Nat.le_refl _)) u
      exact key _ _ _ (key _ _ _ (key _ _ _ (key _ _ _ OWN.out)))

  by_cases t3 : t = 3
  · subst t3
    have PR2 := Lib.hid ST.out.row
    have HBR := Lib.hid ST.out.row.2.1.rd
    have ST9 := Lib.hid (ST.out.alloc (.cells #[] 48))
    clear ST
    go_wp2_with (at_builtin; (refine wpList_append_row _ rfl (.tmp 38) (.tmp 40) 24 rfl w2.heap.size 48 i0 (.agg #[.int .i64 0, .int .i64 0]) 2 16 Tryz.underlying24 i0_i i0_z0 i0_z1 i0_z2 rfl (some ⟨w2.heap.size, 0, none⟩) 0 0 [] rfl (Row.nil _ _ _ _ _) B P.hs.length b (sc P.hs) (by first | rfl | simp) (by rw [sc_len]) (HBR.out.alloc _) (sc_one _) (by omega) (by unfold maxLen; omega) (by omega) (by simp <;> omega) ?_))
    intro Y0 y0 w5 row5 hg5 hat5
    have hs5 : w2.heap.size + 1 ≤ w5.heap.size := by have := hg5.size; simpa using this
    have RY : Hid (Row w5 w2.heap.size 48 2 Y0 P.hs.length y0 (sc P.hs)) := by show Row _ _ _ _ _ _ _ _; simpa using row5
    have ST5 := Lib.hid (ST9.out.grown (k := 0) hg5 (fun z e => by simp [rb] at e))
    clear row5 hg5 hat5 ST9 k0 k1 k2 k3 kfz r0 r1 r2 r3 rfz HBR
    go_wp2_with fail
    refine (one_c Bs g (q + 1) [0, 5] _ _ _ _ (ST5.out.rdr.alloc _) (by omega) rfl (by simp) (by simp) (Rd.lit (Value.int .i64) [0, 5] rfl (by simp) rfl) (fun b off e => by injection e with e; injection e with e; (try simp at e); omega)).mono ?_
    rintro e w6 ⟨v, hv, rfl, hr6, hg6⟩
    have hs6 : w5.heap.size + 1 ≤ w6.heap.size := by have := hg6.size; simpa using this
    have ST6 := Lib.hid ((ST5.out.alloc _).read hr6 hg6)
    have RY6 := Lib.hid ((RY.out.alloc _).keep hg6 (by omega))
    clear ST5 RY hr6 hg6 hv
    go_wp2_with fail
    refine (one_c Bs g (q + 2) [0, 5] _ _ _ _ (ST6.out.rdr.alloc _) (by omega) rfl (by simp) (by simp) (Rd.lit (Value.int .i64) [0, 5] rfl (by simp) rfl) (fun b off e => by injection e with e; injection e with e; (try simp at e); omega)).mono ?_
    rintro e w10 ⟨u, hu, rfl, hr10, hg10⟩
    have hs10 : w6.heap.size + 1 ≤ w10.heap.size := by have := hg10.size; simpa using this
    have ST10 := Lib.hid ((ST6.out.alloc _).read hr10 hg10)
    have RY10 := Lib.hid ((RY6.out.alloc _).keep hg10 (by omega))
    clear ST6 RY6 hr10 hg10 hu
    go_wp2_with (at_builtin; (refine wpList_append_row _ rfl (.tmp 41) (.tmp 49) 24 rfl w2.heap.size 48 i0 (.agg #[.int .i64 0, .int .i64 0]) 2 16 Tryz.underlying24 i0_i i0_z0 i0_z1 i0_z2 rfl Y0 P.hs.length y0 (sc P.hs) (by first | rfl | simp) (RY10.out.alloc _) (some ⟨w10.heap.size, 0, none⟩) 1 1 [.int .i64 v, .int .i64 u] rfl rfl (Rd.two_ _ _ _ _) (two1_ _ _) (by omega) (by unfold maxLen; omega) (by omega) (by simp <;> omega) ?_))
    intro Y y w7 row7 hg7 hat7
    have hlt7 := RY10.out.lt
    have row7' : Row w7 w2.heap.size 48 2 Y (P.hs ++ [(v, u)]).length y (sc (P.hs ++ [(v, u)])) := by rw [← snocH P.hs v u _ rfl, List.length_append]; exact row7
    have ST7 := Lib.hid ((ST10.out.alloc _).grown (k := w2.heap.size) hg7 (fun z e => .inr ⟨(hlt7 z e).1, hgp2, LT.out.1, LT.out.2.1, LT.out.2.2⟩))
    have hgp7 : gp < w7.heap.size := ST7.out.blk.lt
    have APA := row_apart PR2.out.1 row7' (Nat.le_refl _)
    have APC := Apart.symm (row_apart PR2.out.2.2.1 row7' (Nat.le_refl _))
    have OFF : Off gp A a Y y C c := ⟨ST7.out.off.1, row7'.offNew hgp2, ST7.out.off.2.2⟩
    have ROWN : PRow w7 (w.heap.size + 1) ⟨P.mx, P.ids, P.hs ++ [(v, u)], P.wt⟩ A a Y y C c := ⟨ST7.out.row.1, row7'.mono (by omega), ST7.out.row.2.2.1, APA, ST7.out.row.2.2.2.2.1, APC⟩
    have ST := Lib.hid (ST7.out.cell (P' := ⟨P.mx, P.ids, P.hs ++ [(v, u)], P.wt⟩) 2 (.slice Y (P.hs ++ [(v, u)]).length y) (by rfl) ROWN OFF)
    have hll : (P.hs ++ [(v, u)]).length = P.hs.length + 1 := by simp
    rw [hll] at ST
    clear row7' row7 hg7 hat7 hlt7 OFF ROWN hll
    obtain ⟨k0, k1, k2, k3, kfz⟩ := blk4 ST7.out.blk
    obtain ⟨r0, r1, r2, r3, rfz⟩ := blk4 ST7.out.res
    clear ST7 ST10 RY10
    obtain ⟨w8, hw8⟩ : ∃ w8, w8 = w7.setCell ⟨gp, 2, none⟩ (.slice Y (P.hs.length + 1) y) := ⟨_, rfl⟩
    rw [← hw8] at ST
    go_upto_region 11 with fail
    rw [← hw8]
    clear hw8 k0 k1 k2 k3 kfz r0 r1 r2 r3 rfz
    obtain ⟨k0, k1, k2, k3, kfz⟩ := blk4 ST.out.blk
    obtain ⟨r0, r1, r2, r3, rfz⟩ := blk4 ST.out.res
    have ROW := Lib.hid ST.out.row; have OWN := Lib.hid ST.out.own
    clear ST
    go_wp2_with fail
    refine bodyPost_ret (v := .agg #[.int .i64 P.mx, .slice A P.ids.length a, .slice Y (P.hs.length + 1) y, .slice C P.wt.length c]) (by simp [results, Tryz.results28, go_sem, r0, r1, r2, r3, rfz]) rfl ?_
    refine ⟨A, a, Y, y, C, c, ⟨P.mx, P.ids, P.hs ++ [(v, u)], P.wt⟩, by simp only [List.length_append]; rfl, ⟨by show P.ids.length ≤ 21; omega, by simp only [List.length_append, List.length_singleton]; omega, by show P.wt.length ≤ 21; omega⟩, ?_, ?_⟩
    · refine PRow.mono (base := w.heap.size + 1) ?_ (by omega)
      iterate 4 (with_reducible refine PRow.setFar ?_ (by simp) _)
      exact ROW.out
    · have key : ∀ (V : World) (i : Nat) (u : Value), w.grownBy V (some g) → w.grownBy (V.setCell ⟨w.heap.size, i, none⟩ u) (some g) := fun V i u hV => only_setCell hV (.inr (Nat.le_refl _)) u
      exact key _ _ _ (key _ _ _ (key _ _ _ (key _ _ _ OWN.out)))

  have q0 : ((t : Int) == 0) = false := HB.out 0 t0
  have q1 : ((t : Int) == 1) = false := HB.out 1 t1
  have q2 : ((t : Int) == 2) = false := HB.out 2 t2
  have q3 : ((t : Int) == 3) = false := HB.out 3 t3
  clear k0 k1 k2 k3 kfz r0 r1 r2 r3 rfz
  obtain ⟨k0, k1, k2, k3, kfz⟩ := blk4 ST.out.blk
  obtain ⟨r0, r1, r2, r3, rfz⟩ := blk4 ST.out.res
  have ROW := Lib.hid ST.out.row; have OWN := Lib.hid ST.out.own
  clear ST
  go_wp2_with fail
  refine bodyPost_ret (v := .agg #[.int .i64 P.mx, .slice A P.ids.length a, .slice B P.hs.length b, .slice C P.wt.length c]) (by simp [results, Tryz.results28, go_sem, r0, r1, r2, r3, rfz]) rfl ?_
  refine ⟨A, a, B, b, C, c, P, rfl, ⟨by omega, by omega, by omega⟩, ?_, ?_⟩
  · refine PRow.mono (base := w.heap.size + 1) ?_ (by omega)
    iterate 4 (with_reducible refine PRow.setFar ?_ (by simp) _)
    exact ROW.out
  · have key : ∀ (V : World) (i : Nat) (u : Value), w.grownBy V (some g) → w.grownBy (V.setCell ⟨w.heap.size, i, none⟩ u) (some g) := fun V i u hV => only_setCell hV (.inr (Nat.le_refl _)) u
    exact key _ _ _ (key _ _ _ (key _ _ _ (key _ _ _ OWN.out)))

/-- What the laws draw: a pool of few elements in new memory. -/
def RetDP (w : World) (e : Ending) (w' : World) : Prop :=
  ∃ (A : Option Addr) (a : Nat) (B : Option Addr) (b : Nat) (C : Option Addr) (c : Nat) (P : Pl), e = .returned (.agg #[.int .i64 P.mx, .slice A P.ids.length a, .slice B P.hs.length b, .slice C P.wt.length c]) ∧ (P.ids.length ≤ 21 ∧ P.hs.length ≤ 21 ∧ P.wt.length ≤ 21) ∧ PRow w' w.heap.size P A a B b C c ∧ Below w.heap.size w w'
set_option maxRecDepth 100000 in
set_option maxHeartbeats 4000000 in
theorem drawFormatPool_c (zs : List Int) (A : Option Addr) (n c : Nat) (w : World) (hN : zs.length = n) (hc : n ≤ c) (hm : c ≤ maxLen) (h : Rd w A (zs.map (.int .u8))) (hz : ∀ z ∈ zs, 0 ≤ z ∧ z ≤ 255) :
    Calls Tryz.prog 11 #[.slice A n c] w (RetDP w) := by
  have BR0 := Lib.hid (Blk.new w 26 #[.int .i64 0, .slice none 0 0, .slice none 0 0, .slice none 0 0])
  have HR := Lib.hid (newReader_c zs A n c (w.alloc (.cells #[.int .i64 0, .slice none 0 0, .slice none 0 0, .slice none 0 0] 26)) hN hc hm (h.alloc _) hz)
  have HB0 := Lib.hid ((Below.refl w.heap.size w).alloc (Nat.le_refl _) (.cells #[.int .i64 0, .slice none 0 0, .slice none 0 0, .slice none 0 0] 26))
  clear h hz hN
  go_enter Tryz.func11, Tryz.ntmps11
  go_wp2_with fail
  refine HR.out.mono ?_
  rintro e w1 ⟨rfl, hr, hb⟩
  have hs0 := hb.size
  have hs1 : w.heap.size + 1 ≤ w1.heap.size := by simpa using hs0
  have HB1 := Lib.hid (HB0.out.trans (hb.mono (by simp)))
  have BR1 := Lib.hid (BR0.out.below hb (by simp))
  go_wp2_with fail
  obtain ⟨gr, hgr⟩ : ∃ gr, gr = (w.alloc (.cells #[.int .i64 0, .slice none 0 0, .slice none 0 0, .slice none 0 0] 26)).heap.size := ⟨_, rfl⟩
  rw [← hgr] at hr
  have hgr1 : gr = w.heap.size + 1 := by rw [hgr]; simp
  have hgr2 : (⟨(w.alloc (.cells #[.int .i64 0, .slice none 0 0, .slice none 0 0, .slice none 0 0] 26)).heap.size, 0, none⟩ : Addr) = ⟨gr, 0, none⟩ := by rw [hgr]
  try rw [hgr2]
  subst hgr1
  clear hgr hgr2 HR
  refine (anyPool_c _ _ _ _ hr (by omega)).mono ?_
  rintro e w2 ⟨A2, a2, B2, b2, C2, c2, P, rfl, hl, pr, g2⟩
  have HB2 := Lib.hid (HB1.out.trans (below_grown g2 (by omega) (by omega)))
  have BR2 := Lib.hid (BR1.out.grown g2 (by intro e; injection e; omega))
  have PR := Lib.hid (pr.mono hs1)
  have HL := Lib.hid hl
  obtain ⟨r0, r1, r2, r3, rfz⟩ := blk4 BR2.out
  clear hr g2 hb pr hl hs0 BR0 BR1 HB0 HB1 BR2
  go_wp2_with fail
  refine bodyPost_ret (v := .agg #[.int .i64 P.mx, .slice A2 P.ids.length a2, .slice B2 P.hs.length b2, .slice C2 P.wt.length c2]) (by simp [results, Tryz.results11, go_sem, r0, r1, r2, r3, rfz]) rfl ?_
  refine ⟨A2, a2, B2, b2, C2, c2, P, rfl, HL.out, ?_, ?_⟩
  · refine PRow.mono (base := w.heap.size + 1) ?_ (by omega)
    iterate 4 (with_reducible refine PRow.setFar ?_ (by simp) _)
    exact PR.out
  · iterate 4 (with_reducible refine Below.setCell ?_ (by simp) _)
    exact HB2.out
end Go.Proofs.YtnmgnhpagnjhlaaGreatDoor
