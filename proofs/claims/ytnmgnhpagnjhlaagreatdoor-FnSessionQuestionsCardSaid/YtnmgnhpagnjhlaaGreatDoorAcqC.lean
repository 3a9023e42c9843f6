/- An owner asks for a connection: the reference. -/
import Derived.Test.YtnmgnhpagnjhlaaGreatDoorAcq
set_option linter.unusedVariables false
set_option linter.unusedSimpArgs false
set_option linter.unnecessarySimpa false
namespace Go.Proofs.YtnmgnhpagnjhlaaGreatDoor
open Go.RowKit

set_option maxRecDepth 100000 in
set_option maxHeartbeats 8000000 in
theorem sAcquireConn_c (mx : Int) (ids : List Int) (hs : List Pr) (wt : List Int) (A : Option Addr) (n c : Nat) (B : Option Addr) (m d : Nat) (C : Option Addr) (k f : Nat) (w : World) (hA : ids.length = n) (hB : hs.length = m) (hC : wt.length = k)
    (h1 : Rd w A (ids.map (.int .i64))) (h2 : Rd w B (sc hs)) (h3 : Rd w C (wt.map (.int .i64))) (l1 : n ≤ 1073741824) (l2 : m ≤ 1073741824) (l3 : k ≤ 1073741824) (hcA : n ≤ c) (o : Int) :
    Calls Tryz.prog 84 #[.agg #[.int .i64 mx, .slice A n c, .slice B m d, .slice C k f], .int .i64 o] w (RetPCB (acqR ⟨mx, ids, hs, wt⟩ o).1 (acqR ⟨mx, ids, hs, wt⟩ o).2.1 (acqR ⟨mx, ids, hs, wt⟩ o).2.2 w) := by
  obtain ⟨w1, hw1⟩ : ∃ w1, w1 = (w.alloc (.cells #[.int .i64 mx, .slice A n c, .slice B m d, .slice C k f] 26)).alloc (.cells #[.int .i64 0, .slice none 0 0, .slice none 0 0, .slice none 0 0] 26) := ⟨_, rfl⟩
  have hg : w1.heap.size = w.heap.size + 1 + 1 := by rw [hw1]; simp
  have H1 := Lib.hid (show Rd w1 A _ by rw [hw1]; exact (h1.alloc _).alloc _)
  have H2 := Lib.hid (show Rd w1 B _ by rw [hw1]; exact (h2.alloc _).alloc _)
  have H3 := Lib.hid (show Rd w1 C _ by rw [hw1]; exact (h3.alloc _).alloc _)
  have BX := Lib.hid (show Blk w1 w.heap.size 26 #[.int .i64 mx, .slice A n c, .slice B m d, .slice C k f] by rw [hw1]; exact (Blk.new w _ _).alloc _)
  have BR := Lib.hid (show Blk w1 (w.heap.size + 1) 26 #[.int .i64 0, .slice none 0 0, .slice none 0 0, .slice none 0 0] by rw [hw1]; have := Blk.new (w.alloc (.cells #[.int .i64 mx, .slice A n c, .slice B m d, .slice C k f] 26)) 26 #[.int .i64 0, .slice none 0 0, .slice none 0 0, .slice none 0 0]; simpa using this)
  have B01 := Lib.hid (show Below w.heap.size w w1 by rw [hw1]; exact ((Below.refl _ _).alloc (Nat.le_refl _) _).alloc (by simp) _)
  have hgl : w.heap.size < w1.heap.size := by omega
  have hgr : w.heap.size + 1 < w1.heap.size := by omega
  have HV := Lib.hid (fun W q1 q2 q3 => sValidPool_c mx ids hs wt A n c B m d C k f W hA hB hC q1 q2 q3 l1 l2 l3)
  have HA := Lib.hid hA; have HB := Lib.hid hB; have HC := Lib.hid hC
  clear h1 h2 h3
  obtain ⟨k0, k1, k2, k3, _⟩ := blk4 BX.out
  obtain ⟨v, hv⟩ : ∃ v, v = Pl.valid ⟨mx, ids, hs, wt⟩ := ⟨_, rfl⟩
  rw [← hv] at HV
  cases v
  · have HRES : Hid (acqR ⟨mx, ids, hs, wt⟩ o = (Pl.zero, -1, false)) := by show _ = _; unfold acqR; rw [if_neg (fun h => by rw [← hv] at h; cases h.1)]
    rw [HRES.out]
    clear hA hB hC hv
    go_enter Tryz.func84, Tryz.ntmps84
    go_wp2_with fail
    rw [← hw1]
    clear hw1
    refine (HV.out _ H1.out H2.out H3.out).mono ?_
    rintro e wA ⟨rfl, bA⟩
    have FR0 := Lib.hid bA
    have hsA : w1.heap.size ≤ wA.heap.size := bA.size
    clear k0 k1 k2 k3 bA
    obtain ⟨k0, k1, k2, k3, _⟩ := blk4 (BX.out.below FR0.out hgl)
    obtain ⟨r0, r1, r2, r3, rfz⟩ := blk4 (BR.out.below FR0.out hgr)
    go_wp2_with fail
    refine bodyPost_ret (v := .tuple #[.agg #[.int .i64 0, .slice none 0 0, .slice none 0 0, .slice none 0 0], .int .i64 (-1), .bool false]) (by simp [results, Tryz.results84, go_sem, r0, r1, r2, r3, rfz]) rfl ?_
    refine ⟨none, 0, none, 0, none, 0, rfl, PRow.zero _ _, ?_⟩
    repeat (with_reducible refine Below.setCell ?_ (by simp <;> omega) _)
    exact B01.out.trans (FR0.out.mono (by omega))
  · have hgood : Pl.Good ⟨mx, ids, hs, wt⟩ := valid_good.1 hv.symm
    have hmx := hgood.2.2.1
    simp only at hmx
    obtain ⟨M, hM⟩ : ∃ M : Nat, mx = M := ⟨mx.toNat, by omega⟩
    subst hM
    have HI := Lib.hid (fun W => inRange_c o 0 4 W)
    by_cases ho : 0 ≤ o ∧ o ≤ 4
    · rw [decide_eq_true ho] at HI
      obtain ⟨q, hq⟩ : ∃ q, q = (acqV ⟨M, ids, hs, wt⟩ o).1 := ⟨_, rfl⟩
      obtain ⟨cn, hcn⟩ : ∃ cn, cn = (acqV ⟨M, ids, hs, wt⟩ o).2 := ⟨_, rfl⟩
      have HQ := Lib.hid (fun W q1 q2 q3 => sAcquire_c M ids hs wt A n c B m d C k f W hA hB hC q1 q2 q3 l1 l2 l3 hcA o hgood)
      rw [← hq, ← hcn] at HQ
      have hql : q.few := by rw [hq]; exact acqV_small hgood o
      obtain ⟨lq1, lq2, lq3⟩ := hql
      have HV2 := Lib.hid (fun A c B d C f W q1 q2 q3 => sValidPool_c q.mx q.ids q.hs q.wt A _ c B _ d C _ f W rfl rfl rfl q1 q2 q3 (by omega) (by omega) (by omega))
      obtain ⟨v2, hv2⟩ : ∃ v2, v2 = Pl.valid ⟨q.mx, q.ids, q.hs, q.wt⟩ := ⟨_, rfl⟩
      rw [← hv2] at HV2
      have HRES : Hid (acqR ⟨M, ids, hs, wt⟩ o = if v2 = true then (q, cn, true) else (Pl.zero, -1, false)) := by
        show _ = _
        have e : Pl.valid ⟨q.mx, q.ids, q.hs, q.wt⟩ = q.valid := rfl
        rw [e] at hv2
        unfold acqR
        rw [← hq, ← hcn, ← hv2]
        cases v2
        · rw [if_neg (fun h => by cases h.2.2), if_neg (fun h => by cases h)]
        · rw [if_pos ⟨hv.symm, ho, rfl⟩, if_pos rfl]
      clear hA hB hC hv hgood hmx ho hq hcn hv2
      cases v2
      · rw [if_neg (fun h => by cases h)] at HRES
        rw [HRES.out]
        go_enter Tryz.func84, Tryz.ntmps84
        go_wp2_with fail
        rw [← hw1]
        clear hw1
        refine (HV.out _ H1.out H2.out H3.out).mono ?_
        rintro e wA ⟨rfl, bA⟩
        have FR0 := Lib.hid bA
        have hsA : w1.heap.size ≤ wA.heap.size := bA.size
        clear k0 k1 k2 k3 bA
        obtain ⟨k0, k1, k2, k3, _⟩ := blk4 (BX.out.below FR0.out hgl)
        obtain ⟨r0, r1, r2, r3, rfz⟩ := blk4 (BR.out.below FR0.out hgr)
        go_wp2_with fail
        refine (HI.out _).mono ?_
        rintro e wI ⟨rfl, rfl⟩
        go_wp2_with fail
        refine (HQ.out _ (H1.out.below FR0.out) (H2.out.below FR0.out) (H3.out.below FR0.out)).mono ?_
        rintro e wB ⟨Q1, q1, Q2, q2, Q3, q3, rfl, pr, bB⟩
        obtain ⟨wO, hwO⟩ : ∃ wO, wO = wB.alloc (.cells #[.int .i64 q.mx, .slice Q1 q.ids.length q1, .slice Q2 q.hs.length q2, .slice Q3 q.wt.length q3] 26) := ⟨_, rfl⟩
        have FR1 := Lib.hid (FR0.out.trans (bB.mono hsA))
        have hsB : w1.heap.size ≤ wB.heap.size := FR1.out.size
        have hgBx : w.heap.size < wB.heap.size := by omega
        have hsO : wO.heap.size = wB.heap.size + 1 := by rw [hwO]; simp
        have hgO : wB.heap.size < wO.heap.size := by omega
        have BO0 := Lib.hid (show Blk wO wB.heap.size 26 #[.int .i64 q.mx, .slice Q1 q.ids.length q1, .slice Q2 q.hs.length q2, .slice Q3 q.wt.length q3] by rw [hwO]; exact Blk.new wB _ _)
        have FR2 := Lib.hid (show Below w1.heap.size w1 wO by rw [hwO]; exact FR1.out.alloc hsB _)
        have PR0 := Lib.hid (show PRow wO w1.heap.size q Q1 q1 Q2 q2 Q3 q3 by rw [hwO]; exact (pr.mono hsA).alloc _)
        clear pr bB
        clear k0 k1 k2 k3 r0 r1 r2 r3 rfz
        obtain ⟨k0, k1, k2, k3, _⟩ := blk4 (BX.out.below FR1.out hgl)
        obtain ⟨r0, r1, r2, r3, rfz⟩ := blk4 (BR.out.below FR1.out hgr)
        go_wp2_with fail
        rw [← hwO]
        clear hwO
        refine (HV2.out _ _ _ _ _ _ _ PR0.out.1.rd PR0.out.2.1.rd PR0.out.2.2.1.rd).mono ?_
        rintro e wC ⟨rfl, bC⟩
        have FR3 := Lib.hid (FR2.out.trans (bC.mono FR2.out.size))
        have BO1 := Lib.hid (BO0.out.below bC hgO)
        have PR1 := Lib.hid (PR0.out.below bC)
        have hsC : wB.heap.size < wC.heap.size := Nat.lt_of_lt_of_le hgO bC.size
        clear bC
        clear k0 k1 k2 k3 r0 r1 r2 r3 rfz
        obtain ⟨k0, k1, k2, k3, _⟩ := blk4 (BX.out.below FR3.out hgl)
        obtain ⟨r0, r1, r2, r3, rfz⟩ := blk4 (BR.out.below FR3.out hgr)
        obtain ⟨o0, o1, o2, o3, ofz⟩ := blk4 BO1.out
        go_wp2_with fail
        refine bodyPost_ret (v := .tuple #[.agg #[.int .i64 0, .slice none 0 0, .slice none 0 0, .slice none 0 0], .int .i64 (-1), .bool false]) (by simp [results, Tryz.results84, go_sem, r0, r1, r2, r3, rfz]) rfl ?_
        refine ⟨none, 0, none, 0, none, 0, rfl, PRow.zero _ _, ?_⟩
        repeat (with_reducible refine Below.setCell ?_ (by simp <;> omega) _)
        exact B01.out.trans (FR3.out.mono (by omega))
      · rw [if_pos rfl] at HRES
        rw [HRES.out]
        go_enter Tryz.func84, Tryz.ntmps84
        go_wp2_with fail
        rw [← hw1]
        clear hw1
        refine (HV.out _ H1.out H2.out H3.out).mono ?_
        rintro e wA ⟨rfl, bA⟩
        have FR0 := Lib.hid bA
        have hsA : w1.heap.size ≤ wA.heap.size := bA.size
        clear k0 k1 k2 k3 bA
        obtain ⟨k0, k1, k2, k3, _⟩ := blk4 (BX.out.below FR0.out hgl)
        obtain ⟨r0, r1, r2, r3, rfz⟩ := blk4 (BR.out.below FR0.out hgr)
        go_wp2_with fail
        refine (HI.out _).mono ?_
        rintro e wI ⟨rfl, rfl⟩
        go_wp2_with fail
        refine (HQ.out _ (H1.out.below FR0.out) (H2.out.below FR0.out) (H3.out.below FR0.out)).mono ?_
        rintro e wB ⟨Q1, q1, Q2, q2, Q3, q3, rfl, pr, bB⟩
        obtain ⟨wO, hwO⟩ : ∃ wO, wO = wB.alloc (.cells #[.int .i64 q.mx, .slice Q1 q.ids.length q1, .slice Q2 q.hs.length q2, .slice Q3 q.wt.length q3] 26) := ⟨_, rfl⟩
        have FR1 := Lib.hid (FR0.out.trans (bB.mono hsA))
        have hsB : w1.heap.size ≤ wB.heap.size := FR1.out.size
        have hgBx : w.heap.size < wB.heap.size := by omega
        have hsO : wO.heap.size = wB.heap.size + 1 := by rw [hwO]; simp
        have hgO : wB.heap.size < wO.heap.size := by omega
        have BO0 := Lib.hid (show Blk wO wB.heap.size 26 #[.int .i64 q.mx, .slice Q1 q.ids.length q1, .slice Q2 q.hs.length q2, .slice Q3 q.wt.length q3] by rw [hwO]; exact Blk.new wB _ _)
        have FR2 := Lib.hid (show Below w1.heap.size w1 wO by rw [hwO]; exact FR1.out.alloc hsB _)
        have PR0 := Lib.hid (show PRow wO w1.heap.size q Q1 q1 Q2 q2 Q3 q3 by rw [hwO]; exact (pr.mono hsA).alloc _)
        clear pr bB
        clear k0 k1 k2 k3 r0 r1 r2 r3 rfz
        obtain ⟨k0, k1, k2, k3, _⟩ := blk4 (BX.out.below FR1.out hgl)
        obtain ⟨r0, r1, r2, r3, rfz⟩ := blk4 (BR.out.below FR1.out hgr)
        go_wp2_with fail
        rw [← hwO]
        clear hwO
        refine (HV2.out _ _ _ _ _ _ _ PR0.out.1.rd PR0.out.2.1.rd PR0.out.2.2.1.rd).mono ?_
        rintro e wC ⟨rfl, bC⟩
        have FR3 := Lib.hid (FR2.out.trans (bC.mono FR2.out.size))
        have BO1 := Lib.hid (BO0.out.below bC hgO)
        have PR1 := Lib.hid (PR0.out.below bC)
        have hsC : wB.heap.size < wC.heap.size := Nat.lt_of_lt_of_le hgO bC.size
        clear bC
        clear k0 k1 k2 k3 r0 r1 r2 r3 rfz
        obtain ⟨k0, k1, k2, k3, _⟩ := blk4 (BX.out.below FR3.out hgl)
        obtain ⟨r0, r1, r2, r3, rfz⟩ := blk4 (BR.out.below FR3.out hgr)
        obtain ⟨o0, o1, o2, o3, ofz⟩ := blk4 BO1.out
        go_wp2_with fail
        refine bodyPost_ret (v := .tuple #[.agg #[.int .i64 q.mx, .slice Q1 q.ids.length q1, .slice Q2 q.hs.length q2, .slice Q3 q.wt.length q3], .int .i64 cn, .bool true]) (by simp [results, Tryz.results84, go_sem, r0, r1, r2, r3, rfz]) rfl ?_
        refine ⟨_, _, _, _, _, _, rfl, ?_, ?_⟩
        · refine PRow.mono (base := w1.heap.size) ?_ (by omega)
          iterate 4 (with_reducible refine PRow.setFar ?_ (by simp <;> omega) _)
          exact PR1.out
        · repeat (with_reducible refine Below.setCell ?_ (by simp <;> omega) _)
          exact B01.out.trans (FR3.out.mono (by omega))
    · rw [decide_eq_false ho] at HI
      have HRES : Hid (acqR ⟨M, ids, hs, wt⟩ o = (Pl.zero, -1, false)) := by show _ = _; unfold acqR; rw [if_neg (fun h => ho h.2.1)]
      rw [HRES.out]
      clear hA hB hC hv hgood hmx ho
      go_enter Tryz.func84, Tryz.ntmps84
      go_wp2_with fail
      rw [← hw1]
      clear hw1
      refine (HV.out _ H1.out H2.out H3.out).mono ?_
      rintro e wA ⟨rfl, bA⟩
      have FR0 := Lib.hid bA
      have hsA : w1.heap.size ≤ wA.heap.size := bA.size
      clear k0 k1 k2 k3 bA
      obtain ⟨k0, k1, k2, k3, _⟩ := blk4 (BX.out.below FR0.out hgl)
      obtain ⟨r0, r1, r2, r3, rfz⟩ := blk4 (BR.out.below FR0.out hgr)
      go_wp2_with fail
      refine (HI.out _).mono ?_
      rintro e wI ⟨rfl, rfl⟩
      go_wp2_with fail
      refine bodyPost_ret (v := .tuple #[.agg #[.int .i64 0, .slice none 0 0, .slice none 0 0, .slice none 0 0], .int .i64 (-1), .bool false]) (by simp [results, Tryz.results84, go_sem, r0, r1, r2, r3, rfz]) rfl ?_
      refine ⟨none, 0, none, 0, none, 0, rfl, PRow.zero _ _, ?_⟩
      repeat (with_reducible refine Below.setCell ?_ (by simp <;> omega) _)
      exact B01.out.trans (FR0.out.mono (by omega))
end Go.Proofs.YtnmgnhpagnjhlaaGreatDoor
