/- Idle connections are closed, connections of an owner are named: the reference. -/
import Derived.Test.YtnmgnhpagnjhlaaGreatDoorAcq
import Derived.Deep.Cut
set_option linter.unusedVariables false
set_option linter.unusedSimpArgs false
set_option linter.unnecessarySimpa false
namespace Go.Proofs.YtnmgnhpagnjhlaaGreatDoor
open Go.RowKit

set_option maxRecDepth 100000 in
set_option maxHeartbeats 8000000 in
theorem sCloseIdle_c (mx : Int) (ids : List Int) (hs : List Pr) (wt : List Int) (A : Option Addr) (n c : Nat) (B : Option Addr) (m d : Nat) (C : Option Addr) (k f : Nat) (w : World) (hA : ids.length = n) (hB : hs.length = m) (hC : wt.length = k)
    (h1 : Rd w A (ids.map (.int .i64))) (h2 : Rd w B (sc hs)) (h3 : Rd w C (wt.map (.int .i64))) (l1 : n ≤ 1073741824) (l2 : m ≤ 1073741824) (l3 : k ≤ 1073741824) (hcA : n ≤ c) (v : Int) :
    Calls Tryz.prog 116 #[.agg #[.int .i64 mx, .slice A n c, .slice B m d, .slice C k f], .int .i64 v] w (RetPC (closeR ⟨mx, ids, hs, wt⟩ v).1 (closeR ⟨mx, ids, hs, wt⟩ v).2 w) := by
  obtain ⟨w1, hw1⟩ : ∃ w1, w1 = (w.alloc (.cells #[.int .i64 mx, .slice A n c, .slice B m d, .slice C k f] 26)).alloc (.cells #[.int .i64 0, .slice none 0 0, .slice none 0 0, .slice none 0 0] 26) := ⟨_, rfl⟩
  have hg : w1.heap.size = w.heap.size + 1 + 1 := by rw [hw1]; simp
  have H1 := Lib.hid (show Rd w1 A _ by rw [hw1]; exact (h1.alloc _).alloc _)
  have H2 := Lib.hid (show Rd w1 B _ by rw [hw1]; exact (h2.alloc _).alloc _)
  have H3 := Lib.hid (show Rd w1 C _ by rw [hw1]; exact (h3.alloc _).alloc _)
  have BX := Lib.hid (show Blk w1 w.heap.size 26 #[.int .i64 mx, .slice A n c, .slice B m d, .slice C k f] by rw [hw1]; exact (Blk.new w _ _).alloc _)
  have BR := Lib.hid (show Blk w1 (w.heap.size + 1) 26 #[.int .i64 0, .slice none 0 0, .slice none 0 0, .slice none 0 0] by rw [hw1]; have := Blk.new (w.alloc (.cells #[.int .i64 mx, .slice A n c, .slice B m d, .slice C k f] 26)) 26 #[.int .i64 0, .slice none 0 0, .slice none 0 0, .slice none 0 0]; simpa using this)
  have B01 := Lib.hid (show Below w.heap.size w w1 by rw [hw1]; exact ((Below.refl _ _).alloc (Nat.le_refl _) _).alloc (by simp) _)
  have hgl : w.heap.size < w1.heap.size := by omega
  have hgr : w.heap.size + 1 < w1.heap.size := by omega
  have HV := Lib.hid (fun W q1 q2 q3 => sValidPool_c mx ids hs wt A n c B m d C k f W hA hB hC q1 q2 q3 l1 l2 l3)
  have HCP := Lib.hid (fun W q1 q2 q3 => copyPool_c mx ids hs wt A n c B m d C k f W hA hB hC q1 q2 q3 l1 l2 l3)
  have HA := Lib.hid hA; have HB := Lib.hid hB; have HC := Lib.hid hC
  clear h1 h2 h3
  obtain ⟨k0, k1, k2, k3, _⟩ := blk4 BX.out
  obtain ⟨vd, hv⟩ : ∃ vd, vd = Pl.valid ⟨mx, ids, hs, wt⟩ := ⟨_, rfl⟩
  rw [← hv] at HV
  cases vd
  · have HRES : Hid (closeR ⟨mx, ids, hs, wt⟩ v = (Pl.zero, -1)) := by show _ = _; unfold closeR; rw [if_neg (fun h => by rw [← hv] at h; cases h.1)]
    rw [HRES.out]
    clear hA hB hC hv
    go_enter Tryz.func116, Tryz.ntmps116
    go_wp2_with fail
    rw [← hw1]
    clear hw1
    refine (HV.out _ H1.out H2.out H3.out).mono ?_
    rintro e wA ⟨rfl, bA⟩
    have FR0 := Lib.hid bA
    have hsA : w1.heap.size ≤ wA.heap.size := bA.size
    clear k0 k1 k2 k3 bA
    obtain ⟨k0, k1, k2, k3, _⟩ := blk4 (BX.out.below FR0.out hgl)
    obtain ⟨r0, r1, r2, r3, rfz⟩ := blk4 (BR.out.below FR0.out hgr)
    go_wp2_with fail
    refine bodyPost_ret (v := .tuple #[.agg #[.int .i64 0, .slice none 0 0, .slice none 0 0, .slice none 0 0], .int .i64 (-1)]) (by simp [results, Tryz.results116, go_sem, r0, r1, r2, r3, rfz]) rfl ?_
    refine ⟨none, 0, none, 0, none, 0, rfl, PRow.zero _ _, ?_⟩
    iterate 4 (with_reducible refine Below.setCell ?_ (by simp <;> omega) _)
    exact B01.out.trans (FR0.out.mono (by omega))
  · by_cases hz : v < 0
    · have hzd : decide (v < 0) = true := decide_eq_true hz
      have HRES : Hid (closeR ⟨mx, ids, hs, wt⟩ v = (Pl.zero, -1)) := by show _ = _; unfold closeR; rw [if_neg (fun h => by omega)]
      rw [HRES.out]
      clear hA hB hC hv hz
      go_enter Tryz.func116, Tryz.ntmps116
      go_wp2_with fail
      rw [← hw1]
      clear hw1
      refine (HV.out _ H1.out H2.out H3.out).mono ?_
      rintro e wA ⟨rfl, bA⟩
      have FR0 := Lib.hid bA
      have hsA : w1.heap.size ≤ wA.heap.size := bA.size
      clear k0 k1 k2 k3 bA
      obtain ⟨k0, k1, k2, k3, _⟩ := blk4 (BX.out.below FR0.out hgl)
      obtain ⟨r0, r1, r2, r3, rfz⟩ := blk4 (BR.out.below FR0.out hgr)
      go_wp2_with fail
      refine bodyPost_ret (v := .tuple #[.agg #[.int .i64 0, .slice none 0 0, .slice none 0 0, .slice none 0 0], .int .i64 (-1)]) (by simp [results, Tryz.results116, go_sem, r0, r1, r2, r3, rfz]) rfl ?_
      refine ⟨none, 0, none, 0, none, 0, rfl, PRow.zero _ _, ?_⟩
      iterate 4 (with_reducible refine Below.setCell ?_ (by simp <;> omega) _)
      exact B01.out.trans (FR0.out.mono (by omega))
    · have hzd : decide (v < 0) = false := decide_eq_false hz
      have hsm := (valid_good.1 hv.symm).small
      simp only at hsm
      have lA : ids.length ≤ 6 := by omega
      rcases Int.lt_trichotomy v (n : Int) with hvn | hvn | hvn
      · obtain ⟨j, rfl⟩ : ∃ j : Nat, v = j := ⟨v.toNat, by omega⟩
        have hj0 : (0 : Int) ≤ (j : Int) := by omega
        have hjn : j < n := by omega
        have hjI : (j : Int) ≤ (n : Int) := by omega
        obtain ⟨L, hL⟩ : ∃ L, L = ids.drop j := ⟨_, rfl⟩
        have hLl : L.length = n - j := by rw [hL, List.length_drop]; omega
        have HRES : Hid (closeR ⟨mx, ids, hs, wt⟩ (j : Int) = ((⟨mx, L, hs, wt⟩ : Pl), ((j : Nat) : Int))) := by
          show _ = _
          unfold closeR
          rw [if_pos (show Pl.valid (Pl.mk mx ids hs wt) = true ∧ 0 ≤ (j : Int) from ⟨hv.symm, by omega⟩)]
          simp only
          rw [show min (Int.toNat (j : Int)) ids.length = j by omega, ← hL]
        rw [HRES.out]
        obtain ⟨AD, hAD⟩ : ∃ AD, (if c = j then A else A.map (·.add j)) = AD := ⟨_, rfl⟩
        have CUT : Hid (∀ W, Below w1.heap.size w1 W → Rd W AD (L.map (.int .i64))) := by
          intro W hW
          have h1 := (H1.out.below hW).cut (n := n) (k := j) (cap := c) (by simp <;> omega) (by omega) (by omega)
          rw [hL, List.map_drop, ← hAD]
          exact h1
        have HCI := Lib.hid (fun W q => copyInts_c L AD (n - j) (c - j) W hLl q (by omega))
        have hncI : (n : Int) ≤ (c : Int) := by omega
        have lL : L.length ≤ 6 := by omega
        clear hA hB hC hv hz hsm hL hLl
        have hAD2 : Option.map (fun x => x.add j) A = AD := by rw [← hAD, if_neg (by omega)]
        go_enter Tryz.func116, Tryz.ntmps116
        go_wp2_with fail
        rw [← hw1]
        clear hw1
        refine (HV.out _ H1.out H2.out H3.out).mono ?_
        rintro e wA ⟨rfl, bA⟩
        have FR0 := Lib.hid bA
        have hsA : w1.heap.size ≤ wA.heap.size := bA.size
        clear k0 k1 k2 k3 bA
        obtain ⟨k0, k1, k2, k3, _⟩ := blk4 (BX.out.below FR0.out hgl)
        obtain ⟨r0, r1, r2, r3, rfz⟩ := blk4 (BR.out.below FR0.out hgr)
        go_wp2_with fail
        refine (HCP.out _ (H1.out.below FR0.out) (H2.out.below FR0.out) (H3.out.below FR0.out)).mono ?_
        rintro e wB ⟨A1, a1, A2, a2, A3, a3, rfl, pr, bB⟩
        simp only at pr ⊢
        obtain ⟨wO, hwO⟩ : ∃ wO, wO = wB.alloc (.cells #[.int .i64 mx, .slice A1 ids.length a1, .slice A2 hs.length a2, .slice A3 wt.length a3] 26) := ⟨_, rfl⟩
        have hsO : wO.heap.size = wB.heap.size + 1 := by rw [hwO]; simp
        have FR1 := Lib.hid (FR0.out.trans (bB.mono FR0.out.size))
        have hsB : w1.heap.size ≤ wB.heap.size := FR1.out.size
        have BO2 := Lib.hid (show Blk wO wB.heap.size 26 #[.int .i64 mx, .slice A1 ids.length a1, .slice A2 hs.length a2, .slice A3 wt.length a3] by rw [hwO]; exact Blk.new wB _ _)
        have FR2 := Lib.hid (show Below w1.heap.size w1 wO by rw [hwO]; exact FR1.out.alloc hsB _)
        have PR2 := Lib.hid (show PRow wO w1.heap.size _ A1 a1 A2 a2 A3 a3 by rw [hwO]; exact (pr.mono hsA).alloc _)
        have OF2 := Lib.hid (show Off wB.heap.size A1 a1 A2 a2 A3 a3 from pr.off (Nat.le_refl _))
        have hgO : wB.heap.size < wO.heap.size := by omega
        have hgl4 : w.heap.size < wO.heap.size := by omega
        clear pr bB k0 k1 k2 k3 r0 r1 r2 r3 rfz
        go_upto_region 5 with fail
        rw [← hwO]
        clear hwO hsO
        obtain ⟨k0, k1, k2, k3, _⟩ := blk4 (BX.out.below FR2.out hgl)
        obtain ⟨r0, r1, r2, r3, rfz⟩ := blk4 (BR.out.below FR2.out hgr)
        obtain ⟨o0, o1, o2, o3, ofz⟩ := blk4 BO2.out
        go_wp2_with fail
        refine (HCI.out _ (CUT.out _ FR2.out)).mono ?_
        rintro e wC ⟨Y, y, rfl, rY, bC⟩
        obtain ⟨w5, hw5⟩ : ∃ w5, w5 = wC.setCell ⟨wB.heap.size, 1, none⟩ (.slice Y L.length y) := ⟨_, rfl⟩
        have h5s : w5.heap.size = wC.heap.size := by rw [hw5]; simp [World.setCell]
        have hsC : wO.heap.size ≤ wC.heap.size := bC.size
        have BOC := Lib.hid (BO2.out.below bC hgO)
        have FRC := Lib.hid (FR2.out.trans (bC.mono FR2.out.size))
        have BO3 := Lib.hid (show Blk w5 wB.heap.size 26 #[.int .i64 mx, .slice Y L.length y, .slice A2 hs.length a2, .slice A3 wt.length a3] by rw [hw5]; exact BOC.out.set_ 1 _)
        have FR3 := Lib.hid (show Below w1.heap.size w1 w5 by rw [hw5]; exact FRC.out.setCell (by simp <;> omega) _)
        have OF3 := Lib.hid (show Off wB.heap.size Y y A2 a2 A3 a3 from ⟨rY.offNew hgO, OF2.out.2.1, OF2.out.2.2⟩)
        have PR3 := Lib.hid (show PRow w5 w1.heap.size ⟨mx, L, hs, wt⟩ Y y A2 a2 A3 a3 by rw [hw5]; exact (PR2.out.newI bC rY FR2.out.size).set (q := ⟨wB.heap.size, _, none⟩) OF3.out _)
        have hg5 : wB.heap.size < w5.heap.size := by omega
        have hgl5 : w.heap.size < w5.heap.size := by omega
        clear rY bC k0 k1 k2 k3 r0 r1 r2 r3 rfz o0 o1 o2 o3 ofz
        obtain ⟨o0, o1, o2, o3, ofz⟩ := blk4 BOC.out
        go_upto_region 6 with fail
        rw [← hw5]
        clear hw5 h5s o0 o1 o2 o3 ofz
        obtain ⟨k0, k1, k2, k3, _⟩ := blk4 (BX.out.below FR3.out hgl)
        obtain ⟨r0, r1, r2, r3, rfz⟩ := blk4 (BR.out.below FR3.out hgr)
        obtain ⟨o0, o1, o2, o3, ofz⟩ := blk4 BO3.out
        go_wp2_with fail
        refine bodyPost_ret (v := .tuple #[.agg #[.int .i64 mx, .slice Y L.length y, .slice A2 hs.length a2, .slice A3 wt.length a3], .int .i64 (j : Nat)]) (by simp [results, Tryz.results116, go_sem, r0, r1, r2, r3, rfz]) rfl ?_
        refine ⟨Y, y, A2, a2, A3, a3, rfl, ?_, ?_⟩
        · refine PRow.mono (base := w1.heap.size) ?_ (by omega)
          iterate 4 (with_reducible refine PRow.setFar ?_ (by simp <;> omega) _)
          exact PR3.out
        · iterate 4 (with_reducible refine Below.setCell ?_ (by simp <;> omega) _)
          exact B01.out.trans (FR3.out.mono (by omega))
      · subst hvn
        obtain ⟨L, hL⟩ : ∃ L, L = ids.drop n := ⟨_, rfl⟩
        have hLl : L.length = 0 := by rw [hL, List.length_drop]; omega
        have HRES : Hid (closeR ⟨mx, ids, hs, wt⟩ (n : Int) = ((⟨mx, L, hs, wt⟩ : Pl), ((n : Nat) : Int))) := by
          show _ = _
          unfold closeR
          rw [if_pos (show Pl.valid (Pl.mk mx ids hs wt) = true ∧ 0 ≤ (n : Int) from ⟨hv.symm, by omega⟩)]
          simp only
          rw [show min (Int.toNat (n : Int)) ids.length = n by omega, ← hL]
        rw [HRES.out]
        obtain ⟨AD, hAD⟩ : ∃ AD, (if c = n then A else A.map (·.add n)) = AD := ⟨_, rfl⟩
        have CUT : Hid (∀ W, Below w1.heap.size w1 W → Rd W AD (L.map (.int .i64))) := by
          intro W hW
          have h1 := (H1.out.below hW).cut (n := n) (k := n) (cap := c) (by simp <;> omega) (by omega) (by omega)
          rw [hL, List.map_drop, ← hAD]
          exact h1
        have HCI := Lib.hid (fun W q => copyInts_c L AD (0) (c - n) W hLl q (by omega))
        have hncI : (n : Int) ≤ (c : Int) := by omega
        have lL : L.length ≤ 6 := by omega
        clear hA hB hC hv hz hsm hL hLl
        go_enter Tryz.func116, Tryz.ntmps116
        go_wp2_with fail
        rw [← hw1]
        clear hw1
        refine (HV.out _ H1.out H2.out H3.out).mono ?_
        rintro e wA ⟨rfl, bA⟩
        have FR0 := Lib.hid bA
        have hsA : w1.heap.size ≤ wA.heap.size := bA.size
        clear k0 k1 k2 k3 bA
        obtain ⟨k0, k1, k2, k3, _⟩ := blk4 (BX.out.below FR0.out hgl)
        obtain ⟨r0, r1, r2, r3, rfz⟩ := blk4 (BR.out.below FR0.out hgr)
        go_wp2_with fail
        refine (HCP.out _ (H1.out.below FR0.out) (H2.out.below FR0.out) (H3.out.below FR0.out)).mono ?_
        rintro e wB ⟨A1, a1, A2, a2, A3, a3, rfl, pr, bB⟩
        simp only at pr ⊢
        obtain ⟨wO, hwO⟩ : ∃ wO, wO = wB.alloc (.cells #[.int .i64 mx, .slice A1 ids.length a1, .slice A2 hs.length a2, .slice A3 wt.length a3] 26) := ⟨_, rfl⟩
        have hsO : wO.heap.size = wB.heap.size + 1 := by rw [hwO]; simp
        have FR1 := Lib.hid (FR0.out.trans (bB.mono FR0.out.size))
        have hsB : w1.heap.size ≤ wB.heap.size := FR1.out.size
        have BO2 := Lib.hid (show Blk wO wB.heap.size 26 #[.int .i64 mx, .slice A1 ids.length a1, .slice A2 hs.length a2, .slice A3 wt.length a3] by rw [hwO]; exact Blk.new wB _ _)
        have FR2 := Lib.hid (show Below w1.heap.size w1 wO by rw [hwO]; exact FR1.out.alloc hsB _)
        have PR2 := Lib.hid (show PRow wO w1.heap.size _ A1 a1 A2 a2 A3 a3 by rw [hwO]; exact (pr.mono hsA).alloc _)
        have OF2 := Lib.hid (show Off wB.heap.size A1 a1 A2 a2 A3 a3 from pr.off (Nat.le_refl _))
        have hgO : wB.heap.size < wO.heap.size := by omega
        have hgl4 : w.heap.size < wO.heap.size := by omega
        clear pr bB k0 k1 k2 k3 r0 r1 r2 r3 rfz
        go_upto_region 5 with fail
        rw [← hwO]
        clear hwO hsO
        obtain ⟨k0, k1, k2, k3, _⟩ := blk4 (BX.out.below FR2.out hgl)
        obtain ⟨r0, r1, r2, r3, rfz⟩ := blk4 (BR.out.below FR2.out hgr)
        obtain ⟨o0, o1, o2, o3, ofz⟩ := blk4 BO2.out
        go_wp2_with fail
        refine (HCI.out _ (CUT.out _ FR2.out)).mono ?_
        rintro e wC ⟨Y, y, rfl, rY, bC⟩
        obtain ⟨w5, hw5⟩ : ∃ w5, w5 = wC.setCell ⟨wB.heap.size, 1, none⟩ (.slice Y L.length y) := ⟨_, rfl⟩
        have h5s : w5.heap.size = wC.heap.size := by rw [hw5]; simp [World.setCell]
        have hsC : wO.heap.size ≤ wC.heap.size := bC.size
        have BOC := Lib.hid (BO2.out.below bC hgO)
        have FRC := Lib.hid (FR2.out.trans (bC.mono FR2.out.size))
        have BO3 := Lib.hid (show Blk w5 wB.heap.size 26 #[.int .i64 mx, .slice Y L.length y, .slice A2 hs.length a2, .slice A3 wt.length a3] by rw [hw5]; exact BOC.out.set_ 1 _)
        have FR3 := Lib.hid (show Below w1.heap.size w1 w5 by rw [hw5]; exact FRC.out.setCell (by simp <;> omega) _)
        have OF3 := Lib.hid (show Off wB.heap.size Y y A2 a2 A3 a3 from ⟨rY.offNew hgO, OF2.out.2.1, OF2.out.2.2⟩)
        have PR3 := Lib.hid (show PRow w5 w1.heap.size ⟨mx, L, hs, wt⟩ Y y A2 a2 A3 a3 by rw [hw5]; exact (PR2.out.newI bC rY FR2.out.size).set (q := ⟨wB.heap.size, _, none⟩) OF3.out _)
        have hg5 : wB.heap.size < w5.heap.size := by omega
        have hgl5 : w.heap.size < w5.heap.size := by omega
        clear rY bC k0 k1 k2 k3 r0 r1 r2 r3 rfz o0 o1 o2 o3 ofz
        obtain ⟨o0, o1, o2, o3, ofz⟩ := blk4 BOC.out
        go_upto_region 6 with fail
        rw [← hw5]
        clear hw5 h5s o0 o1 o2 o3 ofz
        obtain ⟨k0, k1, k2, k3, _⟩ := blk4 (BX.out.below FR3.out hgl)
        obtain ⟨r0, r1, r2, r3, rfz⟩ := blk4 (BR.out.below FR3.out hgr)
        obtain ⟨o0, o1, o2, o3, ofz⟩ := blk4 BO3.out
        go_wp2_with fail
        refine bodyPost_ret (v := .tuple #[.agg #[.int .i64 mx, .slice Y L.length y, .slice A2 hs.length a2, .slice A3 wt.length a3], .int .i64 (n : Nat)]) (by simp [results, Tryz.results116, go_sem, r0, r1, r2, r3, rfz]) rfl ?_
        refine ⟨Y, y, A2, a2, A3, a3, rfl, ?_, ?_⟩
        · refine PRow.mono (base := w1.heap.size) ?_ (by omega)
          iterate 4 (with_reducible refine PRow.setFar ?_ (by simp <;> omega) _)
          exact PR3.out
        · iterate 4 (with_reducible refine Below.setCell ?_ (by simp <;> omega) _)
          exact B01.out.trans (FR3.out.mono (by omega))
      · have hn2 : (n : Int) ≤ v := by omega
        obtain ⟨L, hL⟩ : ∃ L, L = ids.drop n := ⟨_, rfl⟩
        have hLl : L.length = 0 := by rw [hL, List.length_drop]; omega
        have HRES : Hid (closeR ⟨mx, ids, hs, wt⟩ v = ((⟨mx, L, hs, wt⟩ : Pl), ((n : Nat) : Int))) := by
          show _ = _
          unfold closeR
          rw [if_pos (show Pl.valid (Pl.mk mx ids hs wt) = true ∧ 0 ≤ v from ⟨hv.symm, by omega⟩)]
          simp only
          rw [show min (Int.toNat v) ids.length = n by omega, ← hL]
        rw [HRES.out]
        obtain ⟨AD, hAD⟩ : ∃ AD, (if c = n then A else A.map (·.add n)) = AD := ⟨_, rfl⟩
        have CUT : Hid (∀ W, Below w1.heap.size w1 W → Rd W AD (L.map (.int .i64))) := by
          intro W hW
          have h1 := (H1.out.below hW).cut (n := n) (k := n) (cap := c) (by simp <;> omega) (by omega) (by omega)
          rw [hL, List.map_drop, ← hAD]
          exact h1
        have HCI := Lib.hid (fun W q => copyInts_c L AD (0) (c - n) W hLl q (by omega))
        have hncI : (n : Int) ≤ (c : Int) := by omega
        have lL : L.length ≤ 6 := by omega
        clear hA hB hC hv hz hsm hL hLl
        go_enter Tryz.func116, Tryz.ntmps116
        go_wp2_with fail
        rw [← hw1]
        clear hw1
        refine (HV.out _ H1.out H2.out H3.out).mono ?_
        rintro e wA ⟨rfl, bA⟩
        have FR0 := Lib.hid bA
        have hsA : w1.heap.size ≤ wA.heap.size := bA.size
        clear k0 k1 k2 k3 bA
        obtain ⟨k0, k1, k2, k3, _⟩ := blk4 (BX.out.below FR0.out hgl)
        obtain ⟨r0, r1, r2, r3, rfz⟩ := blk4 (BR.out.below FR0.out hgr)
        go_wp2_with fail
        refine (HCP.out _ (H1.out.below FR0.out) (H2.out.below FR0.out) (H3.out.below FR0.out)).mono ?_
        rintro e wB ⟨A1, a1, A2, a2, A3, a3, rfl, pr, bB⟩
        simp only at pr ⊢
        obtain ⟨wO, hwO⟩ : ∃ wO, wO = wB.alloc (.cells #[.int .i64 mx, .slice A1 ids.length a1, .slice A2 hs.length a2, .slice A3 wt.length a3] 26) := ⟨_, rfl⟩
        have hsO : wO.heap.size = wB.heap.size + 1 := by rw [hwO]; simp
        have FR1 := Lib.hid (FR0.out.trans (bB.mono FR0.out.size))
        have hsB : w1.heap.size ≤ wB.heap.size := FR1.out.size
        have BO2 := Lib.hid (show Blk wO wB.heap.size 26 #[.int .i64 mx, .slice A1 ids.length a1, .slice A2 hs.length a2, .slice A3 wt.length a3] by rw [hwO]; exact Blk.new wB _ _)
        have FR2 := Lib.hid (show Below w1.heap.size w1 wO by rw [hwO]; exact FR1.out.alloc hsB _)
        have PR2 := Lib.hid (show PRow wO w1.heap.size _ A1 a1 A2 a2 A3 a3 by rw [hwO]; exact (pr.mono hsA).alloc _)
        have OF2 := Lib.hid (show Off wB.heap.size A1 a1 A2 a2 A3 a3 from pr.off (Nat.le_refl _))
        have hgO : wB.heap.size < wO.heap.size := by omega
        have hgl4 : w.heap.size < wO.heap.size := by omega
        clear pr bB k0 k1 k2 k3 r0 r1 r2 r3 rfz
        go_upto_region 5 with fail
        rw [← hwO]
        clear hwO hsO
        obtain ⟨k0, k1, k2, k3, _⟩ := blk4 (BX.out.below FR2.out hgl)
        obtain ⟨r0, r1, r2, r3, rfz⟩ := blk4 (BR.out.below FR2.out hgr)
        obtain ⟨o0, o1, o2, o3, ofz⟩ := blk4 BO2.out
        go_wp2_with fail
        refine (HCI.out _ (CUT.out _ FR2.out)).mono ?_
        rintro e wC ⟨Y, y, rfl, rY, bC⟩
        obtain ⟨w5, hw5⟩ : ∃ w5, w5 = wC.setCell ⟨wB.heap.size, 1, none⟩ (.slice Y L.length y) := ⟨_, rfl⟩
        have h5s : w5.heap.size = wC.heap.size := by rw [hw5]; simp [World.setCell]
        have hsC : wO.heap.size ≤ wC.heap.size := bC.size
        have BOC := Lib.hid (BO2.out.below bC hgO)
        have FRC := Lib.hid (FR2.out.trans (bC.mono FR2.out.size))
        have BO3 := Lib.hid (show Blk w5 wB.heap.size 26 #[.int .i64 mx, .slice Y L.length y, .slice A2 hs.length a2, .slice A3 wt.length a3] by rw [hw5]; exact BOC.out.set_ 1 _)
        have FR3 := Lib.hid (show Below w1.heap.size w1 w5 by rw [hw5]; exact FRC.out.setCell (by simp <;> omega) _)
        have OF3 := Lib.hid (show Off wB.heap.size Y y A2 a2 A3 a3 from ⟨rY.offNew hgO, OF2.out.2.1, OF2.out.2.2⟩)
        have PR3 := Lib.hid (show PRow w5 w1.heap.size ⟨mx, L, hs, wt⟩ Y y A2 a2 A3 a3 by rw [hw5]; exact (PR2.out.newI bC rY FR2.out.size).set (q := ⟨wB.heap.size, _, none⟩) OF3.out _)
        have hg5 : wB.heap.size < w5.heap.size := by omega
        have hgl5 : w.heap.size < w5.heap.size := by omega
        clear rY bC k0 k1 k2 k3 r0 r1 r2 r3 rfz o0 o1 o2 o3 ofz
        obtain ⟨o0, o1, o2, o3, ofz⟩ := blk4 BOC.out
        go_upto_region 6 with fail
        rw [← hw5]
        clear hw5 h5s o0 o1 o2 o3 ofz
        obtain ⟨k0, k1, k2, k3, _⟩ := blk4 (BX.out.below FR3.out hgl)
        obtain ⟨r0, r1, r2, r3, rfz⟩ := blk4 (BR.out.below FR3.out hgr)
        obtain ⟨o0, o1, o2, o3, ofz⟩ := blk4 BO3.out
        go_wp2_with fail
        refine bodyPost_ret (v := .tuple #[.agg #[.int .i64 mx, .slice Y L.length y, .slice A2 hs.length a2, .slice A3 wt.length a3], .int .i64 (n : Nat)]) (by simp [results, Tryz.results116, go_sem, r0, r1, r2, r3, rfz]) rfl ?_
        refine ⟨Y, y, A2, a2, A3, a3, rfl, ?_, ?_⟩
        · refine PRow.mono (base := w1.heap.size) ?_ (by omega)
          iterate 4 (with_reducible refine PRow.setFar ?_ (by simp <;> omega) _)
          exact PR3.out
        · iterate 4 (with_reducible refine Below.setCell ?_ (by simp <;> omega) _)
          exact B01.out.trans (FR3.out.mono (by omega))
theorem filter_snoc (hs : List Pr) (o : Int) (j : Nat) (h : j < hs.length) : ((hs.take (j + 1)).filter fun h => h.2 == o).map (·.1) = ((hs.take j).filter fun h => h.2 == o).map (·.1) ++ (if hs[j].2 = o then [hs[j].1] else []) := by
  rw [take_snoc hs j h, List.filter_append, List.map_append]
  congr 1
  by_cases hc : hs[j].2 = o
  · rw [if_pos hc]; simp [hc]
  · rw [if_neg hc]
    have e : (hs[j].2 == o) = false := beq_eq_false_iff_ne.2 hc
    simp [e]
set_option maxRecDepth 100000 in
set_option maxHeartbeats 8000000 in
theorem sHeldBy_c (mx : Int) (ids : List Int) (hs : List Pr) (wt : List Int) (A : Option Addr) (n c : Nat) (B : Option Addr) (m d : Nat) (C : Option Addr) (k f : Nat) (w : World) (hA : ids.length = n) (hB : hs.length = m) (hC : wt.length = k)
    (h1 : Rd w A (ids.map (.int .i64))) (h2 : Rd w B (sc hs)) (h3 : Rd w C (wt.map (.int .i64))) (l1 : n ≤ 1073741824) (l2 : m ≤ 1073741824) (l3 : k ≤ 1073741824) (o : Int) :
    Calls Tryz.prog 95 #[.agg #[.int .i64 mx, .slice A n c, .slice B m d, .slice C k f], .int .i64 o] w (RetR (heldV ⟨mx, ids, hs, wt⟩ o) w) := by
  obtain ⟨i0, i0_i, i0_z0, i0_z1, i0_z2⟩ := info_parts poolIntInfo
  obtain ⟨w1, hw1⟩ : ∃ w1, w1 = w.alloc (.cells #[.int .i64 mx, .slice A n c, .slice B m d, .slice C k f] 26) := ⟨_, rfl⟩
  have hg : w1.heap.size = w.heap.size + 1 := by rw [hw1]; simp
  have H1 := Lib.hid (show Rd w1 A _ by rw [hw1]; exact h1.alloc _)
  have H2 := Lib.hid (show Rd w1 B _ by rw [hw1]; exact h2.alloc _)
  have H3 := Lib.hid (show Rd w1 C _ by rw [hw1]; exact h3.alloc _)
  have BX := Lib.hid (show Blk w1 w.heap.size 26 #[.int .i64 mx, .slice A n c, .slice B m d, .slice C k f] by rw [hw1]; exact Blk.new w _ _)
  have B01 := Lib.hid (show Below w.heap.size w w1 by rw [hw1]; exact (Below.refl _ _).alloc (Nat.le_refl _) _)
  have hgl : w.heap.size < w1.heap.size := by omega
  have HV := Lib.hid (fun W q1 q2 q3 => sValidPool_c mx ids hs wt A n c B m d C k f W hA hB hC q1 q2 q3 l1 l2 l3)
  have HB := Lib.hid hB
  obtain ⟨vd, hv⟩ : ∃ vd, vd = Pl.valid ⟨mx, ids, hs, wt⟩ := ⟨_, rfl⟩
  rw [← hv] at HV
  obtain ⟨w2, hw2⟩ : ∃ w2, w2 = w1.alloc (.cells #[] 3) := ⟨_, rfl⟩
  have BX2 := Lib.hid (show Blk w2 w.heap.size 26 #[.int .i64 mx, .slice A n c, .slice B m d, .slice C k f] by rw [hw2]; exact BX.out.alloc _)
  have FR2 := Lib.hid (show Below w.heap.size w w2 by rw [hw2]; exact B01.out.alloc (by omega) _)
  have R12 := Lib.hid (show Rd w2 A _ by rw [hw2]; exact H1.out.alloc _)
  have R22 := Lib.hid (show Rd w2 B _ by rw [hw2]; exact H2.out.alloc _)
  have R32 := Lib.hid (show Rd w2 C _ by rw [hw2]; exact H3.out.alloc _)
  have hs2 : w2.heap.size = w.heap.size + 1 + 1 := by rw [hw2]; simp [hg]
  have hgl2 : w.heap.size < w2.heap.size := by omega
  obtain ⟨k0, k1, k2, k3, _⟩ := blk4 BX2.out
  have hlen : hs.length ≤ 6 ∨ vd = false := by
    cases vd
    · exact .inr rfl
    · have := (valid_good.1 hv.symm).small
      simp only at this
      exact .inl (by omega)
  have HVD : Hid (heldV ⟨mx, ids, hs, wt⟩ o = if vd = true then (hs.filter fun h => h.2 == o).map (·.1) else []) := by show _ = _; unfold heldV; rw [← hv]
  rw [HVD.out]
  clear h1 h2 h3 hA hB hC hv
  cases vd
  · rw [if_neg (fun h => by cases h)]
    clear hlen
    go_enter Tryz.func95, Tryz.ntmps95
    go_upto_region 2 with fail
    rw [← hw1, ← hw2]
    clear hw1 hw2
    go_wp2_with fail
    refine (HV.out _ R12.out R22.out R32.out).mono ?_
    rintro e wA ⟨rfl, bA⟩
    have FRA := Lib.hid (FR2.out.trans (bA.mono FR2.out.size))
    clear bA
    go_wp2_with fail
    go_ret
    exact ⟨none, 0, rfl, Row.nil _ _ _ _ _, FRA.out⟩
  · rw [if_pos rfl]
    obtain ⟨RES, hRES⟩ : ∃ RES, RES = (hs.filter fun h => h.2 == o).map (·.1) := ⟨_, rfl⟩
    rw [← hRES]
    have HRES := Lib.hid hRES
    have hl6 : hs.length ≤ 6 := by rcases hlen with h | h; exact h; cases h
    clear hRES hlen
    go_enter Tryz.func95, Tryz.ntmps95
    go_upto_region 2 with fail
    rw [← hw1, ← hw2]
    clear hw1 hw2
    go_wp2_with fail
    refine (HV.out _ R12.out R22.out R32.out).mono ?_
    rintro e wA ⟨rfl, bA⟩
    have FRA := Lib.hid (FR2.out.trans (bA.mono FR2.out.size))
    have BXA := Lib.hid (BX2.out.below bA hgl2)
    have RA := Lib.hid (R22.out.below bA)
    have hsA : w2.heap.size ≤ wA.heap.size := bA.size
    have hglA : w.heap.size < wA.heap.size := by omega
    clear bA k0 k1 k2 k3 HV
    go_wp2_with fail
    go_loopw [5, 6] (fun o' i wr => ∃ (j : Nat) (Y : Option Addr) (y : Nat) (zs : List Int), j ≤ hs.length ∧ i = .int .i64 j ∧ o' = .slice Y zs.length y ∧ zs = ((hs.take j).filter fun h => h.2 == o).map (·.1) ∧ zs.length ≤ j ∧ Row wr wA.heap.size 3 1 Y zs.length y (zs.map (.int .i64)) ∧ Below wA.heap.size wA wr) (fun _ i _ => hs.length - (intOf i).toNat)
    case atStart => exact ⟨0, _, _, [], Nat.zero_le _, rfl, rfl, rfl, Nat.zero_le _, Row.nil _ _ _ _ _, Below.refl _ _⟩
    case round =>
      obtain ⟨j, Y, y, zs, hj, rfl, rfl, hz, hzl, row, hb⟩ := hrel
      have HZ := Lib.hid hz; have ROW := Lib.hid row; have HBB := Lib.hid hb
      have hsz : wA.heap.size ≤ wr.heap.size := hb.size
      have bxr := BXA.out.below hb hglA
      obtain ⟨k0, k1, k2, k3, _⟩ := blk4 bxr
      have hglr : w.heap.size < wr.heap.size := by omega
      have hmh : hs.length = m := HB.out
      clear hz row hb bxr
      by_cases hlt : j < hs.length
      · have hlm : j < m := by omega
        obtain ⟨b, off, hBe, hbl, hc⟩ := sc_pair (RA.out.below HBB.out) (by omega)
        obtain ⟨hc1, hc2⟩ := hc j hlt
        obtain ⟨⟨xx, yy⟩, hX⟩ : ∃ x, x = hs[j] := ⟨_, rfl⟩
        rw [← hX] at hc1 hc2
        simp only at hc1 hc2
        have hsn := filter_snoc hs o j hlt
        rw [← hX, ← HZ.out] at hsn
        simp only at hsn
        have HSN := Lib.hid hsn
        rw [hBe] at k2
        clear hBe
        clear hc hX hsn hmh
        by_cases he : yy = o
        · have he' : (yy == o) = true := beq_iff_eq.2 he
          have HE := Lib.hid he
          clear he
          go_wp2_with (at_builtin; (refine wpList_append_row _ rfl (.tmp 26) (.tmp 33) 23 rfl wA.heap.size 3 i0 (.int .i64 0) 1 8 Tryz.underlying23 i0_i i0_z0 i0_z1 i0_z2 rfl Y zs.length y (zs.map (.int .i64)) (by first | rfl | simp) (ROW.out.alloc _) (some ⟨wr.heap.size, 0, none⟩) 1 1 [.int .i64 xx] rfl rfl (Rd.one (cell_new _ _ _ 0)) (one1 _ rfl) (by omega) (by unfold maxLen; omega) (by omega) (by simp <;> omega) ?_))
          intro Y3 y3 w5 row5 hg5 _
          have b5 : Below wA.heap.size wA w5 := (HBB.out.alloc hsz _).grown hg5 (by simp <;> omega) (fun z hz => (ROW.out.lt z hz).1)
          have row6 : Row w5 wA.heap.size 3 1 Y3 (zs ++ [xx]).length y3 ((zs ++ [xx]).map (.int .i64)) := by rw [← snocI zs xx _ rfl, List.length_append]; exact row5
          have B5 := Lib.hid b5; have ROW6 := Lib.hid row6
          clear row5 hg5 b5 row6
          go_wp2_with fail
          go_roundw
          case rel => exact ⟨j + 1, Y3, y3, zs ++ [xx], by omega, by go_num, by simp, by rw [HSN.out, if_pos HE.out], by simp; omega, ROW6.out, B5.out⟩
          case measure => simp [intOf]; omega
        · have he' : (yy == o) = false := beq_eq_false_iff_ne.2 he
          have HE := Lib.hid he
          clear he
          go_wp2_with fail
          go_roundw
          case rel => exact ⟨j + 1, Y, y, zs, by omega, by go_num, rfl, by rw [HSN.out, if_neg HE.out, List.append_nil], by omega, ROW.out, HBB.out⟩
          case measure => simp [intOf]; omega
      · obtain rfl : j = hs.length := by omega
        have hfull : zs = RES := by rw [HZ.out, HRES.out, List.take_length]
        have fin : RetR RES w (.returned (.slice Y zs.length y)) wr := ⟨Y, y, by rw [hfull], by rw [← hfull]; exact ROW.out.mono (by omega), FRA.out.trans (HBB.out.mono (by omega))⟩
        have FIN := Lib.hid fin
        clear hfull fin
        go_wp2_with fail
        go_ret
        exact FIN.out
end Go.Proofs.YtnmgnhpagnjhlaaGreatDoor
