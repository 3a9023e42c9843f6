/- A connection is given back: the reference. -/
import Derived.Test.YtnmgnhpagnjhlaaGreatDoorAcq
import Derived.BigRegion
import Derived.StillTailTactics
import Derived.Deep.Cut
import Derived.Deep.RegionLaw
set_option linter.unusedVariables false
set_option linter.unusedSimpArgs false
set_option linter.unnecessarySimpa false
namespace Go.Proofs.YtnmgnhpagnjhlaaGreatDoor
open Go.RowKit

theorem Rd.cutH {w : World} {A : Option Addr} {hs : List Pr} (h : Rd w A (sc hs)) {k n cap : Nat} (hn : n = hs.length) (hk : k ≤ n) (hc : n ≤ cap) :
    Rd w (if cap = k then A else A.map (·.add (k * 2))) (sc (hs.drop k)) := by
  have e : sc (hs.drop k) = (sc hs).drop (k * 2) := by
    have h1 := sc_take hs k
    have h2 : sc hs = sc (hs.take k) ++ sc (hs.drop k) := by rw [← sc_append, List.take_append_drop]
    rw [h2, List.drop_left' (by rw [sc_len, List.length_take]; omega)]
  rw [e]
  intro hl
  have hl' : 0 < (sc hs).length - k * 2 := by simpa using hl
  rw [sc_len] at hl'
  obtain ⟨b, off, rfl, hcell⟩ := h (by rw [sc_len]; omega)
  rw [if_neg (by omega)]
  refine ⟨b, off + k * 2, by simp [add_none], fun j u hu => ?_⟩
  have := hcell (k * 2 + j) u (by rw [← hu, List.getElem?_drop])
  rwa [← Nat.add_assoc] at this
theorem Rd.takeH {w : World} {A : Option Addr} {hs : List Pr} (h : Rd w A (sc hs)) (k : Nat) : Rd w A (sc (hs.take k)) := by
  rw [← sc_take]; exact h.take _
set_option maxRecDepth 100000 in
set_option maxHeartbeats 16000000 in
theorem sReleaseConn_c (mx : Int) (ids : List Int) (hs : List Pr) (wt : List Int) (A : Option Addr) (n c : Nat) (B : Option Addr) (m d : Nat) (C : Option Addr) (k f : Nat) (w : World) (hA : ids.length = n) (hB : hs.length = m) (hC : wt.length = k)
    (h1 : Rd w A (ids.map (.int .i64))) (h2 : Rd w B (sc hs)) (h3 : Rd w C (wt.map (.int .i64))) (l1 : n ≤ 1073741824) (l2 : m ≤ 1073741824) (l3 : k ≤ 1073741824) (hmd : m ≤ d) (hkf : k ≤ f) (v : Int) :
    Calls Tryz.prog 85 #[.agg #[.int .i64 mx, .slice A n c, .slice B m d, .slice C k f], .int .i64 v] w (RetPCB (relR ⟨mx, ids, hs, wt⟩ v).1 (relR ⟨mx, ids, hs, wt⟩ v).2.1 (relR ⟨mx, ids, hs, wt⟩ v).2.2 w) := by
  obtain ⟨i0, i0_i, i0_z0, i0_z1, i0_z2⟩ := info_parts poolHoldInfo
  obtain ⟨j0, j0_i, j0_z0, j0_z1, j0_z2⟩ := info_parts poolIntInfo
  obtain ⟨w1, hw1⟩ : ∃ w1, w1 = (w.alloc (.cells #[.int .i64 mx, .slice A n c, .slice B m d, .slice C k f] 26)).alloc (.cells #[.int .i64 0, .slice none 0 0, .slice none 0 0, .slice none 0 0] 26) := ⟨_, rfl⟩
  have hg : w1.heap.size = w.heap.size + 1 + 1 := by rw [hw1]; simp
  have H1 := Lib.hid (show Rd w1 A _ by rw [hw1]; exact (h1.alloc _).alloc _)
  have H2 := Lib.hid (show Rd w1 B _ by rw [hw1]; exact (h2.alloc _).alloc _)
  have H3 := Lib.hid (show Rd w1 C _ by rw [hw1]; exact (h3.alloc _).alloc _)
  have BX := Lib.hid (show Blk w1 w.heap.size 26 #[.int .i64 mx, .slice A n c, .slice B m d, .slice C k f] by rw [hw1]; exact (Blk.new w _ _).alloc _)
  have BR := Lib.hid (show Blk w1 (w.heap.size + 1) 26 #[.int .i64 0, .slice none 0 0, .slice none 0 0, .slice none 0 0] by rw [hw1]; have := Blk.new (w.alloc (.cells #[.int .i64 mx, .slice A n c, .slice B m d, .slice C k f] 26)) 26 #[.int .i64 0, .slice none 0 0, .slice none 0 0, .slice none 0 0]; simpa using this)
  have B01 := Lib.hid (show Below w.heap.size w w1 by rw [hw1]; exact ((Below.refl _ _).alloc (Nat.le_refl _) _).alloc (by simp) _)
  have hgl : w.heap.size < w1.heap.size := by omega
  have hgr : w.heap.size + 1 < w1.heap.size := by omega
  have HV := Lib.hid (fun W q1 q2 q3 => sValidPool_c mx ids hs wt A n c B m d C k f W hA hB hC q1 q2 q3 l1 l2 l3)
  have HH := Lib.hid (fun W q => holder_c hs mx v A n c B m d C k f W hB q l2)
  have HCP := Lib.hid (fun W q1 q2 q3 => copyPool_c mx ids hs wt A n c B m d C k f W hA hB hC q1 q2 q3 l1 l2 l3)
  have HA := Lib.hid hA; have HB := Lib.hid hB; have HC := Lib.hid hC
  have H3o := Lib.hid h3
  clear h1 h2 h3
  obtain ⟨k0, k1, k2, k3, _⟩ := blk4 BX.out
  obtain ⟨vd, hv⟩ : ∃ vd, vd = Pl.valid ⟨mx, ids, hs, wt⟩ := ⟨_, rfl⟩
  obtain ⟨Z, hZ⟩ : ∃ Z, Z = hfind hs v := ⟨_, rfl⟩
  rw [← hv] at HV
  rw [← hZ] at HH
  cases vd
  · have HRES : Hid (relR ⟨mx, ids, hs, wt⟩ v = (Pl.zero, -1, false)) := by show _ = _; unfold relR; rw [if_neg (fun h => by rw [← hv] at h; cases h.1)]
    rw [HRES.out]
    clear hA hB hC hv hZ
    go_enter Tryz.func85, Tryz.ntmps85
    go_wp2_with fail
    rw [← hw1]
    clear hw1
    refine (HV.out _ H1.out H2.out H3.out).mono ?_
    rintro e wA ⟨rfl, bA⟩
    have FR0 := Lib.hid bA
    have hsA : w1.heap.size ≤ wA.heap.size := bA.size
    clear k0 k1 k2 k3 bA
    obtain ⟨k0, k1, k2, k3, _⟩ := blk4 (BX.out.below FR0.out hgl)
    obtain ⟨r0, r1, r2, r3, rfz⟩ := blk4 (BR.out.below FR0.out hgr)
    go_wp2_with fail
    refine bodyPost_ret (v := .tuple #[.agg #[.int .i64 0, .slice none 0 0, .slice none 0 0, .slice none 0 0], .int .i64 (-1), .bool false]) (by simp [results, Tryz.results85, go_sem, r0, r1, r2, r3, rfz]) rfl ?_
    refine ⟨none, 0, none, 0, none, 0, rfl, PRow.zero _ _, ?_⟩
    repeat (with_reducible refine Below.setCell ?_ (by simp <;> omega) _)
    exact B01.out.trans (FR0.out.mono (by omega))
  · by_cases hz : Z < 0
    · have hzd : decide (Z < 0) = true := decide_eq_true hz
      have HRES : Hid (relR ⟨mx, ids, hs, wt⟩ v = (Pl.zero, -1, false)) := by show _ = _; unfold relR; rw [if_neg (fun h => by have h2 := h.2; simp only at h2; omega)]
      rw [HRES.out]
      clear hA hB hC hv hZ hz
      go_enter Tryz.func85, Tryz.ntmps85
      go_wp2_with fail
      rw [← hw1]
      clear hw1
      refine (HV.out _ H1.out H2.out H3.out).mono ?_
      rintro e wA ⟨rfl, bA⟩
      have FR0 := Lib.hid bA
      have hsA : w1.heap.size ≤ wA.heap.size := bA.size
      clear k0 k1 k2 k3 bA
      obtain ⟨k0, k1, k2, k3, _⟩ := blk4 (BX.out.below FR0.out hgl)
      obtain ⟨r0, r1, r2, r3, rfz⟩ := blk4 (BR.out.below FR0.out hgr)
      go_wp2_with fail
      refine (HH.out _ (H2.out.below FR0.out)).mono ?_
      rintro e wB ⟨rfl, bH⟩
      have FR1 := Lib.hid (FR0.out.trans (bH.mono FR0.out.size))
      have hswB : w1.heap.size ≤ wB.heap.size := FR1.out.size
      clear bH
      clear k0 k1 k2 k3 r0 r1 r2 r3 rfz
      obtain ⟨k0, k1, k2, k3, _⟩ := blk4 (BX.out.below FR1.out hgl)
      obtain ⟨r0, r1, r2, r3, rfz⟩ := blk4 (BR.out.below FR1.out hgr)
      go_wp2_with fail
      refine bodyPost_ret (v := .tuple #[.agg #[.int .i64 0, .slice none 0 0, .slice none 0 0, .slice none 0 0], .int .i64 (-1), .bool false]) (by simp [results, Tryz.results85, go_sem, r0, r1, r2, r3, rfz]) rfl ?_
      refine ⟨none, 0, none, 0, none, 0, rfl, PRow.zero _ _, ?_⟩
      repeat (with_reducible refine Below.setCell ?_ (by simp <;> omega) _)
      exact B01.out.trans (FR1.out.mono (by omega))
    · have hzd : decide (Z < 0) = false := decide_eq_false hz
      have hsm := (valid_good.1 hv.symm).small
      simp only at hsm
      have hn6 : n ≤ 6 := by omega
      have hm6 : m ≤ 6 := by omega
      have hk6 : k ≤ 12 := by omega
      have lA : ids.length ≤ 6 := by omega
      have lB : hs.length ≤ 6 := by omega
      have lC : wt.length ≤ 12 := by omega
      obtain ⟨j, hj, hjl, _⟩ := hfind_place (hs := hs) (v := v) (by omega)
      obtain rfl : Z = (j : Nat) := hZ.trans hj
      have hjm : j < m := by omega
      have hjm1 : j + 1 ≤ m := by omega
      have hji : (0 : Int) ≤ (j : Int) := by omega
      have hjd : (j : Int) ≤ (d : Int) := by omega
      have hj1m : (j : Int) + 1 ≤ (m : Int) := by omega
      have hj1p : (0 : Int) ≤ (j : Int) + 1 := by omega
      have hmdI : (m : Int) ≤ (d : Int) := by omega
      have hw1' : IntKind.i64.wrap ((j : Int) + 1) = (j : Int) + 1 := IntWalk.i64_in _ ⟨by omega, by omega⟩
      have RELV : Hid (relR ⟨mx, ids, hs, wt⟩ v = ((relV ⟨mx, ids, hs, wt⟩ v).1, (relV ⟨mx, ids, hs, wt⟩ v).2, true)) := by show _ = _; unfold relR; rw [if_pos ⟨hv.symm, by simp only; omega⟩]
      rw [RELV.out]
      have HJL := Lib.hid hjl
      have HW : Hid ((hfind hs v).toNat = j) := by show _ = _; rw [hj]; simp
      obtain ⟨L1, hL1⟩ : ∃ L1, L1 = hs.take j := ⟨_, rfl⟩
      obtain ⟨L2, hL2⟩ : ∃ L2, L2 = hs.drop (j + 1) := ⟨_, rfl⟩
      have HL1 := Lib.hid hL1; have HL2 := Lib.hid hL2
      have HL1l : Hid (L1.length = j) := by show _ = _; rw [hL1, List.length_take]; omega
      have HL2l : Hid (L2.length = m - (j + 1)) := by show _ = _; rw [hL2, List.length_drop]; omega
      have hL1n : L1.length ≤ 6 := by have := HL1l.out; omega
      obtain ⟨b, off, hBe, hbl, hc⟩ := H2.out.block (by rw [sc_len]; omega)
      clear hc
      subst hBe
      obtain ⟨AD, hAD⟩ : ∃ AD, (if d = j + 1 then some (⟨b, off, none⟩ : Addr) else some ⟨b, off + (j + 1) * 2, none⟩) = AD := ⟨_, rfl⟩
      have CUT : Hid (∀ W, Below w1.heap.size w1 W → Rd W AD (sc L2)) := by
        intro W hW
        rw [← hAD]
        have h1 := (H2.out.below hW).cutH (k := j + 1) (cap := d) rfl (by omega) (by omega)
        rw [hL2]
        simpa [add_none] using h1
      clear hz hZ hv hsm hj hL1 hL2
      by_cases hk0 : k = 0
      · have hke : ((k : Int) == 0) = true := by rw [hk0]; rfl
        have hke2 : (k == 0) = true := by rw [hk0]; rfl
        have HR2 : Hid (relV ⟨mx, ids, hs, wt⟩ v = (⟨mx, ids ++ [v], L1 ++ L2, wt⟩, -1)) := by
          show _ = _
          unfold relV without
          simp only [HW.out]
          rw [if_pos (by omega), HL1.out, HL2.out]
        rw [HR2.out]
        have HK := Lib.hid hk0
        clear hk0 hA hB hC
        go_enter Tryz.func85, Tryz.ntmps85
        go_wp2_with fail
        rw [← hw1]
        clear hw1
        refine (HV.out _ H1.out H2.out H3.out).mono ?_
        rintro e wA ⟨rfl, bA⟩
        have FR0 := Lib.hid bA
        have hsA : w1.heap.size ≤ wA.heap.size := bA.size
        clear k0 k1 k2 k3 bA
        obtain ⟨k0, k1, k2, k3, _⟩ := blk4 (BX.out.below FR0.out hgl)
        obtain ⟨r0, r1, r2, r3, rfz⟩ := blk4 (BR.out.below FR0.out hgr)
        go_wp2_with fail
        refine (HH.out _ (H2.out.below FR0.out)).mono ?_
        rintro e wB ⟨rfl, bH⟩
        have FR1 := Lib.hid (FR0.out.trans (bH.mono FR0.out.size))
        have hswB : w1.heap.size ≤ wB.heap.size := FR1.out.size
        clear bH
        clear k0 k1 k2 k3 r0 r1 r2 r3 rfz
        obtain ⟨k0, k1, k2, k3, _⟩ := blk4 (BX.out.below FR1.out hgl)
        obtain ⟨r0, r1, r2, r3, rfz⟩ := blk4 (BR.out.below FR1.out hgr)
        go_wp2_with fail
        refine (HH.out _ (H2.out.below FR1.out)).mono ?_
        rintro e wC ⟨rfl, bH⟩
        have FR2 := Lib.hid (FR1.out.trans (bH.mono FR1.out.size))
        have hswC : w1.heap.size ≤ wC.heap.size := FR2.out.size
        clear bH
        clear k0 k1 k2 k3 r0 r1 r2 r3 rfz
        obtain ⟨k0, k1, k2, k3, _⟩ := blk4 (BX.out.below FR2.out hgl)
        obtain ⟨r0, r1, r2, r3, rfz⟩ := blk4 (BR.out.below FR2.out hgr)
        go_wp2_with fail
        refine (HCP.out _ (H1.out.below FR2.out) (H2.out.below FR2.out) (H3.out.below FR2.out)).mono ?_
        rintro e wD ⟨A1, a1, A2, a2, A3, a3, rfl, pr, bD⟩
        simp only at pr ⊢
        obtain ⟨wO, hwO⟩ : ∃ wO, wO = wD.alloc (.cells #[.int .i64 mx, .slice A1 ids.length a1, .slice A2 hs.length a2, .slice A3 wt.length a3] 26) := ⟨_, rfl⟩
        have hsO : wO.heap.size = wD.heap.size + 1 := by rw [hwO]; simp
        have FR3 := Lib.hid (FR2.out.trans (bD.mono FR2.out.size))
        have hsD : w1.heap.size ≤ wD.heap.size := FR3.out.size
        have BO4 := Lib.hid (show Blk wO wD.heap.size 26 #[.int .i64 mx, .slice A1 ids.length a1, .slice A2 hs.length a2, .slice A3 wt.length a3] by rw [hwO]; exact Blk.new wD _ _)
        have FR4 := Lib.hid (show Below w1.heap.size w1 wO by rw [hwO]; exact FR3.out.alloc hsD _)
        have PR4 := Lib.hid (show PRow wO w1.heap.size _ A1 a1 A2 a2 A3 a3 by rw [hwO]; exact (pr.mono hswC).alloc _)
        have OF4 := Lib.hid (show Off wD.heap.size A1 a1 A2 a2 A3 a3 from pr.off (Nat.le_refl _))
        clear pr bD
        clear k0 k1 k2 k3 r0 r1 r2 r3 rfz
        obtain ⟨k0, k1, k2, k3, _⟩ := blk4 (BX.out.below FR3.out hgl)
        obtain ⟨r0, r1, r2, r3, rfz⟩ := blk4 (BR.out.below FR3.out hgr)
        go_upto_region 5 with fail
        rw [← hwO]
        have hgO : wD.heap.size < wO.heap.size := by omega
        have hgl4 : w.heap.size < wO.heap.size := by omega
        clear hwO hsO
        clear k0 k1 k2 k3 r0 r1 r2 r3 rfz
        obtain ⟨k0, k1, k2, k3, _⟩ := blk4 (BX.out.below FR4.out hgl)
        obtain ⟨r0, r1, r2, r3, rfz⟩ := blk4 (BR.out.below FR4.out hgr)
        obtain ⟨o0, o1, o2, o3, ofz⟩ := blk4 BO4.out
        go_wp2_with (at_builtin; (refine wpList_append_row _ rfl (.tmp 24) (.tmp 28) 24 rfl wO.heap.size 48 i0 (.agg #[.int .i64 0, .int .i64 0]) 2 16 Tryz.underlying24 i0_i i0_z0 i0_z1 i0_z2 rfl (some ⟨wO.heap.size, 0, none⟩) 0 0 [] rfl (Row.nil _ _ _ _ _) (some ⟨b, off, none⟩) j d (sc L1) rfl (by rw [sc_len, HL1l.out]) ((by rw [HL1.out]; exact (H2.out.below FR4.out).takeH j : Rd wO (some ⟨b, off, none⟩) (sc L1)).alloc _) (sc_one _) (by omega) (by unfold maxLen; omega) (by omega) (by simp <;> omega) ?_))
        intro X x wE rowE hgE hatE
        have rowE' : Row wE wO.heap.size 48 2 X L1.length x (sc L1) := by rw [HL1l.out]; simpa using rowE
        have bE : Below wO.heap.size wO wE := ((Below.refl _ _).alloc (Nat.le_refl _) _).grown hgE (by simp) (fun y hy => by simp [rb] at hy)
        obtain ⟨w5, hw5⟩ : ∃ w5, w5 = wE.setCell ⟨wD.heap.size, 2, none⟩ (.slice X j x) := ⟨_, rfl⟩
        have h5s : w5.heap.size = wE.heap.size := by rw [hw5]; simp [World.setCell]
        have hsE : wO.heap.size ≤ wE.heap.size := bE.size
        have BOE := Lib.hid (BO4.out.below bE hgO)
        have FRE := Lib.hid (FR4.out.trans (bE.mono FR4.out.size))
        have BO5 := Lib.hid (show Blk w5 wD.heap.size 26 #[.int .i64 mx, .slice A1 ids.length a1, .slice X j x, .slice A3 wt.length a3] by rw [hw5]; exact BOE.out.set_ 2 _)
        have FR5 := Lib.hid (show Below w1.heap.size w1 w5 by rw [hw5]; exact FRE.out.setCell (by simp <;> omega) _)
        have OF5 := Lib.hid (show Off wD.heap.size A1 a1 X x A3 a3 from ⟨OF4.out.1, rowE'.offNew hgO, OF4.out.2.2⟩)
        have PR5 := Lib.hid (show PRow w5 w1.heap.size ⟨mx, ids, L1, wt⟩ A1 a1 X x A3 a3 by rw [hw5]; exact (PR4.out.newH bE rowE' FR4.out.size).set (q := ⟨wD.heap.size, _, none⟩) OF5.out _)
        clear rowE rowE' hgE hatE bE
        clear k0 k1 k2 k3 r0 r1 r2 r3 rfz o0 o1 o2 o3 ofz
        obtain ⟨k0, k1, k2, k3, _⟩ := blk4 (BX.out.below FRE.out hgl)
        obtain ⟨o0, o1, o2, o3, ofz⟩ := blk4 BOE.out

        go_upto_region 6 with fail
        rw [← hw5]
        have hg5 : wD.heap.size < w5.heap.size := by omega
        clear hw5 h5s k0 k1 k2 k3 o0 o1 o2 o3 ofz
        obtain ⟨k0, k1, k2, k3, _⟩ := blk4 (BX.out.below FR5.out hgl)
        obtain ⟨r0, r1, r2, r3, rfz⟩ := blk4 (BR.out.below FR5.out hgr)
        obtain ⟨o0, o1, o2, o3, ofz⟩ := blk4 BO5.out
        go_still_tail 7, (by kernel_rfl)
        go_wp2_with (at_builtin; (refine wpList_append_row _ (by rfl) (.tmp 32) (.tmp 37) 24 (by rfl) w1.heap.size 48 i0 (.agg #[.int .i64 0, .int .i64 0]) 2 16 Tryz.underlying24 i0_i i0_z0 i0_z1 i0_z2 rfl X j x (sc L1) (by rfl) (by rw [← HL1l.out]; exact PR5.out.2.1.drew) AD (m - (j + 1)) (d - (j + 1)) (sc L2) (by rfl) (by rw [sc_len, HL2l.out]) (CUT.out _ FR5.out.drew) (sc_one _) (by omega) (by unfold maxLen; omega) (by omega) (by simp <;> omega) ?_))
        intro X2 x2 wF rowF hgF hatF
        have hoX : rb X2 x2 ≠ some wD.heap.size := rb_new hatF OF5.out.2.1 hg5
        have hlt9 := PR5.out.2.1.lt
        have BOF := Lib.hid (BO5.out.drew.grown hgF (fun e => OF5.out.2.1 e.symm))
        have FRF := Lib.hid (FR5.out.drew.grown hgF (by have := FR5.out.size; simp <;> omega) (fun y hy => (hlt9 y hy).1))
        obtain ⟨q0, q1, q2, q3, qfz⟩ := blk4 BOF.out
        have rowF' : Row wF w1.heap.size 48 2 X2 (L1 ++ L2).length x2 (sc (L1 ++ L2)) := by rw [sc_append, List.length_append, HL1l.out, HL2l.out, hg]; exact rowF
        obtain ⟨N1, hN1⟩ : ∃ N1, N1 = j + (m - (j + 1)) := ⟨_, rfl⟩
        rw [← hN1]
        have HN1 : Hid (N1 = (L1 ++ L2).length) := by show _ = _; rw [hN1, List.length_append, HL1l.out, HL2l.out]
        have hN6 : N1 ≤ 6 := by omega
        obtain ⟨w7, hw7⟩ : ∃ w7, w7 = wF.setCell ⟨wD.heap.size, 2, none⟩ (.slice X2 N1 x2) := ⟨_, rfl⟩
        have h7s : w7.heap.size = wF.heap.size := by rw [hw7]; simp [World.setCell]
        have hsF : w5.heap.size ≤ wF.heap.size := hgF.size
        have BO7 := Lib.hid (show Blk w7 wD.heap.size 26 #[.int .i64 mx, .slice A1 ids.length a1, .slice X2 N1 x2, .slice A3 wt.length a3] by rw [hw7]; exact BOF.out.set_ 2 _)
        have FR7 := Lib.hid (show Below w1.heap.size w1 w7 by rw [hw7]; exact FRF.out.setCell (by simp <;> omega) _)
        have OF7 := Lib.hid (show Off wD.heap.size A1 a1 X2 x2 A3 a3 from ⟨OF5.out.1, hoX, OF5.out.2.2⟩)
        have PR7 := Lib.hid (show PRow w7 w1.heap.size ⟨mx, ids, L1 ++ L2, wt⟩ A1 a1 X2 x2 A3 a3 by rw [hw7]; exact (PRow.pushH PR5.out.drew hgF rowF' hatF).set (q := ⟨wD.heap.size, _, none⟩) OF7.out _)
        have hg7 : wD.heap.size < w7.heap.size := by omega
        have hgl7 : w.heap.size < w7.heap.size := by omega
        clear rowF rowF' hgF hatF hlt9 hoX hN1
        clear k0 k1 k2 k3 r0 r1 r2 r3 rfz o0 o1 o2 o3 ofz

        go_upto_region 7 with fail
        rw [← hw7]
        clear hw7 h7s q0 q1 q2 q3 qfz
        obtain ⟨k0, k1, k2, k3, _⟩ := blk4 (BX.out.below FR7.out hgl)
        obtain ⟨r0, r1, r2, r3, rfz⟩ := blk4 (BR.out.below FR7.out hgr)
        obtain ⟨o0, o1, o2, o3, ofz⟩ := blk4 BO7.out

        go_wp2_with (at_builtin; (refine wpList_append_row _ rfl (.tmp 45) (.tmp 47) 23 rfl w1.heap.size 3 j0 (.int .i64 0) 1 8 Tryz.underlying23 j0_i j0_z0 j0_z1 j0_z2 rfl A1 ids.length a1 (ids.map (.int .i64)) (by first | rfl | simp) (PR7.out.1.alloc _) (some ⟨w7.heap.size, 0, none⟩) 1 1 [.int .i64 v] rfl rfl (Rd.one (cell_new _ _ _ 0)) (one1 _ rfl) (by omega) (by unfold maxLen; omega) (by omega) (by simp <;> omega) ?_))
        intro X3 x3 wG rowG hgG hatG
        have rowG' : Row wG w1.heap.size 3 1 X3 (ids ++ [v]).length x3 ((ids ++ [v]).map (.int .i64)) := by rw [← snocI ids v _ rfl, List.length_append, hg]; exact rowG
        have hlt9 := PR7.out.1.lt
        have hatG' : rb X3 x3 = rb A1 a1 ∨ rb X3 x3 = some (w7.heap.size + 1) := by simpa using hatG
        have PG := Lib.hid (PRow.pushI (PR7.out.alloc _) hgG rowG' (by simpa using hatG))
        have hoX : rb X3 x3 ≠ some wD.heap.size := rb_new hatG' OF7.out.1 (by omega)
        have OFG := Lib.hid (show Off wD.heap.size X3 x3 X2 x2 A3 a3 from ⟨hoX, OF7.out.2.1, OF7.out.2.2⟩)
        have BOG := Lib.hid ((BO7.out.alloc _).grown hgG (fun e => OF7.out.1 e.symm))
        have FRG := Lib.hid ((FR7.out.alloc FR7.out.size _).grown hgG (by have := FR7.out.size; simp <;> omega) (fun y hy => (hlt9 y hy).1))
        have hsG : w7.heap.size < wG.heap.size := by have := hgG.size; simp at this; omega
        clear rowG rowG' hgG hatG hatG' hlt9 hoX k0 k1 k2 k3 r0 r1 r2 r3 rfz o0 o1 o2 o3 ofz
        obtain ⟨k0, k1, k2, k3, _⟩ := blk4 (BX.out.below FRG.out hgl)
        obtain ⟨r0, r1, r2, r3, rfz⟩ := blk4 (BR.out.below FRG.out hgr)
        obtain ⟨o0, o1, o2, o3, ofz⟩ := blk4 BOG.out
        have hoo : ¬ w.heap.size + 1 = wD.heap.size := by omega
        have hoo' : ¬ wD.heap.size = w.heap.size + 1 := by omega
        have hgG2 : wD.heap.size < wG.heap.size := by omega
        go_wp2_with fail
        refine bodyPost_ret (v := .tuple #[.agg #[.int .i64 mx, .slice X3 (ids.length + 1) x3, .slice X2 N1 x2, .slice A3 wt.length a3], .int .i64 (-1), .bool true]) (by simp [results, Tryz.results85, go_sem, r0, r1, r2, r3, rfz, o0, o1, o2, o3, ofz, hoo, hoo']) rfl ?_
        refine ⟨X3, x3, X2, x2, A3, a3, ?_, ?_, ?_⟩
        · simp only [List.length_append, HN1.out]; rfl
        · refine PRow.mono (base := w1.heap.size) ?_ (by omega)
          iterate 4 (with_reducible refine PRow.setFar ?_ (by simp <;> omega) _)
          exact PG.out.set (q := ⟨wD.heap.size, _, none⟩) OFG.out _
        · repeat (with_reducible refine Below.setCell ?_ (by simp <;> omega) _)
          exact B01.out.trans (FRG.out.mono (by omega))
      · have hke : ((k : Int) == 0) = false := beq_eq_false_iff_ne.2 (by omega)
        have hke2 : (k == 0) = false := beq_eq_false_iff_ne.2 (by omega)
        obtain ⟨W0, hW0⟩ : ∃ W0, W0 = wt.getD 0 0 := ⟨_, rfl⟩
        obtain ⟨L3, hL3⟩ : ∃ L3, L3 = wt.drop 1 := ⟨_, rfl⟩
        have hL3l : L3.length = k - 1 := by rw [hL3, List.length_drop]; omega
        have HR2 : Hid (relV ⟨mx, ids, hs, wt⟩ v = (⟨mx, ids, L1 ++ L2 ++ [(v, W0)], L3⟩, W0)) := by
          show _ = _
          unfold relV without
          simp only [HW.out]
          rw [if_neg (by omega), HL1.out, HL2.out, ← hW0, ← hL3]
        rw [HR2.out]
        obtain ⟨b3, off3, hCe, hbl3, hc3⟩ := H3o.out.block (by simp <;> omega)
        have hb3a : ¬ w.heap.size + 1 = b3 := by omega
        have hb3b : ¬ b3 = w.heap.size + 1 := by omega
        clear hc3
        subst hCe
        obtain ⟨AD3, hAD3⟩ : ∃ AD3, (if f = 1 then some (⟨b3, off3, none⟩ : Addr) else some ⟨b3, off3 + 1, none⟩) = AD3 := ⟨_, rfl⟩
        have CUT3 : Hid (∀ W, Below w1.heap.size w1 W → Rd W AD3 (L3.map (.int .i64))) := by
          intro W hW
          have h1 := (H3.out.below hW).cut (n := k) (k := 1) (cap := f) (by simp <;> omega) (by omega) (by omega)
          rw [hL3, List.map_drop, ← hAD3]
          simpa [add_none] using h1
        have CELL3 : Hid (∀ W, Below w1.heap.size w1 W → W.cell? ⟨b3, off3, none⟩ = some (.int .i64 W0)) := by
          intro W hW
          obtain ⟨b9, off9, e9, _, hc9⟩ := (H3.out.below hW).block (by simp <;> omega)
          injection e9 with e9
          injection e9 with e1 e2
          subst e1 e2
          have := hc9 0 (.int .i64 W0) (by rw [List.getElem?_map, hW0, List.getD_eq_getElem?_getD, List.getElem?_eq_getElem (by omega)]; rfl)
          simpa using this
        have HCI := Lib.hid (fun W q => copyInts_c L3 AD3 (k - 1) (f - 1) W hL3l q (by omega))
        have hk1 : (1 : Int) ≤ (k : Int) := by omega
        have hk1n : 1 ≤ k := by omega
        have hkfI : (k : Int) ≤ (f : Int) := by omega
        have hk0I : (0 : Int) < (k : Int) := by omega
        have hk0N : 0 < k := by omega
        have hlL3 : L3.length ≤ 12 := by omega
        clear hk0 hA hB hC hW0 hL3 hL3l
        have hc3 := CELL3.out _ (Below.refl _ _)
        clear hc3
        go_enter Tryz.func85, Tryz.ntmps85
        go_wp2_with fail
        rw [← hw1]
        clear hw1
        refine (HV.out _ H1.out H2.out H3.out).mono ?_
        rintro e wA ⟨rfl, bA⟩
        have FR0 := Lib.hid bA
        have hsA : w1.heap.size ≤ wA.heap.size := bA.size
        clear k0 k1 k2 k3 bA
        obtain ⟨k0, k1, k2, k3, _⟩ := blk4 (BX.out.below FR0.out hgl)
        obtain ⟨r0, r1, r2, r3, rfz⟩ := blk4 (BR.out.below FR0.out hgr)
        go_wp2_with fail
        refine (HH.out _ (H2.out.below FR0.out)).mono ?_
        rintro e wB ⟨rfl, bH⟩
        have FR1 := Lib.hid (FR0.out.trans (bH.mono FR0.out.size))
        have hswB : w1.heap.size ≤ wB.heap.size := FR1.out.size
        clear bH
        clear k0 k1 k2 k3 r0 r1 r2 r3 rfz
        obtain ⟨k0, k1, k2, k3, _⟩ := blk4 (BX.out.below FR1.out hgl)
        obtain ⟨r0, r1, r2, r3, rfz⟩ := blk4 (BR.out.below FR1.out hgr)
        go_wp2_with fail
        refine (HH.out _ (H2.out.below FR1.out)).mono ?_
        rintro e wC ⟨rfl, bH⟩
        have FR2 := Lib.hid (FR1.out.trans (bH.mono FR1.out.size))
        have hswC : w1.heap.size ≤ wC.heap.size := FR2.out.size
        clear bH
        clear k0 k1 k2 k3 r0 r1 r2 r3 rfz
        obtain ⟨k0, k1, k2, k3, _⟩ := blk4 (BX.out.below FR2.out hgl)
        obtain ⟨r0, r1, r2, r3, rfz⟩ := blk4 (BR.out.below FR2.out hgr)
        go_wp2_with fail
        refine (HCP.out _ (H1.out.below FR2.out) (H2.out.below FR2.out) (H3.out.below FR2.out)).mono ?_
        rintro e wD ⟨A1, a1, A2, a2, A3, a3, rfl, pr, bD⟩
        simp only at pr ⊢
        obtain ⟨wO, hwO⟩ : ∃ wO, wO = wD.alloc (.cells #[.int .i64 mx, .slice A1 ids.length a1, .slice A2 hs.length a2, .slice A3 wt.length a3] 26) := ⟨_, rfl⟩
        have hsO : wO.heap.size = wD.heap.size + 1 := by rw [hwO]; simp
        have FR3 := Lib.hid (FR2.out.trans (bD.mono FR2.out.size))
        have hsD : w1.heap.size ≤ wD.heap.size := FR3.out.size
        have BO4 := Lib.hid (show Blk wO wD.heap.size 26 #[.int .i64 mx, .slice A1 ids.length a1, .slice A2 hs.length a2, .slice A3 wt.length a3] by rw [hwO]; exact Blk.new wD _ _)
        have FR4 := Lib.hid (show Below w1.heap.size w1 wO by rw [hwO]; exact FR3.out.alloc hsD _)
        have PR4 := Lib.hid (show PRow wO w1.heap.size _ A1 a1 A2 a2 A3 a3 by rw [hwO]; exact (pr.mono hswC).alloc _)
        have OF4 := Lib.hid (show Off wD.heap.size A1 a1 A2 a2 A3 a3 from pr.off (Nat.le_refl _))
        clear pr bD
        clear k0 k1 k2 k3 r0 r1 r2 r3 rfz
        obtain ⟨k0, k1, k2, k3, _⟩ := blk4 (BX.out.below FR3.out hgl)
        obtain ⟨r0, r1, r2, r3, rfz⟩ := blk4 (BR.out.below FR3.out hgr)
        go_upto_region 5 with fail
        rw [← hwO]
        have hgO : wD.heap.size < wO.heap.size := by omega
        have hgl4 : w.heap.size < wO.heap.size := by omega
        clear hwO hsO
        clear k0 k1 k2 k3 r0 r1 r2 r3 rfz
        obtain ⟨k0, k1, k2, k3, _⟩ := blk4 (BX.out.below FR4.out hgl)
        obtain ⟨r0, r1, r2, r3, rfz⟩ := blk4 (BR.out.below FR4.out hgr)
        obtain ⟨o0, o1, o2, o3, ofz⟩ := blk4 BO4.out
        go_wp2_with (at_builtin; (refine wpList_append_row _ rfl (.tmp 24) (.tmp 28) 24 rfl wO.heap.size 48 i0 (.agg #[.int .i64 0, .int .i64 0]) 2 16 Tryz.underlying24 i0_i i0_z0 i0_z1 i0_z2 rfl (some ⟨wO.heap.size, 0, none⟩) 0 0 [] rfl (Row.nil _ _ _ _ _) (some ⟨b, off, none⟩) j d (sc L1) rfl (by rw [sc_len, HL1l.out]) ((by rw [HL1.out]; exact (H2.out.below FR4.out).takeH j : Rd wO (some ⟨b, off, none⟩) (sc L1)).alloc _) (sc_one _) (by omega) (by unfold maxLen; omega) (by omega) (by simp <;> omega) ?_))
        intro X x wE rowE hgE hatE
        have rowE' : Row wE wO.heap.size 48 2 X L1.length x (sc L1) := by rw [HL1l.out]; simpa using rowE
        have bE : Below wO.heap.size wO wE := ((Below.refl _ _).alloc (Nat.le_refl _) _).grown hgE (by simp) (fun y hy => by simp [rb] at hy)
        obtain ⟨w5, hw5⟩ : ∃ w5, w5 = wE.setCell ⟨wD.heap.size, 2, none⟩ (.slice X j x) := ⟨_, rfl⟩
        have h5s : w5.heap.size = wE.heap.size := by rw [hw5]; simp [World.setCell]
        have hsE : wO.heap.size ≤ wE.heap.size := bE.size
        have BOE := Lib.hid (BO4.out.below bE hgO)
        have FRE := Lib.hid (FR4.out.trans (bE.mono FR4.out.size))
        have BO5 := Lib.hid (show Blk w5 wD.heap.size 26 #[.int .i64 mx, .slice A1 ids.length a1, .slice X j x, .slice A3 wt.length a3] by rw [hw5]; exact BOE.out.set_ 2 _)
        have FR5 := Lib.hid (show Below w1.heap.size w1 w5 by rw [hw5]; exact FRE.out.setCell (by simp <;> omega) _)
        have OF5 := Lib.hid (show Off wD.heap.size A1 a1 X x A3 a3 from ⟨OF4.out.1, rowE'.offNew hgO, OF4.out.2.2⟩)
        have PR5 := Lib.hid (show PRow w5 w1.heap.size ⟨mx, ids, L1, wt⟩ A1 a1 X x A3 a3 by rw [hw5]; exact (PR4.out.newH bE rowE' FR4.out.size).set (q := ⟨wD.heap.size, _, none⟩) OF5.out _)
        clear rowE rowE' hgE hatE bE
        clear k0 k1 k2 k3 r0 r1 r2 r3 rfz o0 o1 o2 o3 ofz
        obtain ⟨k0, k1, k2, k3, _⟩ := blk4 (BX.out.below FRE.out hgl)
        obtain ⟨o0, o1, o2, o3, ofz⟩ := blk4 BOE.out

        go_upto_region 6 with fail
        rw [← hw5]
        have hg5 : wD.heap.size < w5.heap.size := by omega
        clear hw5 h5s k0 k1 k2 k3 o0 o1 o2 o3 ofz
        obtain ⟨k0, k1, k2, k3, _⟩ := blk4 (BX.out.below FR5.out hgl)
        obtain ⟨r0, r1, r2, r3, rfz⟩ := blk4 (BR.out.below FR5.out hgr)
        obtain ⟨o0, o1, o2, o3, ofz⟩ := blk4 BO5.out
        go_still_tail 7, (by kernel_rfl)
        go_wp2_with (at_builtin; (refine wpList_append_row _ (by rfl) (.tmp 32) (.tmp 37) 24 (by rfl) w1.heap.size 48 i0 (.agg #[.int .i64 0, .int .i64 0]) 2 16 Tryz.underlying24 i0_i i0_z0 i0_z1 i0_z2 rfl X j x (sc L1) (by rfl) (by rw [← HL1l.out]; exact PR5.out.2.1.drew) AD (m - (j + 1)) (d - (j + 1)) (sc L2) (by rfl) (by rw [sc_len, HL2l.out]) (CUT.out _ FR5.out.drew) (sc_one _) (by omega) (by unfold maxLen; omega) (by omega) (by simp <;> omega) ?_))
        intro X2 x2 wF rowF hgF hatF
        have hoX : rb X2 x2 ≠ some wD.heap.size := rb_new hatF OF5.out.2.1 hg5
        have hlt9 := PR5.out.2.1.lt
        have BOF := Lib.hid (BO5.out.drew.grown hgF (fun e => OF5.out.2.1 e.symm))
        have FRF := Lib.hid (FR5.out.drew.grown hgF (by have := FR5.out.size; simp <;> omega) (fun y hy => (hlt9 y hy).1))
        obtain ⟨q0, q1, q2, q3, qfz⟩ := blk4 BOF.out
        have rowF' : Row wF w1.heap.size 48 2 X2 (L1 ++ L2).length x2 (sc (L1 ++ L2)) := by rw [sc_append, List.length_append, HL1l.out, HL2l.out, hg]; exact rowF
        obtain ⟨N1, hN1⟩ : ∃ N1, N1 = j + (m - (j + 1)) := ⟨_, rfl⟩
        rw [← hN1]
        have HN1 : Hid (N1 = (L1 ++ L2).length) := by show _ = _; rw [hN1, List.length_append, HL1l.out, HL2l.out]
        have hN6 : N1 ≤ 6 := by omega
        obtain ⟨w7, hw7⟩ : ∃ w7, w7 = wF.setCell ⟨wD.heap.size, 2, none⟩ (.slice X2 N1 x2) := ⟨_, rfl⟩
        have h7s : w7.heap.size = wF.heap.size := by rw [hw7]; simp [World.setCell]
        have hsF : w5.heap.size ≤ wF.heap.size := hgF.size
        have BO7 := Lib.hid (show Blk w7 wD.heap.size 26 #[.int .i64 mx, .slice A1 ids.length a1, .slice X2 N1 x2, .slice A3 wt.length a3] by rw [hw7]; exact BOF.out.set_ 2 _)
        have FR7 := Lib.hid (show Below w1.heap.size w1 w7 by rw [hw7]; exact FRF.out.setCell (by simp <;> omega) _)
        have OF7 := Lib.hid (show Off wD.heap.size A1 a1 X2 x2 A3 a3 from ⟨OF5.out.1, hoX, OF5.out.2.2⟩)
        have PR7 := Lib.hid (show PRow w7 w1.heap.size ⟨mx, ids, L1 ++ L2, wt⟩ A1 a1 X2 x2 A3 a3 by rw [hw7]; exact (PRow.pushH PR5.out.drew hgF rowF' hatF).set (q := ⟨wD.heap.size, _, none⟩) OF7.out _)
        have hg7 : wD.heap.size < w7.heap.size := by omega
        have hgl7 : w.heap.size < w7.heap.size := by omega
        clear rowF rowF' hgF hatF hlt9 hoX hN1
        clear k0 k1 k2 k3 r0 r1 r2 r3 rfz o0 o1 o2 o3 ofz

        go_upto_region 7 with fail
        rw [← hw7]
        clear hw7 h7s q0 q1 q2 q3 qfz
        obtain ⟨k0, k1, k2, k3, _⟩ := blk4 (BX.out.below FR7.out hgl)
        obtain ⟨r0, r1, r2, r3, rfz⟩ := blk4 (BR.out.below FR7.out hgr)
        obtain ⟨o0, o1, o2, o3, ofz⟩ := blk4 BO7.out

        go_wp2_with fail
        have hc3 := CELL3.out _ FR7.out
        have hg71 : wD.heap.size < w7.heap.size + 1 := by omega
        have hb71 : w1.heap.size ≤ (w7.drew.alloc (.cells #[.int .i64 v, .int .i64 W0] 48)).heap.size := by have := FR7.out.size; simp <;> omega
        go_region_law (first | (refine step_append_row _ (by rfl) (.tmp 52) (.tmp 59) 24 (by rfl) w1.heap.size 48 i0 (.agg #[.int .i64 0, .int .i64 0]) 2 16 Tryz.underlying24 i0_i i0_z0 i0_z1 i0_z2 rfl X2 N1 x2 (sc (L1 ++ L2)) (by rfl) (by rw [HN1.out]; exact PR7.out.2.1.drew.alloc _) (some ⟨w7.heap.size, 0, none⟩) 1 1 [.int .i64 v, .int .i64 W0] (by rfl) rfl (Rd.two_ w7.drew _ _ _) (two1_ _ _) (by omega) (by unfold maxLen; omega) (by omega) (by simp <;> omega) ?_; intro X4 x4 wH rowH hgH hatH; have hatH' : rb X4 x4 = rb X2 x2 ∨ rb X4 x4 = some (w7.heap.size + 1) := (by first | exact hatH | simpa using hatH); have hoX : rb X4 x4 ≠ some wD.heap.size := rb_new hatH' OF7.out.2.1 hg71; have hlt9 := PR7.out.2.1.lt; have BOH := Lib.hid ((BO7.out.drew.alloc _).grown hgH (fun e => OF7.out.2.1 e.symm)); have FRH := Lib.hid ((FR7.out.drew.alloc FR7.out.size _).grown hgH hb71 (fun y hy => (hlt9 y hy).1)); obtain ⟨q0, q1, q2, q3, qfz⟩ := blk4 BOH.out))
        all_goals
          have rowH' : Row wH w1.heap.size 48 2 X4 (L1 ++ L2 ++ [(v, W0)]).length x4 (sc (L1 ++ L2 ++ [(v, W0)])) := by
            rw [← snocH (L1 ++ L2) v W0 _ rfl, List.length_append, ← HN1.out]
            first | exact rowH | (rw [hg]; exact rowH)
          obtain ⟨w9, hw9⟩ : ∃ w9, w9 = wH.setCell ⟨wD.heap.size, 2, none⟩ (.slice X4 (N1 + 1) x4) := ⟨_, rfl⟩
          have h9s : w9.heap.size = wH.heap.size := by rw [hw9]; simp [World.setCell]
          have hsH : w7.heap.size < wH.heap.size := by have := hgH.size; simp at this; omega
          have BO9 := Lib.hid (show Blk w9 wD.heap.size 26 #[.int .i64 mx, .slice A1 ids.length a1, .slice X4 (N1 + 1) x4, .slice A3 wt.length a3] by rw [hw9]; exact BOH.out.set_ 2 _)
          have FR9 := Lib.hid (show Below w1.heap.size w1 w9 by rw [hw9]; exact FRH.out.setCell (by simp <;> omega) _)
          have OF9 := Lib.hid (show Off wD.heap.size A1 a1 X4 x4 A3 a3 from ⟨OF7.out.1, hoX, OF7.out.2.2⟩)
          have PR9 := Lib.hid (show PRow w9 w1.heap.size ⟨mx, ids, L1 ++ L2 ++ [(v, W0)], wt⟩ A1 a1 X4 x4 A3 a3 by rw [hw9]; exact (PRow.pushH (PR7.out.drew.alloc _) hgH rowH' hatH).set (q := ⟨wD.heap.size, _, none⟩) OF9.out _)
          have hg9 : wD.heap.size < w9.heap.size := by omega
          have hgl9 : w.heap.size < w9.heap.size := by omega
          clear rowH rowH' hgH hatH hatH' hlt9 hoX
          clear k0 k1 k2 k3 r0 r1 r2 r3 rfz o0 o1 o2 o3 ofz
          go_upto_region 11 with fail
          rw [← hw9]
          clear hw9 h9s q0 q1 q2 q3 qfz
          obtain ⟨k0, k1, k2, k3, _⟩ := blk4 (BX.out.below FR9.out hgl)
          obtain ⟨r0, r1, r2, r3, rfz⟩ := blk4 (BR.out.below FR9.out hgr)
          obtain ⟨o0, o1, o2, o3, ofz⟩ := blk4 BO9.out

          go_wp2_with fail
          refine (HCI.out _ (CUT3.out _ FR9.out)).mono ?_
          rintro e wI ⟨Y, y, rfl, rY, bI⟩
          have hsI : w9.heap.size ≤ wI.heap.size := bI.size
          have hgI : wD.heap.size < wI.heap.size := by omega
          have hglI : w.heap.size < wI.heap.size := by omega
          have BOI := Lib.hid (BO9.out.below bI hg9)
          have FRI := Lib.hid (FR9.out.trans (bI.mono FR9.out.size))
          obtain ⟨wJ, hwJ⟩ : ∃ wJ, wJ = wI.setCell ⟨wD.heap.size, 3, none⟩ (.slice Y L3.length y) := ⟨_, rfl⟩
          have hJs : wJ.heap.size = wI.heap.size := by rw [hwJ]; simp [World.setCell]
          have BO11 := Lib.hid (show Blk wJ wD.heap.size 26 #[.int .i64 mx, .slice A1 ids.length a1, .slice X4 (N1 + 1) x4, .slice Y L3.length y] by rw [hwJ]; exact BOI.out.set_ 3 _)
          have FR11 := Lib.hid (show Below w1.heap.size w1 wJ by rw [hwJ]; exact FRI.out.setCell (by simp <;> omega) _)
          have OF11 := Lib.hid (show Off wD.heap.size A1 a1 X4 x4 Y y from ⟨OF9.out.1, OF9.out.2.1, rY.offNew hg9⟩)
          have PR11 := Lib.hid (show PRow wJ w1.heap.size ⟨mx, ids, L1 ++ L2 ++ [(v, W0)], L3⟩ A1 a1 X4 x4 Y y by rw [hwJ]; exact (PR9.out.newW bI rY FR9.out.size).set (q := ⟨wD.heap.size, _, none⟩) OF11.out _)
          have hgJ : wD.heap.size < wJ.heap.size := by omega
          have hglJ : w.heap.size < wJ.heap.size := by omega
          clear rY bI
          clear k0 k1 k2 k3 r0 r1 r2 r3 rfz o0 o1 o2 o3 ofz
          obtain ⟨o0, o1, o2, o3, ofz⟩ := blk4 BOI.out
          go_upto_region 12 with fail
          rw [← hwJ]
          clear hwJ hJs o0 o1 o2 o3 ofz
          obtain ⟨k0, k1, k2, k3, _⟩ := blk4 (BX.out.below FR11.out hgl)
          obtain ⟨r0, r1, r2, r3, rfz⟩ := blk4 (BR.out.below FR11.out hgr)
          obtain ⟨o0, o1, o2, o3, ofz⟩ := blk4 BO11.out

          have hoo : ¬ w.heap.size + 1 = wD.heap.size := by omega
          have hoo' : ¬ wD.heap.size = w.heap.size + 1 := by omega
          have hc3 := CELL3.out _ FR11.out
          go_region
          all_goals go_wp2_with fail
          refine bodyPost_ret (v := .tuple #[.agg #[.int .i64 mx, .slice A1 ids.length a1, .slice X4 (N1 + 1) x4, .slice Y L3.length y], .int .i64 (W0), .bool true]) (by simp [results, Tryz.results85, go_sem, r0, r1, r2, r3, rfz, o0, o1, o2, o3, ofz, hoo, hoo']) rfl ?_
          refine ⟨A1, a1, X4, x4, Y, y, ?_, ?_, ?_⟩
          · have h9 : (L1 ++ (L2 ++ [(v, W0)])).length = N1 + 1 := by rw [← List.append_assoc, List.length_append, HN1.out]; rfl
            have h9b : (L1 ++ L2 ++ [(v, W0)]).length = N1 + 1 := by rw [List.length_append, HN1.out]; rfl
            simp only [h9, h9b]
          · refine PRow.mono (base := w1.heap.size) ?_ (by omega)
            refine PRow.drew ?_
            iterate 4 (with_reducible refine PRow.setFar ?_ (by simp <;> omega) _)
            exact (by first | exact PR11.out | (rw [← List.append_assoc]; exact PR11.out))
          · refine Below.drew ?_
            iterate 4 (with_reducible refine Below.setCell ?_ (by simp <;> omega) _)
            exact B01.out.trans (FR11.out.mono (by omega))
end Go.Proofs.YtnmgnhpagnjhlaaGreatDoor
