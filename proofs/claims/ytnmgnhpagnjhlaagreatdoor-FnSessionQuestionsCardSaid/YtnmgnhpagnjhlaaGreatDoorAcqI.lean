/- An owner asks for a connection: the program. -/
import Derived.Test.YtnmgnhpagnjhlaaGreatDoorSessI
set_option linter.unusedVariables false
set_option linter.unusedSimpArgs false
set_option linter.unnecessarySimpa false
namespace Go.Proofs.YtnmgnhpagnjhlaaGreatDoor
open Go.RowKit

theorem acqR_ok {p : Pl} {o : Int} (h : p.valid = true) (ho : 0 ≤ o ∧ o ≤ 4) (h2 : (acqV p o).1.valid = true) : acqR p o = ((acqV p o).1, (acqV p o).2, true) := if_pos ⟨h, ho, h2⟩
theorem acqR_no {p : Pl} {o : Int} (h : ¬ (p.valid = true ∧ (0 ≤ o ∧ o ≤ 4) ∧ (acqV p o).1.valid = true)) : acqR p o = (Pl.zero, -1, false) := if_neg h
theorem cloneHN_c (zs : List Pr) (A : Option Addr) (c : Nat) (n : Nat) (hN : zs.length = n) (w : World) (h : Rd w A (sc zs)) (hn : n ≤ 1073741824) :
    Calls Tryz.prog 82 #[.slice A n c] w (RetClipH zs w) := cloneH_c zs A n c w hN h hn
set_option maxRecDepth 100000 in
set_option maxHeartbeats 16000000 in
theorem iAcquireConn_c (mx : Int) (ids : List Int) (hs : List Pr) (wt : List Int) (A : Option Addr) (n c : Nat) (B : Option Addr) (m d : Nat) (C : Option Addr) (k f : Nat) (w : World) (hA : ids.length = n) (hB : hs.length = m) (hC : wt.length = k)
    (h1 : Rd w A (ids.map (.int .i64))) (h2 : Rd w B (sc hs)) (h3 : Rd w C (wt.map (.int .i64))) (l1 : n ≤ 1073741824) (l2 : m ≤ 1073741824) (l3 : k ≤ 1073741824) (hcA : n ≤ c) (o : Int) :
    Calls Tryz.prog 97 #[.agg #[.int .i64 mx, .slice A n c, .slice B m d, .slice C k f], .int .i64 o] w (RetPCB (acqR ⟨mx, ids, hs, wt⟩ o).1 (acqR ⟨mx, ids, hs, wt⟩ o).2.1 (acqR ⟨mx, ids, hs, wt⟩ o).2.2 w) := by
  obtain ⟨i0, i0_i, i0_z0, i0_z1, i0_z2⟩ := info_parts poolHoldInfo
  obtain ⟨j0, j0_i, j0_z0, j0_z1, j0_z2⟩ := info_parts poolIntInfo
  obtain ⟨w1, hw1⟩ : ∃ w1, w1 = (w.alloc (.cells #[.int .i64 mx, .slice A n c, .slice B m d, .slice C k f] 26)).alloc (.cells #[.int .i64 0, .slice none 0 0, .slice none 0 0, .slice none 0 0] 26) := ⟨_, rfl⟩
  have hg : w1.heap.size = w.heap.size + 1 + 1 := by rw [hw1]; simp
  have H1 := Lib.hid (show Rd w1 A _ by rw [hw1]; exact (h1.alloc _).alloc _)
  have H2 := Lib.hid (show Rd w1 B _ by rw [hw1]; exact (h2.alloc _).alloc _)
  have H3 := Lib.hid (show Rd w1 C _ by rw [hw1]; exact (h3.alloc _).alloc _)
  have BX := Lib.hid (show Blk w1 w.heap.size 26 #[.int .i64 mx, .slice A n c, .slice B m d, .slice C k f] by rw [hw1]; exact (Blk.new w _ _).alloc _)
  have BR := Lib.hid (show Blk w1 (w.heap.size + 1) 26 #[.int .i64 0, .slice none 0 0, .slice none 0 0, .slice none 0 0] by rw [hw1]; have := Blk.new (w.alloc (.cells #[.int .i64 mx, .slice A n c, .slice B m d, .slice C k f] 26)) 26 #[.int .i64 0, .slice none 0 0, .slice none 0 0, .slice none 0 0]; simpa using this)
  have B01 := Lib.hid (show Below w.heap.size w w1 by rw [hw1]; exact ((Below.refl _ _).alloc (Nat.le_refl _) _).alloc (by simp) _)
  have hgl : w.heap.size < w1.heap.size := by omega
  have hgr : w.heap.size + 1 < w1.heap.size := by omega
  have HV := Lib.hid (fun W q1 q2 q3 => validPool_c mx ids hs wt A n c B m d C k f W hA hB hC q1 q2 q3 l1 l2 l3 hcA)
  have HCP := Lib.hid (fun W q1 q2 q3 => copyOf_c mx ids hs wt A n c B m d C k f W hA hB hC q1 q2 q3 l1 l2 l3)
  have HH := Lib.hid (fun v W q => held_c hs mx v A n c B m d C k f W hB q l2)
  have HI := Lib.hid (fun W => isOwner_c o W)
  have HA := Lib.hid hA; have HB := Lib.hid hB; have HC := Lib.hid hC
  obtain ⟨k0, k1, k2, k3, _⟩ := blk4 BX.out
  obtain ⟨vd, hv⟩ : ∃ vd, vd = Pl.valid ⟨mx, ids, hs, wt⟩ := ⟨_, rfl⟩
  rw [← hv] at HV
  cases vd
  · have HRES : Hid (acqR ⟨mx, ids, hs, wt⟩ o = (Pl.zero, -1, false)) := acqR_no (fun h => by rw [← hv] at h; cases h.1)
    rw [HRES.out]
    clear hA hB hC hv
    go_enter Tryz.func97, Tryz.ntmps97
    go_wp2_with fail
    rw [← hw1]
    clear hw1
    refine (HV.out _ H1.out H2.out H3.out).mono ?_
    rintro e wA ⟨rfl, bA⟩
    have FR0 := Lib.hid bA
    have hsA : w1.heap.size ≤ wA.heap.size := bA.size
    clear k0 k1 k2 k3 bA
    obtain ⟨k0, k1, k2, k3, _⟩ := blk4 (BX.out.below FR0.out hgl)
    obtain ⟨r0, r1, r2, r3, rfz⟩ := blk4 (BR.out.below FR0.out hgr)
    go_wp2_with fail
    refine bodyPost_ret (v := .tuple #[.agg #[.int .i64 0, .slice none 0 0, .slice none 0 0, .slice none 0 0], .int .i64 (-1), .bool false]) (by simp [results, Tryz.results97, go_sem, r0, r1, r2, r3, rfz]) rfl ?_
    refine ⟨none, 0, none, 0, none, 0, rfl, PRow.zero _ _, ?_⟩
    repeat (with_reducible refine Below.setCell ?_ (by simp <;> omega) _)
    exact B01.out.trans (FR0.out.mono (by omega))
  · have g : Pl.Good ⟨mx, ids, hs, wt⟩ := valid_good.1 hv.symm
    by_cases ho : 0 ≤ o ∧ o ≤ 4
    · rw [decide_eq_true ho] at HI
      have hsm := g.small
      simp only at hsm
      have hmx := g.2.2.1
      simp only at hmx
      have lA : ids.length ≤ 6 := by omega
      have lB : hs.length ≤ 6 := by omega
      have lC : wt.length ≤ 12 := by omega
      by_cases hn : 0 < n
      · have hnd : decide ((0 : Int) < (n : Int)) = true := decide_eq_true (by omega)
        have hnd2 : decide (0 < n) = true := decide_eq_true (by omega)
        obtain ⟨j, rfl⟩ : ∃ j, n = j + 1 := ⟨n - 1, by omega⟩
        obtain ⟨X0, hX0⟩ : ∃ X0, X0 = ids.getD j 0 := ⟨_, rfl⟩
        obtain ⟨L, hL⟩ : ∃ L, L = ids.take j := ⟨_, rfl⟩
        have hLl : L.length = j := by rw [hL, List.length_take]; omega
        have hge : ids[j]? = some X0 := by rw [hX0, List.getD_eq_getElem?_getD, List.getElem?_eq_getElem (by omega), Option.getD_some]
        obtain ⟨ZH, hZH⟩ : ∃ ZH, ZH = hs ++ [(X0, o)] := ⟨_, rfl⟩
        have HZL : Hid (ZH.length = hs.length + 1) := by show _ = _; rw [hZH, List.length_append]; rfl
        have HRES : Hid (acqR ⟨mx, ids, hs, wt⟩ o = (⟨mx, L, ZH, wt⟩, X0, true)) := by
          show _ = _
          rw [acqR_ok hv.symm ho (valid_good.2 (g.acq_idle ho (by show 0 < ids.length; omega)))]
          have e : ids.length - 1 = j := by omega
          unfold acqV
          simp only [e]
          rw [if_pos (by omega), ← hX0, ← hL, ← hZH]
        rw [HRES.out]
        have HCI := Lib.hid (fun A c W q => cloneR_c L A j c W hLl q (by omega))
        have HGE := Lib.hid hge; have HL := Lib.hid hL; have HZH := Lib.hid hZH
        have hjw : IntKind.i64.wrap (j : Int) = (j : Int) := IntWalk.i64_in _ ⟨by omega, by omega⟩
        have lL : L.length ≤ 6 := by omega
        clear hX0 hL hge hLl hZH hA hB hC hv hsm hmx g ho h1 h2 h3
        go_enter Tryz.func97, Tryz.ntmps97
        go_wp2_with fail
        rw [← hw1]
        clear hw1
        refine (HV.out _ H1.out H2.out H3.out).mono ?_
        rintro e wA ⟨rfl, bA⟩
        have FR0 := Lib.hid bA
        have hsA : w1.heap.size ≤ wA.heap.size := bA.size
        clear k0 k1 k2 k3 bA
        obtain ⟨k0, k1, k2, k3, _⟩ := blk4 (BX.out.below FR0.out hgl)
        obtain ⟨r0, r1, r2, r3, rfz⟩ := blk4 (BR.out.below FR0.out hgr)
        go_wp2_with fail
        refine (HI.out _).mono ?_
        rintro e wI ⟨rfl, rfl⟩
        go_wp2_with fail
        refine (HCP.out _ (H1.out.below FR0.out) (H2.out.below FR0.out) (H3.out.below FR0.out)).mono ?_
        rintro e wB ⟨A1, a1, A2, a2, A3, a3, rfl, pr, bB⟩
        simp only at pr ⊢
        obtain ⟨wO, hwO⟩ : ∃ wO, wO = wB.alloc (.cells #[.int .i64 mx, .slice A1 ids.length a1, .slice A2 hs.length a2, .slice A3 wt.length a3] 26) := ⟨_, rfl⟩
        have hsO : wO.heap.size = wB.heap.size + 1 := by rw [hwO]; simp
        have FR1 := Lib.hid (FR0.out.trans (bB.mono FR0.out.size))
        have hsB : w1.heap.size ≤ wB.heap.size := FR1.out.size
        have BO2 := Lib.hid (show Blk wO wB.heap.size 26 #[.int .i64 mx, .slice A1 ids.length a1, .slice A2 hs.length a2, .slice A3 wt.length a3] by rw [hwO]; exact Blk.new wB _ _)
        have FR2 := Lib.hid (show Below w1.heap.size w1 wO by rw [hwO]; exact FR1.out.alloc hsB _)
        have PR2 := Lib.hid (show PRow wO w1.heap.size ⟨mx, ids, hs, wt⟩ A1 a1 A2 a2 A3 a3 by rw [hwO]; exact (pr.mono hsA).alloc _)
        have OF2 := Lib.hid (show Off wB.heap.size A1 a1 A2 a2 A3 a3 from pr.off (Nat.le_refl _))
        have hgO : wB.heap.size < wO.heap.size := by omega
        have hgl4 : w.heap.size < wO.heap.size := by omega
        have hna : ids.length ≤ a1 := pr.1.le
        clear pr bB k0 k1 k2 k3 r0 r1 r2 r3 rfz
        go_upto_region 4 with fail
        rw [← hwO]
        clear hwO hsO
        obtain ⟨k0, k1, k2, k3, _⟩ := blk4 (BX.out.below FR2.out hgl)
        obtain ⟨r0, r1, r2, r3, rfz⟩ := blk4 (BR.out.below FR2.out hgr)
        obtain ⟨o0, o1, o2, o3, ofz⟩ := blk4 BO2.out
        have hja1 : (j : Int) ≤ (a1 : Int) := by have := HA.out; omega
        have hj0 : (0 : Int) ≤ (j : Int) := by omega
        obtain ⟨b, off, hAe, hbl, hc⟩ := (H1.out.below FR2.out).block (by simp <;> have := HA.out <;> omega)
        have hcj : wO.cell? ⟨b, off + j, none⟩ = some (.int .i64 X0) := hc j _ (by rw [List.getElem?_map, HGE.out]; rfl)
        subst hAe
        clear hc
        go_wp2_with fail
        refine (HCI.out A1 a1 _ (by rw [HL.out, List.map_take]; exact PR2.out.1.rd.take j)).mono ?_
        rintro e wC ⟨Y, y, rfl, rY, bC⟩
        obtain ⟨w5, hw5⟩ : ∃ w5, w5 = wC.setCell ⟨wB.heap.size, 1, none⟩ (.slice Y L.length y) := ⟨_, rfl⟩
        have h5s : w5.heap.size = wC.heap.size := by rw [hw5]; simp [World.setCell]
        have hsC : wO.heap.size ≤ wC.heap.size := bC.size
        have BOC := Lib.hid (BO2.out.below bC hgO)
        have FRC := Lib.hid (FR2.out.trans (bC.mono FR2.out.size))
        have BO3 := Lib.hid (show Blk w5 wB.heap.size 26 #[.int .i64 mx, .slice Y L.length y, .slice A2 hs.length a2, .slice A3 wt.length a3] by rw [hw5]; exact BOC.out.set_ 1 _)
        have FR3 := Lib.hid (show Below w1.heap.size w1 w5 by rw [hw5]; exact FRC.out.setCell (by simp <;> omega) _)
        have OF3 := Lib.hid (show Off wB.heap.size Y y A2 a2 A3 a3 from ⟨rY.offNew hgO, OF2.out.2.1, OF2.out.2.2⟩)
        have PR3 := Lib.hid (show PRow w5 w1.heap.size ⟨mx, L, hs, wt⟩ Y y A2 a2 A3 a3 by rw [hw5]; exact (PR2.out.newI bC rY FR2.out.size).set (q := ⟨wB.heap.size, _, none⟩) OF3.out _)
        have hg5 : wB.heap.size < w5.heap.size := by omega
        have hgl5 : w.heap.size < w5.heap.size := by omega
        clear rY bC k0 k1 k2 k3 r0 r1 r2 r3 rfz o0 o1 o2 o3 ofz
        obtain ⟨o0, o1, o2, o3, ofz⟩ := blk4 BOC.out
        go_upto_region 17 with fail
        rw [← hw5]
        clear hw5 h5s o0 o1 o2 o3 ofz
        obtain ⟨k0, k1, k2, k3, _⟩ := blk4 (BX.out.below FR3.out hgl)
        obtain ⟨r0, r1, r2, r3, rfz⟩ := blk4 (BR.out.below FR3.out hgr)
        obtain ⟨o0, o1, o2, o3, ofz⟩ := blk4 BO3.out
        go_wp2_with (at_builtin; (refine wpList_append_row _ rfl (.tmp 68) (.tmp 72) 24 rfl w1.heap.size 48 i0 (.agg #[.int .i64 0, .int .i64 0]) 2 16 Tryz.underlying24 i0_i i0_z0 i0_z1 i0_z2 rfl A2 hs.length a2 (sc hs) (by first | rfl | simp) (PR3.out.2.1.alloc _) (some ⟨w5.heap.size, 0, none⟩) 1 1 [.int .i64 X0, .int .i64 o] rfl rfl (Rd.two_ _ _ _ _) (two1_ _ _) (by omega) (by unfold maxLen; omega) (by omega) (by simp <;> omega) ?_))
        intro X x wD rowD hgD hatD
        have rowD' : Row wD w1.heap.size 48 2 X ZH.length x (sc ZH) := by rw [HZH.out, ← snocH hs X0 o _ rfl, List.length_append, hg]; exact rowD
        have hlt9 := PR3.out.2.1.lt
        have hatD' : rb X x = rb A2 a2 ∨ rb X x = some (w5.heap.size + 1) := by simpa using hatD
        have PD := Lib.hid (PRow.pushH (PR3.out.alloc _) hgD rowD' (by simpa using hatD))
        have hoX : rb X x ≠ some wB.heap.size := rb_new hatD' OF3.out.2.1 (by omega)
        have OFD := Lib.hid (show Off wB.heap.size Y y X x A3 a3 from ⟨OF3.out.1, hoX, OF3.out.2.2⟩)
        have BOD := Lib.hid ((BO3.out.alloc _).grown hgD (fun e => OF3.out.2.1 e.symm))
        have FRD := Lib.hid ((FR3.out.alloc FR3.out.size _).grown hgD (by have := FR3.out.size; simp <;> omega) (fun y hy => (hlt9 y hy).1))
        have hsD : w5.heap.size < wD.heap.size := by have := hgD.size; simp at this; omega
        have hgD2 : wB.heap.size < wD.heap.size := by omega
        clear rowD rowD' hgD hatD hatD' hlt9 hoX
        clear k0 k1 k2 k3 r0 r1 r2 r3 rfz o0 o1 o2 o3 ofz
        obtain ⟨k0, k1, k2, k3, _⟩ := blk4 (BX.out.below FRD.out hgl)
        obtain ⟨r0, r1, r2, r3, rfz⟩ := blk4 (BR.out.below FRD.out hgr)
        obtain ⟨o0, o1, o2, o3, ofz⟩ := blk4 BOD.out
        go_wp2_with fail
        refine (cloneHN_c ZH X x _ HZL.out wD PD.out.2.1.rd (by omega)).mono ?_
        rintro e wE ⟨A9, rfl, r9, b9⟩
        obtain ⟨w6, hw6⟩ : ∃ w6, w6 = wE.setCell ⟨wB.heap.size, 2, none⟩ (.slice A9 ZH.length ZH.length) := ⟨_, rfl⟩
        have h6s : w6.heap.size = wE.heap.size := by rw [hw6]; simp [World.setCell]
        have hsE : wD.heap.size ≤ wE.heap.size := b9.size
        have BOE := Lib.hid (BOD.out.below b9 hgD2)
        have FRE := Lib.hid (FRD.out.trans (b9.mono FRD.out.size))
        have BO6 := Lib.hid (show Blk w6 wB.heap.size 26 #[.int .i64 mx, .slice Y L.length y, .slice A9 ZH.length ZH.length, .slice A3 wt.length a3] by rw [hw6]; exact BOE.out.set_ 2 _)
        have FR6 := Lib.hid (show Below w1.heap.size w1 w6 by rw [hw6]; exact FRE.out.setCell (by simp <;> omega) _)
        have OF6 := Lib.hid (show Off wB.heap.size Y y A9 ZH.length A3 a3 from ⟨OFD.out.1, r9.offNew hgD2, OFD.out.2.2⟩)
        have PR6 := Lib.hid (show PRow w6 w1.heap.size ⟨mx, L, ZH, wt⟩ Y y A9 ZH.length A3 a3 by rw [hw6]; exact (PD.out.newH b9 r9 FRD.out.size).set (q := ⟨wB.heap.size, _, none⟩) OF6.out _)
        have hg6 : wB.heap.size < w6.heap.size := by omega
        clear r9 b9 k0 k1 k2 k3 r0 r1 r2 r3 rfz o0 o1 o2 o3 ofz
        obtain ⟨o0, o1, o2, o3, ofz⟩ := blk4 BOE.out
        go_upto_region 18 with fail
        rw [← hw6]
        clear hw6 h6s o0 o1 o2 o3 ofz
        obtain ⟨k0, k1, k2, k3, _⟩ := blk4 (BX.out.below FR6.out hgl)
        obtain ⟨r0, r1, r2, r3, rfz⟩ := blk4 (BR.out.below FR6.out hgr)
        obtain ⟨o0, o1, o2, o3, ofz⟩ := blk4 BO6.out
        have hoo : ¬ w.heap.size + 1 = wB.heap.size := by omega
        have hoo' : ¬ wB.heap.size = w.heap.size + 1 := by omega
        go_wp2_with fail
        refine bodyPost_ret (v := .tuple #[.agg #[.int .i64 mx, .slice Y L.length y, .slice A9 ZH.length ZH.length, .slice A3 wt.length a3], .int .i64 X0, .bool true]) (by simp [results, Tryz.results97, go_sem, r0, r1, r2, r3, rfz, o0, o1, o2, o3, ofz, hoo, hoo']) rfl ?_
        refine ⟨_, _, _, _, _, _, rfl, ?_, ?_⟩
        · refine PRow.mono (base := w1.heap.size) ?_ (by omega)
          iterate 4 (with_reducible refine PRow.setFar ?_ (by simp <;> omega) _)
          exact PR6.out
        · iterate 4 (with_reducible refine Below.setCell ?_ (by simp <;> omega) _)
          exact B01.out.trans (FR6.out.mono (by omega))
      · have hids : ids = [] := List.eq_nil_of_length_eq_zero (by omega)
        have hi0 : ¬ 0 < (Pl.mk mx ids hs wt).ids.length := by show ¬ 0 < ids.length; omega
        have hnd : decide ((0 : Int) < (n : Int)) = false := decide_eq_false (by omega)
        have hnd2 : decide (0 < n) = false := decide_eq_false (by omega)
        by_cases hz : closedV mx.toNat ids hs < 0
        · have hfull := g.full hi0 hz
          simp only at hfull
          have hmd : decide ((m : Int) < mx) = false := decide_eq_false (by omega)
          have hvw := g.acq_wait ho hi0 hz
          by_cases hw : wt.length < 12
          · rw [decide_eq_true (by exact hw)] at hvw
            obtain ⟨ZW, hZW⟩ : ∃ ZW, ZW = wt ++ [o] := ⟨_, rfl⟩
            have HZL : Hid (ZW.length = wt.length + 1) := by show _ = _; rw [hZW, List.length_append]; rfl
            have HRES : Hid (acqR ⟨mx, ids, hs, wt⟩ o = (⟨mx, ids, hs, ZW⟩, -1, true)) := by
              show _ = _
              rw [acqR_ok hv.symm ho hvw]
              unfold acqV
              rw [if_neg hi0, if_pos hz, ← hZW]
            rw [HRES.out]
            have HZW := Lib.hid hZW
            have hk12 : ((k : Int) == 12) = false := beq_eq_false_iff_ne.2 (by omega)
            clear hZW hA hB hC hv hsm hmx g ho h1 h2 h3 hz hvw hfull hi0 hw hids hn
            go_enter Tryz.func97, Tryz.ntmps97
            go_wp2_with fail
            rw [← hw1]
            clear hw1
            refine (HV.out _ H1.out H2.out H3.out).mono ?_
            rintro e wA ⟨rfl, bA⟩
            have FR0 := Lib.hid bA
            have hsA : w1.heap.size ≤ wA.heap.size := bA.size
            clear k0 k1 k2 k3 bA
            obtain ⟨k0, k1, k2, k3, _⟩ := blk4 (BX.out.below FR0.out hgl)
            obtain ⟨r0, r1, r2, r3, rfz⟩ := blk4 (BR.out.below FR0.out hgr)
            go_wp2_with fail
            refine (HI.out _).mono ?_
            rintro e wI ⟨rfl, rfl⟩
            go_wp2_with fail
            refine (HCP.out _ (H1.out.below FR0.out) (H2.out.below FR0.out) (H3.out.below FR0.out)).mono ?_
            rintro e wB ⟨A1, a1, A2, a2, A3, a3, rfl, pr, bB⟩
            simp only at pr ⊢
            obtain ⟨wO, hwO⟩ : ∃ wO, wO = wB.alloc (.cells #[.int .i64 mx, .slice A1 ids.length a1, .slice A2 hs.length a2, .slice A3 wt.length a3] 26) := ⟨_, rfl⟩
            have hsO : wO.heap.size = wB.heap.size + 1 := by rw [hwO]; simp
            have FR1 := Lib.hid (FR0.out.trans (bB.mono FR0.out.size))
            have hsB : w1.heap.size ≤ wB.heap.size := FR1.out.size
            have BO2 := Lib.hid (show Blk wO wB.heap.size 26 #[.int .i64 mx, .slice A1 ids.length a1, .slice A2 hs.length a2, .slice A3 wt.length a3] by rw [hwO]; exact Blk.new wB _ _)
            have FR2 := Lib.hid (show Below w1.heap.size w1 wO by rw [hwO]; exact FR1.out.alloc hsB _)
            have PR2 := Lib.hid (show PRow wO w1.heap.size ⟨mx, ids, hs, wt⟩ A1 a1 A2 a2 A3 a3 by rw [hwO]; exact (pr.mono hsA).alloc _)
            have OF2 := Lib.hid (show Off wB.heap.size A1 a1 A2 a2 A3 a3 from pr.off (Nat.le_refl _))
            have hgO : wB.heap.size < wO.heap.size := by omega
            have hgl4 : w.heap.size < wO.heap.size := by omega
            have hna : ids.length ≤ a1 := pr.1.le
            clear pr bB k0 k1 k2 k3 r0 r1 r2 r3 rfz
            go_upto_region 4 with fail
            rw [← hwO]
            clear hwO hsO
            obtain ⟨k0, k1, k2, k3, _⟩ := blk4 (BX.out.below FR2.out hgl)
            obtain ⟨r0, r1, r2, r3, rfz⟩ := blk4 (BR.out.below FR2.out hgr)
            obtain ⟨o0, o1, o2, o3, ofz⟩ := blk4 BO2.out
            go_wp2_with (at_builtin; (refine wpList_append_row _ rfl (.tmp 25) (.tmp 27) 23 rfl w1.heap.size 3 j0 (.int .i64 0) 1 8 Tryz.underlying23 j0_i j0_z0 j0_z1 j0_z2 rfl A3 wt.length a3 (wt.map (.int .i64)) (by first | rfl | simp) (PR2.out.2.2.1.alloc _) (some ⟨wO.heap.size, 0, none⟩) 1 1 [.int .i64 o] rfl rfl (Rd.one (cell_new _ _ _ 0)) (one1 _ rfl) (by omega) (by unfold maxLen; omega) (by omega) (by simp <;> omega) ?_))
            intro X x wD rowD hgD hatD
            have rowD' : Row wD w1.heap.size 3 1 X ZW.length x (ZW.map (.int .i64)) := by rw [HZW.out, ← snocI wt o _ rfl, List.length_append, hg]; exact rowD
            have hlt9 := PR2.out.2.2.1.lt
            have hatD' : rb X x = rb A3 a3 ∨ rb X x = some (wO.heap.size + 1) := by simpa using hatD
            have PD := Lib.hid (PRow.pushW (PR2.out.alloc _) hgD rowD' (by simpa using hatD))
            have hoX : rb X x ≠ some wB.heap.size := rb_new hatD' OF2.out.2.2 (by omega)
            have OFD := Lib.hid (show Off wB.heap.size A1 a1 A2 a2 X x from ⟨OF2.out.1, OF2.out.2.1, hoX⟩)
            have BOD := Lib.hid ((BO2.out.alloc _).grown hgD (fun e => OF2.out.2.2 e.symm))
            have FRD := Lib.hid ((FR2.out.alloc FR2.out.size _).grown hgD (by have := FR2.out.size; simp <;> omega) (fun y hy => (hlt9 y hy).1))
            have hsD : wO.heap.size < wD.heap.size := by have := hgD.size; simp at this; omega
            have hgD2 : wB.heap.size < wD.heap.size := by omega
            clear rowD rowD' hgD hatD hatD' hlt9 hoX
            clear k0 k1 k2 k3 r0 r1 r2 r3 rfz o0 o1 o2 o3 ofz
            obtain ⟨k0, k1, k2, k3, _⟩ := blk4 (BX.out.below FRD.out hgl)
            obtain ⟨r0, r1, r2, r3, rfz⟩ := blk4 (BR.out.below FRD.out hgr)
            obtain ⟨o0, o1, o2, o3, ofz⟩ := blk4 BOD.out
            go_wp2_with fail
            refine (cloneR_c ZW X _ x wD HZL.out PD.out.2.2.1.rd (by omega)).mono ?_
            rintro e wE ⟨A9, a9, rfl, r9, b9⟩
            obtain ⟨w6, hw6⟩ : ∃ w6, w6 = wE.setCell ⟨wB.heap.size, 3, none⟩ (.slice A9 ZW.length a9) := ⟨_, rfl⟩
            have h6s : w6.heap.size = wE.heap.size := by rw [hw6]; simp [World.setCell]
            have hsE : wD.heap.size ≤ wE.heap.size := b9.size
            have BOE := Lib.hid (BOD.out.below b9 hgD2)
            have FRE := Lib.hid (FRD.out.trans (b9.mono FRD.out.size))
            have BO6 := Lib.hid (show Blk w6 wB.heap.size 26 #[.int .i64 mx, .slice A1 ids.length a1, .slice A2 hs.length a2, .slice A9 ZW.length a9] by rw [hw6]; exact BOE.out.set_ 3 _)
            have FR6 := Lib.hid (show Below w1.heap.size w1 w6 by rw [hw6]; exact FRE.out.setCell (by simp <;> omega) _)
            have OF6 := Lib.hid (show Off wB.heap.size A1 a1 A2 a2 A9 a9 from ⟨OFD.out.1, OFD.out.2.1, r9.offNew hgD2⟩)
            have PR6 := Lib.hid (show PRow w6 w1.heap.size ⟨mx, ids, hs, ZW⟩ A1 a1 A2 a2 A9 a9 by rw [hw6]; exact (PD.out.newW b9 r9 FRD.out.size).set (q := ⟨wB.heap.size, _, none⟩) OF6.out _)
            have hg6 : wB.heap.size < w6.heap.size := by omega
            clear r9 b9 k0 k1 k2 k3 r0 r1 r2 r3 rfz o0 o1 o2 o3 ofz
            obtain ⟨o0, o1, o2, o3, ofz⟩ := blk4 BOE.out
            go_upto_region 7 with fail
            rw [← hw6]
            clear hw6 h6s o0 o1 o2 o3 ofz
            obtain ⟨k0, k1, k2, k3, _⟩ := blk4 (BX.out.below FR6.out hgl)
            obtain ⟨r0, r1, r2, r3, rfz⟩ := blk4 (BR.out.below FR6.out hgr)
            obtain ⟨o0, o1, o2, o3, ofz⟩ := blk4 BO6.out
            have hoo : ¬ w.heap.size + 1 = wB.heap.size := by omega
            have hoo' : ¬ wB.heap.size = w.heap.size + 1 := by omega
            go_wp2_with fail
            refine bodyPost_ret (v := .tuple #[.agg #[.int .i64 mx, .slice A1 ids.length a1, .slice A2 hs.length a2, .slice A9 ZW.length a9], .int .i64 (-1), .bool true]) (by simp [results, Tryz.results97, go_sem, r0, r1, r2, r3, rfz, o0, o1, o2, o3, ofz, hoo, hoo']) rfl ?_
            refine ⟨_, _, _, _, _, _, rfl, ?_, ?_⟩
            · refine PRow.mono (base := w1.heap.size) ?_ (by omega)
              iterate 4 (with_reducible refine PRow.setFar ?_ (by simp <;> omega) _)
              exact PR6.out
            · iterate 4 (with_reducible refine Below.setCell ?_ (by simp <;> omega) _)
              exact B01.out.trans (FR6.out.mono (by omega))
          · rw [decide_eq_false (by exact hw)] at hvw
            have HRES : Hid (acqR ⟨mx, ids, hs, wt⟩ o = (Pl.zero, -1, false)) := acqR_no (fun h => by rw [hvw] at h; cases h.2.2)
            rw [HRES.out]
            obtain rfl : k = 12 := by omega
            clear hA hB hC hv hsm hmx g ho h1 h2 h3 hz hvw hfull hi0 hw hids hn
            go_enter Tryz.func97, Tryz.ntmps97
            go_wp2_with fail
            rw [← hw1]
            clear hw1
            refine (HV.out _ H1.out H2.out H3.out).mono ?_
            rintro e wA ⟨rfl, bA⟩
            have FR0 := Lib.hid bA
            have hsA : w1.heap.size ≤ wA.heap.size := bA.size
            clear k0 k1 k2 k3 bA
            obtain ⟨k0, k1, k2, k3, _⟩ := blk4 (BX.out.below FR0.out hgl)
            obtain ⟨r0, r1, r2, r3, rfz⟩ := blk4 (BR.out.below FR0.out hgr)
            go_wp2_with fail
            refine (HI.out _).mono ?_
            rintro e wI ⟨rfl, rfl⟩
            go_wp2_with fail
            refine (HCP.out _ (H1.out.below FR0.out) (H2.out.below FR0.out) (H3.out.below FR0.out)).mono ?_
            rintro e wB ⟨A1, a1, A2, a2, A3, a3, rfl, pr, bB⟩
            simp only at pr ⊢
            obtain ⟨wO, hwO⟩ : ∃ wO, wO = wB.alloc (.cells #[.int .i64 mx, .slice A1 ids.length a1, .slice A2 hs.length a2, .slice A3 wt.length a3] 26) := ⟨_, rfl⟩
            have hsO : wO.heap.size = wB.heap.size + 1 := by rw [hwO]; simp
            have FR1 := Lib.hid (FR0.out.trans (bB.mono FR0.out.size))
            have hsB : w1.heap.size ≤ wB.heap.size := FR1.out.size
            have BO2 := Lib.hid (show Blk wO wB.heap.size 26 #[.int .i64 mx, .slice A1 ids.length a1, .slice A2 hs.length a2, .slice A3 wt.length a3] by rw [hwO]; exact Blk.new wB _ _)
            have FR2 := Lib.hid (show Below w1.heap.size w1 wO by rw [hwO]; exact FR1.out.alloc hsB _)
            have PR2 := Lib.hid (show PRow wO w1.heap.size ⟨mx, ids, hs, wt⟩ A1 a1 A2 a2 A3 a3 by rw [hwO]; exact (pr.mono hsA).alloc _)
            have OF2 := Lib.hid (show Off wB.heap.size A1 a1 A2 a2 A3 a3 from pr.off (Nat.le_refl _))
            have hgO : wB.heap.size < wO.heap.size := by omega
            have hgl4 : w.heap.size < wO.heap.size := by omega
            have hna : ids.length ≤ a1 := pr.1.le
            clear pr bB k0 k1 k2 k3 r0 r1 r2 r3 rfz
            go_upto_region 4 with fail
            rw [← hwO]
            clear hwO hsO
            obtain ⟨k0, k1, k2, k3, _⟩ := blk4 (BX.out.below FR2.out hgl)
            obtain ⟨r0, r1, r2, r3, rfz⟩ := blk4 (BR.out.below FR2.out hgr)
            obtain ⟨o0, o1, o2, o3, ofz⟩ := blk4 BO2.out
            go_wp2_with fail
            refine bodyPost_ret (v := .tuple #[.agg #[.int .i64 0, .slice none 0 0, .slice none 0 0, .slice none 0 0], .int .i64 (-1), .bool false]) (by simp [results, Tryz.results97, go_sem, r0, r1, r2, r3, rfz]) rfl ?_
            refine ⟨none, 0, none, 0, none, 0, rfl, PRow.zero _ _, ?_⟩
            repeat (with_reducible refine Below.setCell ?_ (by simp <;> omega) _)
            exact B01.out.trans (FR2.out.mono (by omega))
        · obtain ⟨z, hz1, hz2, hz3, hz4⟩ := closedV_pos hz
          have hnew := g.acq_new ho hi0 hz
          have hm2 := hnew.2
          simp only at hm2
          have hmd : decide ((m : Int) < mx) = true := decide_eq_true (by omega)
          obtain ⟨ZH, hZH⟩ : ∃ ZH, ZH = hs ++ [((z : Int), o)] := ⟨_, rfl⟩
          have HZL : Hid (ZH.length = hs.length + 1) := by show _ = _; rw [hZH, List.length_append]; rfl
          have HRES : Hid (acqR ⟨mx, ids, hs, wt⟩ o = (⟨mx, ids, ZH, wt⟩, (z : Int), true)) := by
            show _ = _
            rw [acqR_ok hv.symm ho (valid_good.2 hnew.1)]
            unfold acqV
            rw [if_neg hi0, if_neg hz]
            simp only
            rw [hz1, ← hZH]
          rw [HRES.out]
          have HZH := Lib.hid hZH
          have HZ1 : Hid (∀ q : Nat, q < z → (q : Int) ∈ conns hs) := by
            intro q hq
            have := hz4 q hq
            rw [hids] at this
            simpa using this
          have HZ2 : Hid ((z : Int) ∉ conns hs) := by
            show ¬ _
            rw [hids] at hz3
            simpa using hz3
          have hz6 : z < 6 := by omega
          clear hZH hA hB hC hv hsm hmx g ho h1 h2 h3 hz hi0 hz1 hz2 hz3 hz4 hnew hm2 hids hn
          go_enter Tryz.func97, Tryz.ntmps97
          go_wp2_with fail
          rw [← hw1]
          clear hw1
          refine (HV.out _ H1.out H2.out H3.out).mono ?_
          rintro e wA ⟨rfl, bA⟩
          have FR0 := Lib.hid bA
          have hsA : w1.heap.size ≤ wA.heap.size := bA.size
          clear k0 k1 k2 k3 bA
          obtain ⟨k0, k1, k2, k3, _⟩ := blk4 (BX.out.below FR0.out hgl)
          obtain ⟨r0, r1, r2, r3, rfz⟩ := blk4 (BR.out.below FR0.out hgr)
          go_wp2_with fail
          refine (HI.out _).mono ?_
          rintro e wI ⟨rfl, rfl⟩
          go_wp2_with fail
          refine (HCP.out _ (H1.out.below FR0.out) (H2.out.below FR0.out) (H3.out.below FR0.out)).mono ?_
          rintro e wB ⟨A1, a1, A2, a2, A3, a3, rfl, pr, bB⟩
          simp only at pr ⊢
          obtain ⟨wO, hwO⟩ : ∃ wO, wO = wB.alloc (.cells #[.int .i64 mx, .slice A1 ids.length a1, .slice A2 hs.length a2, .slice A3 wt.length a3] 26) := ⟨_, rfl⟩
          have hsO : wO.heap.size = wB.heap.size + 1 := by rw [hwO]; simp
          have FR1 := Lib.hid (FR0.out.trans (bB.mono FR0.out.size))
          have hsB : w1.heap.size ≤ wB.heap.size := FR1.out.size
          have BO2 := Lib.hid (show Blk wO wB.heap.size 26 #[.int .i64 mx, .slice A1 ids.length a1, .slice A2 hs.length a2, .slice A3 wt.length a3] by rw [hwO]; exact Blk.new wB _ _)
          have FR2 := Lib.hid (show Below w1.heap.size w1 wO by rw [hwO]; exact FR1.out.alloc hsB _)
          have PR2 := Lib.hid (show PRow wO w1.heap.size ⟨mx, ids, hs, wt⟩ A1 a1 A2 a2 A3 a3 by rw [hwO]; exact (pr.mono hsA).alloc _)
          have OF2 := Lib.hid (show Off wB.heap.size A1 a1 A2 a2 A3 a3 from pr.off (Nat.le_refl _))
          have hgO : wB.heap.size < wO.heap.size := by omega
          have hgl4 : w.heap.size < wO.heap.size := by omega
          have hna : ids.length ≤ a1 := pr.1.le
          clear pr bB k0 k1 k2 k3 r0 r1 r2 r3 rfz
          go_upto_region 4 with fail
          rw [← hwO]
          clear hwO hsO
          obtain ⟨k0, k1, k2, k3, _⟩ := blk4 (BX.out.below FR2.out hgl)
          obtain ⟨r0, r1, r2, r3, rfz⟩ := blk4 (BR.out.below FR2.out hgr)
          obtain ⟨o0, o1, o2, o3, ofz⟩ := blk4 BO2.out
          go_wp2_with fail
          go_loopw [8] (fun v wr => ∃ j : Nat, j ≤ z ∧ v = .int .i64 j ∧ Below wO.heap.size wO wr) (fun v _ => z - (intOf v).toNat)
          case atStart => exact ⟨0, Nat.zero_le _, rfl, Below.refl _ _⟩
          case round =>
            obtain ⟨j, hj, rfl, hb⟩ := hrel
            have HB1 := Lib.hid hb
            have hsr : wO.heap.size ≤ wr.heap.size := hb.size
            have FRR := Lib.hid (FR2.out.trans (hb.mono FR2.out.size))
            have hge := hfind_ge hs (j : Int)
            have HH1 := Lib.hid (HH.out (j : Int) wr (H2.out.below FRR.out))
            obtain ⟨F, hF⟩ : ∃ F, F = hfind hs (j : Int) := ⟨_, rfl⟩
            rw [← hF] at HH1 hge
            clear hF hb k0 k1 k2 k3 r0 r1 r2 r3 rfz o0 o1 o2 o3 ofz
            obtain ⟨k0, k1, k2, k3, _⟩ := blk4 (BX.out.below FRR.out hgl)
            by_cases hlt : j < z
            · rw [decide_eq_true (HZ1.out j hlt)] at hge
              go_wp2_with fail
              refine HH1.out.mono ?_
              rintro e w2 ⟨rfl, b2⟩
              have B2 := Lib.hid (HB1.out.trans (b2.mono hsr))
              clear b2
              go_wp2_with fail
              go_roundw
              case rel => exact ⟨j + 1, by omega, by go_num, B2.out⟩
              case measure => simp [intOf]; omega
            · obtain rfl : j = z := by omega
              rw [decide_eq_false HZ2.out] at hge
              go_wp2_with fail
              refine HH1.out.mono ?_
              rintro e w2 ⟨rfl, b2⟩
              have B2 := Lib.hid (HB1.out.trans (b2.mono hsr))
              have hs2 : wO.heap.size ≤ w2.heap.size := B2.out.size
              have BO3 := Lib.hid (BO2.out.below B2.out hgO)
              have FR3 := Lib.hid (FR2.out.trans (B2.out.mono FR2.out.size))
              have PR3 := Lib.hid (PR2.out.below B2.out)
              have hg5 : wB.heap.size < w2.heap.size := by omega
              clear b2 k0 k1 k2 k3
              obtain ⟨k0, k1, k2, k3, _⟩ := blk4 (BX.out.below FR3.out hgl)
              obtain ⟨r0, r1, r2, r3, rfz⟩ := blk4 (BR.out.below FR3.out hgr)
              obtain ⟨o0, o1, o2, o3, ofz⟩ := blk4 BO3.out
              go_wp2_with (at_builtin; (refine wpList_append_row _ rfl (.tmp 68) (.tmp 72) 24 rfl w1.heap.size 48 i0 (.agg #[.int .i64 0, .int .i64 0]) 2 16 Tryz.underlying24 i0_i i0_z0 i0_z1 i0_z2 rfl A2 hs.length a2 (sc hs) (by first | rfl | simp) (PR3.out.2.1.alloc _) (some ⟨w2.heap.size, 0, none⟩) 1 1 [.int .i64 (j : Int), .int .i64 o] rfl rfl (Rd.two_ _ _ _ _) (two1_ _ _) (by omega) (by unfold maxLen; omega) (by omega) (by simp <;> omega) ?_))
              intro X x wD rowD hgD hatD
              have rowD' : Row wD w1.heap.size 48 2 X ZH.length x (sc ZH) := by rw [HZH.out, ← snocH hs (j : Int) o _ rfl, List.length_append, hg]; exact rowD
              have hlt9 := PR3.out.2.1.lt
              have hatD' : rb X x = rb A2 a2 ∨ rb X x = some (w2.heap.size + 1) := by simpa using hatD
              have PD := Lib.hid (PRow.pushH (PR3.out.alloc _) hgD rowD' (by simpa using hatD))
              have hoX : rb X x ≠ some wB.heap.size := rb_new hatD' OF2.out.2.1 (by omega)
              have OFD := Lib.hid (show Off wB.heap.size A1 a1 X x A3 a3 from ⟨OF2.out.1, hoX, OF2.out.2.2⟩)
              have BOD := Lib.hid ((BO3.out.alloc _).grown hgD (fun e => OF2.out.2.1 e.symm))
              have FRD := Lib.hid ((FR3.out.alloc FR3.out.size _).grown hgD (by have := FR3.out.size; simp <;> omega) (fun y hy => (hlt9 y hy).1))
              have hsD : w2.heap.size < wD.heap.size := by have := hgD.size; simp at this; omega
              have hgD2 : wB.heap.size < wD.heap.size := by omega
              clear rowD rowD' hgD hatD hatD' hlt9 hoX
              clear k0 k1 k2 k3 r0 r1 r2 r3 rfz o0 o1 o2 o3 ofz
              obtain ⟨k0, k1, k2, k3, _⟩ := blk4 (BX.out.below FRD.out hgl)
              obtain ⟨r0, r1, r2, r3, rfz⟩ := blk4 (BR.out.below FRD.out hgr)
              obtain ⟨o0, o1, o2, o3, ofz⟩ := blk4 BOD.out
              go_wp2_with fail
              refine (cloneHN_c ZH X x _ HZL.out wD PD.out.2.1.rd (by omega)).mono ?_
              rintro e wE ⟨A9, rfl, r9, b9⟩
              obtain ⟨w6, hw6⟩ : ∃ w6, w6 = wE.setCell ⟨wB.heap.size, 2, none⟩ (.slice A9 ZH.length ZH.length) := ⟨_, rfl⟩
              have h6s : w6.heap.size = wE.heap.size := by rw [hw6]; simp [World.setCell]
              have hsE : wD.heap.size ≤ wE.heap.size := b9.size
              have BOE := Lib.hid (BOD.out.below b9 hgD2)
              have FRE := Lib.hid (FRD.out.trans (b9.mono FRD.out.size))
              have BO6 := Lib.hid (show Blk w6 wB.heap.size 26 #[.int .i64 mx, .slice A1 ids.length a1, .slice A9 ZH.length ZH.length, .slice A3 wt.length a3] by rw [hw6]; exact BOE.out.set_ 2 _)
              have FR6 := Lib.hid (show Below w1.heap.size w1 w6 by rw [hw6]; exact FRE.out.setCell (by simp <;> omega) _)
              have OF6 := Lib.hid (show Off wB.heap.size A1 a1 A9 ZH.length A3 a3 from ⟨OFD.out.1, r9.offNew hgD2, OFD.out.2.2⟩)
              have PR6 := Lib.hid (show PRow w6 w1.heap.size ⟨mx, ids, ZH, wt⟩ A1 a1 A9 ZH.length A3 a3 by rw [hw6]; exact (PD.out.newH b9 r9 FRD.out.size).set (q := ⟨wB.heap.size, _, none⟩) OF6.out _)
              have hg6 : wB.heap.size < w6.heap.size := by omega
              clear r9 b9 k0 k1 k2 k3 r0 r1 r2 r3 rfz o0 o1 o2 o3 ofz
              obtain ⟨o0, o1, o2, o3, ofz⟩ := blk4 BOE.out
              go_upto_region 18 with fail
              rw [← hw6]
              clear hw6 h6s o0 o1 o2 o3 ofz
              obtain ⟨k0, k1, k2, k3, _⟩ := blk4 (BX.out.below FR6.out hgl)
              obtain ⟨r0, r1, r2, r3, rfz⟩ := blk4 (BR.out.below FR6.out hgr)
              obtain ⟨o0, o1, o2, o3, ofz⟩ := blk4 BO6.out
              have hoo : ¬ w.heap.size + 1 = wB.heap.size := by omega
              have hoo' : ¬ wB.heap.size = w.heap.size + 1 := by omega
              go_wp2_with fail
              refine bodyPost_ret (v := .tuple #[.agg #[.int .i64 mx, .slice A1 ids.length a1, .slice A9 ZH.length ZH.length, .slice A3 wt.length a3], .int .i64 (j : Int), .bool true]) (by simp [results, Tryz.results97, go_sem, r0, r1, r2, r3, rfz, o0, o1, o2, o3, ofz, hoo, hoo']) rfl ?_
              refine ⟨_, _, _, _, _, _, rfl, ?_, ?_⟩
              · refine PRow.mono (base := w1.heap.size) ?_ (by omega)
                iterate 4 (with_reducible refine PRow.setFar ?_ (by simp <;> omega) _)
                exact PR6.out
              · iterate 4 (with_reducible refine Below.setCell ?_ (by simp <;> omega) _)
                exact B01.out.trans (FR6.out.mono (by omega))
    · rw [decide_eq_false ho] at HI
      have HRES : Hid (acqR ⟨mx, ids, hs, wt⟩ o = (Pl.zero, -1, false)) := acqR_no (fun h => ho h.2.1)
      rw [HRES.out]
      clear hA hB hC hv ho g
      go_enter Tryz.func97, Tryz.ntmps97
      go_wp2_with fail
      rw [← hw1]
      clear hw1
      refine (HV.out _ H1.out H2.out H3.out).mono ?_
      rintro e wA ⟨rfl, bA⟩
      have FR0 := Lib.hid bA
      have hsA : w1.heap.size ≤ wA.heap.size := bA.size
      clear k0 k1 k2 k3 bA
      obtain ⟨k0, k1, k2, k3, _⟩ := blk4 (BX.out.below FR0.out hgl)
      obtain ⟨r0, r1, r2, r3, rfz⟩ := blk4 (BR.out.below FR0.out hgr)
      go_wp2_with fail
      refine (HI.out _).mono ?_
      rintro e wI ⟨rfl, rfl⟩
      go_wp2_with fail
      refine bodyPost_ret (v := .tuple #[.agg #[.int .i64 0, .slice none 0 0, .slice none 0 0, .slice none 0 0], .int .i64 (-1), .bool false]) (by simp [results, Tryz.results97, go_sem, r0, r1, r2, r3, rfz]) rfl ?_
      refine ⟨none, 0, none, 0, none, 0, rfl, PRow.zero _ _, ?_⟩
      repeat (with_reducible refine Below.setCell ?_ (by simp <;> omega) _)
      exact B01.out.trans (FR0.out.mono (by omega))
end Go.Proofs.YtnmgnhpagnjhlaaGreatDoor
