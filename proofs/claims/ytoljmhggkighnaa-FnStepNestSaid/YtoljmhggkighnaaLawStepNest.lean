/- FnStepNest: for every code the law returns true, and what was there is as it was. No condition. -/
import Derived.Test.YtoljmhggkighnaaRows
import Derived.Test.YtoljmhggkighnaaNestLaw
import Derived.Test.YtoljmhggkighnaaNestDraw
import Derived.Test.YtoljmhggkighnaaOpenC
set_option linter.unusedVariables false
set_option linter.unusedSimpArgs false
set_option linter.unnecessarySimpa false
namespace Go.Proofs.Ytoljmhggkighnaa
open Go.RowKit

set_option maxRecDepth 100000 in
set_option maxHeartbeats 16000000 in
theorem walk_FnStepNest (zs : List Int) (A : Option Addr) (n c : Nat) (hN : zs.length = n) (hc : n ≤ c) (hm : c ≤ maxLen) {w : World} (h : Rd w A (zs.map (.int .u8))) (hz : ∀ z ∈ zs, 0 ≤ z ∧ z ≤ 255) :
    Calls Try.prog 9 #[.slice A n c] w fun e w' => e = .returned (.bool true) ∧ Below w.heap.size w w' := by
  have HD := Lib.hid (drawStepNest_c zs A n c w hN hc hm h hz)
  clear h hz hN
  unfold maxLen at hm
  by_cases hbig : 1048576 < n
  · go_enter Try.func9, Try.ntmps9
    go_wp2
    go_ret
    exact ⟨rfl, Below.refl _ _⟩
  · go_enter Try.func9, Try.ntmps9
    go_wp2_with fail
    refine HD.out.mono ?_
    rintro e w1 ⟨d, k, ms, b, AP, cP, x, rfl, hl, hcP, fP, b1⟩
    have EB1 := Lib.hid b1; clear b1
    have FP1 := Lib.hid fP; clear fP
    obtain ⟨r, hr⟩ : ∃ r, r = stepN d k ms b x := ⟨_, rfl⟩
    have hbd : (r.getD St.zero).marks.length ≤ 4 := by
      rw [hr]
      cases hq : stepN d k ms b x with
      | none => simp [St.zero]
      | some t => have := (stepN_some hq).2.2.2; rw [St.ok_iff] at this; exact this.1
    obtain ⟨t, ht⟩ : ∃ t, t = r.getD St.zero := ⟨_, rfl⟩
    obtain ⟨ok, hok⟩ : ∃ ok, ok = r.isSome := ⟨_, rfl⟩
    rw [← ht] at hbd
    have HT : Hid ((stepN d k ms b x).getD St.zero = t) := by show _ = _; rw [ht, hr]
    have HO : Hid ((stepN d k ms b x).isSome = ok) := by show _ = _; rw [hok, hr]
    obtain ⟨tk, zs, tb⟩ := t
    simp only at hbd
    clear hr ht hok
    go_wp2_with fail
    obtain ⟨w2, hw2⟩ : ∃ W, W = w1.alloc (.cells #[.int .i64 d, .int .i64 k, .slice AP ms.length cP, .bool b] 27) := ⟨_, rfl⟩
    obtain ⟨gPV, hgPV⟩ : ∃ g, g = w1.heap.size := ⟨_, rfl⟩
    rw [← hw2, ← hgPV]
    have hv2 : Blk w2 gPV 27 #[.int .i64 d, .int .i64 k, .slice AP ms.length cP, .bool b] := by rw [hw2, hgPV]; exact Blk.new _ _ _
    have V2 := Lib.hid hv2; clear hv2
    have hFP2 : Frd w2 w.heap.size AP (ms.map (.int .i64)) := by rw [hw2]; exact FP1.out.alloc _
    have hb2 : Below w.heap.size w w2 := by rw [hw2]; exact EB1.out.alloc EB1.out.size _
    have EFP2 := Lib.hid hFP2; clear hFP2
    have EB2 := Lib.hid hb2; clear hb2
    clear FP1 EB1 hw2 hgPV
    obtain ⟨pvq0, pvq1, pvq2, pvq3, pvqz⟩ := blk4 V2.out
    have pvql := Blk.lt V2.out
    have pvqm : ¬ gPV = w2.heap.size := by omega
    have pvqn : ¬ w2.heap.size = gPV := by omega
    go_wp2_with fail
    refine (stepNest_c d k ms b x _ _ _ _ rfl hcP EFP2.out.rd (by omega)).mono ?_
    rw [HT.out, HO.out]
    rintro e w3 ⟨AG, cG, rfl, q3, b3⟩
    have r3 : Row w3 w2.heap.size 3 1 AG (zs).length cG ((zs).map (.int .i64)) := q3
    have R3 := Lib.hid (r3.mono EB2.out.size); clear r3 q3
    clear pvq0 pvq1 pvq2 pvq3 pvqz pvql pvqm pvqn
    have hFP3 : Frd w3 w.heap.size AP (ms.map (.int .i64)) := EFP2.out.below b3
    have hPV3 : Blk w3 gPV 27 #[.int .i64 d, .int .i64 k, .slice AP ms.length cP, .bool b] := Blk.below V2.out b3 (Blk.lt V2.out)
    have hb3 : Below w.heap.size w w3 := EB2.out.trans (b3.mono EB2.out.size)
    have EFP3 := Lib.hid hFP3; clear hFP3
    have EPV3 := Lib.hid hPV3; clear hPV3
    have EB3 := Lib.hid hb3; clear hb3
    clear EFP2 V2 EB2 b3
    obtain ⟨pvq0, pvq1, pvq2, pvq3, pvqz⟩ := blk4 EPV3.out
    have pvql := Blk.lt EPV3.out
    have pvqm : ¬ gPV = w3.heap.size := by omega
    have pvqn : ¬ w3.heap.size = gPV := by omega
    go_wp2_with fail
    obtain ⟨w4, hw4⟩ : ∃ W, W = w3.alloc (.cells #[.int .i64 (zs.length : Int), .int .i64 tk, .slice AG zs.length cG, .bool tb] 27) := ⟨_, rfl⟩
    obtain ⟨gGV, hgGV⟩ : ∃ g, g = w3.heap.size := ⟨_, rfl⟩
    rw [← hw4, ← hgGV]
    have hv4 : Blk w4 gGV 27 #[.int .i64 (zs.length : Int), .int .i64 tk, .slice AG zs.length cG, .bool tb] := by rw [hw4, hgGV]; exact Blk.new _ _ _
    have V4 := Lib.hid hv4; clear hv4
    clear pvq0 pvq1 pvq2 pvq3 pvqz pvql pvqm pvqn
    have hFP4 : Frd w4 w.heap.size AP (ms.map (.int .i64)) := by rw [hw4]; exact EFP3.out.alloc _
    have hPV4 : Blk w4 gPV 27 #[.int .i64 d, .int .i64 k, .slice AP ms.length cP, .bool b] := by rw [hw4]; exact EPV3.out.alloc _
    have hG4 : Row w4 w.heap.size 3 1 AG (zs).length cG ((zs).map (.int .i64)) := by rw [hw4]; exact R3.out.alloc _
    have hb4 : Below w.heap.size w w4 := by rw [hw4]; exact EB3.out.alloc EB3.out.size _
    have EFP4 := Lib.hid hFP4; clear hFP4
    have EPV4 := Lib.hid hPV4; clear hPV4
    have EG4 := Lib.hid hG4; clear hG4
    have EB4 := Lib.hid hb4; clear hb4
    clear EFP3 EPV3 R3 EB3 hw4 hgGV
    obtain ⟨pvq0, pvq1, pvq2, pvq3, pvqz⟩ := blk4 EPV4.out
    have pvql := Blk.lt EPV4.out
    have pvqm : ¬ gPV = w4.heap.size := by omega
    have pvqn : ¬ w4.heap.size = gPV := by omega
    obtain ⟨gvq0, gvq1, gvq2, gvq3, gvqz⟩ := blk4 V4.out
    have gvql := Blk.lt V4.out
    have gvqm : ¬ gGV = w4.heap.size := by omega
    have gvqn : ¬ w4.heap.size = gGV := by omega
    go_wp2_with fail
    refine (sStepNest_c d k ms b x _ _ _ _ rfl hcP EFP4.out.rd (by omega)).mono ?_
    rw [HT.out, HO.out]
    rintro e w5 ⟨AH, cH, rfl, q5, b5⟩
    have r5 : Row w5 w4.heap.size 3 1 AH (zs).length cH ((zs).map (.int .i64)) := q5
    have apGH := Lib.hid (row_apart EG4.out r5 (Nat.le_refl _))
    have R5 := Lib.hid (r5.mono EB4.out.size); clear r5 q5
    clear pvq0 pvq1 pvq2 pvq3 pvqz pvql pvqm pvqn gvq0 gvq1 gvq2 gvq3 gvqz gvql gvqm gvqn
    have hFP5 : Frd w5 w.heap.size AP (ms.map (.int .i64)) := EFP4.out.below b5
    have hPV5 : Blk w5 gPV 27 #[.int .i64 d, .int .i64 k, .slice AP ms.length cP, .bool b] := Blk.below EPV4.out b5 (Blk.lt EPV4.out)
    have hG5 : Row w5 w.heap.size 3 1 AG (zs).length cG ((zs).map (.int .i64)) := EG4.out.below b5
    have hGV5 : Blk w5 gGV 27 #[.int .i64 (zs.length : Int), .int .i64 tk, .slice AG zs.length cG, .bool tb] := Blk.below V4.out b5 (Blk.lt V4.out)
    have hb5 : Below w.heap.size w w5 := EB4.out.trans (b5.mono EB4.out.size)
    have EFP5 := Lib.hid hFP5; clear hFP5
    have EPV5 := Lib.hid hPV5; clear hPV5
    have EG5 := Lib.hid hG5; clear hG5
    have EGV5 := Lib.hid hGV5; clear hGV5
    have EB5 := Lib.hid hb5; clear hb5
    clear EFP4 EPV4 EG4 V4 EB4 b5
    obtain ⟨pvq0, pvq1, pvq2, pvq3, pvqz⟩ := blk4 EPV5.out
    have pvql := Blk.lt EPV5.out
    have pvqm : ¬ gPV = w5.heap.size := by omega
    have pvqn : ¬ w5.heap.size = gPV := by omega
    obtain ⟨gvq0, gvq1, gvq2, gvq3, gvqz⟩ := blk4 EGV5.out
    have gvql := Blk.lt EGV5.out
    have gvqm : ¬ gGV = w5.heap.size := by omega
    have gvqn : ¬ w5.heap.size = gGV := by omega
    go_wp2_with fail
    obtain ⟨w6, hw6⟩ : ∃ W, W = w5.alloc (.cells #[.int .i64 (zs.length : Int), .int .i64 tk, .slice AH zs.length cH, .bool tb] 27) := ⟨_, rfl⟩
    obtain ⟨gHV, hgHV⟩ : ∃ g, g = w5.heap.size := ⟨_, rfl⟩
    rw [← hw6, ← hgHV]
    have hv6 : Blk w6 gHV 27 #[.int .i64 (zs.length : Int), .int .i64 tk, .slice AH zs.length cH, .bool tb] := by rw [hw6, hgHV]; exact Blk.new _ _ _
    have V6 := Lib.hid hv6; clear hv6
    clear pvq0 pvq1 pvq2 pvq3 pvqz pvql pvqm pvqn gvq0 gvq1 gvq2 gvq3 gvqz gvql gvqm gvqn
    have hFP6 : Frd w6 w.heap.size AP (ms.map (.int .i64)) := by rw [hw6]; exact EFP5.out.alloc _
    have hPV6 : Blk w6 gPV 27 #[.int .i64 d, .int .i64 k, .slice AP ms.length cP, .bool b] := by rw [hw6]; exact EPV5.out.alloc _
    have hG6 : Row w6 w.heap.size 3 1 AG (zs).length cG ((zs).map (.int .i64)) := by rw [hw6]; exact EG5.out.alloc _
    have hGV6 : Blk w6 gGV 27 #[.int .i64 (zs.length : Int), .int .i64 tk, .slice AG zs.length cG, .bool tb] := by rw [hw6]; exact EGV5.out.alloc _
    have hH6 : Row w6 w.heap.size 3 1 AH (zs).length cH ((zs).map (.int .i64)) := by rw [hw6]; exact R5.out.alloc _
    have hb6 : Below w.heap.size w w6 := by rw [hw6]; exact EB5.out.alloc EB5.out.size _
    have EFP6 := Lib.hid hFP6; clear hFP6
    have EPV6 := Lib.hid hPV6; clear hPV6
    have EG6 := Lib.hid hG6; clear hG6
    have EGV6 := Lib.hid hGV6; clear hGV6
    have EH6 := Lib.hid hH6; clear hH6
    have EB6 := Lib.hid hb6; clear hb6
    clear EFP5 EPV5 EG5 EGV5 R5 EB5 hw6 hgHV
    obtain ⟨pvq0, pvq1, pvq2, pvq3, pvqz⟩ := blk4 EPV6.out
    have pvql := Blk.lt EPV6.out
    have pvqm : ¬ gPV = w6.heap.size := by omega
    have pvqn : ¬ w6.heap.size = gPV := by omega
    obtain ⟨gvq0, gvq1, gvq2, gvq3, gvqz⟩ := blk4 EGV6.out
    have gvql := Blk.lt EGV6.out
    have gvqm : ¬ gGV = w6.heap.size := by omega
    have gvqn : ¬ w6.heap.size = gGV := by omega
    obtain ⟨hvq0, hvq1, hvq2, hvq3, hvqz⟩ := blk4 V6.out
    have hvql := Blk.lt V6.out
    have hvqm : ¬ gHV = w6.heap.size := by omega
    have hvqn : ¬ w6.heap.size = gHV := by omega
    go_wp2_with fail
    refine (equalNest_c _ _ zs _ _ _ _ _ _ _ rfl EG6.out.rd EH6.out.rd (by omega)).mono ?_
    rintro e w7 ⟨rfl, b7⟩
    clear pvq0 pvq1 pvq2 pvq3 pvqz pvql pvqm pvqn gvq0 gvq1 gvq2 gvq3 gvqz gvql gvqm gvqn hvq0 hvq1 hvq2 hvq3 hvqz hvql hvqm hvqn
    have hFP7 : Frd w7 w.heap.size AP (ms.map (.int .i64)) := EFP6.out.below b7
    have hPV7 : Blk w7 gPV 27 #[.int .i64 d, .int .i64 k, .slice AP ms.length cP, .bool b] := Blk.below EPV6.out b7 (Blk.lt EPV6.out)
    have hG7 : Row w7 w.heap.size 3 1 AG (zs).length cG ((zs).map (.int .i64)) := EG6.out.below b7
    have hGV7 : Blk w7 gGV 27 #[.int .i64 (zs.length : Int), .int .i64 tk, .slice AG zs.length cG, .bool tb] := Blk.below EGV6.out b7 (Blk.lt EGV6.out)
    have hH7 : Row w7 w.heap.size 3 1 AH (zs).length cH ((zs).map (.int .i64)) := EH6.out.below b7
    have hHV7 : Blk w7 gHV 27 #[.int .i64 (zs.length : Int), .int .i64 tk, .slice AH zs.length cH, .bool tb] := Blk.below V6.out b7 (Blk.lt V6.out)
    have hb7 : Below w.heap.size w w7 := EB6.out.trans (b7.mono EB6.out.size)
    have EFP7 := Lib.hid hFP7; clear hFP7
    have EPV7 := Lib.hid hPV7; clear hPV7
    have EG7 := Lib.hid hG7; clear hG7
    have EGV7 := Lib.hid hGV7; clear hGV7
    have EH7 := Lib.hid hH7; clear hH7
    have EHV7 := Lib.hid hHV7; clear hHV7
    have EB7 := Lib.hid hb7; clear hb7
    clear EFP6 EPV6 EG6 EGV6 EH6 V6 EB6 b7
    obtain ⟨pvq0, pvq1, pvq2, pvq3, pvqz⟩ := blk4 EPV7.out
    have pvql := Blk.lt EPV7.out
    have pvqm : ¬ gPV = w7.heap.size := by omega
    have pvqn : ¬ w7.heap.size = gPV := by omega
    obtain ⟨gvq0, gvq1, gvq2, gvq3, gvqz⟩ := blk4 EGV7.out
    have gvql := Blk.lt EGV7.out
    have gvqm : ¬ gGV = w7.heap.size := by omega
    have gvqn : ¬ w7.heap.size = gGV := by omega
    obtain ⟨hvq0, hvq1, hvq2, hvq3, hvqz⟩ := blk4 EHV7.out
    have hvql := Blk.lt EHV7.out
    have hvqm : ¬ gHV = w7.heap.size := by omega
    have hvqn : ¬ w7.heap.size = gHV := by omega
    cases ok
    · go_wp2_with fail
      refine (equalNest_c _ _ zs _ _ _ _ _ _ _ rfl EG7.out.rd EH7.out.rd (by omega)).mono ?_
      rintro e w8 ⟨rfl, b8⟩
      clear pvq0 pvq1 pvq2 pvq3 pvqz pvql pvqm pvqn gvq0 gvq1 gvq2 gvq3 gvqz gvql gvqm gvqn hvq0 hvq1 hvq2 hvq3 hvqz hvql hvqm hvqn
      have hFP8 : Frd w8 w.heap.size AP (ms.map (.int .i64)) := EFP7.out.below b8
      have hPV8 : Blk w8 gPV 27 #[.int .i64 d, .int .i64 k, .slice AP ms.length cP, .bool b] := Blk.below EPV7.out b8 (Blk.lt EPV7.out)
      have hG8 : Row w8 w.heap.size 3 1 AG (zs).length cG ((zs).map (.int .i64)) := EG7.out.below b8
      have hGV8 : Blk w8 gGV 27 #[.int .i64 (zs.length : Int), .int .i64 tk, .slice AG zs.length cG, .bool tb] := Blk.below EGV7.out b8 (Blk.lt EGV7.out)
      have hH8 : Row w8 w.heap.size 3 1 AH (zs).length cH ((zs).map (.int .i64)) := EH7.out.below b8
      have hHV8 : Blk w8 gHV 27 #[.int .i64 (zs.length : Int), .int .i64 tk, .slice AH zs.length cH, .bool tb] := Blk.below EHV7.out b8 (Blk.lt EHV7.out)
      have hb8 : Below w.heap.size w w8 := EB7.out.trans (b8.mono EB7.out.size)
      have EFP8 := Lib.hid hFP8; clear hFP8
      have EPV8 := Lib.hid hPV8; clear hPV8
      have EG8 := Lib.hid hG8; clear hG8
      have EGV8 := Lib.hid hGV8; clear hGV8
      have EH8 := Lib.hid hH8; clear hH8
      have EHV8 := Lib.hid hHV8; clear hHV8
      have EB8 := Lib.hid hb8; clear hb8
      clear EFP7 EPV7 EG7 EGV7 EH7 EHV7 EB7 b8
      obtain ⟨pvq0, pvq1, pvq2, pvq3, pvqz⟩ := blk4 EPV8.out
      have pvql := Blk.lt EPV8.out
      have pvqm : ¬ gPV = w8.heap.size := by omega
      have pvqn : ¬ w8.heap.size = gPV := by omega
      obtain ⟨gvq0, gvq1, gvq2, gvq3, gvqz⟩ := blk4 EGV8.out
      have gvql := Blk.lt EGV8.out
      have gvqm : ¬ gGV = w8.heap.size := by omega
      have gvqn : ¬ w8.heap.size = gGV := by omega
      obtain ⟨hvq0, hvq1, hvq2, hvq3, hvqz⟩ := blk4 EHV8.out
      have hvql := Blk.lt EHV8.out
      have hvqm : ¬ gHV = w8.heap.size := by omega
      have hvqn : ¬ w8.heap.size = gHV := by omega
      go_wp2_with fail
      go_ret
      exact ⟨rfl, EB8.out⟩
    · obtain ⟨t, hst⟩ := Option.isSome_iff_exists.1 HO.out
      obtain ⟨hd, hs, hst2, hok⟩ := stepN_some hst
      have hte : t = ⟨tk, zs, tb⟩ := by have := HT.out; rw [hst] at this; exact this
      subst hte
      have hdep := St.step_depth hst2
      simp only at hdep
      have hvt : validN (zs.length : Int) tk zs tb = true := hok
      have hms : ms.length ≤ 4 := by rw [St.ok_iff] at hs; exact hs.1
      have HVT := Lib.hid hvt; have HD := Lib.hid hd; have HDEP := Lib.hid hdep
      have hd0 : 0 ≤ d := by omega
      have hd1 : d ≤ 4 := by omega
      clear hst hd hs hst2 hok hdep hvt
      have hxc : x = 0 ∨ x = 3 ∨ x = 4 ∨ ((x == 0) = false ∧ (x == 3) = false ∧ (x == 4) = false) := by simp; omega
      rcases hxc with rfl | rfl | rfl | ⟨x0, x3, x4⟩
      · go_wp2_with fail
        refine (validNest_c _ _ zs _ _ _ _ _ rfl EG7.out.rd (by omega)).mono ?_
        rw [HVT.out]
        rintro e w8 ⟨rfl, b8⟩
        clear pvq0 pvq1 pvq2 pvq3 pvqz pvql pvqm pvqn gvq0 gvq1 gvq2 gvq3 gvqz gvql gvqm gvqn hvq0 hvq1 hvq2 hvq3 hvqz hvql hvqm hvqn
        have hFP8 : Frd w8 w.heap.size AP (ms.map (.int .i64)) := EFP7.out.below b8
        have hPV8 : Blk w8 gPV 27 #[.int .i64 d, .int .i64 k, .slice AP ms.length cP, .bool b] := Blk.below EPV7.out b8 (Blk.lt EPV7.out)
        have hG8 : Row w8 w.heap.size 3 1 AG (zs).length cG ((zs).map (.int .i64)) := EG7.out.below b8
        have hGV8 : Blk w8 gGV 27 #[.int .i64 (zs.length : Int), .int .i64 tk, .slice AG zs.length cG, .bool tb] := Blk.below EGV7.out b8 (Blk.lt EGV7.out)
        have hH8 : Row w8 w.heap.size 3 1 AH (zs).length cH ((zs).map (.int .i64)) := EH7.out.below b8
        have hHV8 : Blk w8 gHV 27 #[.int .i64 (zs.length : Int), .int .i64 tk, .slice AH zs.length cH, .bool tb] := Blk.below EHV7.out b8 (Blk.lt EHV7.out)
        have hb8 : Below w.heap.size w w8 := EB7.out.trans (b8.mono EB7.out.size)
        have EFP8 := Lib.hid hFP8; clear hFP8
        have EPV8 := Lib.hid hPV8; clear hPV8
        have EG8 := Lib.hid hG8; clear hG8
        have EGV8 := Lib.hid hGV8; clear hGV8
        have EH8 := Lib.hid hH8; clear hH8
        have EHV8 := Lib.hid hHV8; clear hHV8
        have EB8 := Lib.hid hb8; clear hb8
        clear EFP7 EPV7 EG7 EGV7 EH7 EHV7 EB7 b8
        obtain ⟨pvq0, pvq1, pvq2, pvq3, pvqz⟩ := blk4 EPV8.out
        have pvql := Blk.lt EPV8.out
        have pvqm : ¬ gPV = w8.heap.size := by omega
        have pvqn : ¬ w8.heap.size = gPV := by omega
        obtain ⟨gvq0, gvq1, gvq2, gvq3, gvqz⟩ := blk4 EGV8.out
        have gvql := Blk.lt EGV8.out
        have gvqm : ¬ gGV = w8.heap.size := by omega
        have gvqn : ¬ w8.heap.size = gGV := by omega
        obtain ⟨hvq0, hvq1, hvq2, hvq3, hvqz⟩ := blk4 EHV8.out
        have hvql := Blk.lt EHV8.out
        have hvqm : ¬ gHV = w8.heap.size := by omega
        have hvqn : ¬ w8.heap.size = gHV := by omega
        go_wp2_with fail
        go_ret
        have h1 := HDEP.out
        have h2 := HD.out
        simp at h1
        exact ⟨by simp; omega, EB8.out⟩
      · go_wp2_with fail
        refine (validNest_c _ _ zs _ _ _ _ _ rfl EG7.out.rd (by omega)).mono ?_
        rw [HVT.out]
        rintro e w8 ⟨rfl, b8⟩
        clear pvq0 pvq1 pvq2 pvq3 pvqz pvql pvqm pvqn gvq0 gvq1 gvq2 gvq3 gvqz gvql gvqm gvqn hvq0 hvq1 hvq2 hvq3 hvqz hvql hvqm hvqn
        have hFP8 : Frd w8 w.heap.size AP (ms.map (.int .i64)) := EFP7.out.below b8
        have hPV8 : Blk w8 gPV 27 #[.int .i64 d, .int .i64 k, .slice AP ms.length cP, .bool b] := Blk.below EPV7.out b8 (Blk.lt EPV7.out)
        have hG8 : Row w8 w.heap.size 3 1 AG (zs).length cG ((zs).map (.int .i64)) := EG7.out.below b8
        have hGV8 : Blk w8 gGV 27 #[.int .i64 (zs.length : Int), .int .i64 tk, .slice AG zs.length cG, .bool tb] := Blk.below EGV7.out b8 (Blk.lt EGV7.out)
        have hH8 : Row w8 w.heap.size 3 1 AH (zs).length cH ((zs).map (.int .i64)) := EH7.out.below b8
        have hHV8 : Blk w8 gHV 27 #[.int .i64 (zs.length : Int), .int .i64 tk, .slice AH zs.length cH, .bool tb] := Blk.below EHV7.out b8 (Blk.lt EHV7.out)
        have hb8 : Below w.heap.size w w8 := EB7.out.trans (b8.mono EB7.out.size)
        have EFP8 := Lib.hid hFP8; clear hFP8
        have EPV8 := Lib.hid hPV8; clear hPV8
        have EG8 := Lib.hid hG8; clear hG8
        have EGV8 := Lib.hid hGV8; clear hGV8
        have EH8 := Lib.hid hH8; clear hH8
        have EHV8 := Lib.hid hHV8; clear hHV8
        have EB8 := Lib.hid hb8; clear hb8
        clear EFP7 EPV7 EG7 EGV7 EH7 EHV7 EB7 b8
        obtain ⟨pvq0, pvq1, pvq2, pvq3, pvqz⟩ := blk4 EPV8.out
        have pvql := Blk.lt EPV8.out
        have pvqm : ¬ gPV = w8.heap.size := by omega
        have pvqn : ¬ w8.heap.size = gPV := by omega
        obtain ⟨gvq0, gvq1, gvq2, gvq3, gvqz⟩ := blk4 EGV8.out
        have gvql := Blk.lt EGV8.out
        have gvqm : ¬ gGV = w8.heap.size := by omega
        have gvqn : ¬ w8.heap.size = gGV := by omega
        obtain ⟨hvq0, hvq1, hvq2, hvq3, hvqz⟩ := blk4 EHV8.out
        have hvql := Blk.lt EHV8.out
        have hvqm : ¬ gHV = w8.heap.size := by omega
        have hvqn : ¬ w8.heap.size = gHV := by omega
        go_wp2_with fail
        go_ret
        have h1 := HDEP.out
        have h2 := HD.out
        simp at h1
        exact ⟨by simp; omega, EB8.out⟩
      · go_wp2_with fail
        refine (validNest_c _ _ zs _ _ _ _ _ rfl EG7.out.rd (by omega)).mono ?_
        rw [HVT.out]
        rintro e w8 ⟨rfl, b8⟩
        clear pvq0 pvq1 pvq2 pvq3 pvqz pvql pvqm pvqn gvq0 gvq1 gvq2 gvq3 gvqz gvql gvqm gvqn hvq0 hvq1 hvq2 hvq3 hvqz hvql hvqm hvqn
        have hFP8 : Frd w8 w.heap.size AP (ms.map (.int .i64)) := EFP7.out.below b8
        have hPV8 : Blk w8 gPV 27 #[.int .i64 d, .int .i64 k, .slice AP ms.length cP, .bool b] := Blk.below EPV7.out b8 (Blk.lt EPV7.out)
        have hG8 : Row w8 w.heap.size 3 1 AG (zs).length cG ((zs).map (.int .i64)) := EG7.out.below b8
        have hGV8 : Blk w8 gGV 27 #[.int .i64 (zs.length : Int), .int .i64 tk, .slice AG zs.length cG, .bool tb] := Blk.below EGV7.out b8 (Blk.lt EGV7.out)
        have hH8 : Row w8 w.heap.size 3 1 AH (zs).length cH ((zs).map (.int .i64)) := EH7.out.below b8
        have hHV8 : Blk w8 gHV 27 #[.int .i64 (zs.length : Int), .int .i64 tk, .slice AH zs.length cH, .bool tb] := Blk.below EHV7.out b8 (Blk.lt EHV7.out)
        have hb8 : Below w.heap.size w w8 := EB7.out.trans (b8.mono EB7.out.size)
        have EFP8 := Lib.hid hFP8; clear hFP8
        have EPV8 := Lib.hid hPV8; clear hPV8
        have EG8 := Lib.hid hG8; clear hG8
        have EGV8 := Lib.hid hGV8; clear hGV8
        have EH8 := Lib.hid hH8; clear hH8
        have EHV8 := Lib.hid hHV8; clear hHV8
        have EB8 := Lib.hid hb8; clear hb8
        clear EFP7 EPV7 EG7 EGV7 EH7 EHV7 EB7 b8
        obtain ⟨pvq0, pvq1, pvq2, pvq3, pvqz⟩ := blk4 EPV8.out
        have pvql := Blk.lt EPV8.out
        have pvqm : ¬ gPV = w8.heap.size := by omega
        have pvqn : ¬ w8.heap.size = gPV := by omega
        obtain ⟨gvq0, gvq1, gvq2, gvq3, gvqz⟩ := blk4 EGV8.out
        have gvql := Blk.lt EGV8.out
        have gvqm : ¬ gGV = w8.heap.size := by omega
        have gvqn : ¬ w8.heap.size = gGV := by omega
        obtain ⟨hvq0, hvq1, hvq2, hvq3, hvqz⟩ := blk4 EHV8.out
        have hvql := Blk.lt EHV8.out
        have hvqm : ¬ gHV = w8.heap.size := by omega
        have hvqn : ¬ w8.heap.size = gHV := by omega
        go_wp2_with fail
        go_ret
        have h1 := HDEP.out
        have h2 := HD.out
        simp at h1
        exact ⟨by simp; omega, EB8.out⟩
      · go_wp2_with fail
        refine (validNest_c _ _ zs _ _ _ _ _ rfl EG7.out.rd (by omega)).mono ?_
        rw [HVT.out]
        rintro e w8 ⟨rfl, b8⟩
        clear pvq0 pvq1 pvq2 pvq3 pvqz pvql pvqm pvqn gvq0 gvq1 gvq2 gvq3 gvqz gvql gvqm gvqn hvq0 hvq1 hvq2 hvq3 hvqz hvql hvqm hvqn
        have hFP8 : Frd w8 w.heap.size AP (ms.map (.int .i64)) := EFP7.out.below b8
        have hPV8 : Blk w8 gPV 27 #[.int .i64 d, .int .i64 k, .slice AP ms.length cP, .bool b] := Blk.below EPV7.out b8 (Blk.lt EPV7.out)
        have hG8 : Row w8 w.heap.size 3 1 AG (zs).length cG ((zs).map (.int .i64)) := EG7.out.below b8
        have hGV8 : Blk w8 gGV 27 #[.int .i64 (zs.length : Int), .int .i64 tk, .slice AG zs.length cG, .bool tb] := Blk.below EGV7.out b8 (Blk.lt EGV7.out)
        have hH8 : Row w8 w.heap.size 3 1 AH (zs).length cH ((zs).map (.int .i64)) := EH7.out.below b8
        have hHV8 : Blk w8 gHV 27 #[.int .i64 (zs.length : Int), .int .i64 tk, .slice AH zs.length cH, .bool tb] := Blk.below EHV7.out b8 (Blk.lt EHV7.out)
        have hb8 : Below w.heap.size w w8 := EB7.out.trans (b8.mono EB7.out.size)
        have EFP8 := Lib.hid hFP8; clear hFP8
        have EPV8 := Lib.hid hPV8; clear hPV8
        have EG8 := Lib.hid hG8; clear hG8
        have EGV8 := Lib.hid hGV8; clear hGV8
        have EH8 := Lib.hid hH8; clear hH8
        have EHV8 := Lib.hid hHV8; clear hHV8
        have EB8 := Lib.hid hb8; clear hb8
        clear EFP7 EPV7 EG7 EGV7 EH7 EHV7 EB7 b8
        obtain ⟨pvq0, pvq1, pvq2, pvq3, pvqz⟩ := blk4 EPV8.out
        have pvql := Blk.lt EPV8.out
        have pvqm : ¬ gPV = w8.heap.size := by omega
        have pvqn : ¬ w8.heap.size = gPV := by omega
        obtain ⟨gvq0, gvq1, gvq2, gvq3, gvqz⟩ := blk4 EGV8.out
        have gvql := Blk.lt EGV8.out
        have gvqm : ¬ gGV = w8.heap.size := by omega
        have gvqn : ¬ w8.heap.size = gGV := by omega
        obtain ⟨hvq0, hvq1, hvq2, hvq3, hvqz⟩ := blk4 EHV8.out
        have hvql := Blk.lt EHV8.out
        have hvqm : ¬ gHV = w8.heap.size := by omega
        have hvqn : ¬ w8.heap.size = gHV := by omega
        go_wp2_with fail
        go_ret
        have h1 := HDEP.out
        have h2 := HD.out
        simp only [beq_eq_false_iff_ne, ne_eq] at x0 x3 x4
        simp [x0, x3, x4] at h1
        exact ⟨by simp; omega, EB8.out⟩

namespace fnStepNest
open Go.ChangeShapes Go.WideShapes Go.ChangeAt
open Go.ChangeMaps (open_string shut_string)
theorem own : ownKnob Try.prog.godebug = none := by kernel_rfl
theorem laidOut : laidOutB Try.prog = true := by kernel_rfl
set_option maxRecDepth 100000 in
theorem lifted (os : Os) (started : os.Started) (H : Type) (enc : TypeId × Value → H) :
    ReturnsInHanded {} Try.checked os 9 .any (Rows.fnStepNestSpec.pre6 enc Try.prog Try.f9 Rows.fnStepNestRow.domain false) (Rows.fnStepNestSpec.post enc Try.prog Try.f9 false true false false) := by
  refine returnsInHanded_of_change (C := Try.checked) own started (by kernel_rfl) Try.func9
    (ChangeSpec.witness6 (enc := enc) (C := Try.checked) false ⟨#[], #[.slice none 0 0], []⟩ 8 (by kernel_rfl) (by kernel_rfl) (by kernel_rfl) (by kernel_rfl)) ?_
  intro W base args ds gs before hval0 hW hcnd _
  have hval : ∀ (j : Nat) t v, Try.f9.params[j]? = some t → args[j]? = some v → Value.okWide Try.prog W .any base t v := hval0
  have hW' := hW
  obtain ⟨p, q, hA0, hV, rfl, hfz, hnd⟩ := hW
  have hA : DataW.TrodAll enc Try.prog W 0 (fun _ => true) true Try.f9.params.toList args.toList ds p := hA0
  rw [Try.params9] at hA hval
  obtain ⟨v0, vs0, d0, ds0, p0, q0, hargs, rfl, rfl, h0, r0⟩ := trodAll_cons hA
  obtain ⟨rfl, rfl, rfl⟩ := trodAll_nil r0
  obtain rfl : args = #[v0] := by cases args; simp_all
  obtain ⟨rfl, rfl⟩ := trodVars_none hV
  obtain ⟨a0, n0, c0, rfl⟩ := okWide_slice Try.underlying31 (hval 0 31 v0 rfl rfl)
  have k0 := h0
  have lt0 : ∀ x ∈ p0, x.block < W.heap.size := by obtain ⟨m, hm⟩ := k0; exact DataW.trod_lt m _ _ _ hm
  obtain ⟨z0, e0, lc0, cm0, rd0, wf0⟩ := open_rd_int Try.underlying31 Try.underlying5 (by kernel_rfl) h0
  clear hA0 hval0
  refine (walk_FnStepNest (w := W) z0 a0 n0 c0 e0 lc0 cm0 rd0 (fun x hx => wf_u8 (wf0 x hx))).mono fun e W' ⟨he, bel⟩ => ?_
  subst he
  exact ⟨_, rfl, _, _, _, [], _, [], hW', trodAll_mk1 (shut_bool Try.underlying4 _), (trodAll_cons_mk (Below.trod laidOut (by kernel_rfl) (of_decide_eq_true (by kernel_rfl)) k0 bel lt0) trodAll_mk0), rfl, bel.frame _, fun h => by cases h⟩
theorem closed : joinedFacts Try.prog 9 Try.f9 Rows.fnStepNestSpec Rows.fnStepNestRow = true :=
  facts_of mayEnter_ok liftsFinal_ok make_ok (by kernel_rfl)
theorem over : Rows.fnStepNestRow.holds Try.pinned (OpenSpec.ofChange Rows.fnStepNestSpec) :=
  OpenClaim.holds_of_wide 9 Try.f9 rfl rfl rfl rfl rfl rfl rfl ⟨rfl, rfl, rfl, rfl, rfl⟩ rfl rfl rfl rfl rfl (by kernel_rfl) Try.func9 closed
    (of_decide_eq_true (by kernel_rfl)) (by unfold Func.isWrapper; first | (rw [if_pos (by decide +kernel)]; kernel_rfl) | (rw [if_neg (by decide +kernel)]; exact ⟨rfl, rfl⟩))
    (fun os started H enc _ => lifted os started H enc)
/-- THE STATEMENT -/
theorem proved : Rows.FnStepNestSaid := over
end fnStepNest
end Go.Proofs.Ytoljmhggkighnaa
