/- FnStepNestKeep: for every code the law returns true, and what was there is as it was. No condition. -/
import Derived.Test.YtoljmhggkighnabRows
import Derived.Test.YtoljmhggkighnabNestLaw
import Derived.Test.YtoljmhggkighnabNestDraw
import Derived.Test.YtoljmhggkighnabOpenC
set_option linter.unusedVariables false
set_option linter.unusedSimpArgs false
set_option linter.unnecessarySimpa false
namespace Go.Proofs.Ytoljmhggkighnab
open Go.RowKit

set_option maxRecDepth 100000 in
set_option maxHeartbeats 16000000 in
theorem walk_FnStepNestKeep (zs : List Int) (A : Option Addr) (n c : Nat) (hN : zs.length = n) (hc : n ≤ c) (hm : c ≤ maxLen) {w : World} (h : Rd w A (zs.map (.int .u8))) (hz : ∀ z ∈ zs, 0 ≤ z ∧ z ≤ 255) :
    Calls Try.prog 3 #[.slice A n c] w fun e w' => e = .returned (.bool true) ∧ Below w.heap.size w w' := by
  have HD := Lib.hid (drawStepNest_c zs A n c w hN hc hm h hz)
  clear h hz hN
  unfold maxLen at hm
  by_cases hbig : 1048576 < n
  · go_enter Try.func3, Try.ntmps3
    go_wp2
    go_ret
    exact ⟨rfl, Below.refl _ _⟩
  · go_enter Try.func3, Try.ntmps3
    go_wp2_with fail
    refine HD.out.mono ?_
    rintro e w1 ⟨d, k, ms, b, AP, cP, x, rfl, hl, hcP, fP, b1⟩
    have EB1 := Lib.hid b1; clear b1
    have H0 := Lib.hid fP.rd; clear fP
    obtain ⟨r, hr⟩ : ∃ r, r = stepN d k ms b x := ⟨_, rfl⟩
    have hbd : (r.getD St.zero).marks.length ≤ 4 := by
      rw [hr]
      cases hq : stepN d k ms b x with
      | none => simp [St.zero]
      | some t => have := (stepN_some hq).2.2.2; rw [St.ok_iff] at this; exact this.1
    obtain ⟨t, ht⟩ : ∃ t, t = r.getD St.zero := ⟨_, rfl⟩
    obtain ⟨ok, hok⟩ : ∃ ok, ok = r.isSome := ⟨_, rfl⟩
    rw [← ht] at hbd
    have HT : Hid ((stepN d k ms b x).getD St.zero = t) := by show _ = _; rw [ht, hr]
    have HO : Hid ((stepN d k ms b x).isSome = ok) := by show _ = _; rw [hok, hr]
    obtain ⟨tk, zs, tb⟩ := t
    simp only at hbd
    clear hr ht hok
    go_wp2_with fail
    obtain ⟨w2, hw2⟩ : ∃ W, W = w1.alloc (.cells #[.int .i64 d, .int .i64 k, .slice AP ms.length cP, .bool b] 25) := ⟨_, rfl⟩
    obtain ⟨gPV, hgPV⟩ : ∃ g, g = w1.heap.size := ⟨_, rfl⟩
    rw [← hw2, ← hgPV]
    have hv2 : Blk w2 gPV 25 #[.int .i64 d, .int .i64 k, .slice AP ms.length cP, .bool b] := by rw [hw2, hgPV]; exact Blk.new _ _ _
    have V2 := Lib.hid hv2; clear hv2
    have hgePV : w1.heap.size ≤ gPV := by rw [hgPV]; exact (Below.refl w1.heap.size w1).size
    have HSZPV := Lib.hid (show w2.heap.size = gPV + 1 by rw [hw2, hgPV]; simp)
    have hb2 : Below w1.heap.size w1 w2 := by rw [hw2]; exact (Below.refl w1.heap.size w1).alloc (Below.refl w1.heap.size w1).size _
    have EB2 := Lib.hid hb2; clear hb2
    clear  hw2 hgPV
    obtain ⟨pvq0, pvq1, pvq2, pvq3, pvqz⟩ := blk4 V2.out
    have pvql := Blk.lt V2.out
    have pvqm : ¬ gPV = w2.heap.size := by omega
    have pvqn : ¬ w2.heap.size = gPV := by omega
    go_wp2_with fail
    refine (stepNest_c d k ms b x _ _ _ _ rfl hcP (Rd.below (w' := w2) H0.out EB2.out) (by omega)).mono ?_
    rw [HT.out, HO.out]
    rintro e w3 ⟨AG, cG, rfl, q3, b3⟩
    have r3 : Row w3 w2.heap.size 3 1 AG (zs).length cG ((zs).map (.int .i64)) := q3
    have R3 := Lib.hid (r3.mono EB2.out.size); clear r3 q3
    clear pvq0 pvq1 pvq2 pvq3 pvqz pvql pvqm pvqn
    have hPV3 : Blk w3 gPV 25 #[.int .i64 d, .int .i64 k, .slice AP ms.length cP, .bool b] := Blk.below V2.out b3 (Blk.lt V2.out)
    have hb3 : Below w1.heap.size w1 w3 := EB2.out.trans (b3.mono EB2.out.size)
    have EPV3 := Lib.hid hPV3; clear hPV3
    have EB3 := Lib.hid hb3; clear hb3
    clear V2 EB2 b3
    obtain ⟨pvq0, pvq1, pvq2, pvq3, pvqz⟩ := blk4 EPV3.out
    have pvql := Blk.lt EPV3.out
    have pvqm : ¬ gPV = w3.heap.size := by omega
    have pvqn : ¬ w3.heap.size = gPV := by omega
    go_wp2_with fail
    obtain ⟨w4, hw4⟩ : ∃ W, W = w3.alloc (.cells #[.int .i64 (zs.length : Int), .int .i64 tk, .slice AG zs.length cG, .bool tb] 25) := ⟨_, rfl⟩
    obtain ⟨gGV, hgGV⟩ : ∃ g, g = w3.heap.size := ⟨_, rfl⟩
    rw [← hw4, ← hgGV]
    have hv4 : Blk w4 gGV 25 #[.int .i64 (zs.length : Int), .int .i64 tk, .slice AG zs.length cG, .bool tb] := by rw [hw4, hgGV]; exact Blk.new _ _ _
    have V4 := Lib.hid hv4; clear hv4
    have hgeGV : w1.heap.size ≤ gGV := by rw [hgGV]; exact EB3.out.size
    have HSZGV := Lib.hid (show w4.heap.size = gGV + 1 by rw [hw4, hgGV]; simp)
    have hltPVGV : gPV < gGV := by rw [hgGV]; exact Blk.lt EPV3.out
    clear pvq0 pvq1 pvq2 pvq3 pvqz pvql pvqm pvqn
    have hPV4 : Blk w4 gPV 25 #[.int .i64 d, .int .i64 k, .slice AP ms.length cP, .bool b] := by rw [hw4]; exact EPV3.out.alloc _
    have hG4 : Row w4 w1.heap.size 3 1 AG (zs).length cG ((zs).map (.int .i64)) := by rw [hw4]; exact R3.out.alloc _
    have hb4 : Below w1.heap.size w1 w4 := by rw [hw4]; exact EB3.out.alloc EB3.out.size _
    have EPV4 := Lib.hid hPV4; clear hPV4
    have EG4 := Lib.hid hG4; clear hG4
    have EB4 := Lib.hid hb4; clear hb4
    clear EPV3 R3 EB3 hw4 hgGV
    obtain ⟨pvq0, pvq1, pvq2, pvq3, pvqz⟩ := blk4 EPV4.out
    have pvql := Blk.lt EPV4.out
    have pvqm : ¬ gPV = w4.heap.size := by omega
    have pvqn : ¬ w4.heap.size = gPV := by omega
    obtain ⟨gvq0, gvq1, gvq2, gvq3, gvqz⟩ := blk4 V4.out
    have gvql := Blk.lt V4.out
    have gvqm : ¬ gGV = w4.heap.size := by omega
    have gvqn : ¬ w4.heap.size = gGV := by omega
    go_wp2_with fail
    refine (sStepNest_c d k ms b x _ _ _ _ rfl hcP (Rd.below (w' := w4) H0.out EB4.out) (by omega)).mono ?_
    rw [HT.out, HO.out]
    rintro e w5 ⟨AH, cH, rfl, q5, b5⟩
    have r5 : Row w5 w4.heap.size 3 1 AH (zs).length cH ((zs).map (.int .i64)) := q5
    have apGH := Lib.hid (row_apart EG4.out r5 (Nat.le_refl _))
    have R5 := Lib.hid (r5.mono EB4.out.size); clear r5 q5
    clear pvq0 pvq1 pvq2 pvq3 pvqz pvql pvqm pvqn gvq0 gvq1 gvq2 gvq3 gvqz gvql gvqm gvqn
    have hPV5 : Blk w5 gPV 25 #[.int .i64 d, .int .i64 k, .slice AP ms.length cP, .bool b] := Blk.below EPV4.out b5 (Blk.lt EPV4.out)
    have hG5 : Row w5 w1.heap.size 3 1 AG (zs).length cG ((zs).map (.int .i64)) := EG4.out.below b5
    have hGV5 : Blk w5 gGV 25 #[.int .i64 (zs.length : Int), .int .i64 tk, .slice AG zs.length cG, .bool tb] := Blk.below V4.out b5 (Blk.lt V4.out)
    have hb5 : Below w1.heap.size w1 w5 := EB4.out.trans (b5.mono EB4.out.size)
    have EPV5 := Lib.hid hPV5; clear hPV5
    have EG5 := Lib.hid hG5; clear hG5
    have EGV5 := Lib.hid hGV5; clear hGV5
    have EB5 := Lib.hid hb5; clear hb5
    clear EPV4 EG4 V4 EB4 b5
    obtain ⟨pvq0, pvq1, pvq2, pvq3, pvqz⟩ := blk4 EPV5.out
    have pvql := Blk.lt EPV5.out
    have pvqm : ¬ gPV = w5.heap.size := by omega
    have pvqn : ¬ w5.heap.size = gPV := by omega
    obtain ⟨gvq0, gvq1, gvq2, gvq3, gvqz⟩ := blk4 EGV5.out
    have gvql := Blk.lt EGV5.out
    have gvqm : ¬ gGV = w5.heap.size := by omega
    have gvqn : ¬ w5.heap.size = gGV := by omega
    go_wp2_with fail
    obtain ⟨w6, hw6⟩ : ∃ W, W = w5.alloc (.cells #[.int .i64 (zs.length : Int), .int .i64 tk, .slice AH zs.length cH, .bool tb] 25) := ⟨_, rfl⟩
    obtain ⟨gHV, hgHV⟩ : ∃ g, g = w5.heap.size := ⟨_, rfl⟩
    rw [← hw6, ← hgHV]
    have hv6 : Blk w6 gHV 25 #[.int .i64 (zs.length : Int), .int .i64 tk, .slice AH zs.length cH, .bool tb] := by rw [hw6, hgHV]; exact Blk.new _ _ _
    have V6 := Lib.hid hv6; clear hv6
    have hgeHV : w1.heap.size ≤ gHV := by rw [hgHV]; exact EB5.out.size
    have HSZHV := Lib.hid (show w6.heap.size = gHV + 1 by rw [hw6, hgHV]; simp)
    have hltPVHV : gPV < gHV := by rw [hgHV]; exact Blk.lt EPV5.out
    have hltGVHV : gGV < gHV := by rw [hgHV]; exact Blk.lt EGV5.out
    clear pvq0 pvq1 pvq2 pvq3 pvqz pvql pvqm pvqn gvq0 gvq1 gvq2 gvq3 gvqz gvql gvqm gvqn
    have hPV6 : Blk w6 gPV 25 #[.int .i64 d, .int .i64 k, .slice AP ms.length cP, .bool b] := by rw [hw6]; exact EPV5.out.alloc _
    have hG6 : Row w6 w1.heap.size 3 1 AG (zs).length cG ((zs).map (.int .i64)) := by rw [hw6]; exact EG5.out.alloc _
    have hGV6 : Blk w6 gGV 25 #[.int .i64 (zs.length : Int), .int .i64 tk, .slice AG zs.length cG, .bool tb] := by rw [hw6]; exact EGV5.out.alloc _
    have hH6 : Row w6 w1.heap.size 3 1 AH (zs).length cH ((zs).map (.int .i64)) := by rw [hw6]; exact R5.out.alloc _
    have hb6 : Below w1.heap.size w1 w6 := by rw [hw6]; exact EB5.out.alloc EB5.out.size _
    have EPV6 := Lib.hid hPV6; clear hPV6
    have EG6 := Lib.hid hG6; clear hG6
    have EGV6 := Lib.hid hGV6; clear hGV6
    have EH6 := Lib.hid hH6; clear hH6
    have EB6 := Lib.hid hb6; clear hb6
    clear EPV5 EG5 EGV5 R5 EB5 hw6 hgHV
    obtain ⟨pvq0, pvq1, pvq2, pvq3, pvqz⟩ := blk4 EPV6.out
    have pvql := Blk.lt EPV6.out
    have pvqm : ¬ gPV = w6.heap.size := by omega
    have pvqn : ¬ w6.heap.size = gPV := by omega
    obtain ⟨gvq0, gvq1, gvq2, gvq3, gvqz⟩ := blk4 EGV6.out
    have gvql := Blk.lt EGV6.out
    have gvqm : ¬ gGV = w6.heap.size := by omega
    have gvqn : ¬ w6.heap.size = gGV := by omega
    obtain ⟨hvq0, hvq1, hvq2, hvq3, hvqz⟩ := blk4 V6.out
    have hvql := Blk.lt V6.out
    have hvqm : ¬ gHV = w6.heap.size := by omega
    have hvqn : ¬ w6.heap.size = gHV := by omega
    go_wp2_with fail
    refine (equalNest_c _ _ zs _ _ _ _ _ _ _ rfl EG6.out.rd EH6.out.rd (by omega)).mono ?_
    rintro e w7 ⟨rfl, b7⟩
    clear pvq0 pvq1 pvq2 pvq3 pvqz pvql pvqm pvqn gvq0 gvq1 gvq2 gvq3 gvqz gvql gvqm gvqn hvq0 hvq1 hvq2 hvq3 hvqz hvql hvqm hvqn
    have hPV7 : Blk w7 gPV 25 #[.int .i64 d, .int .i64 k, .slice AP ms.length cP, .bool b] := Blk.below EPV6.out b7 (Blk.lt EPV6.out)
    have hG7 : Row w7 w1.heap.size 3 1 AG (zs).length cG ((zs).map (.int .i64)) := EG6.out.below b7
    have hGV7 : Blk w7 gGV 25 #[.int .i64 (zs.length : Int), .int .i64 tk, .slice AG zs.length cG, .bool tb] := Blk.below EGV6.out b7 (Blk.lt EGV6.out)
    have hH7 : Row w7 w1.heap.size 3 1 AH (zs).length cH ((zs).map (.int .i64)) := EH6.out.below b7
    have hHV7 : Blk w7 gHV 25 #[.int .i64 (zs.length : Int), .int .i64 tk, .slice AH zs.length cH, .bool tb] := Blk.below V6.out b7 (Blk.lt V6.out)
    have hb7 : Below w1.heap.size w1 w7 := EB6.out.trans (b7.mono EB6.out.size)
    have EPV7 := Lib.hid hPV7; clear hPV7
    have EG7 := Lib.hid hG7; clear hG7
    have EGV7 := Lib.hid hGV7; clear hGV7
    have EH7 := Lib.hid hH7; clear hH7
    have EHV7 := Lib.hid hHV7; clear hHV7
    have EB7 := Lib.hid hb7; clear hb7
    clear EPV6 EG6 EGV6 EH6 V6 EB6 b7
    obtain ⟨pvq0, pvq1, pvq2, pvq3, pvqz⟩ := blk4 EPV7.out
    have pvql := Blk.lt EPV7.out
    have pvqm : ¬ gPV = w7.heap.size := by omega
    have pvqn : ¬ w7.heap.size = gPV := by omega
    obtain ⟨gvq0, gvq1, gvq2, gvq3, gvqz⟩ := blk4 EGV7.out
    have gvql := Blk.lt EGV7.out
    have gvqm : ¬ gGV = w7.heap.size := by omega
    have gvqn : ¬ w7.heap.size = gGV := by omega
    obtain ⟨hvq0, hvq1, hvq2, hvq3, hvqz⟩ := blk4 EHV7.out
    have hvql := Blk.lt EHV7.out
    have hvqm : ¬ gHV = w7.heap.size := by omega
    have hvqn : ¬ w7.heap.size = gHV := by omega
    obtain ⟨vd, hvd⟩ : ∃ vd, vd = validN d k ms b := ⟨_, rfl⟩
    have HVD := Lib.hid hvd; clear hvd
    go_wp2_with fail
    refine (validNest_c d k ms b _ _ _ _ rfl (Rd.below (w' := w7) H0.out EB7.out) (by omega)).mono ?_
    rw [← HVD.out]
    rintro e w8 ⟨rfl, b8⟩
    clear pvq0 pvq1 pvq2 pvq3 pvqz pvql pvqm pvqn gvq0 gvq1 gvq2 gvq3 gvqz gvql gvqm gvqn hvq0 hvq1 hvq2 hvq3 hvqz hvql hvqm hvqn
    have hPV8 : Blk w8 gPV 25 #[.int .i64 d, .int .i64 k, .slice AP ms.length cP, .bool b] := Blk.below EPV7.out b8 (Blk.lt EPV7.out)
    have hG8 : Row w8 w1.heap.size 3 1 AG (zs).length cG ((zs).map (.int .i64)) := EG7.out.below b8
    have hGV8 : Blk w8 gGV 25 #[.int .i64 (zs.length : Int), .int .i64 tk, .slice AG zs.length cG, .bool tb] := Blk.below EGV7.out b8 (Blk.lt EGV7.out)
    have hH8 : Row w8 w1.heap.size 3 1 AH (zs).length cH ((zs).map (.int .i64)) := EH7.out.below b8
    have hHV8 : Blk w8 gHV 25 #[.int .i64 (zs.length : Int), .int .i64 tk, .slice AH zs.length cH, .bool tb] := Blk.below EHV7.out b8 (Blk.lt EHV7.out)
    have hb8 : Below w1.heap.size w1 w8 := EB7.out.trans (b8.mono EB7.out.size)
    have EPV8 := Lib.hid hPV8; clear hPV8
    have EG8 := Lib.hid hG8; clear hG8
    have EGV8 := Lib.hid hGV8; clear hGV8
    have EH8 := Lib.hid hH8; clear hH8
    have EHV8 := Lib.hid hHV8; clear hHV8
    have EB8 := Lib.hid hb8; clear hb8
    clear EPV7 EG7 EGV7 EH7 EHV7 EB7 b8
    obtain ⟨pvq0, pvq1, pvq2, pvq3, pvqz⟩ := blk4 EPV8.out
    have pvql := Blk.lt EPV8.out
    have pvqm : ¬ gPV = w8.heap.size := by omega
    have pvqn : ¬ w8.heap.size = gPV := by omega
    obtain ⟨gvq0, gvq1, gvq2, gvq3, gvqz⟩ := blk4 EGV8.out
    have gvql := Blk.lt EGV8.out
    have gvqm : ¬ gGV = w8.heap.size := by omega
    have gvqn : ¬ w8.heap.size = gGV := by omega
    obtain ⟨hvq0, hvq1, hvq2, hvq3, hvqz⟩ := blk4 EHV8.out
    have hvql := Blk.lt EHV8.out
    have hvqm : ¬ gHV = w8.heap.size := by omega
    have hvqn : ¬ w8.heap.size = gHV := by omega
    cases vd
    · go_wp2_with fail
      refine (equalNest_c _ _ zs _ _ _ _ _ _ _ rfl EG8.out.rd EH8.out.rd (by omega)).mono ?_
      rintro e w9 ⟨rfl, b9⟩
      clear pvq0 pvq1 pvq2 pvq3 pvqz pvql pvqm pvqn gvq0 gvq1 gvq2 gvq3 gvqz gvql gvqm gvqn hvq0 hvq1 hvq2 hvq3 hvqz hvql hvqm hvqn
      have hPV9 : Blk w9 gPV 25 #[.int .i64 d, .int .i64 k, .slice AP ms.length cP, .bool b] := Blk.below EPV8.out b9 (Blk.lt EPV8.out)
      have hG9 : Row w9 w1.heap.size 3 1 AG (zs).length cG ((zs).map (.int .i64)) := EG8.out.below b9
      have hGV9 : Blk w9 gGV 25 #[.int .i64 (zs.length : Int), .int .i64 tk, .slice AG zs.length cG, .bool tb] := Blk.below EGV8.out b9 (Blk.lt EGV8.out)
      have hH9 : Row w9 w1.heap.size 3 1 AH (zs).length cH ((zs).map (.int .i64)) := EH8.out.below b9
      have hHV9 : Blk w9 gHV 25 #[.int .i64 (zs.length : Int), .int .i64 tk, .slice AH zs.length cH, .bool tb] := Blk.below EHV8.out b9 (Blk.lt EHV8.out)
      have hb9 : Below w1.heap.size w1 w9 := EB8.out.trans (b9.mono EB8.out.size)
      have EPV9 := Lib.hid hPV9; clear hPV9
      have EG9 := Lib.hid hG9; clear hG9
      have EGV9 := Lib.hid hGV9; clear hGV9
      have EH9 := Lib.hid hH9; clear hH9
      have EHV9 := Lib.hid hHV9; clear hHV9
      have EB9 := Lib.hid hb9; clear hb9
      clear EPV8 EG8 EGV8 EH8 EHV8 EB8 b9
      obtain ⟨pvq0, pvq1, pvq2, pvq3, pvqz⟩ := blk4 EPV9.out
      have pvql := Blk.lt EPV9.out
      have pvqm : ¬ gPV = w9.heap.size := by omega
      have pvqn : ¬ w9.heap.size = gPV := by omega
      obtain ⟨gvq0, gvq1, gvq2, gvq3, gvqz⟩ := blk4 EGV9.out
      have gvql := Blk.lt EGV9.out
      have gvqm : ¬ gGV = w9.heap.size := by omega
      have gvqn : ¬ w9.heap.size = gGV := by omega
      obtain ⟨hvq0, hvq1, hvq2, hvq3, hvqz⟩ := blk4 EHV9.out
      have hvql := Blk.lt EHV9.out
      have hvqm : ¬ gHV = w9.heap.size := by omega
      have hvqn : ¬ w9.heap.size = gHV := by omega
      go_wp2_with fail
      go_ret
      exact ⟨by first | rfl | simp, EB1.out.trans (EB9.out.mono EB1.out.size)⟩
    · clear EG8
      clear EGV8
      clear gvq0 gvq1 gvq2 gvq3 gvqz gvql gvqm gvqn
      clear EH8
      clear EHV8
      clear hvq0 hvq1 hvq2 hvq3 hvqz hvql hvqm hvqn
      obtain ⟨hd, hs⟩ := (validN_iff d k ms b).1 HVD.out.symm
      subst hd
      have hms : ms.length ≤ 4 := by rw [St.ok_iff] at hs; exact hs.1
      obtain ⟨r0, hr0⟩ : ∃ r0, r0 = St.step ⟨k, ms, b⟩ 0 := ⟨_, rfl⟩
      have hst : stepN (ms.length : Int) k ms b 0 = r0 := by rw [hr0]; exact stepN_ok hs 0
      have HST := Lib.hid hst; have HR0 := Lib.hid hr0.symm; have HS := Lib.hid hs
      have hz1 : stepN 0 0 [] false 1 = none := by decide
      have hz3 : stepN 0 0 [] false 3 = none := by decide
      have HZ1 := Lib.hid hz1; have HZ3 := Lib.hid hz3
      clear hst hr0 hs hz1 hz3
      rcases r0 with _ | ⟨ok_, om, ob⟩
      · go_wp2_with fail
        refine (stepNest_c _ k ms b 0 _ _ _ _ rfl hcP (Rd.below (w' := w8) H0.out EB8.out) (by omega)).mono ?_
        rw [HST.out]
        rintro e w9 ⟨AK, cK, rfl, q9, b9⟩
        have r9 : Row w9 w8.heap.size 3 1 AK 0 cK ((([] : List Int)).map (.int .i64)) := q9
        have R9 := Lib.hid (r9.mono EB8.out.size); clear r9 q9
        clear pvq0 pvq1 pvq2 pvq3 pvqz pvql pvqm pvqn
        have hPV9 : Blk w9 gPV 25 #[.int .i64 (ms.length : Int), .int .i64 k, .slice AP ms.length cP, .bool b] := Blk.below EPV8.out b9 (Blk.lt EPV8.out)
        have hb9 : Below w1.heap.size w1 w9 := EB8.out.trans (b9.mono EB8.out.size)
        have EPV9 := Lib.hid hPV9; clear hPV9
        have EB9 := Lib.hid hb9; clear hb9
        clear EPV8 EB8 b9
        obtain ⟨pvq0, pvq1, pvq2, pvq3, pvqz⟩ := blk4 EPV9.out
        have pvql := Blk.lt EPV9.out
        have pvqm : ¬ gPV = w9.heap.size := by omega
        have pvqn : ¬ w9.heap.size = gPV := by omega
        go_wp2_with fail
        simp only [St.zero, List.length_nil, Int.natCast_zero, Int.ofNat_zero, Option.getD_none]
        obtain ⟨w10, hw10⟩ : ∃ W, W = w9.alloc (.cells #[.int .i64 0, .int .i64 0, .slice AK 0 cK, .bool false] 25) := ⟨_, rfl⟩
        obtain ⟨gKV, hgKV⟩ : ∃ g, g = w9.heap.size := ⟨_, rfl⟩
        rw [← hw10, ← hgKV]
        have hv10 : Blk w10 gKV 25 #[.int .i64 0, .int .i64 0, .slice AK 0 cK, .bool false] := by rw [hw10, hgKV]; exact Blk.new _ _ _
        have V10 := Lib.hid hv10; clear hv10
        have hgeKV : w1.heap.size ≤ gKV := by rw [hgKV]; exact EB9.out.size
        have HSZKV := Lib.hid (show w10.heap.size = gKV + 1 by rw [hw10, hgKV]; simp)
        have hltPVKV : gPV < gKV := by rw [hgKV]; exact Blk.lt EPV9.out
        clear pvq0 pvq1 pvq2 pvq3 pvqz pvql pvqm pvqn
        have hPV10 : Blk w10 gPV 25 #[.int .i64 (ms.length : Int), .int .i64 k, .slice AP ms.length cP, .bool b] := by rw [hw10]; exact EPV9.out.alloc _
        have hK10 : Row w10 w1.heap.size 3 1 AK 0 cK ((([] : List Int)).map (.int .i64)) := by rw [hw10]; exact R9.out.alloc _
        have hb10 : Below w1.heap.size w1 w10 := by rw [hw10]; exact EB9.out.alloc EB9.out.size _
        have EPV10 := Lib.hid hPV10; clear hPV10
        have EK10 := Lib.hid hK10; clear hK10
        have EB10 := Lib.hid hb10; clear hb10
        clear EPV9 R9 EB9 hw10 hgKV
        obtain ⟨pvq0, pvq1, pvq2, pvq3, pvqz⟩ := blk4 EPV10.out
        have pvql := Blk.lt EPV10.out
        have pvqm : ¬ gPV = w10.heap.size := by omega
        have pvqn : ¬ w10.heap.size = gPV := by omega
        obtain ⟨kvq0, kvq1, kvq2, kvq3, kvqz⟩ := blk4 V10.out
        have kvql := Blk.lt V10.out
        have kvqm : ¬ gKV = w10.heap.size := by omega
        have kvqn : ¬ w10.heap.size = gKV := by omega
        go_wp2_with fail
        refine (stepNest_c 0 0 [] false 1 _ _ _ _ rfl (by simp) (Rd.nil _ _) (by simp)).mono ?_
        rw [HZ1.out]
        rintro e w11 ⟨AM, cM, rfl, q11, b11⟩
        have r11 : Row w11 w10.heap.size 3 1 AM 0 cM ((([] : List Int)).map (.int .i64)) := q11
        have apKM := Lib.hid (row_apart EK10.out r11 (Nat.le_refl _))
        have R11 := Lib.hid (r11.mono EB10.out.size); clear r11 q11
        clear pvq0 pvq1 pvq2 pvq3 pvqz pvql pvqm pvqn kvq0 kvq1 kvq2 kvq3 kvqz kvql kvqm kvqn
        have hPV11 : Blk w11 gPV 25 #[.int .i64 (ms.length : Int), .int .i64 k, .slice AP ms.length cP, .bool b] := Blk.below EPV10.out b11 (Blk.lt EPV10.out)
        have hK11 : Row w11 w1.heap.size 3 1 AK 0 cK ((([] : List Int)).map (.int .i64)) := EK10.out.below b11
        have hKV11 : Blk w11 gKV 25 #[.int .i64 0, .int .i64 0, .slice AK 0 cK, .bool false] := Blk.below V10.out b11 (Blk.lt V10.out)
        have hb11 : Below w1.heap.size w1 w11 := EB10.out.trans (b11.mono EB10.out.size)
        have EPV11 := Lib.hid hPV11; clear hPV11
        have EK11 := Lib.hid hK11; clear hK11
        have EKV11 := Lib.hid hKV11; clear hKV11
        have EB11 := Lib.hid hb11; clear hb11
        clear EPV10 EK10 V10 EB10 b11
        obtain ⟨pvq0, pvq1, pvq2, pvq3, pvqz⟩ := blk4 EPV11.out
        have pvql := Blk.lt EPV11.out
        have pvqm : ¬ gPV = w11.heap.size := by omega
        have pvqn : ¬ w11.heap.size = gPV := by omega
        obtain ⟨kvq0, kvq1, kvq2, kvq3, kvqz⟩ := blk4 EKV11.out
        have kvql := Blk.lt EKV11.out
        have kvqm : ¬ gKV = w11.heap.size := by omega
        have kvqn : ¬ w11.heap.size = gKV := by omega
        go_wp2_with fail
        simp only [St.zero, List.length_nil, Int.natCast_zero, Int.ofNat_zero, Option.getD_none]
        obtain ⟨w12, hw12⟩ : ∃ W, W = w11.alloc (.cells #[.int .i64 0, .int .i64 0, .slice AM 0 cM, .bool false] 25) := ⟨_, rfl⟩
        obtain ⟨gMV, hgMV⟩ : ∃ g, g = w11.heap.size := ⟨_, rfl⟩
        rw [← hw12, ← hgMV]
        have hv12 : Blk w12 gMV 25 #[.int .i64 0, .int .i64 0, .slice AM 0 cM, .bool false] := by rw [hw12, hgMV]; exact Blk.new _ _ _
        have V12 := Lib.hid hv12; clear hv12
        have hgeMV : w1.heap.size ≤ gMV := by rw [hgMV]; exact EB11.out.size
        have HSZMV := Lib.hid (show w12.heap.size = gMV + 1 by rw [hw12, hgMV]; simp)
        have hltPVMV : gPV < gMV := by rw [hgMV]; exact Blk.lt EPV11.out
        have hltKVMV : gKV < gMV := by rw [hgMV]; exact Blk.lt EKV11.out
        clear pvq0 pvq1 pvq2 pvq3 pvqz pvql pvqm pvqn kvq0 kvq1 kvq2 kvq3 kvqz kvql kvqm kvqn
        have hPV12 : Blk w12 gPV 25 #[.int .i64 (ms.length : Int), .int .i64 k, .slice AP ms.length cP, .bool b] := by rw [hw12]; exact EPV11.out.alloc _
        have hK12 : Row w12 w1.heap.size 3 1 AK 0 cK ((([] : List Int)).map (.int .i64)) := by rw [hw12]; exact EK11.out.alloc _
        have hKV12 : Blk w12 gKV 25 #[.int .i64 0, .int .i64 0, .slice AK 0 cK, .bool false] := by rw [hw12]; exact EKV11.out.alloc _
        have hM12 : Row w12 w1.heap.size 3 1 AM 0 cM ((([] : List Int)).map (.int .i64)) := by rw [hw12]; exact R11.out.alloc _
        have hb12 : Below w1.heap.size w1 w12 := by rw [hw12]; exact EB11.out.alloc EB11.out.size _
        have EPV12 := Lib.hid hPV12; clear hPV12
        have EK12 := Lib.hid hK12; clear hK12
        have EKV12 := Lib.hid hKV12; clear hKV12
        have EM12 := Lib.hid hM12; clear hM12
        have EB12 := Lib.hid hb12; clear hb12
        clear EPV11 EK11 EKV11 R11 EB11 hw12 hgMV
        obtain ⟨pvq0, pvq1, pvq2, pvq3, pvqz⟩ := blk4 EPV12.out
        have pvql := Blk.lt EPV12.out
        have pvqm : ¬ gPV = w12.heap.size := by omega
        have pvqn : ¬ w12.heap.size = gPV := by omega
        obtain ⟨kvq0, kvq1, kvq2, kvq3, kvqz⟩ := blk4 EKV12.out
        have kvql := Blk.lt EKV12.out
        have kvqm : ¬ gKV = w12.heap.size := by omega
        have kvqn : ¬ w12.heap.size = gKV := by omega
        obtain ⟨mvq0, mvq1, mvq2, mvq3, mvqz⟩ := blk4 V12.out
        have mvql := Blk.lt V12.out
        have mvqm : ¬ gMV = w12.heap.size := by omega
        have mvqn : ¬ w12.heap.size = gMV := by omega
        go_wp2_with fail
        refine (stepNest_c 0 0 [] false 3 _ _ _ _ rfl (by simp) (Rd.nil _ _) (by simp)).mono ?_
        rw [HZ3.out]
        rintro e w13 ⟨AQ, cQ, rfl, q13, b13⟩
        have r13 : Row w13 w12.heap.size 3 1 AQ 0 cQ ((([] : List Int)).map (.int .i64)) := q13
        have apKQ := Lib.hid (row_apart EK12.out r13 (Nat.le_refl _))
        have apMQ := Lib.hid (row_apart EM12.out r13 (Nat.le_refl _))
        have R13 := Lib.hid (r13.mono EB12.out.size); clear r13 q13
        clear pvq0 pvq1 pvq2 pvq3 pvqz pvql pvqm pvqn kvq0 kvq1 kvq2 kvq3 kvqz kvql kvqm kvqn mvq0 mvq1 mvq2 mvq3 mvqz mvql mvqm mvqn
        have hPV13 : Blk w13 gPV 25 #[.int .i64 (ms.length : Int), .int .i64 k, .slice AP ms.length cP, .bool b] := Blk.below EPV12.out b13 (Blk.lt EPV12.out)
        have hK13 : Row w13 w1.heap.size 3 1 AK 0 cK ((([] : List Int)).map (.int .i64)) := EK12.out.below b13
        have hKV13 : Blk w13 gKV 25 #[.int .i64 0, .int .i64 0, .slice AK 0 cK, .bool false] := Blk.below EKV12.out b13 (Blk.lt EKV12.out)
        have hM13 : Row w13 w1.heap.size 3 1 AM 0 cM ((([] : List Int)).map (.int .i64)) := EM12.out.below b13
        have hMV13 : Blk w13 gMV 25 #[.int .i64 0, .int .i64 0, .slice AM 0 cM, .bool false] := Blk.below V12.out b13 (Blk.lt V12.out)
        have hb13 : Below w1.heap.size w1 w13 := EB12.out.trans (b13.mono EB12.out.size)
        have EPV13 := Lib.hid hPV13; clear hPV13
        have EK13 := Lib.hid hK13; clear hK13
        have EKV13 := Lib.hid hKV13; clear hKV13
        have EM13 := Lib.hid hM13; clear hM13
        have EMV13 := Lib.hid hMV13; clear hMV13
        have EB13 := Lib.hid hb13; clear hb13
        clear EPV12 EK12 EKV12 EM12 V12 EB12 b13
        obtain ⟨pvq0, pvq1, pvq2, pvq3, pvqz⟩ := blk4 EPV13.out
        have pvql := Blk.lt EPV13.out
        have pvqm : ¬ gPV = w13.heap.size := by omega
        have pvqn : ¬ w13.heap.size = gPV := by omega
        obtain ⟨kvq0, kvq1, kvq2, kvq3, kvqz⟩ := blk4 EKV13.out
        have kvql := Blk.lt EKV13.out
        have kvqm : ¬ gKV = w13.heap.size := by omega
        have kvqn : ¬ w13.heap.size = gKV := by omega
        obtain ⟨mvq0, mvq1, mvq2, mvq3, mvqz⟩ := blk4 EMV13.out
        have mvql := Blk.lt EMV13.out
        have mvqm : ¬ gMV = w13.heap.size := by omega
        have mvqn : ¬ w13.heap.size = gMV := by omega
        go_wp2_with fail
        go_ret
        exact ⟨by first | rfl | trivial, EB1.out.trans ((EB13.out.alloc EB13.out.size _).mono EB1.out.size)⟩
      · have hop : St.ok ⟨ok_, om, ob⟩ := St.step_ok HS.out HR0.out
        have hol : om.length ≤ 4 := by rw [St.ok_iff] at hop; exact hop.1
        obtain ⟨r1, hr1⟩ : ∃ r1, r1 = St.step ⟨ok_, om, ob⟩ 1 := ⟨_, rfl⟩
        have hst1 : stepN (om.length : Int) ok_ om ob 1 = r1 := by rw [hr1]; exact stepN_ok hop 1
        have HST1 := Lib.hid hst1; have HR1 := Lib.hid hr1.symm; have HOP := Lib.hid hop
        clear hst1 hr1 hop
        go_wp2_with fail
        refine (stepNest_c _ k ms b 0 _ _ _ _ rfl hcP (Rd.below (w' := w8) H0.out EB8.out) (by omega)).mono ?_
        rw [HST.out]
        rintro e w9 ⟨AK, cK, rfl, q9, b9⟩
        have r9 : Row w9 w8.heap.size 3 1 AK (om).length cK ((om).map (.int .i64)) := q9
        have R9 := Lib.hid (r9.mono EB8.out.size); clear r9 q9
        clear pvq0 pvq1 pvq2 pvq3 pvqz pvql pvqm pvqn
        have hPV9 : Blk w9 gPV 25 #[.int .i64 (ms.length : Int), .int .i64 k, .slice AP ms.length cP, .bool b] := Blk.below EPV8.out b9 (Blk.lt EPV8.out)
        have hb9 : Below w1.heap.size w1 w9 := EB8.out.trans (b9.mono EB8.out.size)
        have EPV9 := Lib.hid hPV9; clear hPV9
        have EB9 := Lib.hid hb9; clear hb9
        clear EPV8 EB8 b9
        obtain ⟨pvq0, pvq1, pvq2, pvq3, pvqz⟩ := blk4 EPV9.out
        have pvql := Blk.lt EPV9.out
        have pvqm : ¬ gPV = w9.heap.size := by omega
        have pvqn : ¬ w9.heap.size = gPV := by omega
        go_wp2_with fail
        obtain ⟨w10, hw10⟩ : ∃ W, W = w9.alloc (.cells #[.int .i64 (om.length : Int), .int .i64 ok_, .slice AK om.length cK, .bool ob] 25) := ⟨_, rfl⟩
        obtain ⟨gKV, hgKV⟩ : ∃ g, g = w9.heap.size := ⟨_, rfl⟩
        rw [← hw10, ← hgKV]
        have hv10 : Blk w10 gKV 25 #[.int .i64 (om.length : Int), .int .i64 ok_, .slice AK om.length cK, .bool ob] := by rw [hw10, hgKV]; exact Blk.new _ _ _
        have V10 := Lib.hid hv10; clear hv10
        have hgeKV : w1.heap.size ≤ gKV := by rw [hgKV]; exact EB9.out.size
        have HSZKV := Lib.hid (show w10.heap.size = gKV + 1 by rw [hw10, hgKV]; simp)
        have hltPVKV : gPV < gKV := by rw [hgKV]; exact Blk.lt EPV9.out
        clear pvq0 pvq1 pvq2 pvq3 pvqz pvql pvqm pvqn
        have hPV10 : Blk w10 gPV 25 #[.int .i64 (ms.length : Int), .int .i64 k, .slice AP ms.length cP, .bool b] := by rw [hw10]; exact EPV9.out.alloc _
        have hK10 : Row w10 w1.heap.size 3 1 AK (om).length cK ((om).map (.int .i64)) := by rw [hw10]; exact R9.out.alloc _
        have hb10 : Below w1.heap.size w1 w10 := by rw [hw10]; exact EB9.out.alloc EB9.out.size _
        have EPV10 := Lib.hid hPV10; clear hPV10
        have EK10 := Lib.hid hK10; clear hK10
        have EB10 := Lib.hid hb10; clear hb10
        clear EPV9 R9 EB9 hw10 hgKV
        obtain ⟨pvq0, pvq1, pvq2, pvq3, pvqz⟩ := blk4 EPV10.out
        have pvql := Blk.lt EPV10.out
        have pvqm : ¬ gPV = w10.heap.size := by omega
        have pvqn : ¬ w10.heap.size = gPV := by omega
        obtain ⟨kvq0, kvq1, kvq2, kvq3, kvqz⟩ := blk4 V10.out
        have kvql := Blk.lt V10.out
        have kvqm : ¬ gKV = w10.heap.size := by omega
        have kvqn : ¬ w10.heap.size = gKV := by omega
        rcases r1 with _ | ⟨wk, wm, wb⟩
        · go_wp2_with fail
          refine (stepNest_c _ ok_ om ob 1 _ _ _ _ rfl EK10.out.le EK10.out.rd (by omega)).mono ?_
          rw [HST1.out]
          rintro e w11 ⟨AM, cM, rfl, q11, b11⟩
          have r11 : Row w11 w10.heap.size 3 1 AM 0 cM ((([] : List Int)).map (.int .i64)) := q11
          have apKM := Lib.hid (row_apart EK10.out r11 (Nat.le_refl _))
          have R11 := Lib.hid (r11.mono EB10.out.size); clear r11 q11
          clear pvq0 pvq1 pvq2 pvq3 pvqz pvql pvqm pvqn kvq0 kvq1 kvq2 kvq3 kvqz kvql kvqm kvqn
          have hPV11 : Blk w11 gPV 25 #[.int .i64 (ms.length : Int), .int .i64 k, .slice AP ms.length cP, .bool b] := Blk.below EPV10.out b11 (Blk.lt EPV10.out)
          have hK11 : Row w11 w1.heap.size 3 1 AK (om).length cK ((om).map (.int .i64)) := EK10.out.below b11
          have hKV11 : Blk w11 gKV 25 #[.int .i64 (om.length : Int), .int .i64 ok_, .slice AK om.length cK, .bool ob] := Blk.below V10.out b11 (Blk.lt V10.out)
          have hb11 : Below w1.heap.size w1 w11 := EB10.out.trans (b11.mono EB10.out.size)
          have EPV11 := Lib.hid hPV11; clear hPV11
          have EK11 := Lib.hid hK11; clear hK11
          have EKV11 := Lib.hid hKV11; clear hKV11
          have EB11 := Lib.hid hb11; clear hb11
          clear EPV10 EK10 V10 EB10 b11
          obtain ⟨pvq0, pvq1, pvq2, pvq3, pvqz⟩ := blk4 EPV11.out
          have pvql := Blk.lt EPV11.out
          have pvqm : ¬ gPV = w11.heap.size := by omega
          have pvqn : ¬ w11.heap.size = gPV := by omega
          obtain ⟨kvq0, kvq1, kvq2, kvq3, kvqz⟩ := blk4 EKV11.out
          have kvql := Blk.lt EKV11.out
          have kvqm : ¬ gKV = w11.heap.size := by omega
          have kvqn : ¬ w11.heap.size = gKV := by omega
          go_wp2_with fail
          simp only [St.zero, List.length_nil, Int.natCast_zero, Int.ofNat_zero, Option.getD_none]
          obtain ⟨w12, hw12⟩ : ∃ W, W = w11.alloc (.cells #[.int .i64 0, .int .i64 0, .slice AM 0 cM, .bool false] 25) := ⟨_, rfl⟩
          obtain ⟨gMV, hgMV⟩ : ∃ g, g = w11.heap.size := ⟨_, rfl⟩
          rw [← hw12, ← hgMV]
          have hv12 : Blk w12 gMV 25 #[.int .i64 0, .int .i64 0, .slice AM 0 cM, .bool false] := by rw [hw12, hgMV]; exact Blk.new _ _ _
          have V12 := Lib.hid hv12; clear hv12
          have hgeMV : w1.heap.size ≤ gMV := by rw [hgMV]; exact EB11.out.size
          have HSZMV := Lib.hid (show w12.heap.size = gMV + 1 by rw [hw12, hgMV]; simp)
          have hltPVMV : gPV < gMV := by rw [hgMV]; exact Blk.lt EPV11.out
          have hltKVMV : gKV < gMV := by rw [hgMV]; exact Blk.lt EKV11.out
          clear pvq0 pvq1 pvq2 pvq3 pvqz pvql pvqm pvqn kvq0 kvq1 kvq2 kvq3 kvqz kvql kvqm kvqn
          have hPV12 : Blk w12 gPV 25 #[.int .i64 (ms.length : Int), .int .i64 k, .slice AP ms.length cP, .bool b] := by rw [hw12]; exact EPV11.out.alloc _
          have hK12 : Row w12 w1.heap.size 3 1 AK (om).length cK ((om).map (.int .i64)) := by rw [hw12]; exact EK11.out.alloc _
          have hKV12 : Blk w12 gKV 25 #[.int .i64 (om.length : Int), .int .i64 ok_, .slice AK om.length cK, .bool ob] := by rw [hw12]; exact EKV11.out.alloc _
          have hM12 : Row w12 w1.heap.size 3 1 AM 0 cM ((([] : List Int)).map (.int .i64)) := by rw [hw12]; exact R11.out.alloc _
          have hb12 : Below w1.heap.size w1 w12 := by rw [hw12]; exact EB11.out.alloc EB11.out.size _
          have EPV12 := Lib.hid hPV12; clear hPV12
          have EK12 := Lib.hid hK12; clear hK12
          have EKV12 := Lib.hid hKV12; clear hKV12
          have EM12 := Lib.hid hM12; clear hM12
          have EB12 := Lib.hid hb12; clear hb12
          clear EPV11 EK11 EKV11 R11 EB11 hw12 hgMV
          obtain ⟨pvq0, pvq1, pvq2, pvq3, pvqz⟩ := blk4 EPV12.out
          have pvql := Blk.lt EPV12.out
          have pvqm : ¬ gPV = w12.heap.size := by omega
          have pvqn : ¬ w12.heap.size = gPV := by omega
          obtain ⟨kvq0, kvq1, kvq2, kvq3, kvqz⟩ := blk4 EKV12.out
          have kvql := Blk.lt EKV12.out
          have kvqm : ¬ gKV = w12.heap.size := by omega
          have kvqn : ¬ w12.heap.size = gKV := by omega
          obtain ⟨mvq0, mvq1, mvq2, mvq3, mvqz⟩ := blk4 V12.out
          have mvql := Blk.lt V12.out
          have mvqm : ¬ gMV = w12.heap.size := by omega
          have mvqn : ¬ w12.heap.size = gMV := by omega
          go_wp2_with fail
          refine (stepNest_c 0 0 [] false 3 _ _ _ _ rfl (by simp) (Rd.nil _ _) (by simp)).mono ?_
          rw [HZ3.out]
          rintro e w13 ⟨AQ, cQ, rfl, q13, b13⟩
          have r13 : Row w13 w12.heap.size 3 1 AQ 0 cQ ((([] : List Int)).map (.int .i64)) := q13
          have apKQ := Lib.hid (row_apart EK12.out r13 (Nat.le_refl _))
          have apMQ := Lib.hid (row_apart EM12.out r13 (Nat.le_refl _))
          have R13 := Lib.hid (r13.mono EB12.out.size); clear r13 q13
          clear pvq0 pvq1 pvq2 pvq3 pvqz pvql pvqm pvqn kvq0 kvq1 kvq2 kvq3 kvqz kvql kvqm kvqn mvq0 mvq1 mvq2 mvq3 mvqz mvql mvqm mvqn
          have hPV13 : Blk w13 gPV 25 #[.int .i64 (ms.length : Int), .int .i64 k, .slice AP ms.length cP, .bool b] := Blk.below EPV12.out b13 (Blk.lt EPV12.out)
          have hK13 : Row w13 w1.heap.size 3 1 AK (om).length cK ((om).map (.int .i64)) := EK12.out.below b13
          have hKV13 : Blk w13 gKV 25 #[.int .i64 (om.length : Int), .int .i64 ok_, .slice AK om.length cK, .bool ob] := Blk.below EKV12.out b13 (Blk.lt EKV12.out)
          have hM13 : Row w13 w1.heap.size 3 1 AM 0 cM ((([] : List Int)).map (.int .i64)) := EM12.out.below b13
          have hMV13 : Blk w13 gMV 25 #[.int .i64 0, .int .i64 0, .slice AM 0 cM, .bool false] := Blk.below V12.out b13 (Blk.lt V12.out)
          have hb13 : Below w1.heap.size w1 w13 := EB12.out.trans (b13.mono EB12.out.size)
          have EPV13 := Lib.hid hPV13; clear hPV13
          have EK13 := Lib.hid hK13; clear hK13
          have EKV13 := Lib.hid hKV13; clear hKV13
          have EM13 := Lib.hid hM13; clear hM13
          have EMV13 := Lib.hid hMV13; clear hMV13
          have EB13 := Lib.hid hb13; clear hb13
          clear EPV12 EK12 EKV12 EM12 V12 EB12 b13
          obtain ⟨pvq0, pvq1, pvq2, pvq3, pvqz⟩ := blk4 EPV13.out
          have pvql := Blk.lt EPV13.out
          have pvqm : ¬ gPV = w13.heap.size := by omega
          have pvqn : ¬ w13.heap.size = gPV := by omega
          obtain ⟨kvq0, kvq1, kvq2, kvq3, kvqz⟩ := blk4 EKV13.out
          have kvql := Blk.lt EKV13.out
          have kvqm : ¬ gKV = w13.heap.size := by omega
          have kvqn : ¬ w13.heap.size = gKV := by omega
          obtain ⟨mvq0, mvq1, mvq2, mvq3, mvqz⟩ := blk4 EMV13.out
          have mvql := Blk.lt EMV13.out
          have mvqm : ¬ gMV = w13.heap.size := by omega
          have mvqn : ¬ w13.heap.size = gMV := by omega
          go_wp2_with fail
          go_ret
          exact ⟨by first | rfl | trivial, EB1.out.trans ((EB13.out.alloc EB13.out.size _).mono EB1.out.size)⟩
        · have hwp : St.ok ⟨wk, wm, wb⟩ := St.step_ok HOP.out HR1.out
          have hwl : wm.length ≤ 4 := by rw [St.ok_iff] at hwp; exact hwp.1
          obtain ⟨t, ht1, ht2⟩ := St.step_keep HS.out HR0.out HR1.out
          have hst3 : stepN (wm.length : Int) wk wm wb 3 = some t := by rw [← ht1]; exact stepN_ok hwp 3
          have htp : St.ok t := St.step_ok hwp ht1
          have hst4 : stepN (ms.length : Int) k ms b 1 = St.step ⟨k, ms, b⟩ 1 := stepN_ok HS.out 1
          obtain ⟨tk2, tm, tb2⟩ := t
          have htl : tm.length ≤ 4 := by rw [St.ok_iff] at htp; exact htp.1
          have HST3 := Lib.hid hst3; have HST4 := Lib.hid hst4; have HT2 := Lib.hid ht2
          clear hwp ht1 ht2 hst3 htp hst4
          go_wp2_with fail
          refine (stepNest_c _ ok_ om ob 1 _ _ _ _ rfl EK10.out.le EK10.out.rd (by omega)).mono ?_
          rw [HST1.out]
          rintro e w11 ⟨AM, cM, rfl, q11, b11⟩
          have r11 : Row w11 w10.heap.size 3 1 AM (wm).length cM ((wm).map (.int .i64)) := q11
          have apKM := Lib.hid (row_apart EK10.out r11 (Nat.le_refl _))
          have R11 := Lib.hid (r11.mono EB10.out.size); clear r11 q11
          clear pvq0 pvq1 pvq2 pvq3 pvqz pvql pvqm pvqn kvq0 kvq1 kvq2 kvq3 kvqz kvql kvqm kvqn
          have hPV11 : Blk w11 gPV 25 #[.int .i64 (ms.length : Int), .int .i64 k, .slice AP ms.length cP, .bool b] := Blk.below EPV10.out b11 (Blk.lt EPV10.out)
          have hK11 : Row w11 w1.heap.size 3 1 AK (om).length cK ((om).map (.int .i64)) := EK10.out.below b11
          have hKV11 : Blk w11 gKV 25 #[.int .i64 (om.length : Int), .int .i64 ok_, .slice AK om.length cK, .bool ob] := Blk.below V10.out b11 (Blk.lt V10.out)
          have hb11 : Below w1.heap.size w1 w11 := EB10.out.trans (b11.mono EB10.out.size)
          have EPV11 := Lib.hid hPV11; clear hPV11
          have EK11 := Lib.hid hK11; clear hK11
          have EKV11 := Lib.hid hKV11; clear hKV11
          have EB11 := Lib.hid hb11; clear hb11
          clear EPV10 EK10 V10 EB10 b11
          obtain ⟨pvq0, pvq1, pvq2, pvq3, pvqz⟩ := blk4 EPV11.out
          have pvql := Blk.lt EPV11.out
          have pvqm : ¬ gPV = w11.heap.size := by omega
          have pvqn : ¬ w11.heap.size = gPV := by omega
          obtain ⟨kvq0, kvq1, kvq2, kvq3, kvqz⟩ := blk4 EKV11.out
          have kvql := Blk.lt EKV11.out
          have kvqm : ¬ gKV = w11.heap.size := by omega
          have kvqn : ¬ w11.heap.size = gKV := by omega
          go_wp2_with fail
          obtain ⟨w12, hw12⟩ : ∃ W, W = w11.alloc (.cells #[.int .i64 (wm.length : Int), .int .i64 wk, .slice AM wm.length cM, .bool wb] 25) := ⟨_, rfl⟩
          obtain ⟨gMV, hgMV⟩ : ∃ g, g = w11.heap.size := ⟨_, rfl⟩
          rw [← hw12, ← hgMV]
          have hv12 : Blk w12 gMV 25 #[.int .i64 (wm.length : Int), .int .i64 wk, .slice AM wm.length cM, .bool wb] := by rw [hw12, hgMV]; exact Blk.new _ _ _
          have V12 := Lib.hid hv12; clear hv12
          have hgeMV : w1.heap.size ≤ gMV := by rw [hgMV]; exact EB11.out.size
          have HSZMV := Lib.hid (show w12.heap.size = gMV + 1 by rw [hw12, hgMV]; simp)
          have hltPVMV : gPV < gMV := by rw [hgMV]; exact Blk.lt EPV11.out
          have hltKVMV : gKV < gMV := by rw [hgMV]; exact Blk.lt EKV11.out
          clear pvq0 pvq1 pvq2 pvq3 pvqz pvql pvqm pvqn kvq0 kvq1 kvq2 kvq3 kvqz kvql kvqm kvqn
          have hPV12 : Blk w12 gPV 25 #[.int .i64 (ms.length : Int), .int .i64 k, .slice AP ms.length cP, .bool b] := by rw [hw12]; exact EPV11.out.alloc _
          have hK12 : Row w12 w1.heap.size 3 1 AK (om).length cK ((om).map (.int .i64)) := by rw [hw12]; exact EK11.out.alloc _
          have hKV12 : Blk w12 gKV 25 #[.int .i64 (om.length : Int), .int .i64 ok_, .slice AK om.length cK, .bool ob] := by rw [hw12]; exact EKV11.out.alloc _
          have hM12 : Row w12 w1.heap.size 3 1 AM (wm).length cM ((wm).map (.int .i64)) := by rw [hw12]; exact R11.out.alloc _
          have hb12 : Below w1.heap.size w1 w12 := by rw [hw12]; exact EB11.out.alloc EB11.out.size _
          have EPV12 := Lib.hid hPV12; clear hPV12
          have EK12 := Lib.hid hK12; clear hK12
          have EKV12 := Lib.hid hKV12; clear hKV12
          have EM12 := Lib.hid hM12; clear hM12
          have EB12 := Lib.hid hb12; clear hb12
          clear EPV11 EK11 EKV11 R11 EB11 hw12 hgMV
          obtain ⟨pvq0, pvq1, pvq2, pvq3, pvqz⟩ := blk4 EPV12.out
          have pvql := Blk.lt EPV12.out
          have pvqm : ¬ gPV = w12.heap.size := by omega
          have pvqn : ¬ w12.heap.size = gPV := by omega
          obtain ⟨kvq0, kvq1, kvq2, kvq3, kvqz⟩ := blk4 EKV12.out
          have kvql := Blk.lt EKV12.out
          have kvqm : ¬ gKV = w12.heap.size := by omega
          have kvqn : ¬ w12.heap.size = gKV := by omega
          obtain ⟨mvq0, mvq1, mvq2, mvq3, mvqz⟩ := blk4 V12.out
          have mvql := Blk.lt V12.out
          have mvqm : ¬ gMV = w12.heap.size := by omega
          have mvqn : ¬ w12.heap.size = gMV := by omega
          have h9 := HT2.out
          try simp only at h9
          rcases h9 with ⟨h1, h2, h3⟩ | ⟨h1, h2⟩
          · obtain ⟨rfl, rfl, rfl⟩ : tk2 = k ∧ tm = ms ∧ tb2 = b := by injection h2 with a1 a2 a3; exact ⟨a1, a2, a3⟩
            have hd0 : ((tm.length : Int) == 0) = true := by simp [h1]
            have h4 : stepN (tm.length : Int) tk2 tm tb2 1 = none := by rw [HST4.out, h3]
            have H4 := Lib.hid h4
            clear h1 h2 h3 h4
            go_wp2_with fail
            refine (stepNest_c _ wk wm wb 3 _ _ _ _ rfl EM12.out.le EM12.out.rd (by omega)).mono ?_
            rw [HST3.out]
            rintro e w13 ⟨AQ, cQ, rfl, q13, b13⟩
            have r13 : Row w13 w12.heap.size 3 1 AQ (tm).length cQ ((tm).map (.int .i64)) := q13
            have apKQ := Lib.hid (row_apart EK12.out r13 (Nat.le_refl _))
            have apMQ := Lib.hid (row_apart EM12.out r13 (Nat.le_refl _))
            have R13 := Lib.hid (r13.mono EB12.out.size); clear r13 q13
            clear pvq0 pvq1 pvq2 pvq3 pvqz pvql pvqm pvqn kvq0 kvq1 kvq2 kvq3 kvqz kvql kvqm kvqn mvq0 mvq1 mvq2 mvq3 mvqz mvql mvqm mvqn
            have hPV13 : Blk w13 gPV 25 #[.int .i64 (tm.length : Int), .int .i64 tk2, .slice AP tm.length cP, .bool tb2] := Blk.below EPV12.out b13 (Blk.lt EPV12.out)
            have hK13 : Row w13 w1.heap.size 3 1 AK (om).length cK ((om).map (.int .i64)) := EK12.out.below b13
            have hKV13 : Blk w13 gKV 25 #[.int .i64 (om.length : Int), .int .i64 ok_, .slice AK om.length cK, .bool ob] := Blk.below EKV12.out b13 (Blk.lt EKV12.out)
            have hM13 : Row w13 w1.heap.size 3 1 AM (wm).length cM ((wm).map (.int .i64)) := EM12.out.below b13
            have hMV13 : Blk w13 gMV 25 #[.int .i64 (wm.length : Int), .int .i64 wk, .slice AM wm.length cM, .bool wb] := Blk.below V12.out b13 (Blk.lt V12.out)
            have hb13 : Below w1.heap.size w1 w13 := EB12.out.trans (b13.mono EB12.out.size)
            have EPV13 := Lib.hid hPV13; clear hPV13
            have EK13 := Lib.hid hK13; clear hK13
            have EKV13 := Lib.hid hKV13; clear hKV13
            have EM13 := Lib.hid hM13; clear hM13
            have EMV13 := Lib.hid hMV13; clear hMV13
            have EB13 := Lib.hid hb13; clear hb13
            clear EPV12 EK12 EKV12 EM12 V12 EB12 b13
            obtain ⟨pvq0, pvq1, pvq2, pvq3, pvqz⟩ := blk4 EPV13.out
            have pvql := Blk.lt EPV13.out
            have pvqm : ¬ gPV = w13.heap.size := by omega
            have pvqn : ¬ w13.heap.size = gPV := by omega
            obtain ⟨kvq0, kvq1, kvq2, kvq3, kvqz⟩ := blk4 EKV13.out
            have kvql := Blk.lt EKV13.out
            have kvqm : ¬ gKV = w13.heap.size := by omega
            have kvqn : ¬ w13.heap.size = gKV := by omega
            obtain ⟨mvq0, mvq1, mvq2, mvq3, mvqz⟩ := blk4 EMV13.out
            have mvql := Blk.lt EMV13.out
            have mvqm : ¬ gMV = w13.heap.size := by omega
            have mvqn : ¬ w13.heap.size = gMV := by omega
            go_wp2_with fail
            obtain ⟨w14, hw14⟩ : ∃ W, W = w13.alloc (.cells #[.int .i64 (tm.length : Int), .int .i64 tk2, .slice AQ tm.length cQ, .bool tb2] 25) := ⟨_, rfl⟩
            obtain ⟨gQV, hgQV⟩ : ∃ g, g = w13.heap.size := ⟨_, rfl⟩
            rw [← hw14, ← hgQV]
            have hv14 : Blk w14 gQV 25 #[.int .i64 (tm.length : Int), .int .i64 tk2, .slice AQ tm.length cQ, .bool tb2] := by rw [hw14, hgQV]; exact Blk.new _ _ _
            have V14 := Lib.hid hv14; clear hv14
            have hgeQV : w1.heap.size ≤ gQV := by rw [hgQV]; exact EB13.out.size
            have HSZQV := Lib.hid (show w14.heap.size = gQV + 1 by rw [hw14, hgQV]; simp)
            have hltPVQV : gPV < gQV := by rw [hgQV]; exact Blk.lt EPV13.out
            have hltKVQV : gKV < gQV := by rw [hgQV]; exact Blk.lt EKV13.out
            have hltMVQV : gMV < gQV := by rw [hgQV]; exact Blk.lt EMV13.out
            clear pvq0 pvq1 pvq2 pvq3 pvqz pvql pvqm pvqn kvq0 kvq1 kvq2 kvq3 kvqz kvql kvqm kvqn mvq0 mvq1 mvq2 mvq3 mvqz mvql mvqm mvqn
            have hPV14 : Blk w14 gPV 25 #[.int .i64 (tm.length : Int), .int .i64 tk2, .slice AP tm.length cP, .bool tb2] := by rw [hw14]; exact EPV13.out.alloc _
            have hK14 : Row w14 w1.heap.size 3 1 AK (om).length cK ((om).map (.int .i64)) := by rw [hw14]; exact EK13.out.alloc _
            have hKV14 : Blk w14 gKV 25 #[.int .i64 (om.length : Int), .int .i64 ok_, .slice AK om.length cK, .bool ob] := by rw [hw14]; exact EKV13.out.alloc _
            have hM14 : Row w14 w1.heap.size 3 1 AM (wm).length cM ((wm).map (.int .i64)) := by rw [hw14]; exact EM13.out.alloc _
            have hMV14 : Blk w14 gMV 25 #[.int .i64 (wm.length : Int), .int .i64 wk, .slice AM wm.length cM, .bool wb] := by rw [hw14]; exact EMV13.out.alloc _
            have hQ14 : Row w14 w1.heap.size 3 1 AQ (tm).length cQ ((tm).map (.int .i64)) := by rw [hw14]; exact R13.out.alloc _
            have hb14 : Below w1.heap.size w1 w14 := by rw [hw14]; exact EB13.out.alloc EB13.out.size _
            have EPV14 := Lib.hid hPV14; clear hPV14
            have EK14 := Lib.hid hK14; clear hK14
            have EKV14 := Lib.hid hKV14; clear hKV14
            have EM14 := Lib.hid hM14; clear hM14
            have EMV14 := Lib.hid hMV14; clear hMV14
            have EQ14 := Lib.hid hQ14; clear hQ14
            have EB14 := Lib.hid hb14; clear hb14
            clear EPV13 EK13 EKV13 EM13 EMV13 R13 EB13 hw14 hgQV
            obtain ⟨pvq0, pvq1, pvq2, pvq3, pvqz⟩ := blk4 EPV14.out
            have pvql := Blk.lt EPV14.out
            have pvqm : ¬ gPV = w14.heap.size := by omega
            have pvqn : ¬ w14.heap.size = gPV := by omega
            obtain ⟨kvq0, kvq1, kvq2, kvq3, kvqz⟩ := blk4 EKV14.out
            have kvql := Blk.lt EKV14.out
            have kvqm : ¬ gKV = w14.heap.size := by omega
            have kvqn : ¬ w14.heap.size = gKV := by omega
            obtain ⟨mvq0, mvq1, mvq2, mvq3, mvqz⟩ := blk4 EMV14.out
            have mvql := Blk.lt EMV14.out
            have mvqm : ¬ gMV = w14.heap.size := by omega
            have mvqn : ¬ w14.heap.size = gMV := by omega
            obtain ⟨qvq0, qvq1, qvq2, qvq3, qvqz⟩ := blk4 V14.out
            have qvql := Blk.lt V14.out
            have qvqm : ¬ gQV = w14.heap.size := by omega
            have qvqn : ¬ w14.heap.size = gQV := by omega
            go_wp2_with fail
            refine (stepNest_c _ tk2 tm tb2 1 _ _ _ _ rfl hcP (Rd.below (w' := w14) H0.out EB14.out) (by omega)).mono ?_
            rw [H4.out]
            rintro e w15 ⟨AD, cD, rfl, q15, b15⟩
            have r15 : Row w15 w14.heap.size 3 1 AD 0 cD ((([] : List Int)).map (.int .i64)) := q15
            have apKD := Lib.hid (row_apart EK14.out r15 (Nat.le_refl _))
            have apMD := Lib.hid (row_apart EM14.out r15 (Nat.le_refl _))
            have apQD := Lib.hid (row_apart EQ14.out r15 (Nat.le_refl _))
            have R15 := Lib.hid (r15.mono EB14.out.size); clear r15 q15
            clear pvq0 pvq1 pvq2 pvq3 pvqz pvql pvqm pvqn kvq0 kvq1 kvq2 kvq3 kvqz kvql kvqm kvqn mvq0 mvq1 mvq2 mvq3 mvqz mvql mvqm mvqn qvq0 qvq1 qvq2 qvq3 qvqz qvql qvqm qvqn
            have hPV15 : Blk w15 gPV 25 #[.int .i64 (tm.length : Int), .int .i64 tk2, .slice AP tm.length cP, .bool tb2] := Blk.below EPV14.out b15 (Blk.lt EPV14.out)
            have hK15 : Row w15 w1.heap.size 3 1 AK (om).length cK ((om).map (.int .i64)) := EK14.out.below b15
            have hKV15 : Blk w15 gKV 25 #[.int .i64 (om.length : Int), .int .i64 ok_, .slice AK om.length cK, .bool ob] := Blk.below EKV14.out b15 (Blk.lt EKV14.out)
            have hM15 : Row w15 w1.heap.size 3 1 AM (wm).length cM ((wm).map (.int .i64)) := EM14.out.below b15
            have hMV15 : Blk w15 gMV 25 #[.int .i64 (wm.length : Int), .int .i64 wk, .slice AM wm.length cM, .bool wb] := Blk.below EMV14.out b15 (Blk.lt EMV14.out)
            have hQ15 : Row w15 w1.heap.size 3 1 AQ (tm).length cQ ((tm).map (.int .i64)) := EQ14.out.below b15
            have hQV15 : Blk w15 gQV 25 #[.int .i64 (tm.length : Int), .int .i64 tk2, .slice AQ tm.length cQ, .bool tb2] := Blk.below V14.out b15 (Blk.lt V14.out)
            have hb15 : Below w1.heap.size w1 w15 := EB14.out.trans (b15.mono EB14.out.size)
            have EPV15 := Lib.hid hPV15; clear hPV15
            have EK15 := Lib.hid hK15; clear hK15
            have EKV15 := Lib.hid hKV15; clear hKV15
            have EM15 := Lib.hid hM15; clear hM15
            have EMV15 := Lib.hid hMV15; clear hMV15
            have EQ15 := Lib.hid hQ15; clear hQ15
            have EQV15 := Lib.hid hQV15; clear hQV15
            have EB15 := Lib.hid hb15; clear hb15
            clear EPV14 EK14 EKV14 EM14 EMV14 EQ14 V14 EB14 b15
            obtain ⟨pvq0, pvq1, pvq2, pvq3, pvqz⟩ := blk4 EPV15.out
            have pvql := Blk.lt EPV15.out
            have pvqm : ¬ gPV = w15.heap.size := by omega
            have pvqn : ¬ w15.heap.size = gPV := by omega
            obtain ⟨kvq0, kvq1, kvq2, kvq3, kvqz⟩ := blk4 EKV15.out
            have kvql := Blk.lt EKV15.out
            have kvqm : ¬ gKV = w15.heap.size := by omega
            have kvqn : ¬ w15.heap.size = gKV := by omega
            obtain ⟨mvq0, mvq1, mvq2, mvq3, mvqz⟩ := blk4 EMV15.out
            have mvql := Blk.lt EMV15.out
            have mvqm : ¬ gMV = w15.heap.size := by omega
            have mvqn : ¬ w15.heap.size = gMV := by omega
            obtain ⟨qvq0, qvq1, qvq2, qvq3, qvqz⟩ := blk4 EQV15.out
            have qvql := Blk.lt EQV15.out
            have qvqm : ¬ gQV = w15.heap.size := by omega
            have qvqn : ¬ w15.heap.size = gQV := by omega
            go_wp2_with fail
            simp only [St.zero, List.length_nil, Int.natCast_zero, Int.ofNat_zero, Option.getD_none]
            obtain ⟨w16, hw16⟩ : ∃ W, W = w15.alloc (.cells #[.int .i64 0, .int .i64 0, .slice AD 0 cD, .bool false] 25) := ⟨_, rfl⟩
            obtain ⟨gDV, hgDV⟩ : ∃ g, g = w15.heap.size := ⟨_, rfl⟩
            rw [← hw16, ← hgDV]
            have hv16 : Blk w16 gDV 25 #[.int .i64 0, .int .i64 0, .slice AD 0 cD, .bool false] := by rw [hw16, hgDV]; exact Blk.new _ _ _
            have V16 := Lib.hid hv16; clear hv16
            have hgeDV : w1.heap.size ≤ gDV := by rw [hgDV]; exact EB15.out.size
            have HSZDV := Lib.hid (show w16.heap.size = gDV + 1 by rw [hw16, hgDV]; simp)
            have hltPVDV : gPV < gDV := by rw [hgDV]; exact Blk.lt EPV15.out
            have hltKVDV : gKV < gDV := by rw [hgDV]; exact Blk.lt EKV15.out
            have hltMVDV : gMV < gDV := by rw [hgDV]; exact Blk.lt EMV15.out
            have hltQVDV : gQV < gDV := by rw [hgDV]; exact Blk.lt EQV15.out
            clear pvq0 pvq1 pvq2 pvq3 pvqz pvql pvqm pvqn kvq0 kvq1 kvq2 kvq3 kvqz kvql kvqm kvqn mvq0 mvq1 mvq2 mvq3 mvqz mvql mvqm mvqn qvq0 qvq1 qvq2 qvq3 qvqz qvql qvqm qvqn
            have hPV16 : Blk w16 gPV 25 #[.int .i64 (tm.length : Int), .int .i64 tk2, .slice AP tm.length cP, .bool tb2] := by rw [hw16]; exact EPV15.out.alloc _
            have hK16 : Row w16 w1.heap.size 3 1 AK (om).length cK ((om).map (.int .i64)) := by rw [hw16]; exact EK15.out.alloc _
            have hKV16 : Blk w16 gKV 25 #[.int .i64 (om.length : Int), .int .i64 ok_, .slice AK om.length cK, .bool ob] := by rw [hw16]; exact EKV15.out.alloc _
            have hM16 : Row w16 w1.heap.size 3 1 AM (wm).length cM ((wm).map (.int .i64)) := by rw [hw16]; exact EM15.out.alloc _
            have hMV16 : Blk w16 gMV 25 #[.int .i64 (wm.length : Int), .int .i64 wk, .slice AM wm.length cM, .bool wb] := by rw [hw16]; exact EMV15.out.alloc _
            have hQ16 : Row w16 w1.heap.size 3 1 AQ (tm).length cQ ((tm).map (.int .i64)) := by rw [hw16]; exact EQ15.out.alloc _
            have hQV16 : Blk w16 gQV 25 #[.int .i64 (tm.length : Int), .int .i64 tk2, .slice AQ tm.length cQ, .bool tb2] := by rw [hw16]; exact EQV15.out.alloc _
            have hD16 : Row w16 w1.heap.size 3 1 AD 0 cD ((([] : List Int)).map (.int .i64)) := by rw [hw16]; exact R15.out.alloc _
            have hb16 : Below w1.heap.size w1 w16 := by rw [hw16]; exact EB15.out.alloc EB15.out.size _
            have EPV16 := Lib.hid hPV16; clear hPV16
            have EK16 := Lib.hid hK16; clear hK16
            have EKV16 := Lib.hid hKV16; clear hKV16
            have EM16 := Lib.hid hM16; clear hM16
            have EMV16 := Lib.hid hMV16; clear hMV16
            have EQ16 := Lib.hid hQ16; clear hQ16
            have EQV16 := Lib.hid hQV16; clear hQV16
            have ED16 := Lib.hid hD16; clear hD16
            have EB16 := Lib.hid hb16; clear hb16
            clear EPV15 EK15 EKV15 EM15 EMV15 EQ15 EQV15 R15 EB15 hw16 hgDV
            obtain ⟨pvq0, pvq1, pvq2, pvq3, pvqz⟩ := blk4 EPV16.out
            have pvql := Blk.lt EPV16.out
            have pvqm : ¬ gPV = w16.heap.size := by omega
            have pvqn : ¬ w16.heap.size = gPV := by omega
            obtain ⟨kvq0, kvq1, kvq2, kvq3, kvqz⟩ := blk4 EKV16.out
            have kvql := Blk.lt EKV16.out
            have kvqm : ¬ gKV = w16.heap.size := by omega
            have kvqn : ¬ w16.heap.size = gKV := by omega
            obtain ⟨mvq0, mvq1, mvq2, mvq3, mvqz⟩ := blk4 EMV16.out
            have mvql := Blk.lt EMV16.out
            have mvqm : ¬ gMV = w16.heap.size := by omega
            have mvqn : ¬ w16.heap.size = gMV := by omega
            obtain ⟨qvq0, qvq1, qvq2, qvq3, qvqz⟩ := blk4 EQV16.out
            have qvql := Blk.lt EQV16.out
            have qvqm : ¬ gQV = w16.heap.size := by omega
            have qvqn : ¬ w16.heap.size = gQV := by omega
            obtain ⟨dvq0, dvq1, dvq2, dvq3, dvqz⟩ := blk4 V16.out
            have dvql := Blk.lt V16.out
            have dvqm : ¬ gDV = w16.heap.size := by omega
            have dvqn : ¬ w16.heap.size = gDV := by omega
            go_wp2_with fail
            refine (equalNest_c _ _ tm _ _ _ _ _ _ _ rfl EQ16.out.rd (Rd.below (w' := w16) H0.out EB16.out) (by omega)).mono ?_
            rintro e w17 ⟨rfl, b17⟩
            clear pvq0 pvq1 pvq2 pvq3 pvqz pvql pvqm pvqn kvq0 kvq1 kvq2 kvq3 kvqz kvql kvqm kvqn mvq0 mvq1 mvq2 mvq3 mvqz mvql mvqm mvqn qvq0 qvq1 qvq2 qvq3 qvqz qvql qvqm qvqn dvq0 dvq1 dvq2 dvq3 dvqz dvql dvqm dvqn
            have hPV17 : Blk w17 gPV 25 #[.int .i64 (tm.length : Int), .int .i64 tk2, .slice AP tm.length cP, .bool tb2] := Blk.below EPV16.out b17 (Blk.lt EPV16.out)
            have hK17 : Row w17 w1.heap.size 3 1 AK (om).length cK ((om).map (.int .i64)) := EK16.out.below b17
            have hKV17 : Blk w17 gKV 25 #[.int .i64 (om.length : Int), .int .i64 ok_, .slice AK om.length cK, .bool ob] := Blk.below EKV16.out b17 (Blk.lt EKV16.out)
            have hM17 : Row w17 w1.heap.size 3 1 AM (wm).length cM ((wm).map (.int .i64)) := EM16.out.below b17
            have hMV17 : Blk w17 gMV 25 #[.int .i64 (wm.length : Int), .int .i64 wk, .slice AM wm.length cM, .bool wb] := Blk.below EMV16.out b17 (Blk.lt EMV16.out)
            have hQ17 : Row w17 w1.heap.size 3 1 AQ (tm).length cQ ((tm).map (.int .i64)) := EQ16.out.below b17
            have hQV17 : Blk w17 gQV 25 #[.int .i64 (tm.length : Int), .int .i64 tk2, .slice AQ tm.length cQ, .bool tb2] := Blk.below EQV16.out b17 (Blk.lt EQV16.out)
            have hD17 : Row w17 w1.heap.size 3 1 AD 0 cD ((([] : List Int)).map (.int .i64)) := ED16.out.below b17
            have hDV17 : Blk w17 gDV 25 #[.int .i64 0, .int .i64 0, .slice AD 0 cD, .bool false] := Blk.below V16.out b17 (Blk.lt V16.out)
            have hb17 : Below w1.heap.size w1 w17 := EB16.out.trans (b17.mono EB16.out.size)
            have EPV17 := Lib.hid hPV17; clear hPV17
            have EK17 := Lib.hid hK17; clear hK17
            have EKV17 := Lib.hid hKV17; clear hKV17
            have EM17 := Lib.hid hM17; clear hM17
            have EMV17 := Lib.hid hMV17; clear hMV17
            have EQ17 := Lib.hid hQ17; clear hQ17
            have EQV17 := Lib.hid hQV17; clear hQV17
            have ED17 := Lib.hid hD17; clear hD17
            have EDV17 := Lib.hid hDV17; clear hDV17
            have EB17 := Lib.hid hb17; clear hb17
            clear EPV16 EK16 EKV16 EM16 EMV16 EQ16 EQV16 ED16 V16 EB16 b17
            obtain ⟨pvq0, pvq1, pvq2, pvq3, pvqz⟩ := blk4 EPV17.out
            have pvql := Blk.lt EPV17.out
            have pvqm : ¬ gPV = w17.heap.size := by omega
            have pvqn : ¬ w17.heap.size = gPV := by omega
            obtain ⟨kvq0, kvq1, kvq2, kvq3, kvqz⟩ := blk4 EKV17.out
            have kvql := Blk.lt EKV17.out
            have kvqm : ¬ gKV = w17.heap.size := by omega
            have kvqn : ¬ w17.heap.size = gKV := by omega
            obtain ⟨mvq0, mvq1, mvq2, mvq3, mvqz⟩ := blk4 EMV17.out
            have mvql := Blk.lt EMV17.out
            have mvqm : ¬ gMV = w17.heap.size := by omega
            have mvqn : ¬ w17.heap.size = gMV := by omega
            obtain ⟨qvq0, qvq1, qvq2, qvq3, qvqz⟩ := blk4 EQV17.out
            have qvql := Blk.lt EQV17.out
            have qvqm : ¬ gQV = w17.heap.size := by omega
            have qvqn : ¬ w17.heap.size = gQV := by omega
            obtain ⟨dvq0, dvq1, dvq2, dvq3, dvqz⟩ := blk4 EDV17.out
            have dvql := Blk.lt EDV17.out
            have dvqm : ¬ gDV = w17.heap.size := by omega
            have dvqn : ¬ w17.heap.size = gDV := by omega
            go_wp2_with fail
            go_ret
            exact ⟨by first | rfl | trivial, EB1.out.trans (EB17.out.mono EB1.out.size)⟩
          · have hd0 : ((ms.length : Int) == 0) = false := beq_eq_false_iff_ne.2 (by omega)
            have hd1 : (0 : Int) < ms.length := by omega
            have h4 : stepN (ms.length : Int) k ms b 1 = some ⟨tk2, tm, tb2⟩ := by rw [HST4.out]; exact h2
            have H4 := Lib.hid h4
            clear h1 h2 h4
            go_wp2_with fail
            refine (stepNest_c _ wk wm wb 3 _ _ _ _ rfl EM12.out.le EM12.out.rd (by omega)).mono ?_
            rw [HST3.out]
            rintro e w13 ⟨AQ, cQ, rfl, q13, b13⟩
            have r13 : Row w13 w12.heap.size 3 1 AQ (tm).length cQ ((tm).map (.int .i64)) := q13
            have apKQ := Lib.hid (row_apart EK12.out r13 (Nat.le_refl _))
            have apMQ := Lib.hid (row_apart EM12.out r13 (Nat.le_refl _))
            have R13 := Lib.hid (r13.mono EB12.out.size); clear r13 q13
            clear pvq0 pvq1 pvq2 pvq3 pvqz pvql pvqm pvqn kvq0 kvq1 kvq2 kvq3 kvqz kvql kvqm kvqn mvq0 mvq1 mvq2 mvq3 mvqz mvql mvqm mvqn
            have hPV13 : Blk w13 gPV 25 #[.int .i64 (ms.length : Int), .int .i64 k, .slice AP ms.length cP, .bool b] := Blk.below EPV12.out b13 (Blk.lt EPV12.out)
            have hK13 : Row w13 w1.heap.size 3 1 AK (om).length cK ((om).map (.int .i64)) := EK12.out.below b13
            have hKV13 : Blk w13 gKV 25 #[.int .i64 (om.length : Int), .int .i64 ok_, .slice AK om.length cK, .bool ob] := Blk.below EKV12.out b13 (Blk.lt EKV12.out)
            have hM13 : Row w13 w1.heap.size 3 1 AM (wm).length cM ((wm).map (.int .i64)) := EM12.out.below b13
            have hMV13 : Blk w13 gMV 25 #[.int .i64 (wm.length : Int), .int .i64 wk, .slice AM wm.length cM, .bool wb] := Blk.below V12.out b13 (Blk.lt V12.out)
            have hb13 : Below w1.heap.size w1 w13 := EB12.out.trans (b13.mono EB12.out.size)
            have EPV13 := Lib.hid hPV13; clear hPV13
            have EK13 := Lib.hid hK13; clear hK13
            have EKV13 := Lib.hid hKV13; clear hKV13
            have EM13 := Lib.hid hM13; clear hM13
            have EMV13 := Lib.hid hMV13; clear hMV13
            have EB13 := Lib.hid hb13; clear hb13
            clear EPV12 EK12 EKV12 EM12 V12 EB12 b13
            obtain ⟨pvq0, pvq1, pvq2, pvq3, pvqz⟩ := blk4 EPV13.out
            have pvql := Blk.lt EPV13.out
            have pvqm : ¬ gPV = w13.heap.size := by omega
            have pvqn : ¬ w13.heap.size = gPV := by omega
            obtain ⟨kvq0, kvq1, kvq2, kvq3, kvqz⟩ := blk4 EKV13.out
            have kvql := Blk.lt EKV13.out
            have kvqm : ¬ gKV = w13.heap.size := by omega
            have kvqn : ¬ w13.heap.size = gKV := by omega
            obtain ⟨mvq0, mvq1, mvq2, mvq3, mvqz⟩ := blk4 EMV13.out
            have mvql := Blk.lt EMV13.out
            have mvqm : ¬ gMV = w13.heap.size := by omega
            have mvqn : ¬ w13.heap.size = gMV := by omega
            go_wp2_with fail
            obtain ⟨w14, hw14⟩ : ∃ W, W = w13.alloc (.cells #[.int .i64 (tm.length : Int), .int .i64 tk2, .slice AQ tm.length cQ, .bool tb2] 25) := ⟨_, rfl⟩
            obtain ⟨gQV, hgQV⟩ : ∃ g, g = w13.heap.size := ⟨_, rfl⟩
            rw [← hw14, ← hgQV]
            have hv14 : Blk w14 gQV 25 #[.int .i64 (tm.length : Int), .int .i64 tk2, .slice AQ tm.length cQ, .bool tb2] := by rw [hw14, hgQV]; exact Blk.new _ _ _
            have V14 := Lib.hid hv14; clear hv14
            have hgeQV : w1.heap.size ≤ gQV := by rw [hgQV]; exact EB13.out.size
            have HSZQV := Lib.hid (show w14.heap.size = gQV + 1 by rw [hw14, hgQV]; simp)
            have hltPVQV : gPV < gQV := by rw [hgQV]; exact Blk.lt EPV13.out
            have hltKVQV : gKV < gQV := by rw [hgQV]; exact Blk.lt EKV13.out
            have hltMVQV : gMV < gQV := by rw [hgQV]; exact Blk.lt EMV13.out
            clear pvq0 pvq1 pvq2 pvq3 pvqz pvql pvqm pvqn kvq0 kvq1 kvq2 kvq3 kvqz kvql kvqm kvqn mvq0 mvq1 mvq2 mvq3 mvqz mvql mvqm mvqn
            have hPV14 : Blk w14 gPV 25 #[.int .i64 (ms.length : Int), .int .i64 k, .slice AP ms.length cP, .bool b] := by rw [hw14]; exact EPV13.out.alloc _
            have hK14 : Row w14 w1.heap.size 3 1 AK (om).length cK ((om).map (.int .i64)) := by rw [hw14]; exact EK13.out.alloc _
            have hKV14 : Blk w14 gKV 25 #[.int .i64 (om.length : Int), .int .i64 ok_, .slice AK om.length cK, .bool ob] := by rw [hw14]; exact EKV13.out.alloc _
            have hM14 : Row w14 w1.heap.size 3 1 AM (wm).length cM ((wm).map (.int .i64)) := by rw [hw14]; exact EM13.out.alloc _
            have hMV14 : Blk w14 gMV 25 #[.int .i64 (wm.length : Int), .int .i64 wk, .slice AM wm.length cM, .bool wb] := by rw [hw14]; exact EMV13.out.alloc _
            have hQ14 : Row w14 w1.heap.size 3 1 AQ (tm).length cQ ((tm).map (.int .i64)) := by rw [hw14]; exact R13.out.alloc _
            have hb14 : Below w1.heap.size w1 w14 := by rw [hw14]; exact EB13.out.alloc EB13.out.size _
            have EPV14 := Lib.hid hPV14; clear hPV14
            have EK14 := Lib.hid hK14; clear hK14
            have EKV14 := Lib.hid hKV14; clear hKV14
            have EM14 := Lib.hid hM14; clear hM14
            have EMV14 := Lib.hid hMV14; clear hMV14
            have EQ14 := Lib.hid hQ14; clear hQ14
            have EB14 := Lib.hid hb14; clear hb14
            clear EPV13 EK13 EKV13 EM13 EMV13 R13 EB13 hw14 hgQV
            obtain ⟨pvq0, pvq1, pvq2, pvq3, pvqz⟩ := blk4 EPV14.out
            have pvql := Blk.lt EPV14.out
            have pvqm : ¬ gPV = w14.heap.size := by omega
            have pvqn : ¬ w14.heap.size = gPV := by omega
            obtain ⟨kvq0, kvq1, kvq2, kvq3, kvqz⟩ := blk4 EKV14.out
            have kvql := Blk.lt EKV14.out
            have kvqm : ¬ gKV = w14.heap.size := by omega
            have kvqn : ¬ w14.heap.size = gKV := by omega
            obtain ⟨mvq0, mvq1, mvq2, mvq3, mvqz⟩ := blk4 EMV14.out
            have mvql := Blk.lt EMV14.out
            have mvqm : ¬ gMV = w14.heap.size := by omega
            have mvqn : ¬ w14.heap.size = gMV := by omega
            obtain ⟨qvq0, qvq1, qvq2, qvq3, qvqz⟩ := blk4 V14.out
            have qvql := Blk.lt V14.out
            have qvqm : ¬ gQV = w14.heap.size := by omega
            have qvqn : ¬ w14.heap.size = gQV := by omega
            go_wp2_with fail
            refine (stepNest_c _ k ms b 1 _ _ _ _ rfl hcP (Rd.below (w' := w14) H0.out EB14.out) (by omega)).mono ?_
            rw [H4.out]
            rintro e w15 ⟨AU, cU, rfl, q15, b15⟩
            have r15 : Row w15 w14.heap.size 3 1 AU (tm).length cU ((tm).map (.int .i64)) := q15
            have apKU := Lib.hid (row_apart EK14.out r15 (Nat.le_refl _))
            have apMU := Lib.hid (row_apart EM14.out r15 (Nat.le_refl _))
            have apQU := Lib.hid (row_apart EQ14.out r15 (Nat.le_refl _))
            have R15 := Lib.hid (r15.mono EB14.out.size); clear r15 q15
            clear pvq0 pvq1 pvq2 pvq3 pvqz pvql pvqm pvqn kvq0 kvq1 kvq2 kvq3 kvqz kvql kvqm kvqn mvq0 mvq1 mvq2 mvq3 mvqz mvql mvqm mvqn qvq0 qvq1 qvq2 qvq3 qvqz qvql qvqm qvqn
            have hPV15 : Blk w15 gPV 25 #[.int .i64 (ms.length : Int), .int .i64 k, .slice AP ms.length cP, .bool b] := Blk.below EPV14.out b15 (Blk.lt EPV14.out)
            have hK15 : Row w15 w1.heap.size 3 1 AK (om).length cK ((om).map (.int .i64)) := EK14.out.below b15
            have hKV15 : Blk w15 gKV 25 #[.int .i64 (om.length : Int), .int .i64 ok_, .slice AK om.length cK, .bool ob] := Blk.below EKV14.out b15 (Blk.lt EKV14.out)
            have hM15 : Row w15 w1.heap.size 3 1 AM (wm).length cM ((wm).map (.int .i64)) := EM14.out.below b15
            have hMV15 : Blk w15 gMV 25 #[.int .i64 (wm.length : Int), .int .i64 wk, .slice AM wm.length cM, .bool wb] := Blk.below EMV14.out b15 (Blk.lt EMV14.out)
            have hQ15 : Row w15 w1.heap.size 3 1 AQ (tm).length cQ ((tm).map (.int .i64)) := EQ14.out.below b15
            have hQV15 : Blk w15 gQV 25 #[.int .i64 (tm.length : Int), .int .i64 tk2, .slice AQ tm.length cQ, .bool tb2] := Blk.below V14.out b15 (Blk.lt V14.out)
            have hb15 : Below w1.heap.size w1 w15 := EB14.out.trans (b15.mono EB14.out.size)
            have EPV15 := Lib.hid hPV15; clear hPV15
            have EK15 := Lib.hid hK15; clear hK15
            have EKV15 := Lib.hid hKV15; clear hKV15
            have EM15 := Lib.hid hM15; clear hM15
            have EMV15 := Lib.hid hMV15; clear hMV15
            have EQ15 := Lib.hid hQ15; clear hQ15
            have EQV15 := Lib.hid hQV15; clear hQV15
            have EB15 := Lib.hid hb15; clear hb15
            clear EPV14 EK14 EKV14 EM14 EMV14 EQ14 V14 EB14 b15
            obtain ⟨pvq0, pvq1, pvq2, pvq3, pvqz⟩ := blk4 EPV15.out
            have pvql := Blk.lt EPV15.out
            have pvqm : ¬ gPV = w15.heap.size := by omega
            have pvqn : ¬ w15.heap.size = gPV := by omega
            obtain ⟨kvq0, kvq1, kvq2, kvq3, kvqz⟩ := blk4 EKV15.out
            have kvql := Blk.lt EKV15.out
            have kvqm : ¬ gKV = w15.heap.size := by omega
            have kvqn : ¬ w15.heap.size = gKV := by omega
            obtain ⟨mvq0, mvq1, mvq2, mvq3, mvqz⟩ := blk4 EMV15.out
            have mvql := Blk.lt EMV15.out
            have mvqm : ¬ gMV = w15.heap.size := by omega
            have mvqn : ¬ w15.heap.size = gMV := by omega
            obtain ⟨qvq0, qvq1, qvq2, qvq3, qvqz⟩ := blk4 EQV15.out
            have qvql := Blk.lt EQV15.out
            have qvqm : ¬ gQV = w15.heap.size := by omega
            have qvqn : ¬ w15.heap.size = gQV := by omega
            go_wp2_with fail
            obtain ⟨w16, hw16⟩ : ∃ W, W = w15.alloc (.cells #[.int .i64 (tm.length : Int), .int .i64 tk2, .slice AU tm.length cU, .bool tb2] 25) := ⟨_, rfl⟩
            obtain ⟨gUV, hgUV⟩ : ∃ g, g = w15.heap.size := ⟨_, rfl⟩
            rw [← hw16, ← hgUV]
            have hv16 : Blk w16 gUV 25 #[.int .i64 (tm.length : Int), .int .i64 tk2, .slice AU tm.length cU, .bool tb2] := by rw [hw16, hgUV]; exact Blk.new _ _ _
            have V16 := Lib.hid hv16; clear hv16
            have hgeUV : w1.heap.size ≤ gUV := by rw [hgUV]; exact EB15.out.size
            have HSZUV := Lib.hid (show w16.heap.size = gUV + 1 by rw [hw16, hgUV]; simp)
            have hltPVUV : gPV < gUV := by rw [hgUV]; exact Blk.lt EPV15.out
            have hltKVUV : gKV < gUV := by rw [hgUV]; exact Blk.lt EKV15.out
            have hltMVUV : gMV < gUV := by rw [hgUV]; exact Blk.lt EMV15.out
            have hltQVUV : gQV < gUV := by rw [hgUV]; exact Blk.lt EQV15.out
            clear pvq0 pvq1 pvq2 pvq3 pvqz pvql pvqm pvqn kvq0 kvq1 kvq2 kvq3 kvqz kvql kvqm kvqn mvq0 mvq1 mvq2 mvq3 mvqz mvql mvqm mvqn qvq0 qvq1 qvq2 qvq3 qvqz qvql qvqm qvqn
            have hPV16 : Blk w16 gPV 25 #[.int .i64 (ms.length : Int), .int .i64 k, .slice AP ms.length cP, .bool b] := by rw [hw16]; exact EPV15.out.alloc _
            have hK16 : Row w16 w1.heap.size 3 1 AK (om).length cK ((om).map (.int .i64)) := by rw [hw16]; exact EK15.out.alloc _
            have hKV16 : Blk w16 gKV 25 #[.int .i64 (om.length : Int), .int .i64 ok_, .slice AK om.length cK, .bool ob] := by rw [hw16]; exact EKV15.out.alloc _
            have hM16 : Row w16 w1.heap.size 3 1 AM (wm).length cM ((wm).map (.int .i64)) := by rw [hw16]; exact EM15.out.alloc _
            have hMV16 : Blk w16 gMV 25 #[.int .i64 (wm.length : Int), .int .i64 wk, .slice AM wm.length cM, .bool wb] := by rw [hw16]; exact EMV15.out.alloc _
            have hQ16 : Row w16 w1.heap.size 3 1 AQ (tm).length cQ ((tm).map (.int .i64)) := by rw [hw16]; exact EQ15.out.alloc _
            have hQV16 : Blk w16 gQV 25 #[.int .i64 (tm.length : Int), .int .i64 tk2, .slice AQ tm.length cQ, .bool tb2] := by rw [hw16]; exact EQV15.out.alloc _
            have hU16 : Row w16 w1.heap.size 3 1 AU (tm).length cU ((tm).map (.int .i64)) := by rw [hw16]; exact R15.out.alloc _
            have hb16 : Below w1.heap.size w1 w16 := by rw [hw16]; exact EB15.out.alloc EB15.out.size _
            have EPV16 := Lib.hid hPV16; clear hPV16
            have EK16 := Lib.hid hK16; clear hK16
            have EKV16 := Lib.hid hKV16; clear hKV16
            have EM16 := Lib.hid hM16; clear hM16
            have EMV16 := Lib.hid hMV16; clear hMV16
            have EQ16 := Lib.hid hQ16; clear hQ16
            have EQV16 := Lib.hid hQV16; clear hQV16
            have EU16 := Lib.hid hU16; clear hU16
            have EB16 := Lib.hid hb16; clear hb16
            clear EPV15 EK15 EKV15 EM15 EMV15 EQ15 EQV15 R15 EB15 hw16 hgUV
            obtain ⟨pvq0, pvq1, pvq2, pvq3, pvqz⟩ := blk4 EPV16.out
            have pvql := Blk.lt EPV16.out
            have pvqm : ¬ gPV = w16.heap.size := by omega
            have pvqn : ¬ w16.heap.size = gPV := by omega
            obtain ⟨kvq0, kvq1, kvq2, kvq3, kvqz⟩ := blk4 EKV16.out
            have kvql := Blk.lt EKV16.out
            have kvqm : ¬ gKV = w16.heap.size := by omega
            have kvqn : ¬ w16.heap.size = gKV := by omega
            obtain ⟨mvq0, mvq1, mvq2, mvq3, mvqz⟩ := blk4 EMV16.out
            have mvql := Blk.lt EMV16.out
            have mvqm : ¬ gMV = w16.heap.size := by omega
            have mvqn : ¬ w16.heap.size = gMV := by omega
            obtain ⟨qvq0, qvq1, qvq2, qvq3, qvqz⟩ := blk4 EQV16.out
            have qvql := Blk.lt EQV16.out
            have qvqm : ¬ gQV = w16.heap.size := by omega
            have qvqn : ¬ w16.heap.size = gQV := by omega
            obtain ⟨uvq0, uvq1, uvq2, uvq3, uvqz⟩ := blk4 V16.out
            have uvql := Blk.lt V16.out
            have uvqm : ¬ gUV = w16.heap.size := by omega
            have uvqn : ¬ w16.heap.size = gUV := by omega
            go_wp2_with fail
            refine (equalNest_c _ _ tm _ _ _ _ _ _ _ rfl EQ16.out.rd EU16.out.rd (by omega)).mono ?_
            rintro e w17 ⟨rfl, b17⟩
            clear pvq0 pvq1 pvq2 pvq3 pvqz pvql pvqm pvqn kvq0 kvq1 kvq2 kvq3 kvqz kvql kvqm kvqn mvq0 mvq1 mvq2 mvq3 mvqz mvql mvqm mvqn qvq0 qvq1 qvq2 qvq3 qvqz qvql qvqm qvqn uvq0 uvq1 uvq2 uvq3 uvqz uvql uvqm uvqn
            have hPV17 : Blk w17 gPV 25 #[.int .i64 (ms.length : Int), .int .i64 k, .slice AP ms.length cP, .bool b] := Blk.below EPV16.out b17 (Blk.lt EPV16.out)
            have hK17 : Row w17 w1.heap.size 3 1 AK (om).length cK ((om).map (.int .i64)) := EK16.out.below b17
            have hKV17 : Blk w17 gKV 25 #[.int .i64 (om.length : Int), .int .i64 ok_, .slice AK om.length cK, .bool ob] := Blk.below EKV16.out b17 (Blk.lt EKV16.out)
            have hM17 : Row w17 w1.heap.size 3 1 AM (wm).length cM ((wm).map (.int .i64)) := EM16.out.below b17
            have hMV17 : Blk w17 gMV 25 #[.int .i64 (wm.length : Int), .int .i64 wk, .slice AM wm.length cM, .bool wb] := Blk.below EMV16.out b17 (Blk.lt EMV16.out)
            have hQ17 : Row w17 w1.heap.size 3 1 AQ (tm).length cQ ((tm).map (.int .i64)) := EQ16.out.below b17
            have hQV17 : Blk w17 gQV 25 #[.int .i64 (tm.length : Int), .int .i64 tk2, .slice AQ tm.length cQ, .bool tb2] := Blk.below EQV16.out b17 (Blk.lt EQV16.out)
            have hU17 : Row w17 w1.heap.size 3 1 AU (tm).length cU ((tm).map (.int .i64)) := EU16.out.below b17
            have hUV17 : Blk w17 gUV 25 #[.int .i64 (tm.length : Int), .int .i64 tk2, .slice AU tm.length cU, .bool tb2] := Blk.below V16.out b17 (Blk.lt V16.out)
            have hb17 : Below w1.heap.size w1 w17 := EB16.out.trans (b17.mono EB16.out.size)
            have EPV17 := Lib.hid hPV17; clear hPV17
            have EK17 := Lib.hid hK17; clear hK17
            have EKV17 := Lib.hid hKV17; clear hKV17
            have EM17 := Lib.hid hM17; clear hM17
            have EMV17 := Lib.hid hMV17; clear hMV17
            have EQ17 := Lib.hid hQ17; clear hQ17
            have EQV17 := Lib.hid hQV17; clear hQV17
            have EU17 := Lib.hid hU17; clear hU17
            have EUV17 := Lib.hid hUV17; clear hUV17
            have EB17 := Lib.hid hb17; clear hb17
            clear EPV16 EK16 EKV16 EM16 EMV16 EQ16 EQV16 EU16 V16 EB16 b17
            obtain ⟨pvq0, pvq1, pvq2, pvq3, pvqz⟩ := blk4 EPV17.out
            have pvql := Blk.lt EPV17.out
            have pvqm : ¬ gPV = w17.heap.size := by omega
            have pvqn : ¬ w17.heap.size = gPV := by omega
            obtain ⟨kvq0, kvq1, kvq2, kvq3, kvqz⟩ := blk4 EKV17.out
            have kvql := Blk.lt EKV17.out
            have kvqm : ¬ gKV = w17.heap.size := by omega
            have kvqn : ¬ w17.heap.size = gKV := by omega
            obtain ⟨mvq0, mvq1, mvq2, mvq3, mvqz⟩ := blk4 EMV17.out
            have mvql := Blk.lt EMV17.out
            have mvqm : ¬ gMV = w17.heap.size := by omega
            have mvqn : ¬ w17.heap.size = gMV := by omega
            obtain ⟨qvq0, qvq1, qvq2, qvq3, qvqz⟩ := blk4 EQV17.out
            have qvql := Blk.lt EQV17.out
            have qvqm : ¬ gQV = w17.heap.size := by omega
            have qvqn : ¬ w17.heap.size = gQV := by omega
            obtain ⟨uvq0, uvq1, uvq2, uvq3, uvqz⟩ := blk4 EUV17.out
            have uvql := Blk.lt EUV17.out
            have uvqm : ¬ gUV = w17.heap.size := by omega
            have uvqn : ¬ w17.heap.size = gUV := by omega
            go_wp2_with fail
            go_ret
            exact ⟨by first | rfl | trivial, EB1.out.trans (EB17.out.mono EB1.out.size)⟩

namespace fnStepNestKeep
open Go.ChangeShapes Go.WideShapes Go.ChangeAt
open Go.ChangeMaps (open_string shut_string)
theorem own : ownKnob Try.prog.godebug = none := by kernel_rfl
theorem laidOut : laidOutB Try.prog = true := by kernel_rfl
set_option maxRecDepth 100000 in
theorem lifted (os : Os) (started : os.Started) (H : Type) (enc : TypeId × Value → H) :
    ReturnsInHanded {} Try.checked os 3 .any (Rows.fnStepNestKeepSpec.pre6 enc Try.prog Try.f3 Rows.fnStepNestKeepRow.domain false) (Rows.fnStepNestKeepSpec.post enc Try.prog Try.f3 false true false false) := by
  refine returnsInHanded_of_change (C := Try.checked) own started (by kernel_rfl) Try.func3
    (ChangeSpec.witness6 (enc := enc) (C := Try.checked) false ⟨#[], #[.slice none 0 0], []⟩ 8 (by kernel_rfl) (by kernel_rfl) (by kernel_rfl) (by kernel_rfl)) ?_
  intro W base args ds gs before hval0 hW hcnd _
  have hval : ∀ (j : Nat) t v, Try.f3.params[j]? = some t → args[j]? = some v → Value.okWide Try.prog W .any base t v := hval0
  have hW' := hW
  obtain ⟨p, q, hA0, hV, rfl, hfz, hnd⟩ := hW
  have hA : DataW.TrodAll enc Try.prog W 0 (fun _ => true) true Try.f3.params.toList args.toList ds p := hA0
  rw [Try.params3] at hA hval
  obtain ⟨v0, vs0, d0, ds0, p0, q0, hargs, rfl, rfl, h0, r0⟩ := trodAll_cons hA
  obtain ⟨rfl, rfl, rfl⟩ := trodAll_nil r0
  obtain rfl : args = #[v0] := by cases args; simp_all
  obtain ⟨rfl, rfl⟩ := trodVars_none hV
  obtain ⟨a0, n0, c0, rfl⟩ := okWide_slice Try.underlying22 (hval 0 22 v0 rfl rfl)
  have k0 := h0
  have lt0 : ∀ x ∈ p0, x.block < W.heap.size := by obtain ⟨m, hm⟩ := k0; exact DataW.trod_lt m _ _ _ hm
  obtain ⟨z0, e0, lc0, cm0, rd0, wf0⟩ := open_rd_int Try.underlying22 Try.underlying5 (by kernel_rfl) h0
  clear hA0 hval0
  refine (walk_FnStepNestKeep (w := W) z0 a0 n0 c0 e0 lc0 cm0 rd0 (fun x hx => wf_u8 (wf0 x hx))).mono fun e W' ⟨he, bel⟩ => ?_
  subst he
  exact ⟨_, rfl, _, _, _, [], _, [], hW', trodAll_mk1 (shut_bool Try.underlying4 _), (trodAll_cons_mk (Below.trod laidOut (by kernel_rfl) (of_decide_eq_true (by kernel_rfl)) k0 bel lt0) trodAll_mk0), rfl, bel.frame _, fun h => by cases h⟩
theorem closed : joinedFacts Try.prog 3 Try.f3 Rows.fnStepNestKeepSpec Rows.fnStepNestKeepRow = true :=
  facts_of mayEnter_ok liftsFinal_ok make_ok (by kernel_rfl)
theorem over : Rows.fnStepNestKeepRow.holds Try.pinned (OpenSpec.ofChange Rows.fnStepNestKeepSpec) :=
  OpenClaim.holds_of_wide 3 Try.f3 rfl rfl rfl rfl rfl rfl rfl ⟨rfl, rfl, rfl, rfl, rfl⟩ rfl rfl rfl rfl rfl (by kernel_rfl) Try.func3 closed
    (of_decide_eq_true (by kernel_rfl)) (by unfold Func.isWrapper; first | (rw [if_pos (by decide +kernel)]; kernel_rfl) | (rw [if_neg (by decide +kernel)]; exact ⟨rfl, rfl⟩))
    (fun os started H enc _ => lifted os started H enc)
/-- THE STATEMENT -/
theorem proved : Rows.FnStepNestKeepSaid := over
end fnStepNestKeep
end Go.Proofs.Ytoljmhggkighnab
