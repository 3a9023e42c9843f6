/- FnRunNest: for every code the law returns true, and what was there is as it was. No condition. -/
import Derived.Test.YtagmhmhhjkfhgaaRows
import Derived.Test.YtagmhmhhjkfhgaaNestLaw
import Derived.Test.YtagmhmhhjkfhgaaNestDraw
import Derived.Test.YtagmhmhhjkfhgaaOpenC
import Derived.Test.YtagmhmhhjkfhgaaNestRunI
set_option linter.unusedVariables false
set_option linter.unusedSimpArgs false
set_option linter.unnecessarySimpa false
namespace Go.Proofs.Ytagmhmhhjkfhgaa
open Go.RowKit

set_option maxRecDepth 100000 in
set_option maxHeartbeats 16000000 in
theorem walk_FnRunNest (zs : List Int) (A : Option Addr) (n c : Nat) (hN : zs.length = n) (hc : n ≤ c) (hm : c ≤ maxLen) {w : World} (h : Rd w A (zs.map (.int .u8))) (hz : ∀ z ∈ zs, 0 ≤ z ∧ z ≤ 255) :
    Calls Try.prog 5 #[.slice A n c] w fun e w' => e = .returned (.bool true) ∧ Below w.heap.size w w' := by
  have HD := Lib.hid (drawRunNest_c zs A n c w hN hc hm h hz)
  clear h hz hN
  unfold maxLen at hm
  by_cases hbig : 1048576 < n
  · go_enter Try.func5, Try.ntmps5
    go_wp2
    go_ret
    exact ⟨rfl, Below.refl _ _⟩
  · go_enter Try.func5, Try.ntmps5
    go_wp2_with fail
    refine HD.out.mono ?_
    rintro e w1 ⟨AP, cP, ks, rfl, hl, hcP, fP, b1⟩
    have EB1 := Lib.hid b1; clear b1
    have H0 := Lib.hid fP.rd; clear fP
    obtain ⟨t, ht⟩ : ∃ t, t = runV ks := ⟨_, rfl⟩
    obtain ⟨u, hu⟩ : ∃ u, u = missV ks := ⟨_, rfl⟩
    have hbd : t.marks.length ≤ 4 := by rw [ht]; exact runV_le ks
    have HT := Lib.hid ht.symm; have HU := Lib.hid hu.symm
    clear ht hu
    obtain ⟨tk, zs, tb⟩ := t
    simp only at hbd
    go_wp2_with fail
    refine (runNest_c ks _ _ _ _ rfl hcP (Rd.below (w' := w1) H0.out (Below.refl w1.heap.size w1)) (by omega)).mono ?_
    rw [HT.out, HU.out]
    rintro e w2 ⟨AG, cG, rfl, q2, b2⟩
    have r2 : Row w2 w1.heap.size 3 1 AG (zs).length cG ((zs).map (.int .i64)) := q2
    have R2 := Lib.hid (r2.mono (Below.refl w1.heap.size w1).size); clear r2 q2
    have hb2 : Below w1.heap.size w1 w2 := (Below.refl w1.heap.size w1).trans (b2.mono (Below.refl w1.heap.size w1).size)
    have EB2 := Lib.hid hb2; clear hb2
    clear  b2
    go_wp2_with fail
    obtain ⟨w3, hw3⟩ : ∃ W, W = w2.alloc (.cells #[.int .i64 (zs.length : Int), .int .i64 tk, .slice AG zs.length cG, .bool tb] 25) := ⟨_, rfl⟩
    obtain ⟨gGV, hgGV⟩ : ∃ g, g = w2.heap.size := ⟨_, rfl⟩
    rw [← hw3, ← hgGV]
    have hv3 : Blk w3 gGV 25 #[.int .i64 (zs.length : Int), .int .i64 tk, .slice AG zs.length cG, .bool tb] := by rw [hw3, hgGV]; exact Blk.new _ _ _
    have V3 := Lib.hid hv3; clear hv3
    have hgeGV : w1.heap.size ≤ gGV := by rw [hgGV]; exact EB2.out.size
    have HSZGV := Lib.hid (show w3.heap.size = gGV + 1 by rw [hw3, hgGV]; simp)
    have hG3 : Row w3 w1.heap.size 3 1 AG (zs).length cG ((zs).map (.int .i64)) := by rw [hw3]; exact R2.out.alloc _
    have hb3 : Below w1.heap.size w1 w3 := by rw [hw3]; exact EB2.out.alloc EB2.out.size _
    have EG3 := Lib.hid hG3; clear hG3
    have EB3 := Lib.hid hb3; clear hb3
    clear R2 EB2 hw3 hgGV
    obtain ⟨gvq0, gvq1, gvq2, gvq3, gvqz⟩ := blk4 V3.out
    have gvql := Blk.lt V3.out
    have gvqm : ¬ gGV = w3.heap.size := by omega
    have gvqn : ¬ w3.heap.size = gGV := by omega
    go_wp2_with fail
    refine (sRunNest_c ks _ _ _ _ rfl hcP (Rd.below (w' := w3) H0.out EB3.out) (by omega)).mono ?_
    rw [HT.out, HU.out]
    rintro e w4 ⟨AH, cH, rfl, q4, b4⟩
    have r4 : Row w4 w3.heap.size 3 1 AH (zs).length cH ((zs).map (.int .i64)) := q4
    have apGH := Lib.hid (row_apart EG3.out r4 (Nat.le_refl _))
    have R4 := Lib.hid (r4.mono EB3.out.size); clear r4 q4
    clear gvq0 gvq1 gvq2 gvq3 gvqz gvql gvqm gvqn
    have hG4 : Row w4 w1.heap.size 3 1 AG (zs).length cG ((zs).map (.int .i64)) := EG3.out.below b4
    have hGV4 : Blk w4 gGV 25 #[.int .i64 (zs.length : Int), .int .i64 tk, .slice AG zs.length cG, .bool tb] := Blk.below V3.out b4 (Blk.lt V3.out)
    have hb4 : Below w1.heap.size w1 w4 := EB3.out.trans (b4.mono EB3.out.size)
    have EG4 := Lib.hid hG4; clear hG4
    have EGV4 := Lib.hid hGV4; clear hGV4
    have EB4 := Lib.hid hb4; clear hb4
    clear EG3 V3 EB3 b4
    obtain ⟨gvq0, gvq1, gvq2, gvq3, gvqz⟩ := blk4 EGV4.out
    have gvql := Blk.lt EGV4.out
    have gvqm : ¬ gGV = w4.heap.size := by omega
    have gvqn : ¬ w4.heap.size = gGV := by omega
    go_wp2_with fail
    obtain ⟨w5, hw5⟩ : ∃ W, W = w4.alloc (.cells #[.int .i64 (zs.length : Int), .int .i64 tk, .slice AH zs.length cH, .bool tb] 25) := ⟨_, rfl⟩
    obtain ⟨gHV, hgHV⟩ : ∃ g, g = w4.heap.size := ⟨_, rfl⟩
    rw [← hw5, ← hgHV]
    have hv5 : Blk w5 gHV 25 #[.int .i64 (zs.length : Int), .int .i64 tk, .slice AH zs.length cH, .bool tb] := by rw [hw5, hgHV]; exact Blk.new _ _ _
    have V5 := Lib.hid hv5; clear hv5
    have hgeHV : w1.heap.size ≤ gHV := by rw [hgHV]; exact EB4.out.size
    have HSZHV := Lib.hid (show w5.heap.size = gHV + 1 by rw [hw5, hgHV]; simp)
    have hltGVHV : gGV < gHV := by rw [hgHV]; exact Blk.lt EGV4.out
    clear gvq0 gvq1 gvq2 gvq3 gvqz gvql gvqm gvqn
    have hG5 : Row w5 w1.heap.size 3 1 AG (zs).length cG ((zs).map (.int .i64)) := by rw [hw5]; exact EG4.out.alloc _
    have hGV5 : Blk w5 gGV 25 #[.int .i64 (zs.length : Int), .int .i64 tk, .slice AG zs.length cG, .bool tb] := by rw [hw5]; exact EGV4.out.alloc _
    have hH5 : Row w5 w1.heap.size 3 1 AH (zs).length cH ((zs).map (.int .i64)) := by rw [hw5]; exact R4.out.alloc _
    have hb5 : Below w1.heap.size w1 w5 := by rw [hw5]; exact EB4.out.alloc EB4.out.size _
    have EG5 := Lib.hid hG5; clear hG5
    have EGV5 := Lib.hid hGV5; clear hGV5
    have EH5 := Lib.hid hH5; clear hH5
    have EB5 := Lib.hid hb5; clear hb5
    clear EG4 EGV4 R4 EB4 hw5 hgHV
    obtain ⟨gvq0, gvq1, gvq2, gvq3, gvqz⟩ := blk4 EGV5.out
    have gvql := Blk.lt EGV5.out
    have gvqm : ¬ gGV = w5.heap.size := by omega
    have gvqn : ¬ w5.heap.size = gGV := by omega
    obtain ⟨hvq0, hvq1, hvq2, hvq3, hvqz⟩ := blk4 V5.out
    have hvql := Blk.lt V5.out
    have hvqm : ¬ gHV = w5.heap.size := by omega
    have hvqn : ¬ w5.heap.size = gHV := by omega
    go_wp2_with fail
    refine (equalNest_c _ _ zs _ _ _ _ _ _ _ rfl EG5.out.rd EH5.out.rd (by omega)).mono ?_
    rintro e w6 ⟨rfl, b6⟩
    clear gvq0 gvq1 gvq2 gvq3 gvqz gvql gvqm gvqn hvq0 hvq1 hvq2 hvq3 hvqz hvql hvqm hvqn
    have hG6 : Row w6 w1.heap.size 3 1 AG (zs).length cG ((zs).map (.int .i64)) := EG5.out.below b6
    have hGV6 : Blk w6 gGV 25 #[.int .i64 (zs.length : Int), .int .i64 tk, .slice AG zs.length cG, .bool tb] := Blk.below EGV5.out b6 (Blk.lt EGV5.out)
    have hH6 : Row w6 w1.heap.size 3 1 AH (zs).length cH ((zs).map (.int .i64)) := EH5.out.below b6
    have hHV6 : Blk w6 gHV 25 #[.int .i64 (zs.length : Int), .int .i64 tk, .slice AH zs.length cH, .bool tb] := Blk.below V5.out b6 (Blk.lt V5.out)
    have hb6 : Below w1.heap.size w1 w6 := EB5.out.trans (b6.mono EB5.out.size)
    have EG6 := Lib.hid hG6; clear hG6
    have EGV6 := Lib.hid hGV6; clear hGV6
    have EH6 := Lib.hid hH6; clear hH6
    have EHV6 := Lib.hid hHV6; clear hHV6
    have EB6 := Lib.hid hb6; clear hb6
    clear EG5 EGV5 EH5 V5 EB5 b6
    obtain ⟨gvq0, gvq1, gvq2, gvq3, gvqz⟩ := blk4 EGV6.out
    have gvql := Blk.lt EGV6.out
    have gvqm : ¬ gGV = w6.heap.size := by omega
    have gvqn : ¬ w6.heap.size = gGV := by omega
    obtain ⟨hvq0, hvq1, hvq2, hvq3, hvqz⟩ := blk4 EHV6.out
    have hvql := Blk.lt EHV6.out
    have hvqm : ¬ gHV = w6.heap.size := by omega
    have hvqn : ¬ w6.heap.size = gHV := by omega
    by_cases h16 : ks.length ≤ 16
    · have hue : u = missed ks := by rw [← HU.out]; unfold missV; rw [if_pos h16]
      have hte : runS ks = ⟨tk, zs, tb⟩ := by rw [← HT.out]; unfold runV; rw [if_pos h16]
      have hok : St.ok ⟨tk, zs, tb⟩ := by rw [← hte]; exact runS_ok ks
      have hu0 : 0 ≤ u := by rw [hue]; exact (missed_bd ks).1
      have hu1 : u ≤ ks.length := by rw [hue]; exact (missed_bd ks).2
      have hvv : validN (zs.length : Int) tk zs tb = true := hok
      have HVV := Lib.hid hvv; have HUE := Lib.hid hue; have HTE := Lib.hid hte
      clear hvv hue hte hok
      rcases Nat.eq_zero_or_pos ks.length with h0 | h0
      · have h0' : ((ks.length : Int) == 0) = true := by simp [h0]
        clear h0
        go_wp2_with fail
        refine (equalNest_c _ _ zs _ _ _ _ _ _ _ rfl EG6.out.rd EH6.out.rd (by omega)).mono ?_
        rintro e w7 ⟨rfl, b7⟩
        clear gvq0 gvq1 gvq2 gvq3 gvqz gvql gvqm gvqn hvq0 hvq1 hvq2 hvq3 hvqz hvql hvqm hvqn
        have hG7 : Row w7 w1.heap.size 3 1 AG (zs).length cG ((zs).map (.int .i64)) := EG6.out.below b7
        have hGV7 : Blk w7 gGV 25 #[.int .i64 (zs.length : Int), .int .i64 tk, .slice AG zs.length cG, .bool tb] := Blk.below EGV6.out b7 (Blk.lt EGV6.out)
        have hH7 : Row w7 w1.heap.size 3 1 AH (zs).length cH ((zs).map (.int .i64)) := EH6.out.below b7
        have hHV7 : Blk w7 gHV 25 #[.int .i64 (zs.length : Int), .int .i64 tk, .slice AH zs.length cH, .bool tb] := Blk.below EHV6.out b7 (Blk.lt EHV6.out)
        have hb7 : Below w1.heap.size w1 w7 := EB6.out.trans (b7.mono EB6.out.size)
        have EG7 := Lib.hid hG7; clear hG7
        have EGV7 := Lib.hid hGV7; clear hGV7
        have EH7 := Lib.hid hH7; clear hH7
        have EHV7 := Lib.hid hHV7; clear hHV7
        have EB7 := Lib.hid hb7; clear hb7
        clear EG6 EGV6 EH6 EHV6 EB6 b7
        obtain ⟨gvq0, gvq1, gvq2, gvq3, gvqz⟩ := blk4 EGV7.out
        have gvql := Blk.lt EGV7.out
        have gvqm : ¬ gGV = w7.heap.size := by omega
        have gvqn : ¬ w7.heap.size = gGV := by omega
        obtain ⟨hvq0, hvq1, hvq2, hvq3, hvqz⟩ := blk4 EHV7.out
        have hvql := Blk.lt EHV7.out
        have hvqm : ¬ gHV = w7.heap.size := by omega
        have hvqn : ¬ w7.heap.size = gHV := by omega
        go_wp2_with fail
        go_ret
        exact ⟨by first | rfl | simp | trivial, EB1.out.trans (EB7.out.mono EB1.out.size)⟩
      · have h0' : ((ks.length : Int) == 0) = false := beq_eq_false_iff_ne.2 (by omega)
        obtain ⟨la, x, hks⟩ := exists_snoc ks (by omega)
        have htk : ks.take (ks.length - 1) = la := by rw [hks]; simp
        have hx : (ks.map (Value.int .i64))[ks.length - 1]? = some (.int .i64 x) := by rw [hks]; simp
        have hla : (ks.take (ks.length - 1)).length ≤ 16 := by rw [List.length_take]; omega
        obtain ⟨t, ht⟩ : ∃ t, t = runV (ks.take (ks.length - 1)) := ⟨_, rfl⟩
        obtain ⟨m, hm0⟩ : ∃ m, m = missV (ks.take (ks.length - 1)) := ⟨_, rfl⟩
        have htr : t = runS la := by rw [ht]; unfold runV; rw [if_pos hla, htk]
        have hmr : m = missed la := by rw [hm0]; unfold missV; rw [if_pos hla, htk]
        have htok : St.ok t := by rw [htr]; exact runS_ok la
        have hnx : t.next x = ⟨tk, zs, tb⟩ := by rw [htr, ← runS_snoc, ← hks]; exact HTE.out
        have hms : u = m + t.missed x := by rw [hmr, htr, ← missed_snoc, ← hks]; exact HUE.out
        have hpl : t.marks.length ≤ 4 := by rw [ht]; exact runV_le _
        have hm1 : 0 ≤ m ∧ m ≤ 18 := by rw [hmr]; have := missed_bd la; have h9 : la.length ≤ 16 := by rw [← htk]; exact hla
                                        omega
        obtain ⟨hm10, hm11⟩ := hm1
        obtain ⟨pk, ps, pb⟩ := t
        obtain ⟨r, hr⟩ : ∃ r, r = St.step ⟨pk, ps, pb⟩ x := ⟨_, rfl⟩
        have hsp : stepN (ps.length : Int) pk ps pb x = r := by rw [hr]; exact stepN_ok htok x
        have hcase : (r = none ∧ u = m + 1 ∧ tk = pk ∧ zs = ps ∧ tb = pb) ∨ (r = some ⟨tk, zs, tb⟩ ∧ u = m) := by
          unfold St.next at hnx
          unfold St.missed at hms
          rw [← hr] at hnx hms
          cases r with
          | none => refine .inl ⟨rfl, by simpa using hms, ?_⟩; simp at hnx; exact ⟨hnx.1.symm, hnx.2.1.symm, hnx.2.2.symm⟩
          | some s => refine .inr ⟨?_, by simpa using hms⟩; simp at hnx; rw [hnx]
        have HT3 := Lib.hid ht.symm; have HM := Lib.hid hm0.symm; have HX := Lib.hid hx; have HSP := Lib.hid hsp; have HCASE := Lib.hid hcase
        clear ht hm0 htr hmr htok hnx hms hr hsp hcase hx htk hla hks
        go_wp2_with fail
        refine (runNest_c (ks.take (ks.length - 1)) _ (ks.length - 1) cP _ (by simp <;> omega) (by omega) (by rw [List.map_take]; exact Rd.take (Rd.below (w' := w6) H0.out EB6.out) _) (by omega)).mono ?_
        rw [HT3.out, HM.out]
        rintro e w7 ⟨AK, cK, rfl, q7, b7⟩
        have r7 : Row w7 w6.heap.size 3 1 AK (ps).length cK ((ps).map (.int .i64)) := q7
        have apGK := Lib.hid (row_apart EG6.out r7 (Nat.le_refl _))
        have apHK := Lib.hid (row_apart EH6.out r7 (Nat.le_refl _))
        have R7 := Lib.hid (r7.mono EB6.out.size); clear r7 q7
        clear gvq0 gvq1 gvq2 gvq3 gvqz gvql gvqm gvqn hvq0 hvq1 hvq2 hvq3 hvqz hvql hvqm hvqn
        have hG7 : Row w7 w1.heap.size 3 1 AG (zs).length cG ((zs).map (.int .i64)) := EG6.out.below b7
        have hGV7 : Blk w7 gGV 25 #[.int .i64 (zs.length : Int), .int .i64 tk, .slice AG zs.length cG, .bool tb] := Blk.below EGV6.out b7 (Blk.lt EGV6.out)
        have hH7 : Row w7 w1.heap.size 3 1 AH (zs).length cH ((zs).map (.int .i64)) := EH6.out.below b7
        have hHV7 : Blk w7 gHV 25 #[.int .i64 (zs.length : Int), .int .i64 tk, .slice AH zs.length cH, .bool tb] := Blk.below EHV6.out b7 (Blk.lt EHV6.out)
        have hb7 : Below w1.heap.size w1 w7 := EB6.out.trans (b7.mono EB6.out.size)
        have EG7 := Lib.hid hG7; clear hG7
        have EGV7 := Lib.hid hGV7; clear hGV7
        have EH7 := Lib.hid hH7; clear hH7
        have EHV7 := Lib.hid hHV7; clear hHV7
        have EB7 := Lib.hid hb7; clear hb7
        clear EG6 EGV6 EH6 EHV6 EB6 b7
        obtain ⟨gvq0, gvq1, gvq2, gvq3, gvqz⟩ := blk4 EGV7.out
        have gvql := Blk.lt EGV7.out
        have gvqm : ¬ gGV = w7.heap.size := by omega
        have gvqn : ¬ w7.heap.size = gGV := by omega
        obtain ⟨hvq0, hvq1, hvq2, hvq3, hvqz⟩ := blk4 EHV7.out
        have hvql := Blk.lt EHV7.out
        have hvqm : ¬ gHV = w7.heap.size := by omega
        have hvqn : ¬ w7.heap.size = gHV := by omega
        obtain ⟨bK, offK, hAK, hcK⟩ := Rd.below (w' := w7) H0.out EB7.out (by simp; omega)
        subst hAK
        have hxc : w7.cell? ⟨bK, offK + (ks.length - 1), none⟩ = some (.int .i64 x) := hcK _ _ HX.out
        have hbk := World.block_lt_of_cell? w7 _ hxc
        simp only at hbk
        have hbk2 : ¬ bK = w7.heap.size := by omega
        have hbk3 : ¬ w7.heap.size = bK := by omega
        have HXC := Lib.hid hxc
        clear hcK hxc
        go_wp2_with fail
        obtain ⟨w8, hw8⟩ : ∃ W, W = w7.alloc (.cells #[.int .i64 (ps.length : Int), .int .i64 pk, .slice AK ps.length cK, .bool pb] 25) := ⟨_, rfl⟩
        obtain ⟨gKV, hgKV⟩ : ∃ g, g = w7.heap.size := ⟨_, rfl⟩
        rw [← hw8, ← hgKV]
        have hv8 : Blk w8 gKV 25 #[.int .i64 (ps.length : Int), .int .i64 pk, .slice AK ps.length cK, .bool pb] := by rw [hw8, hgKV]; exact Blk.new _ _ _
        have V8 := Lib.hid hv8; clear hv8
        have hgeKV : w1.heap.size ≤ gKV := by rw [hgKV]; exact EB7.out.size
        have HSZKV := Lib.hid (show w8.heap.size = gKV + 1 by rw [hw8, hgKV]; simp)
        have hltGVKV : gGV < gKV := by rw [hgKV]; exact Blk.lt EGV7.out
        have hltHVKV : gHV < gKV := by rw [hgKV]; exact Blk.lt EHV7.out
        clear gvq0 gvq1 gvq2 gvq3 gvqz gvql gvqm gvqn hvq0 hvq1 hvq2 hvq3 hvqz hvql hvqm hvqn
        have hG8 : Row w8 w1.heap.size 3 1 AG (zs).length cG ((zs).map (.int .i64)) := by rw [hw8]; exact EG7.out.alloc _
        have hGV8 : Blk w8 gGV 25 #[.int .i64 (zs.length : Int), .int .i64 tk, .slice AG zs.length cG, .bool tb] := by rw [hw8]; exact EGV7.out.alloc _
        have hH8 : Row w8 w1.heap.size 3 1 AH (zs).length cH ((zs).map (.int .i64)) := by rw [hw8]; exact EH7.out.alloc _
        have hHV8 : Blk w8 gHV 25 #[.int .i64 (zs.length : Int), .int .i64 tk, .slice AH zs.length cH, .bool tb] := by rw [hw8]; exact EHV7.out.alloc _
        have hK8 : Row w8 w1.heap.size 3 1 AK (ps).length cK ((ps).map (.int .i64)) := by rw [hw8]; exact R7.out.alloc _
        have hb8 : Below w1.heap.size w1 w8 := by rw [hw8]; exact EB7.out.alloc EB7.out.size _
        have EG8 := Lib.hid hG8; clear hG8
        have EGV8 := Lib.hid hGV8; clear hGV8
        have EH8 := Lib.hid hH8; clear hH8
        have EHV8 := Lib.hid hHV8; clear hHV8
        have EK8 := Lib.hid hK8; clear hK8
        have EB8 := Lib.hid hb8; clear hb8
        clear EG7 EGV7 EH7 EHV7 R7 EB7 hw8 hgKV
        obtain ⟨gvq0, gvq1, gvq2, gvq3, gvqz⟩ := blk4 EGV8.out
        have gvql := Blk.lt EGV8.out
        have gvqm : ¬ gGV = w8.heap.size := by omega
        have gvqn : ¬ w8.heap.size = gGV := by omega
        obtain ⟨hvq0, hvq1, hvq2, hvq3, hvqz⟩ := blk4 EHV8.out
        have hvql := Blk.lt EHV8.out
        have hvqm : ¬ gHV = w8.heap.size := by omega
        have hvqn : ¬ w8.heap.size = gHV := by omega
        obtain ⟨kvq0, kvq1, kvq2, kvq3, kvqz⟩ := blk4 V8.out
        have kvql := Blk.lt V8.out
        have kvqm : ¬ gKV = w8.heap.size := by omega
        have kvqn : ¬ w8.heap.size = gKV := by omega
        have hxk : w8.cell? ⟨bK, offK + (ks.length - 1), none⟩ = some (.int .i64 x) := by
          obtain ⟨b2, o2, e2, h2⟩ := Rd.below (w' := w8) H0.out EB8.out (by simp; omega)
          cases e2
          exact h2 _ _ HX.out
        have hbkx := World.block_lt_of_cell? w8 _ hxk
        simp only at hbkx
        have hbkx2 : ¬ bK = w8.heap.size := by omega
        have hbkx3 : ¬ w8.heap.size = bK := by omega
        clear HXC hbk hbk2 hbk3
        clear EH8
        clear EHV8
        clear hvq0 hvq1 hvq2 hvq3 hvqz hvql hvqm hvqn
        rcases HCASE.out with ⟨rfl, hu2, rfl, rfl, rfl⟩ | ⟨rfl, rfl⟩
        · have hu3 : (u == m + 1) = true := by simp [hu2]
          have HU3 := Lib.hid hu3
          clear hu2 HCASE hu3 HT3 HM HTE HUE HT HU
          have hcon : ∀ W2, Rd W2 AK (zs.map (.int .i64)) → Calls Try.prog 13 #[.agg #[.int .i64 (zs.length : Int), .int .i64 tk, .slice AK zs.length cK, .bool tb], .int .i64 x] W2 (RetStep ⟨0, [], false⟩ false W2) := by
            intro W2 hW
            have := stepNest_c (zs.length : Int) tk zs tb x AK zs.length cK W2 rfl EK8.out.le hW (by omega)
            rw [HSP.out] at this
            exact this
          have HCON := Lib.hid hcon
          have RDW := Lib.hid EK8.out.rd
          clear hcon
          go_wp2_with fail
          have hix0 : (0 : Int) ≤ (ks.length : Int) - 1 := by omega
          have hix1 : (ks.length : Int) - 1 < (ks.length : Int) := by omega
          have hix2 : ((ks.length : Int) - 1).toNat = ks.length - 1 := by omega
          have hix3 : IntKind.i64.wrap ((ks.length : Int) - 1) = (ks.length : Int) - 1 := by simp only [IntKind.wrap, IntKind.bits, IntKind.signed]; simp; omega
          have hix4 : ks.length - 1 < ks.length := by omega
          have hix5 : (1 : Int) ≤ (ks.length : Int) := by omega
          have hix6 : 1 ≤ ks.length := by omega
          have hix7 : 0 < ks.length := by omega
          go_region_held3 (fun w' => w'.cell? ⟨gKV, 0, none⟩ = some (.int .i64 (zs.length : Int)) ∧ w'.cell? ⟨gKV, 1, none⟩ = some (.int .i64 tk) ∧ w'.cell? ⟨gKV, 2, none⟩ = some (.slice AK zs.length cK) ∧ w'.cell? ⟨gKV, 3, none⟩ = some (.bool tb) ∧ w'.cell? ⟨bK, offK + (ks.length - 1), none⟩ = some (.int .i64 x)) (go_keep) ((go_at_call 13; refine (HCON.out _ ?_).mono ?_; (first | exact RDW.out | exact RDW.out.alloc _); rintro e w91 ⟨A3, c3, rfl, row3, b91⟩; (first | have bo1 := Blk.below (w := w8.drew) V8.out b91 V8.out.lt | have bo1 := Blk.below (w := (w8.alloc (.cells #[.int .i64 0, .int .i64 0, .slice none 0 0, .bool false] 25)).drew) (V8.out.alloc _) b91 (by have := V8.out.lt; simp <;> omega)); obtain ⟨k0, k1, k2, k3, kf⟩ := blk4 bo1; have k4 := (b91.cell (p := ⟨bK, offK + (ks.length - 1), none⟩) (by simp <;> omega)).trans (show _ = some (Value.int .i64 x) by go_keep); have hsz1 : w8.heap.size ≤ w91.heap.size := (by have := b91.size; simp at this; omega); (first | have bel1 : Below w8.heap.size w8 w91 := (Below.refl _ _).drew.trans (b91.mono (by simp <;> omega)) | have bel1 : Below w8.heap.size w8 w91 := ((Below.refl _ _).alloc (Nat.le_refl _) _).drew.trans (b91.mono (by simp <;> omega))); (first | (have zb := Blk.below (w := (w8.alloc (.cells #[.int .i64 0, .int .i64 0, .slice none 0 0, .bool false] 25)).drew) (Blk.new w8 25 #[.int .i64 0, .int .i64 0, .slice none 0 0, .bool false]) b91 (by simp); obtain ⟨z0, z1, z2, z3, zf⟩ := blk4 zb; have ZB := Lib.hid zb; clear zb) | skip)))
          all_goals
            first
              | (have _z := ZB
                 obtain ⟨w9, hw9⟩ : ∃ W, W = ((((w91.setCell ⟨w8.heap.size, 0, none⟩ (.int .i64 0)).setCell ⟨w8.heap.size, 1, none⟩ (.int .i64 0)).setCell ⟨w8.heap.size, 2, none⟩ (.slice A3 0 c3)).setCell ⟨w8.heap.size, 3, none⟩ (.bool false)) := ⟨_, rfl⟩
                 obtain ⟨gNX, hgNX⟩ : ∃ g, g = w8.heap.size := ⟨_, rfl⟩
                 rw [← hw9, ← hgNX]
                 have nblk : Blk w9 gNX 25 #[.int .i64 0, .int .i64 0, .slice A3 0 c3, .bool false] := by rw [hw9, hgNX]; exact blk_set4 ZB.out
                 have nrow : Row w9 w1.heap.size 3 1 A3 0 c3 (([] : List Int).map (.int .i64)) := by rw [hw9]; exact row_set4 (row3.mono (by have := EB8.out.size; simp; omega)) ZB.out (by decide)
                 have b9 : Below w8.heap.size w8 w9 := by rw [hw9]; exact below_set4 bel1 (Nat.le_refl _)
                 have hltN : w8.heap.size ≤ gNX := by omega
                 clear hw9)
              | (obtain ⟨w9, hw9⟩ : ∃ W, W = w91.alloc (.cells #[.int .i64 0, .int .i64 0, .slice A3 0 c3, .bool false] 25) := ⟨_, rfl⟩
                 obtain ⟨gNX, hgNX⟩ : ∃ g, g = w91.heap.size := ⟨_, rfl⟩
                 rw [← hw9, ← hgNX]
                 have nblk : Blk w9 gNX 25 #[.int .i64 0, .int .i64 0, .slice A3 0 c3, .bool false] := by rw [hw9]; exact Blk.new_at' _ hgNX _ _
                 have nrow : Row w9 w1.heap.size 3 1 A3 0 c3 (([] : List Int).map (.int .i64)) := by rw [hw9]; exact (row3.mono (by have := EB8.out.size; simp; omega)).alloc _
                 have b9 : Below w8.heap.size w8 w9 := by rw [hw9]; exact bel1.alloc hsz1 _
                 have hltN : w8.heap.size ≤ gNX := by omega
                 clear hw9)
            have NBLK := Lib.hid nblk; have NROW := Lib.hid nrow; clear nblk nrow
            clear hgNX bel1 row3 b91 bo1 k0 k1 k2 k3 k4 kf
            clear gvq0 gvq1 gvq2 gvq3 gvqz gvql gvqm gvqn kvq0 kvq1 kvq2 kvq3 kvqz kvql kvqm kvqn
            have hG9 : Row w9 w1.heap.size 3 1 AG (zs).length cG ((zs).map (.int .i64)) := EG8.out.below b9
            have hGV9 : Blk w9 gGV 25 #[.int .i64 (zs.length : Int), .int .i64 tk, .slice AG zs.length cG, .bool tb] := Blk.below EGV8.out b9 (Blk.lt EGV8.out)
            have hK9 : Row w9 w1.heap.size 3 1 AK (zs).length cK ((zs).map (.int .i64)) := EK8.out.below b9
            have hKV9 : Blk w9 gKV 25 #[.int .i64 (zs.length : Int), .int .i64 tk, .slice AK zs.length cK, .bool tb] := Blk.below V8.out b9 (Blk.lt V8.out)
            have hb9 : Below w1.heap.size w1 w9 := EB8.out.trans (b9.mono EB8.out.size)
            have EG9 := Lib.hid hG9; clear hG9
            have EGV9 := Lib.hid hGV9; clear hGV9
            have EK9 := Lib.hid hK9; clear hK9
            have EKV9 := Lib.hid hKV9; clear hKV9
            have EB9 := Lib.hid hb9; clear hb9
            clear EG8 EGV8 EK8 V8 EB8 b9
            obtain ⟨gvq0, gvq1, gvq2, gvq3, gvqz⟩ := blk4 EGV9.out
            have gvql := Blk.lt EGV9.out
            have gvqm : ¬ gGV = w9.heap.size := by omega
            have gvqn : ¬ w9.heap.size = gGV := by omega
            obtain ⟨kvq0, kvq1, kvq2, kvq3, kvqz⟩ := blk4 EKV9.out
            have kvql := Blk.lt EKV9.out
            have kvqm : ¬ gKV = w9.heap.size := by omega
            have kvqn : ¬ w9.heap.size = gKV := by omega
            obtain ⟨nxq0, nxq1, nxq2, nxq3, nxqz⟩ := blk4 NBLK.out
            have nxql := Blk.lt NBLK.out
            have nxqm : ¬ gNX = w9.heap.size := by omega
            have nxqn : ¬ w9.heap.size = gNX := by omega
            have hu4 : (u == m + 1) = true := HU3.out
            go_wp2_with fail
            refine (equalNest_c _ _ zs _ _ _ _ _ _ _ rfl EG9.out.rd EK9.out.rd (by omega)).mono ?_
            rintro e w10 ⟨rfl, b10⟩
            clear gvq0 gvq1 gvq2 gvq3 gvqz gvql gvqm gvqn kvq0 kvq1 kvq2 kvq3 kvqz kvql kvqm kvqn nxq0 nxq1 nxq2 nxq3 nxqz nxql nxqm nxqn
            have hG10 : Row w10 w1.heap.size 3 1 AG (zs).length cG ((zs).map (.int .i64)) := EG9.out.below b10
            have hGV10 : Blk w10 gGV 25 #[.int .i64 (zs.length : Int), .int .i64 tk, .slice AG zs.length cG, .bool tb] := Blk.below EGV9.out b10 (Blk.lt EGV9.out)
            have hK10 : Row w10 w1.heap.size 3 1 AK (zs).length cK ((zs).map (.int .i64)) := EK9.out.below b10
            have hKV10 : Blk w10 gKV 25 #[.int .i64 (zs.length : Int), .int .i64 tk, .slice AK zs.length cK, .bool tb] := Blk.below EKV9.out b10 (Blk.lt EKV9.out)
            have hX10 : Row w10 w1.heap.size 3 1 A3 0 c3 (([] : List Int).map (.int .i64)) := NROW.out.below b10
            have hNX10 : Blk w10 gNX 25 #[.int .i64 0, .int .i64 0, .slice A3 0 c3, .bool false] := Blk.below NBLK.out b10 (Blk.lt NBLK.out)
            have hb10 : Below w1.heap.size w1 w10 := EB9.out.trans (b10.mono EB9.out.size)
            have EG10 := Lib.hid hG10; clear hG10
            have EGV10 := Lib.hid hGV10; clear hGV10
            have EK10 := Lib.hid hK10; clear hK10
            have EKV10 := Lib.hid hKV10; clear hKV10
            have EX10 := Lib.hid hX10; clear hX10
            have ENX10 := Lib.hid hNX10; clear hNX10
            have EB10 := Lib.hid hb10; clear hb10
            clear EG9 EGV9 EK9 EKV9 NROW NBLK EB9 b10
            obtain ⟨gvq0, gvq1, gvq2, gvq3, gvqz⟩ := blk4 EGV10.out
            have gvql := Blk.lt EGV10.out
            have gvqm : ¬ gGV = w10.heap.size := by omega
            have gvqn : ¬ w10.heap.size = gGV := by omega
            obtain ⟨kvq0, kvq1, kvq2, kvq3, kvqz⟩ := blk4 EKV10.out
            have kvql := Blk.lt EKV10.out
            have kvqm : ¬ gKV = w10.heap.size := by omega
            have kvqn : ¬ w10.heap.size = gKV := by omega
            obtain ⟨nxq0, nxq1, nxq2, nxq3, nxqz⟩ := blk4 ENX10.out
            have nxql := Blk.lt ENX10.out
            have nxqm : ¬ gNX = w10.heap.size := by omega
            have nxqn : ¬ w10.heap.size = gNX := by omega
            go_wp2_with fail
            go_ret
            exact ⟨by first | rfl | simp [HU3.out], EB1.out.trans (EB10.out.mono EB1.out.size)⟩
        · clear HCASE HT3 HM HTE HUE HT HU
          have hcon : ∀ W2, Rd W2 AK (ps.map (.int .i64)) → Calls Try.prog 13 #[.agg #[.int .i64 (ps.length : Int), .int .i64 pk, .slice AK ps.length cK, .bool pb], .int .i64 x] W2 (RetStep ⟨tk, zs, tb⟩ true W2) := by
            intro W2 hW
            have := stepNest_c (ps.length : Int) pk ps pb x AK ps.length cK W2 rfl EK8.out.le hW (by omega)
            rw [HSP.out] at this
            exact this
          have HCON := Lib.hid hcon
          have RDW := Lib.hid EK8.out.rd
          clear hcon
          go_wp2_with fail
          have hix0 : (0 : Int) ≤ (ks.length : Int) - 1 := by omega
          have hix1 : (ks.length : Int) - 1 < (ks.length : Int) := by omega
          have hix2 : ((ks.length : Int) - 1).toNat = ks.length - 1 := by omega
          have hix3 : IntKind.i64.wrap ((ks.length : Int) - 1) = (ks.length : Int) - 1 := by simp only [IntKind.wrap, IntKind.bits, IntKind.signed]; simp; omega
          have hix4 : ks.length - 1 < ks.length := by omega
          have hix5 : (1 : Int) ≤ (ks.length : Int) := by omega
          have hix6 : 1 ≤ ks.length := by omega
          have hix7 : 0 < ks.length := by omega
          go_region_held3 (fun w' => w'.cell? ⟨gKV, 0, none⟩ = some (.int .i64 (ps.length : Int)) ∧ w'.cell? ⟨gKV, 1, none⟩ = some (.int .i64 pk) ∧ w'.cell? ⟨gKV, 2, none⟩ = some (.slice AK ps.length cK) ∧ w'.cell? ⟨gKV, 3, none⟩ = some (.bool pb) ∧ w'.cell? ⟨bK, offK + (ks.length - 1), none⟩ = some (.int .i64 x)) (go_keep) ((go_at_call 13; refine (HCON.out _ ?_).mono ?_; (first | exact RDW.out | exact RDW.out.alloc _); rintro e w91 ⟨A3, c3, rfl, row3, b91⟩; (first | have bo1 := Blk.below (w := w8.drew) V8.out b91 V8.out.lt | have bo1 := Blk.below (w := (w8.alloc (.cells #[.int .i64 0, .int .i64 0, .slice none 0 0, .bool false] 25)).drew) (V8.out.alloc _) b91 (by have := V8.out.lt; simp <;> omega)); obtain ⟨k0, k1, k2, k3, kf⟩ := blk4 bo1; have k4 := (b91.cell (p := ⟨bK, offK + (ks.length - 1), none⟩) (by simp <;> omega)).trans (show _ = some (Value.int .i64 x) by go_keep); have hsz1 : w8.heap.size ≤ w91.heap.size := (by have := b91.size; simp at this; omega); (first | have bel1 : Below w8.heap.size w8 w91 := (Below.refl _ _).drew.trans (b91.mono (by simp <;> omega)) | have bel1 : Below w8.heap.size w8 w91 := ((Below.refl _ _).alloc (Nat.le_refl _) _).drew.trans (b91.mono (by simp <;> omega))); (first | (have zb := Blk.below (w := (w8.alloc (.cells #[.int .i64 0, .int .i64 0, .slice none 0 0, .bool false] 25)).drew) (Blk.new w8 25 #[.int .i64 0, .int .i64 0, .slice none 0 0, .bool false]) b91 (by simp); obtain ⟨z0, z1, z2, z3, zf⟩ := blk4 zb; have ZB := Lib.hid zb; clear zb) | skip)))
          all_goals
            first
              | (have _z := ZB
                 obtain ⟨w9, hw9⟩ : ∃ W, W = ((((w91.setCell ⟨w8.heap.size, 0, none⟩ (.int .i64 (zs.length : Int))).setCell ⟨w8.heap.size, 1, none⟩ (.int .i64 tk)).setCell ⟨w8.heap.size, 2, none⟩ (.slice A3 zs.length c3)).setCell ⟨w8.heap.size, 3, none⟩ (.bool tb)) := ⟨_, rfl⟩
                 obtain ⟨gNX, hgNX⟩ : ∃ g, g = w8.heap.size := ⟨_, rfl⟩
                 rw [← hw9, ← hgNX]
                 have nblk : Blk w9 gNX 25 #[.int .i64 (zs.length : Int), .int .i64 tk, .slice A3 zs.length c3, .bool tb] := by rw [hw9, hgNX]; exact blk_set4 ZB.out
                 have nrow : Row w9 w1.heap.size 3 1 A3 zs.length c3 (zs.map (.int .i64)) := by rw [hw9]; exact row_set4 (row3.mono (by have := EB8.out.size; simp; omega)) ZB.out (by decide)
                 have b9 : Below w8.heap.size w8 w9 := by rw [hw9]; exact below_set4 bel1 (Nat.le_refl _)
                 have hltN : w8.heap.size ≤ gNX := by omega
                 clear hw9)
              | (obtain ⟨w9, hw9⟩ : ∃ W, W = w91.alloc (.cells #[.int .i64 (zs.length : Int), .int .i64 tk, .slice A3 zs.length c3, .bool tb] 25) := ⟨_, rfl⟩
                 obtain ⟨gNX, hgNX⟩ : ∃ g, g = w91.heap.size := ⟨_, rfl⟩
                 rw [← hw9, ← hgNX]
                 have nblk : Blk w9 gNX 25 #[.int .i64 (zs.length : Int), .int .i64 tk, .slice A3 zs.length c3, .bool tb] := by rw [hw9]; exact Blk.new_at' _ hgNX _ _
                 have nrow : Row w9 w1.heap.size 3 1 A3 zs.length c3 (zs.map (.int .i64)) := by rw [hw9]; exact (row3.mono (by have := EB8.out.size; simp; omega)).alloc _
                 have b9 : Below w8.heap.size w8 w9 := by rw [hw9]; exact bel1.alloc hsz1 _
                 have hltN : w8.heap.size ≤ gNX := by omega
                 clear hw9)
            have NBLK := Lib.hid nblk; have NROW := Lib.hid nrow; clear nblk nrow
            clear hgNX bel1 row3 b91 bo1 k0 k1 k2 k3 k4 kf
            clear gvq0 gvq1 gvq2 gvq3 gvqz gvql gvqm gvqn kvq0 kvq1 kvq2 kvq3 kvqz kvql kvqm kvqn
            have hG9 : Row w9 w1.heap.size 3 1 AG (zs).length cG ((zs).map (.int .i64)) := EG8.out.below b9
            have hGV9 : Blk w9 gGV 25 #[.int .i64 (zs.length : Int), .int .i64 tk, .slice AG zs.length cG, .bool tb] := Blk.below EGV8.out b9 (Blk.lt EGV8.out)
            have hK9 : Row w9 w1.heap.size 3 1 AK (ps).length cK ((ps).map (.int .i64)) := EK8.out.below b9
            have hKV9 : Blk w9 gKV 25 #[.int .i64 (ps.length : Int), .int .i64 pk, .slice AK ps.length cK, .bool pb] := Blk.below V8.out b9 (Blk.lt V8.out)
            have hb9 : Below w1.heap.size w1 w9 := EB8.out.trans (b9.mono EB8.out.size)
            have EG9 := Lib.hid hG9; clear hG9
            have EGV9 := Lib.hid hGV9; clear hGV9
            have EK9 := Lib.hid hK9; clear hK9
            have EKV9 := Lib.hid hKV9; clear hKV9
            have EB9 := Lib.hid hb9; clear hb9
            clear EG8 EGV8 EK8 V8 EB8 b9
            obtain ⟨gvq0, gvq1, gvq2, gvq3, gvqz⟩ := blk4 EGV9.out
            have gvql := Blk.lt EGV9.out
            have gvqm : ¬ gGV = w9.heap.size := by omega
            have gvqn : ¬ w9.heap.size = gGV := by omega
            obtain ⟨kvq0, kvq1, kvq2, kvq3, kvqz⟩ := blk4 EKV9.out
            have kvql := Blk.lt EKV9.out
            have kvqm : ¬ gKV = w9.heap.size := by omega
            have kvqn : ¬ w9.heap.size = gKV := by omega
            obtain ⟨nxq0, nxq1, nxq2, nxq3, nxqz⟩ := blk4 NBLK.out
            have nxql := Blk.lt NBLK.out
            have nxqm : ¬ gNX = w9.heap.size := by omega
            have nxqn : ¬ w9.heap.size = gNX := by omega
            go_wp2_with fail
            refine (equalNest_c _ _ zs _ _ _ _ _ _ _ rfl EG9.out.rd NROW.out.rd (by omega)).mono ?_
            rintro e w10 ⟨rfl, b10⟩
            clear gvq0 gvq1 gvq2 gvq3 gvqz gvql gvqm gvqn kvq0 kvq1 kvq2 kvq3 kvqz kvql kvqm kvqn nxq0 nxq1 nxq2 nxq3 nxqz nxql nxqm nxqn
            have hG10 : Row w10 w1.heap.size 3 1 AG (zs).length cG ((zs).map (.int .i64)) := EG9.out.below b10
            have hGV10 : Blk w10 gGV 25 #[.int .i64 (zs.length : Int), .int .i64 tk, .slice AG zs.length cG, .bool tb] := Blk.below EGV9.out b10 (Blk.lt EGV9.out)
            have hK10 : Row w10 w1.heap.size 3 1 AK (ps).length cK ((ps).map (.int .i64)) := EK9.out.below b10
            have hKV10 : Blk w10 gKV 25 #[.int .i64 (ps.length : Int), .int .i64 pk, .slice AK ps.length cK, .bool pb] := Blk.below EKV9.out b10 (Blk.lt EKV9.out)
            have hX10 : Row w10 w1.heap.size 3 1 A3 zs.length c3 (zs.map (.int .i64)) := NROW.out.below b10
            have hNX10 : Blk w10 gNX 25 #[.int .i64 (zs.length : Int), .int .i64 tk, .slice A3 zs.length c3, .bool tb] := Blk.below NBLK.out b10 (Blk.lt NBLK.out)
            have hb10 : Below w1.heap.size w1 w10 := EB9.out.trans (b10.mono EB9.out.size)
            have EG10 := Lib.hid hG10; clear hG10
            have EGV10 := Lib.hid hGV10; clear hGV10
            have EK10 := Lib.hid hK10; clear hK10
            have EKV10 := Lib.hid hKV10; clear hKV10
            have EX10 := Lib.hid hX10; clear hX10
            have ENX10 := Lib.hid hNX10; clear hNX10
            have EB10 := Lib.hid hb10; clear hb10
            clear EG9 EGV9 EK9 EKV9 NROW NBLK EB9 b10
            obtain ⟨gvq0, gvq1, gvq2, gvq3, gvqz⟩ := blk4 EGV10.out
            have gvql := Blk.lt EGV10.out
            have gvqm : ¬ gGV = w10.heap.size := by omega
            have gvqn : ¬ w10.heap.size = gGV := by omega
            obtain ⟨kvq0, kvq1, kvq2, kvq3, kvqz⟩ := blk4 EKV10.out
            have kvql := Blk.lt EKV10.out
            have kvqm : ¬ gKV = w10.heap.size := by omega
            have kvqn : ¬ w10.heap.size = gKV := by omega
            obtain ⟨nxq0, nxq1, nxq2, nxq3, nxqz⟩ := blk4 ENX10.out
            have nxql := Blk.lt ENX10.out
            have nxqm : ¬ gNX = w10.heap.size := by omega
            have nxqn : ¬ w10.heap.size = gNX := by omega
            go_wp2_with fail
            refine (validNest_c _ _ zs _ _ _ _ _ rfl EG10.out.rd (by omega)).mono ?_
            rw [HVV.out]
            rintro e w11 ⟨rfl, b11⟩
            clear gvq0 gvq1 gvq2 gvq3 gvqz gvql gvqm gvqn kvq0 kvq1 kvq2 kvq3 kvqz kvql kvqm kvqn nxq0 nxq1 nxq2 nxq3 nxqz nxql nxqm nxqn
            have hG11 : Row w11 w1.heap.size 3 1 AG (zs).length cG ((zs).map (.int .i64)) := EG10.out.below b11
            have hGV11 : Blk w11 gGV 25 #[.int .i64 (zs.length : Int), .int .i64 tk, .slice AG zs.length cG, .bool tb] := Blk.below EGV10.out b11 (Blk.lt EGV10.out)
            have hK11 : Row w11 w1.heap.size 3 1 AK (ps).length cK ((ps).map (.int .i64)) := EK10.out.below b11
            have hKV11 : Blk w11 gKV 25 #[.int .i64 (ps.length : Int), .int .i64 pk, .slice AK ps.length cK, .bool pb] := Blk.below EKV10.out b11 (Blk.lt EKV10.out)
            have hX11 : Row w11 w1.heap.size 3 1 A3 zs.length c3 (zs.map (.int .i64)) := EX10.out.below b11
            have hNX11 : Blk w11 gNX 25 #[.int .i64 (zs.length : Int), .int .i64 tk, .slice A3 zs.length c3, .bool tb] := Blk.below ENX10.out b11 (Blk.lt ENX10.out)
            have hb11 : Below w1.heap.size w1 w11 := EB10.out.trans (b11.mono EB10.out.size)
            have EG11 := Lib.hid hG11; clear hG11
            have EGV11 := Lib.hid hGV11; clear hGV11
            have EK11 := Lib.hid hK11; clear hK11
            have EKV11 := Lib.hid hKV11; clear hKV11
            have EX11 := Lib.hid hX11; clear hX11
            have ENX11 := Lib.hid hNX11; clear hNX11
            have EB11 := Lib.hid hb11; clear hb11
            clear EG10 EGV10 EK10 EKV10 EX10 ENX10 EB10 b11
            obtain ⟨gvq0, gvq1, gvq2, gvq3, gvqz⟩ := blk4 EGV11.out
            have gvql := Blk.lt EGV11.out
            have gvqm : ¬ gGV = w11.heap.size := by omega
            have gvqn : ¬ w11.heap.size = gGV := by omega
            obtain ⟨kvq0, kvq1, kvq2, kvq3, kvqz⟩ := blk4 EKV11.out
            have kvql := Blk.lt EKV11.out
            have kvqm : ¬ gKV = w11.heap.size := by omega
            have kvqn : ¬ w11.heap.size = gKV := by omega
            obtain ⟨nxq0, nxq1, nxq2, nxq3, nxqz⟩ := blk4 ENX11.out
            have nxql := Blk.lt ENX11.out
            have nxqm : ¬ gNX = w11.heap.size := by omega
            have nxqn : ¬ w11.heap.size = gNX := by omega
            go_wp2_with fail
            go_ret
            exact ⟨by first | rfl | trivial | simp, EB1.out.trans (EB11.out.mono EB1.out.size)⟩
    · have hu0 : u < 0 := by rw [← HU.out]; unfold missV; rw [if_neg h16]; decide
      go_wp2_with fail
      refine (equalNest_c _ _ zs _ _ _ _ _ _ _ rfl EG6.out.rd EH6.out.rd (by omega)).mono ?_
      rintro e w7 ⟨rfl, b7⟩
      clear gvq0 gvq1 gvq2 gvq3 gvqz gvql gvqm gvqn hvq0 hvq1 hvq2 hvq3 hvqz hvql hvqm hvqn
      have hG7 : Row w7 w1.heap.size 3 1 AG (zs).length cG ((zs).map (.int .i64)) := EG6.out.below b7
      have hGV7 : Blk w7 gGV 25 #[.int .i64 (zs.length : Int), .int .i64 tk, .slice AG zs.length cG, .bool tb] := Blk.below EGV6.out b7 (Blk.lt EGV6.out)
      have hH7 : Row w7 w1.heap.size 3 1 AH (zs).length cH ((zs).map (.int .i64)) := EH6.out.below b7
      have hHV7 : Blk w7 gHV 25 #[.int .i64 (zs.length : Int), .int .i64 tk, .slice AH zs.length cH, .bool tb] := Blk.below EHV6.out b7 (Blk.lt EHV6.out)
      have hb7 : Below w1.heap.size w1 w7 := EB6.out.trans (b7.mono EB6.out.size)
      have EG7 := Lib.hid hG7; clear hG7
      have EGV7 := Lib.hid hGV7; clear hGV7
      have EH7 := Lib.hid hH7; clear hH7
      have EHV7 := Lib.hid hHV7; clear hHV7
      have EB7 := Lib.hid hb7; clear hb7
      clear EG6 EGV6 EH6 EHV6 EB6 b7
      obtain ⟨gvq0, gvq1, gvq2, gvq3, gvqz⟩ := blk4 EGV7.out
      have gvql := Blk.lt EGV7.out
      have gvqm : ¬ gGV = w7.heap.size := by omega
      have gvqn : ¬ w7.heap.size = gGV := by omega
      obtain ⟨hvq0, hvq1, hvq2, hvq3, hvqz⟩ := blk4 EHV7.out
      have hvql := Blk.lt EHV7.out
      have hvqm : ¬ gHV = w7.heap.size := by omega
      have hvqn : ¬ w7.heap.size = gHV := by omega
      go_wp2_with fail
      go_ret
      exact ⟨by first | rfl | simp | trivial, EB1.out.trans (EB7.out.mono EB1.out.size)⟩

namespace fnRunNest
open Go.ChangeShapes Go.WideShapes Go.ChangeAt
open Go.ChangeMaps (open_string shut_string)
theorem own : ownKnob Try.prog.godebug = none := by kernel_rfl
theorem laidOut : laidOutB Try.prog = true := by kernel_rfl
set_option maxRecDepth 100000 in
theorem lifted (os : Os) (started : os.Started) (H : Type) (enc : TypeId × Value → H) :
    ReturnsInHanded {} Try.checked os 5 .any (Rows.fnRunNestSpec.pre6 enc Try.prog Try.f5 Rows.fnRunNestRow.domain false) (Rows.fnRunNestSpec.post enc Try.prog Try.f5 false true false false) := by
  refine returnsInHanded_of_change (C := Try.checked) own started (by kernel_rfl) Try.func5
    (ChangeSpec.witness6 (enc := enc) (C := Try.checked) false ⟨#[], #[.slice none 0 0], []⟩ 8 (by kernel_rfl) (by kernel_rfl) (by kernel_rfl) (by kernel_rfl)) ?_
  intro W base args ds gs before hval0 hW hcnd _
  have hval : ∀ (j : Nat) t v, Try.f5.params[j]? = some t → args[j]? = some v → Value.okWide Try.prog W .any base t v := hval0
  have hW' := hW
  obtain ⟨p, q, hA0, hV, rfl, hfz, hnd⟩ := hW
  have hA : DataW.TrodAll enc Try.prog W 0 (fun _ => true) true Try.f5.params.toList args.toList ds p := hA0
  rw [Try.params5] at hA hval
  obtain ⟨v0, vs0, d0, ds0, p0, q0, hargs, rfl, rfl, h0, r0⟩ := trodAll_cons hA
  obtain ⟨rfl, rfl, rfl⟩ := trodAll_nil r0
  obtain rfl : args = #[v0] := by cases args; simp_all
  obtain ⟨rfl, rfl⟩ := trodVars_none hV
  obtain ⟨a0, n0, c0, rfl⟩ := okWide_slice Try.underlying22 (hval 0 22 v0 rfl rfl)
  have k0 := h0
  have lt0 : ∀ x ∈ p0, x.block < W.heap.size := by obtain ⟨m, hm⟩ := k0; exact DataW.trod_lt m _ _ _ hm
  obtain ⟨z0, e0, lc0, cm0, rd0, wf0⟩ := open_rd_int Try.underlying22 Try.underlying5 (by kernel_rfl) h0
  clear hA0 hval0
  refine (walk_FnRunNest (w := W) z0 a0 n0 c0 e0 lc0 cm0 rd0 (fun x hx => wf_u8 (wf0 x hx))).mono fun e W' ⟨he, bel⟩ => ?_
  subst he
  exact ⟨_, rfl, _, _, _, [], _, [], hW', trodAll_mk1 (shut_bool Try.underlying4 _), (trodAll_cons_mk (Below.trod laidOut (by kernel_rfl) (of_decide_eq_true (by kernel_rfl)) k0 bel lt0) trodAll_mk0), rfl, bel.frame _, fun h => by cases h⟩
theorem closed : joinedFacts Try.prog 5 Try.f5 Rows.fnRunNestSpec Rows.fnRunNestRow = true :=
  facts_of mayEnter_ok liftsFinal_ok make_ok (by kernel_rfl)
theorem over : Rows.fnRunNestRow.holds Try.pinned (OpenSpec.ofChange Rows.fnRunNestSpec) :=
  OpenClaim.holds_of_wide 5 Try.f5 rfl rfl rfl rfl rfl rfl rfl ⟨rfl, rfl, rfl, rfl, rfl⟩ rfl rfl rfl rfl rfl (by kernel_rfl) Try.func5 closed
    (of_decide_eq_true (by kernel_rfl)) (by unfold Func.isWrapper; first | (rw [if_pos (by decide +kernel)]; kernel_rfl) | (rw [if_neg (by decide +kernel)]; exact ⟨rfl, rfl⟩))
    (fun os started H enc _ => lifted os started H enc)
/-- THE STATEMENT -/
theorem proved : Rows.FnRunNestSaid := over
end fnRunNest
end Go.Proofs.Ytagmhmhhjkfhgaa
