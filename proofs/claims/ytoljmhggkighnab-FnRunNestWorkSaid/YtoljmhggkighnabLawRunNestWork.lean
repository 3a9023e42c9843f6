/- FnRunNestWork: for every code the law returns true, and what was there is as it was. No condition. -/
import Derived.Test.YtoljmhggkighnabRows
import Derived.Test.YtoljmhggkighnabNestLaw
import Derived.Test.YtoljmhggkighnabNestDraw
import Derived.Test.YtoljmhggkighnabOpenC
import Derived.Test.YtoljmhggkighnabNestRunI
set_option linter.unusedVariables false
set_option linter.unusedSimpArgs false
set_option linter.unnecessarySimpa false
namespace Go.Proofs.Ytoljmhggkighnab
open Go.RowKit

set_option maxRecDepth 100000 in
set_option maxHeartbeats 16000000 in
theorem walk_FnRunNestWork (zs : List Int) (A : Option Addr) (n c : Nat) (hN : zs.length = n) (hc : n ≤ c) (hm : c ≤ maxLen) {w : World} (h : Rd w A (zs.map (.int .u8))) (hz : ∀ z ∈ zs, 0 ≤ z ∧ z ≤ 255) :
    Calls Try.prog 7 #[.slice A n c] w fun e w' => e = .returned (.bool true) ∧ Below w.heap.size w w' := by
  have HD := Lib.hid (drawRunNest_c zs A n c w hN hc hm h hz)
  clear h hz hN
  unfold maxLen at hm
  by_cases hbig : 1048576 < n
  · go_enter Try.func7, Try.ntmps7
    go_wp2
    go_ret
    exact ⟨rfl, Below.refl _ _⟩
  · go_enter Try.func7, Try.ntmps7
    go_wp2_with fail
    refine HD.out.mono ?_
    rintro e w1 ⟨AP, cP, ks, rfl, hl, hcP, fP, b1⟩
    have EB1 := Lib.hid b1; clear b1
    have H0 := Lib.hid fP.rd; clear fP
    obtain ⟨t, ht⟩ : ∃ t, t = runV ks := ⟨_, rfl⟩
    obtain ⟨u, hu⟩ : ∃ u, u = missV ks := ⟨_, rfl⟩
    have hbd : t.marks.length ≤ 4 := by rw [ht]; exact runV_le ks
    have HT := Lib.hid ht.symm; have HU := Lib.hid hu.symm
    clear ht hu
    obtain ⟨tk, zs, tb⟩ := t
    simp only at hbd
    go_wp2_with fail
    refine (runNest_c ks _ _ _ _ rfl hcP (Rd.below (w' := w1) H0.out (Below.refl w1.heap.size w1)) (by omega)).mono ?_
    rw [HT.out, HU.out]
    rintro e w2 ⟨AG, cG, rfl, q2, b2⟩
    have r2 : Row w2 w1.heap.size 3 1 AG (zs).length cG ((zs).map (.int .i64)) := q2
    have R2 := Lib.hid (r2.mono (Below.refl w1.heap.size w1).size); clear r2 q2
    have hb2 : Below w1.heap.size w1 w2 := (Below.refl w1.heap.size w1).trans (b2.mono (Below.refl w1.heap.size w1).size)
    have EB2 := Lib.hid hb2; clear hb2
    clear  b2
    go_wp2_with fail
    obtain ⟨w3, hw3⟩ : ∃ W, W = w2.alloc (.cells #[.int .i64 (zs.length : Int), .int .i64 tk, .slice AG zs.length cG, .bool tb] 25) := ⟨_, rfl⟩
    obtain ⟨gGV, hgGV⟩ : ∃ g, g = w2.heap.size := ⟨_, rfl⟩
    rw [← hw3, ← hgGV]
    have hv3 : Blk w3 gGV 25 #[.int .i64 (zs.length : Int), .int .i64 tk, .slice AG zs.length cG, .bool tb] := by rw [hw3, hgGV]; exact Blk.new _ _ _
    have V3 := Lib.hid hv3; clear hv3
    have hgeGV : w1.heap.size ≤ gGV := by rw [hgGV]; exact EB2.out.size
    have HSZGV := Lib.hid (show w3.heap.size = gGV + 1 by rw [hw3, hgGV]; simp)
    have hG3 : Row w3 w1.heap.size 3 1 AG (zs).length cG ((zs).map (.int .i64)) := by rw [hw3]; exact R2.out.alloc _
    have hb3 : Below w1.heap.size w1 w3 := by rw [hw3]; exact EB2.out.alloc EB2.out.size _
    have EG3 := Lib.hid hG3; clear hG3
    have EB3 := Lib.hid hb3; clear hb3
    clear R2 EB2 hw3 hgGV
    obtain ⟨gvq0, gvq1, gvq2, gvq3, gvqz⟩ := blk4 V3.out
    have gvql := Blk.lt V3.out
    have gvqm : ¬ gGV = w3.heap.size := by omega
    have gvqn : ¬ w3.heap.size = gGV := by omega
    go_wp2_with fail
    refine (sRunNest_c ks _ _ _ _ rfl hcP (Rd.below (w' := w3) H0.out EB3.out) (by omega)).mono ?_
    rw [HT.out, HU.out]
    rintro e w4 ⟨AH, cH, rfl, q4, b4⟩
    have r4 : Row w4 w3.heap.size 3 1 AH (zs).length cH ((zs).map (.int .i64)) := q4
    have apGH := Lib.hid (row_apart EG3.out r4 (Nat.le_refl _))
    have R4 := Lib.hid (r4.mono EB3.out.size); clear r4 q4
    clear gvq0 gvq1 gvq2 gvq3 gvqz gvql gvqm gvqn
    have hG4 : Row w4 w1.heap.size 3 1 AG (zs).length cG ((zs).map (.int .i64)) := EG3.out.below b4
    have hGV4 : Blk w4 gGV 25 #[.int .i64 (zs.length : Int), .int .i64 tk, .slice AG zs.length cG, .bool tb] := Blk.below V3.out b4 (Blk.lt V3.out)
    have hb4 : Below w1.heap.size w1 w4 := EB3.out.trans (b4.mono EB3.out.size)
    have EG4 := Lib.hid hG4; clear hG4
    have EGV4 := Lib.hid hGV4; clear hGV4
    have EB4 := Lib.hid hb4; clear hb4
    clear EG3 V3 EB3 b4
    obtain ⟨gvq0, gvq1, gvq2, gvq3, gvqz⟩ := blk4 EGV4.out
    have gvql := Blk.lt EGV4.out
    have gvqm : ¬ gGV = w4.heap.size := by omega
    have gvqn : ¬ w4.heap.size = gGV := by omega
    go_wp2_with fail
    obtain ⟨w5, hw5⟩ : ∃ W, W = w4.alloc (.cells #[.int .i64 (zs.length : Int), .int .i64 tk, .slice AH zs.length cH, .bool tb] 25) := ⟨_, rfl⟩
    obtain ⟨gHV, hgHV⟩ : ∃ g, g = w4.heap.size := ⟨_, rfl⟩
    rw [← hw5, ← hgHV]
    have hv5 : Blk w5 gHV 25 #[.int .i64 (zs.length : Int), .int .i64 tk, .slice AH zs.length cH, .bool tb] := by rw [hw5, hgHV]; exact Blk.new _ _ _
    have V5 := Lib.hid hv5; clear hv5
    have hgeHV : w1.heap.size ≤ gHV := by rw [hgHV]; exact EB4.out.size
    have HSZHV := Lib.hid (show w5.heap.size = gHV + 1 by rw [hw5, hgHV]; simp)
    have hltGVHV : gGV < gHV := by rw [hgHV]; exact Blk.lt EGV4.out
    clear gvq0 gvq1 gvq2 gvq3 gvqz gvql gvqm gvqn
    have hG5 : Row w5 w1.heap.size 3 1 AG (zs).length cG ((zs).map (.int .i64)) := by rw [hw5]; exact EG4.out.alloc _
    have hGV5 : Blk w5 gGV 25 #[.int .i64 (zs.length : Int), .int .i64 tk, .slice AG zs.length cG, .bool tb] := by rw [hw5]; exact EGV4.out.alloc _
    have hH5 : Row w5 w1.heap.size 3 1 AH (zs).length cH ((zs).map (.int .i64)) := by rw [hw5]; exact R4.out.alloc _
    have hb5 : Below w1.heap.size w1 w5 := by rw [hw5]; exact EB4.out.alloc EB4.out.size _
    have EG5 := Lib.hid hG5; clear hG5
    have EGV5 := Lib.hid hGV5; clear hGV5
    have EH5 := Lib.hid hH5; clear hH5
    have EB5 := Lib.hid hb5; clear hb5
    clear EG4 EGV4 R4 EB4 hw5 hgHV
    obtain ⟨gvq0, gvq1, gvq2, gvq3, gvqz⟩ := blk4 EGV5.out
    have gvql := Blk.lt EGV5.out
    have gvqm : ¬ gGV = w5.heap.size := by omega
    have gvqn : ¬ w5.heap.size = gGV := by omega
    obtain ⟨hvq0, hvq1, hvq2, hvq3, hvqz⟩ := blk4 V5.out
    have hvql := Blk.lt V5.out
    have hvqm : ¬ gHV = w5.heap.size := by omega
    have hvqn : ¬ w5.heap.size = gHV := by omega
    go_wp2_with fail
    refine (equalNest_c _ _ zs _ _ _ _ _ _ _ rfl EG5.out.rd EH5.out.rd (by omega)).mono ?_
    rintro e w6 ⟨rfl, b6⟩
    clear gvq0 gvq1 gvq2 gvq3 gvqz gvql gvqm gvqn hvq0 hvq1 hvq2 hvq3 hvqz hvql hvqm hvqn
    have hG6 : Row w6 w1.heap.size 3 1 AG (zs).length cG ((zs).map (.int .i64)) := EG5.out.below b6
    have hGV6 : Blk w6 gGV 25 #[.int .i64 (zs.length : Int), .int .i64 tk, .slice AG zs.length cG, .bool tb] := Blk.below EGV5.out b6 (Blk.lt EGV5.out)
    have hH6 : Row w6 w1.heap.size 3 1 AH (zs).length cH ((zs).map (.int .i64)) := EH5.out.below b6
    have hHV6 : Blk w6 gHV 25 #[.int .i64 (zs.length : Int), .int .i64 tk, .slice AH zs.length cH, .bool tb] := Blk.below V5.out b6 (Blk.lt V5.out)
    have hb6 : Below w1.heap.size w1 w6 := EB5.out.trans (b6.mono EB5.out.size)
    have EG6 := Lib.hid hG6; clear hG6
    have EGV6 := Lib.hid hGV6; clear hGV6
    have EH6 := Lib.hid hH6; clear hH6
    have EHV6 := Lib.hid hHV6; clear hHV6
    have EB6 := Lib.hid hb6; clear hb6
    clear EG5 EGV5 EH5 V5 EB5 b6
    obtain ⟨gvq0, gvq1, gvq2, gvq3, gvqz⟩ := blk4 EGV6.out
    have gvql := Blk.lt EGV6.out
    have gvqm : ¬ gGV = w6.heap.size := by omega
    have gvqn : ¬ w6.heap.size = gGV := by omega
    obtain ⟨hvq0, hvq1, hvq2, hvq3, hvqz⟩ := blk4 EHV6.out
    have hvql := Blk.lt EHV6.out
    have hvqm : ¬ gHV = w6.heap.size := by omega
    have hvqn : ¬ w6.heap.size = gHV := by omega
    by_cases h16 : ks.length ≤ 16
    · have hue : u = missed ks := by rw [← HU.out]; unfold missV; rw [if_pos h16]
      have hte : runS ks = ⟨tk, zs, tb⟩ := by rw [← HT.out]; unfold runV; rw [if_pos h16]
      have hok : St.ok ⟨tk, zs, tb⟩ := by rw [← hte]; exact runS_ok ks
      have hu0 : 0 ≤ u := by rw [hue]; exact (missed_bd ks).1
      have hu1 : u ≤ ks.length := by rw [hue]; exact (missed_bd ks).2
      have hvv : validN (zs.length : Int) tk zs tb = true := hok
      have HVV := Lib.hid hvv; have HUE := Lib.hid hue; have HTE := Lib.hid hte
      clear hvv hue hte hok
      obtain ⟨kv, hkv⟩ : ∃ kv, kv = keptV ks := ⟨_, rfl⟩
      have hkve : kv = kept ks := by rw [hkv]; unfold keptV; rw [if_pos h16]
      have hrw := run_work ks
      have hkb := kept_bd ks
      have hrw1 : tk + kv ≤ works ks := by rw [hkve]; have := hrw.1; rw [HTE.out] at this; exact this
      have htk0 : 0 ≤ tk ∧ tk ≤ 12 := by have := runV_work ks; rw [HT.out] at this; exact this
      have hkv0 : 0 ≤ kv ∧ kv ≤ 18 := by rw [hkve]; omega
      have HKV := Lib.hid hkv; have HRW := Lib.hid hrw1
      obtain ⟨htk0, htk1⟩ := htk0
      obtain ⟨hkv0, hkv1⟩ := hkv0
      clear hkv hkve hrw hkb hrw1
      have RK := Lib.hid (Rd.below (w' := w6) H0.out EB6.out)
      go_wp2_with fail
      go_loop [8, 9] (fun wk i => ∃ j : Nat, j ≤ ks.length ∧ wk = .int .i64 (works (ks.take j)) ∧ i = .int .i64 j) (fun _ i => ks.length - (intOf i).toNat)
      case atStart => exact ⟨0, Nat.zero_le _, rfl, rfl⟩
      case round =>
        obtain ⟨j, hj, rfl, rfl⟩ := hrel
        obtain ⟨wk, hwk⟩ : ∃ wk, wk = works (ks.take j) := ⟨_, rfl⟩
        have hw0 : 0 ≤ wk := by rw [hwk]; exact (works_bd _).1
        have hw1 : wk ≤ 18 := by rw [hwk]; have := (works_bd (ks.take j)).2; rw [List.length_take] at this; omega
        rw [← hwk]
        by_cases hlt : j < ks.length
        · obtain ⟨y, hY⟩ : ∃ y, y = ks[j] := ⟨_, rfl⟩
          have hst : works (ks.take (j + 1)) = wk + (if y = 1 then 1 else 0) := by rw [hwk, hY]; exact works_take ks j hlt
          obtain ⟨bK, offK, hAK, hcK⟩ := RK.out (by simp; omega)
          subst hAK
          have hx : w6.cell? ⟨bK, offK + j, none⟩ = some (.int .i64 y) := hcK j _ (by simp [hY, hlt])
          have HST := Lib.hid hst
          clear hcK hwk hY hst
          by_cases hy1 : y = 1
          · subst hy1
            go_wp2_with fail
            go_round
            case rel => exact ⟨j + 1, by omega, by rw [HST.out]; simp, by go_num⟩
            case measure => simp [intOf]; omega
          · have hd : (y == 1) = false := beq_eq_false_iff_ne.2 hy1
            have HY1 := Lib.hid hy1; clear hy1
            go_wp2_with fail
            go_round
            case rel => exact ⟨j + 1, by omega, by rw [HST.out, if_neg HY1.out, Int.add_zero], by go_num⟩
            case measure => simp [intOf]; omega
        · obtain rfl : j = ks.length := by omega
          rw [List.take_length] at hwk
          have HWK := Lib.hid hwk; clear hwk
          have hle : tk + kv ≤ wk := by rw [HWK.out]; exact HRW.out
          go_wp2_with fail
          go_region_held3 (fun w' => w'.cell? ⟨gGV, 0, none⟩ = some (.int .i64 ((zs.length : Int))) ∧ w'.cell? ⟨gGV, 1, none⟩ = some (.int .i64 (tk)) ∧ w'.cell? ⟨gGV, 2, none⟩ = some (.slice AG zs.length cG) ∧ w'.cell? ⟨gGV, 3, none⟩ = some (.bool tb)) (go_keep) ((go_at_call 26; refine (keptWork_c ks _ _ _ _ rfl hcP ?_ (by omega)).mono ?_; exact RK.out; rw [← HKV.out]; rintro e w7 ⟨rfl, b7⟩; have yx := Blk.below (w := w6.drew) EGV6.out b7 (Blk.lt EGV6.out); obtain ⟨k0, k1, k2, k3, kz⟩ := blk4 yx))
          have hbl : Below w1.heap.size w1 w7 := EB6.out.drew.trans (b7.mono EB6.out.size)
          go_wp2_with fail
          go_ret
          have hwr : IntKind.i64.wrap (tk + kv) = tk + kv := by simp only [IntKind.wrap, IntKind.bits, IntKind.signed]; simp; omega
          exact ⟨by first | rfl | (simp [hwr]; omega), EB1.out.trans (hbl.mono EB1.out.size)⟩
    · have hu0 : u < 0 := by rw [← HU.out]; unfold missV; rw [if_neg h16]; decide
      go_wp2_with fail
      refine (equalNest_c _ _ zs _ _ _ _ _ _ _ rfl EG6.out.rd EH6.out.rd (by omega)).mono ?_
      rintro e w7 ⟨rfl, b7⟩
      clear gvq0 gvq1 gvq2 gvq3 gvqz gvql gvqm gvqn hvq0 hvq1 hvq2 hvq3 hvqz hvql hvqm hvqn
      have hG7 : Row w7 w1.heap.size 3 1 AG (zs).length cG ((zs).map (.int .i64)) := EG6.out.below b7
      have hGV7 : Blk w7 gGV 25 #[.int .i64 (zs.length : Int), .int .i64 tk, .slice AG zs.length cG, .bool tb] := Blk.below EGV6.out b7 (Blk.lt EGV6.out)
      have hH7 : Row w7 w1.heap.size 3 1 AH (zs).length cH ((zs).map (.int .i64)) := EH6.out.below b7
      have hHV7 : Blk w7 gHV 25 #[.int .i64 (zs.length : Int), .int .i64 tk, .slice AH zs.length cH, .bool tb] := Blk.below EHV6.out b7 (Blk.lt EHV6.out)
      have hb7 : Below w1.heap.size w1 w7 := EB6.out.trans (b7.mono EB6.out.size)
      have EG7 := Lib.hid hG7; clear hG7
      have EGV7 := Lib.hid hGV7; clear hGV7
      have EH7 := Lib.hid hH7; clear hH7
      have EHV7 := Lib.hid hHV7; clear hHV7
      have EB7 := Lib.hid hb7; clear hb7
      clear EG6 EGV6 EH6 EHV6 EB6 b7
      obtain ⟨gvq0, gvq1, gvq2, gvq3, gvqz⟩ := blk4 EGV7.out
      have gvql := Blk.lt EGV7.out
      have gvqm : ¬ gGV = w7.heap.size := by omega
      have gvqn : ¬ w7.heap.size = gGV := by omega
      obtain ⟨hvq0, hvq1, hvq2, hvq3, hvqz⟩ := blk4 EHV7.out
      have hvql := Blk.lt EHV7.out
      have hvqm : ¬ gHV = w7.heap.size := by omega
      have hvqn : ¬ w7.heap.size = gHV := by omega
      go_wp2_with fail
      go_ret
      exact ⟨by first | rfl | simp | trivial, EB1.out.trans (EB7.out.mono EB1.out.size)⟩

namespace fnRunNestWork
open Go.ChangeShapes Go.WideShapes Go.ChangeAt
open Go.ChangeMaps (open_string shut_string)
theorem own : ownKnob Try.prog.godebug = none := by kernel_rfl
theorem laidOut : laidOutB Try.prog = true := by kernel_rfl
set_option maxRecDepth 100000 in
theorem lifted (os : Os) (started : os.Started) (H : Type) (enc : TypeId × Value → H) :
    ReturnsInHanded {} Try.checked os 7 .any (Rows.fnRunNestWorkSpec.pre6 enc Try.prog Try.f7 Rows.fnRunNestWorkRow.domain false) (Rows.fnRunNestWorkSpec.post enc Try.prog Try.f7 false true false false) := by
  refine returnsInHanded_of_change (C := Try.checked) own started (by kernel_rfl) Try.func7
    (ChangeSpec.witness6 (enc := enc) (C := Try.checked) false ⟨#[], #[.slice none 0 0], []⟩ 8 (by kernel_rfl) (by kernel_rfl) (by kernel_rfl) (by kernel_rfl)) ?_
  intro W base args ds gs before hval0 hW hcnd _
  have hval : ∀ (j : Nat) t v, Try.f7.params[j]? = some t → args[j]? = some v → Value.okWide Try.prog W .any base t v := hval0
  have hW' := hW
  obtain ⟨p, q, hA0, hV, rfl, hfz, hnd⟩ := hW
  have hA : DataW.TrodAll enc Try.prog W 0 (fun _ => true) true Try.f7.params.toList args.toList ds p := hA0
  rw [Try.params7] at hA hval
  obtain ⟨v0, vs0, d0, ds0, p0, q0, hargs, rfl, rfl, h0, r0⟩ := trodAll_cons hA
  obtain ⟨rfl, rfl, rfl⟩ := trodAll_nil r0
  obtain rfl : args = #[v0] := by cases args; simp_all
  obtain ⟨rfl, rfl⟩ := trodVars_none hV
  obtain ⟨a0, n0, c0, rfl⟩ := okWide_slice Try.underlying22 (hval 0 22 v0 rfl rfl)
  have k0 := h0
  have lt0 : ∀ x ∈ p0, x.block < W.heap.size := by obtain ⟨m, hm⟩ := k0; exact DataW.trod_lt m _ _ _ hm
  obtain ⟨z0, e0, lc0, cm0, rd0, wf0⟩ := open_rd_int Try.underlying22 Try.underlying5 (by kernel_rfl) h0
  clear hA0 hval0
  refine (walk_FnRunNestWork (w := W) z0 a0 n0 c0 e0 lc0 cm0 rd0 (fun x hx => wf_u8 (wf0 x hx))).mono fun e W' ⟨he, bel⟩ => ?_
  subst he
  exact ⟨_, rfl, _, _, _, [], _, [], hW', trodAll_mk1 (shut_bool Try.underlying4 _), (trodAll_cons_mk (Below.trod laidOut (by kernel_rfl) (of_decide_eq_true (by kernel_rfl)) k0 bel lt0) trodAll_mk0), rfl, bel.frame _, fun h => by cases h⟩
theorem closed : joinedFacts Try.prog 7 Try.f7 Rows.fnRunNestWorkSpec Rows.fnRunNestWorkRow = true :=
  facts_of mayEnter_ok liftsFinal_ok make_ok (by kernel_rfl)
theorem over : Rows.fnRunNestWorkRow.holds Try.pinned (OpenSpec.ofChange Rows.fnRunNestWorkSpec) :=
  OpenClaim.holds_of_wide 7 Try.f7 rfl rfl rfl rfl rfl rfl rfl ⟨rfl, rfl, rfl, rfl, rfl⟩ rfl rfl rfl rfl rfl (by kernel_rfl) Try.func7 closed
    (of_decide_eq_true (by kernel_rfl)) (by unfold Func.isWrapper; first | (rw [if_pos (by decide +kernel)]; kernel_rfl) | (rw [if_neg (by decide +kernel)]; exact ⟨rfl, rfl⟩))
    (fun os started H enc _ => lifted os started H enc)
/-- THE STATEMENT -/
theorem proved : Rows.FnRunNestWorkSaid := over
end fnRunNestWork
end Go.Proofs.Ytoljmhggkighnab
