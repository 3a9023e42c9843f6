/- FnKeptWorkSimple: for every code the law returns true, and what was there is as it was. No condition. -/
import Derived.Test.YtoljmhggkighnabRows
import Derived.Test.YtoljmhggkighnabNestLaw
import Derived.Test.YtoljmhggkighnabNestDraw
import Derived.Test.YtoljmhggkighnabOpenC
import Derived.Test.YtoljmhggkighnabNestRunI
set_option linter.unusedVariables false
set_option linter.unusedSimpArgs false
set_option linter.unnecessarySimpa false
namespace Go.Proofs.Ytoljmhggkighnab
open Go.RowKit

theorem four_new (w : World) (a b c d : Value) (t : TypeId) : Rd (w.alloc (.cells #[a, b, c, d] t)) (some ⟨w.heap.size, 0, none⟩) [a, b, c, d] := fun _ => ⟨w.heap.size, 0, rfl, fun j u hu => by
  have hb := Blk.new w t #[a, b, c, d]
  obtain ⟨q0, q1, q2, q3, qz⟩ := blk4 hb
  match j, hu with
  | 0, hu => simp at hu; subst hu; exact q0
  | 1, hu => simp at hu; subst hu; exact q1
  | 2, hu => simp at hu; subst hu; exact q2
  | 3, hu => simp at hu; subst hu; exact q3
  | (n + 4), hu => simp at hu⟩
set_option maxRecDepth 100000 in
set_option maxHeartbeats 16000000 in
theorem walk_FnKeptWorkSimple (zs : List Int) (A : Option Addr) (n c : Nat) (hN : zs.length = n) (hc : n ≤ c) (hm : c ≤ maxLen) {w : World} (h : Rd w A (zs.map (.int .u8))) (hz : ∀ z ∈ zs, 0 ≤ z ∧ z ≤ 255) :
    Calls Try.prog 11 #[.slice A n c] w fun e w' => e = .returned (.bool true) ∧ Below w.heap.size w w' := by
  have HD := Lib.hid (drawKeptWork_c zs A n c w hN hc hm h hz)
  clear h hz hN
  unfold maxLen at hm
  by_cases hbig : 1048576 < n
  · go_enter Try.func11, Try.ntmps11
    go_wp2
    go_ret
    exact ⟨rfl, Below.refl _ _⟩
  · go_enter Try.func11, Try.ntmps11
    go_wp2_with fail
    refine HD.out.mono ?_
    rintro e w1 ⟨AP, cP, ks, rfl, hl, hcP, fP, b1⟩
    have EB1 := Lib.hid b1; clear b1
    have H0 := Lib.hid fP.rd; clear fP
    obtain ⟨u, hu⟩ : ∃ u, u = keptV ks := ⟨_, rfl⟩
    have HU := Lib.hid hu.symm; clear hu
    obtain ⟨i0, i0_i, i0_z0, i0_z1, i0_z2⟩ := info_parts intInfo
    obtain ⟨t, ht⟩ : ∃ t, t = runV ks := ⟨_, rfl⟩
    obtain ⟨m, hm0⟩ : ∃ m, m = missV ks := ⟨_, rfl⟩
    have hbd : t.marks.length ≤ 4 := by rw [ht]; exact runV_le ks
    have HT := Lib.hid ht.symm; have HM := Lib.hid hm0.symm
    clear ht hm0
    obtain ⟨tk, zs, tb⟩ := t
    simp only at hbd
    go_wp2_with fail
    refine (keptWork_c ks _ _ _ _ rfl hcP (Rd.below (w' := w1) H0.out (Below.refl w1.heap.size w1)) (by omega)).mono ?_
    rw [HU.out]
    rintro e w2 ⟨rfl, b2⟩
    have hb2 : Below w1.heap.size w1 w2 := (Below.refl w1.heap.size w1).trans (b2.mono (Below.refl w1.heap.size w1).size)
    have EB2 := Lib.hid hb2; clear hb2
    clear  b2
    go_wp2_with fail
    refine (runNest_c ks _ _ _ _ rfl hcP (Rd.below (w' := w2) H0.out EB2.out) (by omega)).mono ?_
    rw [HT.out, HM.out]
    rintro e w3 ⟨AG, cG, rfl, q3, b3⟩
    have r3 : Row w3 w2.heap.size 3 1 AG (zs).length cG ((zs).map (.int .i64)) := q3
    have R3 := Lib.hid (r3.mono EB2.out.size); clear r3 q3
    have hb3 : Below w1.heap.size w1 w3 := EB2.out.trans (b3.mono EB2.out.size)
    have EB3 := Lib.hid hb3; clear hb3
    clear EB2 b3
    go_wp2_with fail
    obtain ⟨w4, hw4⟩ : ∃ W, W = w3.alloc (.cells #[.int .i64 (zs.length : Int), .int .i64 tk, .slice AG zs.length cG, .bool tb] 25) := ⟨_, rfl⟩
    obtain ⟨gGV, hgGV⟩ : ∃ g, g = w3.heap.size := ⟨_, rfl⟩
    rw [← hw4, ← hgGV]
    have hv4 : Blk w4 gGV 25 #[.int .i64 (zs.length : Int), .int .i64 tk, .slice AG zs.length cG, .bool tb] := by rw [hw4, hgGV]; exact Blk.new _ _ _
    have V4 := Lib.hid hv4; clear hv4
    have hgeGV : w1.heap.size ≤ gGV := by rw [hgGV]; exact EB3.out.size
    have HSZGV := Lib.hid (show w4.heap.size = gGV + 1 by rw [hw4, hgGV]; simp)
    have hG4 : Row w4 w1.heap.size 3 1 AG (zs).length cG ((zs).map (.int .i64)) := by rw [hw4]; exact R3.out.alloc _
    have hb4 : Below w1.heap.size w1 w4 := by rw [hw4]; exact EB3.out.alloc EB3.out.size _
    have EG4 := Lib.hid hG4; clear hG4
    have EB4 := Lib.hid hb4; clear hb4
    clear R3 EB3 hw4 hgGV
    obtain ⟨gvq0, gvq1, gvq2, gvq3, gvqz⟩ := blk4 V4.out
    have gvql := Blk.lt V4.out
    have gvqm : ¬ gGV = w4.heap.size := by omega
    have gvqn : ¬ w4.heap.size = gGV := by omega
    go_wp2_with fail
    refine (sKeptWork_c ks _ _ _ _ rfl hcP (Rd.below (w' := w4) H0.out EB4.out) (by omega)).mono ?_
    rw [HU.out]
    rintro e w5 ⟨rfl, b5⟩
    clear gvq0 gvq1 gvq2 gvq3 gvqz gvql gvqm gvqn
    have hG5 : Row w5 w1.heap.size 3 1 AG (zs).length cG ((zs).map (.int .i64)) := EG4.out.below b5
    have hGV5 : Blk w5 gGV 25 #[.int .i64 (zs.length : Int), .int .i64 tk, .slice AG zs.length cG, .bool tb] := Blk.below V4.out b5 (Blk.lt V4.out)
    have hb5 : Below w1.heap.size w1 w5 := EB4.out.trans (b5.mono EB4.out.size)
    have EG5 := Lib.hid hG5; clear hG5
    have EGV5 := Lib.hid hGV5; clear hGV5
    have EB5 := Lib.hid hb5; clear hb5
    clear EG4 V4 EB4 b5
    obtain ⟨gvq0, gvq1, gvq2, gvq3, gvqz⟩ := blk4 EGV5.out
    have gvql := Blk.lt EGV5.out
    have gvqm : ¬ gGV = w5.heap.size := by omega
    have gvqn : ¬ w5.heap.size = gGV := by omega
    by_cases h12 : ks.length ≤ 12 ∧ zs.length = 0
    · obtain ⟨h12, hz0⟩ := h12
      obtain rfl : zs = [] := List.eq_nil_of_length_eq_zero hz0
      have gv0 : w5.cell? ⟨gGV, 0, none⟩ = some (.int .i64 0) := gvq0
      have gv2 : w5.cell? ⟨gGV, 2, none⟩ = some (.slice AG 0 cG) := gvq2
      clear gvq0 gvq2
      have hue : u = kept ks := by rw [← HU.out]; unfold keptV; rw [if_pos (by omega)]
      have hu0 : 0 ≤ u := by rw [hue]; exact (kept_bd ks).1
      have hu1 : u ≤ ks.length := by rw [hue]; exact (kept_bd ks).2
      have hts : runS ks = ⟨tk, [], tb⟩ := by rw [← HT.out]; unfold runV; rw [if_pos (by omega)]
      have hks : keptV (ks ++ [0, 1, 1, 3]) = u + 2 := by
        unfold keptV
        rw [if_pos (by simp; omega), kept_simple ks (by rw [hts]; exact hz0), hue]
      have HKS := Lib.hid hks
      have RK := Lib.hid (Rd.below (w' := w5) H0.out EB5.out)
      clear hue hts hks hz0
      go_wp2_with (at_builtin; (refine wpList_append_any _ rfl (.tmp 42) (.tmp 43) 23 rfl w5.heap.size 3 i0 (.int .i64 0) 8 Try.underlying23 i0_i i0_z0 i0_z1 i0_z2 rfl (.slice (some ⟨w5.heap.size, 0, none⟩) 0 0) (0) ([]) rfl (World.ownsRow_lit _ #[] 0 (Nat.le_refl _) (by simp [maxLen]) rfl) (AP) (ks.length) (cP) (ks.map (.int .i64)) rfl (by simp) (RK.out.alloc _) (int1 .i64 ks) (by unfold maxLen; omega) (by omega) (by simp <;> omega) ?_))
      intro A2 c2 w2 own2 hg2 _
      have bb2 : Below w5.heap.size w5 w2 := ((Below.refl w5.heap.size w5).alloc (Nat.le_refl _) _).grown hg2 (by simp) (fun y hy => by simp [Value.ownBlock] at hy; omega)
      have hs2 := bb2.size
      try simp only [Nat.zero_add, List.nil_append] at own2
      clear hg2
      go_wp2_with (at_builtin; (refine wpList_append_any _ rfl (.tmp 44) (.tmp 45) 23 rfl w5.heap.size 3 i0 (.int .i64 0) 8 Try.underlying23 i0_i i0_z0 i0_z1 i0_z2 rfl (.slice A2 ks.length c2) (ks.length) (ks.map (.int .i64)) rfl (own2.alloc _) (some ⟨w2.heap.size, 0, none⟩) (4) (4) ([0, 1, 1, 3].map (.int .i64)) rfl rfl (four_new _ _ _ _ _ _) (int1 .i64 [0, 1, 1, 3]) (by unfold maxLen; omega) (by omega) (by simp <;> omega) ?_))
      intro A3 c3 w3 own3 hg3 _
      have bb3 : Below w5.heap.size w5 w3 := (bb2.alloc (by simpa using hs2) _).grown hg3 (by simp <;> omega) (fun y hy => (own2.lt y hy).1)
      clear hg3 own2 bb2 hs2
      have own4 : w3.ownsRow w5.heap.size 3 1 (.slice A3 (ks.length + 4) c3) (ks.length + 4) ((ks ++ [0, 1, 1, 3]).map (Value.int .i64)) := by rw [List.map_append]; exact own3
      go_wp2_with fail
      refine (keptWork_c (ks ++ [0, 1, 1, 3]) _ _ _ _ (by simp) (own_cap own4) (Rd.of_own own4) (by omega)).mono ?_
      rw [HKS.out]
      rintro e w4 ⟨rfl, b4⟩
      have hbl : Below w1.heap.size w1 w4 := (EB5.out.trans (bb3.mono EB5.out.size)).trans (b4.mono (by have h8 := bb3.size; have h9 := EB5.out.size; omega))
      clear bb3 own3 own4
      go_wp2_with fail
      go_ret
      exact ⟨by first | rfl | (simp; done), EB1.out.trans (hbl.mono EB1.out.size)⟩
    · have hno : u < 0 ∨ (0 ≤ u ∧ (((zs.length : Int) == 0) = false ∨ (((zs.length : Int) == 0) = true ∧ (12 : Int) < ks.length))) := by
        by_cases h1 : u < 0
        · exact .inl h1
        · refine .inr ⟨by omega, ?_⟩
          by_cases h2 : zs.length = 0
          · exact .inr ⟨by simp [h2], by omega⟩
          · exact .inl (beq_eq_false_iff_ne.2 (by omega))
      clear h12
      rcases hno with h1 | ⟨h1, h2 | ⟨h2, h3⟩⟩
      · go_wp2_with fail
        refine (sKeptWork_c ks _ _ _ _ rfl hcP (Rd.below (w' := w5) H0.out EB5.out) (by omega)).mono ?_
        rw [HU.out]
        rintro e w6 ⟨rfl, b6⟩
        clear gvq0 gvq1 gvq2 gvq3 gvqz gvql gvqm gvqn
        have hG6 : Row w6 w1.heap.size 3 1 AG (zs).length cG ((zs).map (.int .i64)) := EG5.out.below b6
        have hGV6 : Blk w6 gGV 25 #[.int .i64 (zs.length : Int), .int .i64 tk, .slice AG zs.length cG, .bool tb] := Blk.below EGV5.out b6 (Blk.lt EGV5.out)
        have hb6 : Below w1.heap.size w1 w6 := EB5.out.trans (b6.mono EB5.out.size)
        have EG6 := Lib.hid hG6; clear hG6
        have EGV6 := Lib.hid hGV6; clear hGV6
        have EB6 := Lib.hid hb6; clear hb6
        clear EG5 EGV5 EB5 b6
        obtain ⟨gvq0, gvq1, gvq2, gvq3, gvqz⟩ := blk4 EGV6.out
        have gvql := Blk.lt EGV6.out
        have gvqm : ¬ gGV = w6.heap.size := by omega
        have gvqn : ¬ w6.heap.size = gGV := by omega
        go_wp2_with fail
        go_ret
        exact ⟨by first | rfl | simp | trivial, EB1.out.trans (EB6.out.mono EB1.out.size)⟩
      · have hzn : ¬ zs = [] := fun e => by subst e; simp at h2
        go_wp2_with fail
        refine (sKeptWork_c ks _ _ _ _ rfl hcP (Rd.below (w' := w5) H0.out EB5.out) (by omega)).mono ?_
        rw [HU.out]
        rintro e w6 ⟨rfl, b6⟩
        clear gvq0 gvq1 gvq2 gvq3 gvqz gvql gvqm gvqn
        have hG6 : Row w6 w1.heap.size 3 1 AG (zs).length cG ((zs).map (.int .i64)) := EG5.out.below b6
        have hGV6 : Blk w6 gGV 25 #[.int .i64 (zs.length : Int), .int .i64 tk, .slice AG zs.length cG, .bool tb] := Blk.below EGV5.out b6 (Blk.lt EGV5.out)
        have hb6 : Below w1.heap.size w1 w6 := EB5.out.trans (b6.mono EB5.out.size)
        have EG6 := Lib.hid hG6; clear hG6
        have EGV6 := Lib.hid hGV6; clear hGV6
        have EB6 := Lib.hid hb6; clear hb6
        clear EG5 EGV5 EB5 b6
        obtain ⟨gvq0, gvq1, gvq2, gvq3, gvqz⟩ := blk4 EGV6.out
        have gvql := Blk.lt EGV6.out
        have gvqm : ¬ gGV = w6.heap.size := by omega
        have gvqn : ¬ w6.heap.size = gGV := by omega
        go_wp2_with fail
        go_ret
        exact ⟨by first | rfl | simp | trivial, EB1.out.trans (EB6.out.mono EB1.out.size)⟩
      · obtain rfl : zs = [] := by cases zs with | nil => rfl | cons a l => exfalso; simp at h2; omega
        have gv0 : w5.cell? ⟨gGV, 0, none⟩ = some (.int .i64 0) := gvq0
        have gv2 : w5.cell? ⟨gGV, 2, none⟩ = some (.slice AG 0 cG) := gvq2
        clear gvq0 gvq2 h2
        go_wp2_with fail
        refine (sKeptWork_c ks _ _ _ _ rfl hcP (Rd.below (w' := w5) H0.out EB5.out) (by omega)).mono ?_
        rw [HU.out]
        rintro e w6 ⟨rfl, b6⟩
        clear gvq1 gvq3 gvqz gvql gvqm gvqn
        have hG6 : Row w6 w1.heap.size 3 1 AG ([]).length cG (([]).map (.int .i64)) := EG5.out.below b6
        have hGV6 : Blk w6 gGV 25 #[.int .i64 ([].length : Int), .int .i64 tk, .slice AG [].length cG, .bool tb] := Blk.below EGV5.out b6 (Blk.lt EGV5.out)
        have hb6 : Below w1.heap.size w1 w6 := EB5.out.trans (b6.mono EB5.out.size)
        have EG6 := Lib.hid hG6; clear hG6
        have EGV6 := Lib.hid hGV6; clear hGV6
        have EB6 := Lib.hid hb6; clear hb6
        clear EG5 EGV5 EB5 b6
        obtain ⟨gvq0, gvq1, gvq2, gvq3, gvqz⟩ := blk4 EGV6.out
        have gvql := Blk.lt EGV6.out
        have gvqm : ¬ gGV = w6.heap.size := by omega
        have gvqn : ¬ w6.heap.size = gGV := by omega
        go_wp2_with fail
        go_ret
        exact ⟨by first | rfl | simp | trivial, EB1.out.trans (EB6.out.mono EB1.out.size)⟩

namespace fnKeptWorkSimple
open Go.ChangeShapes Go.WideShapes Go.ChangeAt
open Go.ChangeMaps (open_string shut_string)
theorem own : ownKnob Try.prog.godebug = none := by kernel_rfl
theorem laidOut : laidOutB Try.prog = true := by kernel_rfl
set_option maxRecDepth 100000 in
theorem lifted (os : Os) (started : os.Started) (H : Type) (enc : TypeId × Value → H) :
    ReturnsInHanded {} Try.checked os 11 .any (Rows.fnKeptWorkSimpleSpec.pre6 enc Try.prog Try.f11 Rows.fnKeptWorkSimpleRow.domain false) (Rows.fnKeptWorkSimpleSpec.post enc Try.prog Try.f11 false true false false) := by
  refine returnsInHanded_of_change (C := Try.checked) own started (by kernel_rfl) Try.func11
    (ChangeSpec.witness6 (enc := enc) (C := Try.checked) false ⟨#[], #[.slice none 0 0], []⟩ 8 (by kernel_rfl) (by kernel_rfl) (by kernel_rfl) (by kernel_rfl)) ?_
  intro W base args ds gs before hval0 hW hcnd _
  have hval : ∀ (j : Nat) t v, Try.f11.params[j]? = some t → args[j]? = some v → Value.okWide Try.prog W .any base t v := hval0
  have hW' := hW
  obtain ⟨p, q, hA0, hV, rfl, hfz, hnd⟩ := hW
  have hA : DataW.TrodAll enc Try.prog W 0 (fun _ => true) true Try.f11.params.toList args.toList ds p := hA0
  rw [Try.params11] at hA hval
  obtain ⟨v0, vs0, d0, ds0, p0, q0, hargs, rfl, rfl, h0, r0⟩ := trodAll_cons hA
  obtain ⟨rfl, rfl, rfl⟩ := trodAll_nil r0
  obtain rfl : args = #[v0] := by cases args; simp_all
  obtain ⟨rfl, rfl⟩ := trodVars_none hV
  obtain ⟨a0, n0, c0, rfl⟩ := okWide_slice Try.underlying22 (hval 0 22 v0 rfl rfl)
  have k0 := h0
  have lt0 : ∀ x ∈ p0, x.block < W.heap.size := by obtain ⟨m, hm⟩ := k0; exact DataW.trod_lt m _ _ _ hm
  obtain ⟨z0, e0, lc0, cm0, rd0, wf0⟩ := open_rd_int Try.underlying22 Try.underlying5 (by kernel_rfl) h0
  clear hA0 hval0
  refine (walk_FnKeptWorkSimple (w := W) z0 a0 n0 c0 e0 lc0 cm0 rd0 (fun x hx => wf_u8 (wf0 x hx))).mono fun e W' ⟨he, bel⟩ => ?_
  subst he
  exact ⟨_, rfl, _, _, _, [], _, [], hW', trodAll_mk1 (shut_bool Try.underlying4 _), (trodAll_cons_mk (Below.trod laidOut (by kernel_rfl) (of_decide_eq_true (by kernel_rfl)) k0 bel lt0) trodAll_mk0), rfl, bel.frame _, fun h => by cases h⟩
theorem closed : joinedFacts Try.prog 11 Try.f11 Rows.fnKeptWorkSimpleSpec Rows.fnKeptWorkSimpleRow = true :=
  facts_of mayEnter_ok liftsFinal_ok make_ok (by kernel_rfl)
theorem over : Rows.fnKeptWorkSimpleRow.holds Try.pinned (OpenSpec.ofChange Rows.fnKeptWorkSimpleSpec) :=
  OpenClaim.holds_of_wide 11 Try.f11 rfl rfl rfl rfl rfl rfl rfl ⟨rfl, rfl, rfl, rfl, rfl⟩ rfl rfl rfl rfl rfl (by kernel_rfl) Try.func11 closed
    (of_decide_eq_true (by kernel_rfl)) (by unfold Func.isWrapper; first | (rw [if_pos (by decide +kernel)]; kernel_rfl) | (rw [if_neg (by decide +kernel)]; exact ⟨rfl, rfl⟩))
    (fun os started H enc _ => lifted os started H enc)
/-- THE STATEMENT -/
theorem proved : Rows.FnKeptWorkSimpleSaid := over
end fnKeptWorkSimple
end Go.Proofs.Ytoljmhggkighnab
