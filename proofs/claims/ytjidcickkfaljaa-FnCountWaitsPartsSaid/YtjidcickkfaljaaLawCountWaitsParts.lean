/- FnCountWaitsParts: for every code the law returns true, and what was there is as it was. No condition. -/
import Derived.Test.YtjidcickkfaljaaRows
import Derived.Deep.RegionWith
import Derived.Test.YtjidcickkfaljaaMark
import Derived.Test.YtjidcickkfaljaaCntUnder
import Derived.Test.YtjidcickkfaljaaDrawW
import Derived.Test.YtjidcickkfaljaaPlainD
import Derived.Test.YtjidcickkfaljaaOpen
set_option linter.unusedVariables false
set_option linter.unusedSimpArgs false
set_option linter.unnecessarySimpa false
namespace Go.Proofs.Ytjidcickkfaljaa
open Go.RowKit

theorem countWaits_cases (ws : List Int) : (countWaits ws = [] ) ∨ (ws.length ≤ 16 ∧ allB 0 1000 ws = true ∧ countWaits ws = tally ws) := by
  by_cases h : ws.length ≤ 16 ∧ allB 0 1000 ws = true
  · exact .inr ⟨h.1, h.2, countWaits_yes ws h.1 h.2⟩
  · exact .inl (if_neg h)
theorem parts_add (ws : List Int) (k : Nat) (h1 : ws.length ≤ 16) (h2 : allB 0 1000 ws = true) :
    addOk (countWaits (ws.take k)) (countWaits (ws.drop k)) = true ∧ addCounts (countWaits (ws.take k)) (countWaits (ws.drop k)) = tally ws := by
  have hx := (allB_iff 0 1000 ws).1 h2
  have e1 : countWaits (ws.take k) = tally (ws.take k) := countWaits_yes _ (by rw [List.length_take]; omega) ((allB_iff _ _ _).2 fun x hx' => hx x (List.mem_of_mem_take hx'))
  have e2 : countWaits (ws.drop k) = tally (ws.drop k) := countWaits_yes _ (by rw [List.length_drop]; omega) ((allB_iff _ _ _).2 fun x hx' => hx x (List.mem_of_mem_drop hx'))
  have e3 : addL (tally (ws.take k)) (tally (ws.drop k)) = tally ws := by rw [← tally_append, List.take_append_drop]
  have ho : addOk (tally (ws.take k)) (tally (ws.drop k)) = true := by
    unfold addOk
    rw [e3, tally_valid _ (by rw [List.length_take]; omega), tally_valid _ (by rw [List.length_drop]; omega), tally_valid _ (by omega)]; rfl
  rw [e1, e2]
  exact ⟨ho, by unfold addCounts; rw [ho, if_pos rfl, e3]⟩
theorem countWaits_len (ws : List Int) : (countWaits ws).length ≤ 8 := by
  rcases countWaits_cases ws with h | ⟨_, _, h⟩
  · rw [h]; simp
  · rw [h, tally_length]; omega
theorem half_int (n : Nat) : (n : Int) / 2 = ((n / 2 : Nat) : Int) := by omega
set_option maxRecDepth 100000 in
set_option maxHeartbeats 4000000 in
theorem walk_FnCountWaitsParts (zs : List Int) (A : Option Addr) (n c : Nat) (hN : zs.length = n) (hc : n ≤ c) (hm : c ≤ maxLen) {w : World} (h : Rd w A (zs.map (.int .u8))) (hz : ∀ z ∈ zs, 0 ≤ z ∧ z ≤ 255) :
    Calls Try.prog 9 #[.slice A n c] w fun e w' => e = .returned (.bool true) ∧ Below w.heap.size w w' := by
  have HD := Lib.hid (drawCountWaits_c zs A n c w hN hc hm h hz)
  clear h hz hN
  unfold maxLen at hm
  by_cases hbig : 1048576 < n
  · go_enter Try.func9, Try.ntmps9
    go_wp2
    go_ret
    exact ⟨rfl, Below.refl _ _⟩
  · go_enter Try.func9, Try.ntmps9
    go_wp2_with fail
    refine HD.out.mono ?_
    rintro e w1 ⟨AP, cP, ws, rfl, hl1, hc1, fP, b1⟩
    obtain ⟨zs, hzs⟩ : ∃ zs, zs = countWaits ws := ⟨_, rfl⟩
    have hcs := countWaits_cases ws
    have hzl : zs.length ≤ 8 := by
      rcases hcs with h | ⟨_, _, h⟩
      · rw [hzs, h]; simp
      · rw [hzs, h, tally_length]; omega
    rw [← hzs] at hcs
    have HCS := Lib.hid hcs; have HZ := Lib.hid hzs; clear hzs hcs
    go_wp2_with fail
    refine (countWaits_c ws _ _ _ _ rfl fP.rd (by omega)).mono ?_
    rw [← HZ.out]
    rintro e w2 ⟨AG, cG, rfl, o2, b2'⟩
    have q2 : Row w2 w1.heap.size 3 1 AG (zs).length cG ((zs).map (.int .i64)) := Row.of_own o2
    have hs2 := b1.size
    have rP2 : Frd w2 w.heap.size AP ((ws).map (.int .i64)) := fP.below b2'
    have b2 : Below w.heap.size w w2 := b1.trans (b2'.mono b1.size)
    clear fP b1
    have rG2 : Row w2 w.heap.size 3 1 AG (zs).length cG ((zs).map (.int .i64)) := q2.mono hs2
    clear q2 o2 b2' hs2
    go_wp2_with fail
    refine (sCountWaits_c ws _ _ _ _ rfl rP2.rd (by omega)).mono ?_
    rw [← HZ.out]
    rintro e w3 ⟨AH, cH, rfl, o3, b3'⟩
    have q3 : Row w3 w2.heap.size 3 1 AH (zs).length cH ((zs).map (.int .i64)) := Row.of_own o3
    have hs3 := b2.size
    have apGH := Lib.hid (row_apart rG2 q3 (Nat.le_refl _))
    have rP3 : Frd w3 w.heap.size AP ((ws).map (.int .i64)) := rP2.below b3'
    have rG3 : Row w3 w.heap.size 3 1 AG (zs).length cG ((zs).map (.int .i64)) := rG2.below b3'
    have b3 : Below w.heap.size w w3 := b2.trans (b3'.mono b2.size)
    clear rP2 rG2 b2
    have rH3 : Row w3 w.heap.size 3 1 AH (zs).length cH ((zs).map (.int .i64)) := q3.mono hs3
    clear q3 o3 b3' hs3
    go_wp2_with fail
    refine (equalInts_c zs zs _ _ _ _ _ _ _ rfl rfl rG3.rd rH3.rd (by omega) (by omega)).mono ?_
    rw [decide_eq_true rfl]
    rintro e w4 ⟨rfl, m4, hw4⟩
    have rP4 : Frd w4 w.heap.size AP ((ws).map (.int .i64)) := by rw [hw4]; exact rP3
    have rG4 : Row w4 w.heap.size 3 1 AG (zs).length cG ((zs).map (.int .i64)) := by rw [hw4]; exact rG3
    have rH4 : Row w4 w.heap.size 3 1 AH (zs).length cH ((zs).map (.int .i64)) := by rw [hw4]; exact rH3
    have b4 : Below w.heap.size w w4 := by rw [hw4]; exact below_drewN b3 _
    clear hw4 rP3 rG3 rH3 b3
    clear rH4
    rcases Nat.eq_zero_or_pos zs.length with h0 | h0
    · have h0' : ((zs.length : Int) == 0) = true := beq_iff_eq.2 (by omega)
      have H0 := Lib.hid h0; clear h0
      go_wp2_with fail
      refine (sCountWaits_c ws _ _ _ _ rfl rP4.rd (by omega)).mono ?_
      rw [← HZ.out]
      rintro e w5 ⟨AK, cK, rfl, o5, b5'⟩
      have q5 : Row w5 w4.heap.size 3 1 AK (zs).length cK ((zs).map (.int .i64)) := Row.of_own o5
      have hs5 := b4.size
      have apGK := Lib.hid (row_apart rG4 q5 (Nat.le_refl _))
      have rP5 : Frd w5 w.heap.size AP ((ws).map (.int .i64)) := rP4.below b5'
      have rG5 : Row w5 w.heap.size 3 1 AG (zs).length cG ((zs).map (.int .i64)) := rG4.below b5'
      have b5 : Below w.heap.size w w5 := b4.trans (b5'.mono b4.size)
      clear rP4 rG4 b4
      have rK5 : Row w5 w.heap.size 3 1 AK (zs).length cK ((zs).map (.int .i64)) := q5.mono hs5
      clear q5 o5 b5' hs5
      go_wp2_with fail
      refine (equalInts_c zs zs _ _ _ _ _ _ _ rfl rfl rG5.rd rK5.rd (by omega) (by omega)).mono ?_
      rw [decide_eq_true rfl]
      rintro e w6 ⟨rfl, m6, hw6⟩
      have rP6 : Frd w6 w.heap.size AP ((ws).map (.int .i64)) := by rw [hw6]; exact rP5
      have rG6 : Row w6 w.heap.size 3 1 AG (zs).length cG ((zs).map (.int .i64)) := by rw [hw6]; exact rG5
      have rK6 : Row w6 w.heap.size 3 1 AK (zs).length cK ((zs).map (.int .i64)) := by rw [hw6]; exact rK5
      have b6 : Below w.heap.size w w6 := by rw [hw6]; exact below_drewN b5 _
      clear hw6 rP5 rG5 rK5 b5
      go_wp2_with fail
      go_ret
      exact ⟨rfl, b6⟩
    · obtain ⟨h16, hall, hz⟩ : ws.length ≤ 16 ∧ allB 0 1000 ws = true ∧ zs = tally ws := by
        rcases HCS.out with h | h
        · rw [h] at h0; simp at h0
        · exact h
      have h0' : ((zs.length : Int) == 0) = false := beq_eq_false_iff_ne.2 (by omega)
      obtain ⟨pk, po⟩ := parts_add ws (ws.length / 2) h16 hall
      obtain ⟨xs, hxs⟩ : ∃ xs, xs = countWaits (ws.take (ws.length / 2)) := ⟨_, rfl⟩
      obtain ⟨ys, hys⟩ : ∃ ys, ys = countWaits (ws.drop (ws.length / 2)) := ⟨_, rfl⟩
      have hxl : xs.length ≤ 8 := by rw [hxs]; exact countWaits_len _
      have hyl : ys.length ≤ 8 := by rw [hys]; exact countWaits_len _
      rw [← hxs, ← hys] at pk po
      rw [← hz] at po
      have hfr := rP4.rd
      have hhalf := half_int ws.length
      obtain ⟨k, hk⟩ : ∃ k, k = ws.length / 2 := ⟨_, rfl⟩
      rw [← hk] at hxs hys hhalf
      have hkn : k ≤ ws.length := by omega
      have h1 : ∀ W, Below w4.heap.size w4 W → Calls Try.prog 21 #[.slice AP k cP] W (RetInts xs W) := by
        intro W hW
        rw [hxs]
        exact countWaits_c (ws.take k) AP k cP W (by rw [List.length_take]; omega) (by rw [List.map_take]; exact (hfr.below hW).take _) (by omega)
      have h2 : ∀ W, Below w4.heap.size w4 W → Calls Try.prog 21 #[.slice (if cP = k then AP else AP.map (·.add k)) (ws.length - k) (cP - k)] W (RetInts ys W) := by
        intro W hW
        rw [hys]
        refine countWaits_c (ws.drop k) _ _ _ W (by rw [List.length_drop]) ?_ (by omega)
        have := (hfr.below hW).cut (k := k) (n := ws.length) (cap := cP) (by simp) hkn hc1
        rw [← List.map_drop] at this
        exact this
      have PK := Lib.hid pk; have PO := Lib.hid po; have HHF := Lib.hid hhalf
      have RG := Lib.hid rG4.rd
      have BW := Lib.hid b4
      clear hz hall hxs hys pk po hfr hk hhalf h0 rG4 b4 rP4
      by_cases hck : cP = k
      · subst hck
        simp only [if_true, Nat.sub_self] at h2
        rw [show ws.length - cP = 0 by omega] at h2
        have H1 := Lib.hid h1; have H2 := Lib.hid h2; clear h1 h2
        go_wp2_with fail
        rw [HHF.out]
        go_region_with (first
          | (go_at_call 21; (with_reducible refine (H1.out _ ?_).mono ?_); (first | exact (Below.refl _ _).drew | exact bQ'); rintro e wA ⟨A7, c7, rfl, oA, bA⟩; have bA' : Below w4.heap.size w4 wA := (by first | exact (Below.refl _ _).drew.trans bA | exact bQ'.trans (bA.mono bQ'.size)))
          | (go_at_call 21; (with_reducible refine (H2.out _ ?_).mono ?_); (first | exact (Below.refl _ _).drew | exact bA'); rintro e wB ⟨A8, c8, rfl, oB, bQ⟩; have bQ' : Below w4.heap.size w4 wB := (by first | exact (Below.refl _ _).drew.trans bQ | exact bA'.trans (bQ.mono bA'.size)))
          | (go_at_call 14; (with_reducible refine (addCounts_c xs ys _ _ _ _ _ _ _ rfl ?_ ?_ rfl ?_ ?_).mono ?_); (first | exact Rd.of_own (own_below oA bQ) | exact Rd.of_own oA); omega; (first | exact Rd.of_own (own_below oB bA) | exact Rd.of_own oB); omega; rw [PK.out, PO.out]; rintro e wE ⟨A9, c9, rfl, oE, bE⟩; have bE' : Below w4.heap.size w4 wE := (by first | exact bQ'.trans (bE.mono bQ'.size) | exact bA'.trans (bE.mono bA'.size))))
        all_goals
          go_wp2_with fail
          refine (equalInts_c zs zs _ _ _ _ _ _ _ rfl rfl (Rd.of_own oE) (RG.out.below bE') (by omega) (by omega)).mono ?_
          rw [decide_eq_true rfl]
          rintro e w9 ⟨rfl, m9, rfl⟩
          go_wp2_with fail
          go_ret
          exact ⟨rfl, below_drewN (BW.out.trans (bE'.mono BW.out.size)) _⟩
      · simp only [if_neg hck] at h2
        have H1 := Lib.hid h1; have H2 := Lib.hid h2; clear h1 h2
        go_wp2_with fail
        rw [HHF.out]
        go_region_with (first
          | (go_at_call 21; (with_reducible refine (H1.out _ ?_).mono ?_); (first | exact (Below.refl _ _).drew | exact bQ'); rintro e wA ⟨A7, c7, rfl, oA, bA⟩; have bA' : Below w4.heap.size w4 wA := (by first | exact (Below.refl _ _).drew.trans bA | exact bQ'.trans (bA.mono bQ'.size)))
          | (go_at_call 21; (with_reducible refine (H2.out _ ?_).mono ?_); (first | exact (Below.refl _ _).drew | exact bA'); rintro e wB ⟨A8, c8, rfl, oB, bQ⟩; have bQ' : Below w4.heap.size w4 wB := (by first | exact (Below.refl _ _).drew.trans bQ | exact bA'.trans (bQ.mono bA'.size)))
          | (go_at_call 14; (with_reducible refine (addCounts_c xs ys _ _ _ _ _ _ _ rfl ?_ ?_ rfl ?_ ?_).mono ?_); (first | exact Rd.of_own (own_below oA bQ) | exact Rd.of_own oA); omega; (first | exact Rd.of_own (own_below oB bA) | exact Rd.of_own oB); omega; rw [PK.out, PO.out]; rintro e wE ⟨A9, c9, rfl, oE, bE⟩; have bE' : Below w4.heap.size w4 wE := (by first | exact bQ'.trans (bE.mono bQ'.size) | exact bA'.trans (bE.mono bA'.size))))
        all_goals
          go_wp2_with fail
          refine (equalInts_c zs zs _ _ _ _ _ _ _ rfl rfl (Rd.of_own oE) (RG.out.below bE') (by omega) (by omega)).mono ?_
          rw [decide_eq_true rfl]
          rintro e w9 ⟨rfl, m9, rfl⟩
          go_wp2_with fail
          go_ret
          exact ⟨rfl, below_drewN (BW.out.trans (bE'.mono BW.out.size)) _⟩

namespace fnCountWaitsParts
open Go.ChangeShapes Go.WideShapes Go.ChangeAt
open Go.ChangeMaps (open_string shut_string)
theorem own : ownKnob Try.prog.godebug = none := by kernel_rfl
theorem laidOut : laidOutB Try.prog = true := by kernel_rfl
set_option maxRecDepth 100000 in
theorem lifted (os : Os) (started : os.Started) (H : Type) (enc : TypeId × Value → H) :
    ReturnsInHanded {} Try.checked os 9 .any (Rows.fnCountWaitsPartsSpec.pre6 enc Try.prog Try.f9 Rows.fnCountWaitsPartsRow.domain false) (Rows.fnCountWaitsPartsSpec.post enc Try.prog Try.f9 false true false false) := by
  refine returnsInHanded_of_change (C := Try.checked) own started (by kernel_rfl) Try.func9
    (ChangeSpec.witness6 (enc := enc) (C := Try.checked) false ⟨#[], #[.slice none 0 0], []⟩ 8 (by kernel_rfl) (by kernel_rfl) (by kernel_rfl) (by kernel_rfl)) ?_
  intro W base args ds gs before hval0 hW hcnd _
  have hval : ∀ (j : Nat) t v, Try.f9.params[j]? = some t → args[j]? = some v → Value.okWide Try.prog W .any base t v := hval0
  have hW' := hW
  obtain ⟨p, q, hA0, hV, rfl, hfz, hnd⟩ := hW
  have hA : DataW.TrodAll enc Try.prog W 0 (fun _ => true) true Try.f9.params.toList args.toList ds p := hA0
  rw [Try.params9] at hA hval
  obtain ⟨v0, vs0, d0, ds0, p0, q0, hargs, rfl, rfl, h0, r0⟩ := trodAll_cons hA
  obtain ⟨rfl, rfl, rfl⟩ := trodAll_nil r0
  obtain rfl : args = #[v0] := by cases args; simp_all
  obtain ⟨rfl, rfl⟩ := trodVars_none hV
  obtain ⟨a0, n0, c0, rfl⟩ := okWide_slice Try.underlying32 (hval 0 32 v0 rfl rfl)
  have k0 := h0
  have lt0 : ∀ x ∈ p0, x.block < W.heap.size := by obtain ⟨m, hm⟩ := k0; exact DataW.trod_lt m _ _ _ hm
  obtain ⟨z0, e0, lc0, cm0, rd0, wf0⟩ := open_rd_int Try.underlying32 Try.underlying5 (by kernel_rfl) h0
  clear hA0 hval0
  refine (walk_FnCountWaitsParts (w := W) z0 a0 n0 c0 e0 lc0 cm0 rd0 (fun x hx => wf_u8 (wf0 x hx))).mono fun e W' ⟨he, bel⟩ => ?_
  subst he
  exact ⟨_, rfl, _, _, _, [], _, [], hW', trodAll_mk1 (shut_bool Try.underlying4 _), (trodAll_cons_mk (Below.trod laidOut (by kernel_rfl) (of_decide_eq_true (by kernel_rfl)) k0 bel lt0) trodAll_mk0), rfl, bel.frame _, fun h => by cases h⟩
theorem closed : joinedFacts Try.prog 9 Try.f9 Rows.fnCountWaitsPartsSpec Rows.fnCountWaitsPartsRow = true :=
  facts_of mayEnter_ok liftsFinal_ok make_ok (by kernel_rfl)
theorem over : Rows.fnCountWaitsPartsRow.holds Try.pinned (OpenSpec.ofChange Rows.fnCountWaitsPartsSpec) :=
  OpenClaim.holds_of_wide 9 Try.f9 rfl rfl rfl rfl rfl rfl rfl ⟨rfl, rfl, rfl, rfl, rfl⟩ rfl rfl rfl rfl rfl (by kernel_rfl) Try.func9 closed
    (of_decide_eq_true (by kernel_rfl)) (by unfold Func.isWrapper; first | (rw [if_pos (by decide +kernel)]; kernel_rfl) | (rw [if_neg (by decide +kernel)]; exact ⟨rfl, rfl⟩))
    (fun os started H enc _ => lifted os started H enc)
/-- THE STATEMENT -/
theorem proved : Rows.FnCountWaitsPartsSaid := over
end fnCountWaitsParts
end Go.Proofs.Ytjidcickkfaljaa
