/- FnExactFormatPool: for every pool the law returns true, and what was there is as it was. No condition. -/
import Derived.Test.YtnmgnhpagnjhlaaDoorCards
import Derived.Test.YtnmgnhpagnjhlaaDoorTie
import Derived.Test.YtnmgnhpagnjhlaaDoorPoolFmtI
import Derived.Test.YtnmgnhpagnjhlaaDoorOpenP
set_option linter.unusedVariables false
set_option linter.unusedSimpArgs false
set_option linter.unnecessarySimpa false
namespace Go.Proofs.YtnmgnhpagnjhlaaDoor
open Go.RowKit

set_option maxRecDepth 100000 in
set_option maxHeartbeats 8000000 in
theorem walk_FnExactFormatPool (mx : Int) (ids : List Int) (hs : List Pr) (wt : List Int) (A : Option Addr) (n c : Nat) (B : Option Addr) (m d : Nat) (C : Option Addr) (k f : Nat) (hmx : -9223372036854775808 ≤ mx ∧ mx ≤ 9223372036854775807)
    (hA : ids.length = n) (hB : hs.length = m) (hC : wt.length = k) (c1 : n ≤ c) (m1 : c ≤ maxLen) (c2 : m ≤ d) (m2 : d ≤ maxLen) (c3 : k ≤ f) (m3 : f ≤ maxLen) {w : World} (h1 : Rd w A (ids.map (.int .i64))) (h2 : Rd w B (sc hs)) (h3 : Rd w C (wt.map (.int .i64))) :
    Calls Tryd.prog 3 #[.agg #[.int .i64 mx, .slice A n c, .slice B m d, .slice C k f]] w fun e w' => e = .returned (.bool true) ∧ Below w.heap.size w w' := by
  subst hA hB hC
  unfold maxLen at m1 m2 m3
  obtain ⟨T, hT⟩ : ∃ T, T = Pl.fmt ⟨mx, ids, hs, wt⟩ := ⟨_, rfl⟩
  obtain ⟨w1, hw1⟩ : ∃ w1, w1 = w.alloc (.cells #[.int .i64 mx, .slice A ids.length c, .slice B hs.length d, .slice C wt.length f] 25) := ⟨_, rfl⟩
  have hg : w1.heap.size = w.heap.size + 1 := by rw [hw1]; simp
  have hgl : w.heap.size < w1.heap.size := by omega
  have H1 := Lib.hid (show Rd w1 A _ by rw [hw1]; exact h1.alloc _)
  have H2 := Lib.hid (show Rd w1 B _ by rw [hw1]; exact h2.alloc _)
  have H3 := Lib.hid (show Rd w1 C _ by rw [hw1]; exact h3.alloc _)
  have BX := Lib.hid (show Blk w1 w.heap.size 25 #[.int .i64 mx, .slice A ids.length c, .slice B hs.length d, .slice C wt.length f] by rw [hw1]; exact Blk.new w _ _)
  have B01 := Lib.hid (show Below w.heap.size w w1 by rw [hw1]; exact (Below.refl _ _).alloc (Nat.le_refl _) _)
  have FIN := Lib.hid (fun (W : World) (hW : Below w1.heap.size w1 W) => (B01.out.trans (hW.mono (by omega)) : Below w.heap.size w W))
  obtain ⟨k0, k1, k2, k3, _⟩ := blk4 BX.out
  have HSZ := Lib.hid (szPool_c mx A ids.length c B hs.length d C wt.length f w1 (by omega) (by omega) (by omega))
  clear h1 h2 h3
  by_cases hbig : 1048576 < ids.length + hs.length + wt.length
  · rw [if_pos hbig] at HSZ
    go_enter Tryd.func3, Tryd.ntmps3
    go_wp2_with fail
    rw [← hw1]
    clear hw1
    refine HSZ.out.mono ?_
    rintro e w2 ⟨rfl, b2⟩
    go_wp2_with fail
    go_ret
    exact ⟨rfl, FIN.out _ b2⟩
  · rw [if_neg hbig] at HSZ
    obtain ⟨l, hl⟩ : ∃ l : Int, l = 1048576 - ((ids.length + hs.length + wt.length : Nat) : Int) := ⟨_, rfl⟩
    have hl1 : decide (l < 0) = false := decide_eq_false (by omega)
    rw [← hl] at HSZ
    have l1 : ids.length ≤ 1073741824 := by omega
    have l2 : hs.length ≤ 1073741824 := by omega
    have l3 : wt.length ≤ 1073741824 := by omega
    have TO := Lib.hid (fun (W : World) (q1 : Rd W A _) (q2 : Rd W B _) (q3 : Rd W C _) => toPool_c mx ids hs wt A _ c B _ d C _ f W rfl rfl rfl q1 q2 q3 l1 l2 l3)
    have SF := Lib.hid (fun A c B d C f W q1 q2 q3 => sFormatPool_c mx ids hs wt A _ c B _ d C _ f W rfl rfl rfl q1 q2 q3 l1 l2 l3)
    have IF := Lib.hid (fun A c B d C f W q1 q2 q3 (hc : ids.length ≤ c) => formatPool_c mx ids hs wt A _ c B _ d C _ f W rfl rfl rfl q1 q2 q3 l1 l2 l3 hc)
    have EQ := Lib.hid (fun A c B d C f A' c' B' d' C' f' W q1 q2 q3 q4 q5 q6 => eqPool_c mx ids hs wt A _ c B _ d C _ f A' c' B' d' C' f' W rfl rfl rfl q1 q2 q3 q4 q5 q6 l1 l2 l3)
    rw [← hT] at SF IF
    clear hl hbig hT
    go_enter Tryd.func3, Tryd.ntmps3
    go_wp2_with fail
    rw [← hw1]
    clear hw1
    refine HSZ.out.mono ?_
    rintro e w2 ⟨rfl, b2⟩
    have B2 := Lib.hid b2
    clear k0 k1 k2 k3 b2
    obtain ⟨k0, k1, k2, k3, _⟩ := blk4 (BX.out.below B2.out hgl)
    go_wp2_with fail
    refine (TO.out _ (H1.out.below B2.out) (H2.out.below B2.out) (H3.out.below B2.out)).mono ?_
    rintro e w3 ⟨A1, a1, A2, a2, A3, a3, rfl, r1, r2, r3, b3⟩
    have B3 := Lib.hid (B2.out.trans (b3.mono B2.out.size))
    have Q1 := Lib.hid r1.rd; have Q2 := Lib.hid r2.rd; have Q3 := Lib.hid r3.rd
    clear k0 k1 k2 k3 b3 r1 r2 r3
    go_wp2_with fail
    refine (SF.out _ _ _ _ _ _ _ Q1.out Q2.out Q3.out).mono ?_
    rintro e w4 ⟨rfl, b4⟩
    have B4 := Lib.hid (B3.out.trans (b4.mono B3.out.size))
    clear b4 Q1 Q2 Q3
    obtain ⟨k0, k1, k2, k3, _⟩ := blk4 (BX.out.below B4.out hgl)
    go_wp2_with fail
    refine (TO.out _ (H1.out.below B4.out) (H2.out.below B4.out) (H3.out.below B4.out)).mono ?_
    rintro e w5 ⟨A1, a1, A2, a2, A3, a3, rfl, r1, r2, r3, b5⟩
    have B5 := Lib.hid (B4.out.trans (b5.mono B4.out.size))
    obtain ⟨w6, hw6⟩ : ∃ w6, w6 = w5.alloc (.cells #[.int .i64 mx, .slice A1 ids.length a1, .slice A2 hs.length a2, .slice A3 wt.length a3] 30) := ⟨_, rfl⟩
    have B56 := Lib.hid (show Below w5.heap.size w5 w6 by rw [hw6]; exact (Below.refl _ _).alloc (Nat.le_refl _) _)
    have B6 := Lib.hid (B5.out.trans (B56.out.mono B5.out.size))
    have BX6 := Lib.hid (show Blk w6 w5.heap.size 30 #[.int .i64 mx, .slice A1 ids.length a1, .slice A2 hs.length a2, .slice A3 wt.length a3] by rw [hw6]; exact Blk.new w5 _ _)
    have hg6 : w5.heap.size < w6.heap.size := by rw [hw6]; simp
    have Q1 := Lib.hid (r1.rd.below B56.out); have Q2 := Lib.hid (r2.rd.below B56.out); have Q3 := Lib.hid (r3.rd.below B56.out)
    have hca := r1.le
    clear k0 k1 k2 k3 b5 r1 r2 r3
    go_wp2_with fail
    try rw [← hw6]
    clear hw6
    refine (IF.out _ _ _ _ _ _ _ Q1.out Q2.out Q3.out hca).mono ?_
    rintro e w7 ⟨rfl, b7⟩
    have B7 := Lib.hid (B6.out.trans (b7.mono B6.out.size))
    have R1 := Lib.hid (Q1.out.below b7); have R2 := Lib.hid (Q2.out.below b7); have R3 := Lib.hid (Q3.out.below b7)
    obtain ⟨j0, j1, j2, j3, _⟩ := blk4 (BX6.out.below b7 hg6)
    obtain ⟨k0, k1, k2, k3, _⟩ := blk4 (BX.out.below B7.out hgl)
    have hgl7 : w.heap.size < w7.heap.size := Nat.lt_of_lt_of_le hgl B7.out.size
    have hg67 : w5.heap.size < w7.heap.size := Nat.lt_of_lt_of_le hg6 b7.size
    have J := Lib.hid (BX6.out.below b7 hg6)
    clear b7 Q1 Q2 Q3
    go_wp2_with fail
    go_region_held3 (fun w' => w'.cell? ⟨w.heap.size, 0, none⟩ = some (.int .i64 mx) ∧ w'.cell? ⟨w.heap.size, 1, none⟩ = some (.slice A ids.length c) ∧ w'.cell? ⟨w.heap.size, 2, none⟩ = some (.slice B hs.length d) ∧ w'.cell? ⟨w.heap.size, 3, none⟩ = some (.slice C wt.length f) ∧ w'.cell? ⟨w5.heap.size, 0, none⟩ = some (.int .i64 mx) ∧ w'.cell? ⟨w5.heap.size, 1, none⟩ = some (.slice A1 ids.length a1) ∧ w'.cell? ⟨w5.heap.size, 2, none⟩ = some (.slice A2 hs.length a2) ∧ w'.cell? ⟨w5.heap.size, 3, none⟩ = some (.slice A3 wt.length a3)) (go_keep) ((first
      | (go_at_call 8; (with_reducible refine (TO.out _ ((H1.out.below B7.out).drew) ((H2.out.below B7.out).drew) ((H3.out.below B7.out).drew)).mono ?_); rintro e w8 ⟨A4, a4, A5, a5, A6, a6, rfl, r1, r2, r3, b8⟩; have BB := Lib.hid (arm_drew b8).1; have kk0 := (BB.out.cell (p := ⟨w.heap.size, 0, none⟩) hgl7).trans k0; have kk1 := (BB.out.cell (p := ⟨w.heap.size, 1, none⟩) hgl7).trans k1; have kk2 := (BB.out.cell (p := ⟨w.heap.size, 2, none⟩) hgl7).trans k2; have kk3 := (BB.out.cell (p := ⟨w.heap.size, 3, none⟩) hgl7).trans k3; have jj0 := (BB.out.cell (p := ⟨w5.heap.size, 0, none⟩) hg67).trans j0; have jj1 := (BB.out.cell (p := ⟨w5.heap.size, 1, none⟩) hg67).trans j1; have jj2 := (BB.out.cell (p := ⟨w5.heap.size, 2, none⟩) hg67).trans j2; have jj3 := (BB.out.cell (p := ⟨w5.heap.size, 3, none⟩) hg67).trans j3; have P1 := Lib.hid r1.rd; have P2 := Lib.hid r2.rd; have P3 := Lib.hid r3.rd)
      | (go_at_call 10; (with_reducible refine (EQ.out _ _ _ _ _ _ _ _ _ _ _ _ _ (R1.out.below BB.out) (R2.out.below BB.out) (R3.out.below BB.out) P1.out P2.out P3.out).mono ?_); rintro e w9 ⟨rfl, b9⟩; have B9 := Lib.hid (BB.out.trans (b9.mono BB.out.size)); have m0 := (B9.out.cell (p := ⟨w.heap.size, 0, none⟩) hgl7).trans k0; have m1 := (B9.out.cell (p := ⟨w.heap.size, 1, none⟩) hgl7).trans k1; have m2 := (B9.out.cell (p := ⟨w.heap.size, 2, none⟩) hgl7).trans k2; have m3 := (B9.out.cell (p := ⟨w.heap.size, 3, none⟩) hgl7).trans k3; have n0 := (B9.out.cell (p := ⟨w5.heap.size, 0, none⟩) hg67).trans j0; have n1 := (B9.out.cell (p := ⟨w5.heap.size, 1, none⟩) hg67).trans j1; have n2 := (B9.out.cell (p := ⟨w5.heap.size, 2, none⟩) hg67).trans j2; have n3 := (B9.out.cell (p := ⟨w5.heap.size, 3, none⟩) hg67).trans j3)
      | fail))
    all_goals
      clear b8 b9 r1 r2 r3
      go_wp2_with fail
      go_ret
      exact ⟨rfl, FIN.out _ (B7.out.trans (B9.out.mono B7.out.size))⟩

namespace fnExactFormatPool
open Go.ChangeShapes Go.WideShapes Go.ChangeAt
open Go.ChangeMaps (open_string shut_string)
theorem own : ownKnob Tryd.prog.godebug = none := by kernel_rfl
theorem laidOut : laidOutB Tryd.prog = true := by kernel_rfl
set_option maxRecDepth 100000 in
theorem lifted (os : Os) (started : os.Started) (H : Type) (enc : TypeId × Value → H) :
    ReturnsInHanded {} Tryd.checked os 3 .any (fun w args => (Rows.fnExactFormatPoolSpec.pre enc Tryd.prog Tryd.f3 Rows.fnExactFormatPoolRow.domain false w args ∧ laidMetH Tryd.prog Rows.fnExactFormatPoolRow.laid w) ∧ sizedMet enc Tryd.prog Tryd.f3 (OpenSpec.ofChange Rows.fnExactFormatPoolSpec) false w args)
      (Rows.fnExactFormatPoolSpec.post enc Tryd.prog Tryd.f3 false true false false) := by
  refine returnsInHanded_of_change_and (C := Tryd.checked) (X := fun w _ => laidMetH Tryd.prog Rows.fnExactFormatPoolRow.laid w) (fun _ _ _ hh h => h.of_heap hh) own started (by kernel_rfl) Tryd.func3
    (ChangeSpec.witness_shaped (enc := enc) (C := Tryd.checked) (os := os) (X := fun w _ => laidMetH Tryd.prog Rows.fnExactFormatPoolRow.laid w) false (World.laidAll Tryd.prog os Rows.fnExactFormatPoolRow.laid) #[.agg #[.int .i64 0, .slice none 0 0, .slice none 0 0, .slice none 0 0]] 8 (World.laidAll_os _ _ _)
      (World.shaped_of_ZipB (by kernel_rfl) (by kernel_rfl)) (by kernel_rfl) (by kernel_rfl) (by kernel_rfl)
      (by rw [MakeChecks.laidMetH_plain _ _ _ (by kernel_rfl)]; exact laidMet_laidAll _ (by kernel_rfl) (by kernel_rfl))) ?_
  intro W base args ds gs before hval0 hW hcnd _ hL _
  have hval : ∀ (j : Nat) t v, Tryd.f3.params[j]? = some t → args[j]? = some v → Value.okWide Tryd.prog W .any base t v := hval0
  have hW' := hW
  obtain ⟨p, q, hA0, hV, rfl, hfz, hnd⟩ := hW
  have hA : DataW.TrodAll enc Tryd.prog W 0 (fun _ => true) true Tryd.f3.params.toList args.toList ds p := hA0
  rw [Tryd.params3] at hA hval
  obtain ⟨v0, vs0, d0, ds0, p0, q0, hargs, rfl, rfl, h0, r0⟩ := trodAll_cons hA
  obtain ⟨rfl, rfl, rfl⟩ := trodAll_nil r0
  obtain rfl : args = #[v0] := by cases args; simp_all
  obtain ⟨rfl, rfl⟩ := trodVars_none hV
  have k0 := h0
  have lt0 : ∀ x ∈ p0, x.block < W.heap.size := by obtain ⟨m, hm⟩ := k0; exact DataW.trod_lt m _ _ _ hm
  obtain ⟨x0, a0, n0, c0, aa0, m0, d0, ab0, l0, f0, z0, za0, zb0, rfl, w0, e0, lc0, cm0, rd0, ea0, la0, ca0, ra0, eb0, lb0, cb0, rb0⟩ := open_ispi Tryd.underlying25 (by kernel_rfl) (by kernel_rfl) (by kernel_rfl) Tryd.underlying22 Tryd.underlying23 Tryd.underlying22 Tryd.underlying3 (by kernel_rfl) Tryd.underlying58 (by kernel_rfl) rfl rfl (by kernel_rfl) (by kernel_rfl) Tryd.underlying3 Tryd.underlying3 (hval 0 25 v0 rfl rfl) h0
  clear hA0 hval0
  refine (walk_FnExactFormatPool (w := W) x0 z0 za0 zb0 a0 n0 c0 aa0 m0 d0 ab0 l0 f0 (wf_i64 w0) e0 ea0 eb0 lc0 cm0 la0 ca0 lb0 cb0 rd0 ra0 rb0).mono fun e W' ⟨he, bel⟩ => ?_
  subst he
  exact ⟨_, rfl, _, _, _, [], _, [], hW', trodAll_mk1 (shut_bool Tryd.underlying4 _), (trodAll_cons_mk (Below.trod laidOut (by kernel_rfl) (of_decide_eq_true (by kernel_rfl)) k0 bel lt0) trodAll_mk0), rfl, bel.frame _, fun h => by cases h⟩
theorem closed : joinedFacts Tryd.prog 3 Tryd.f3 Rows.fnExactFormatPoolSpec Rows.fnExactFormatPoolRow = true := by kernel_rfl
theorem over : Rows.fnExactFormatPoolRow.holds Tryd.pinned (OpenSpec.ofChange Rows.fnExactFormatPoolSpec) :=
  OpenClaim.holds_of_wide 3 Tryd.f3 rfl rfl rfl rfl rfl rfl rfl ⟨rfl, rfl, rfl, rfl, rfl⟩ rfl rfl rfl rfl rfl (by kernel_rfl) Tryd.func3 closed
    (of_decide_eq_true (by kernel_rfl)) (by unfold Func.isWrapper; first | (rw [if_pos (by decide +kernel)]; kernel_rfl) | (rw [if_neg (by decide +kernel)]; exact ⟨rfl, rfl⟩))
    (fun os started H enc _ => lifted os started H enc)
/-- THE STATEMENT: the tied card. -/
theorem proved : Rows.FnExactFormatPoolCardSaid :=
  Claim7.holds_tied_plain_at .later [] [.data, .data, .data] true (true, "addf9c7cac5bcf0a956d53dd88fdb6867cd31fffb845a34dfe585dc92098f1d3") false over (fun _ h => by cases h) (by kernel_rfl) (fun _ h => by cases h) fnExactFormatPool_row_tie rfl ⟨rfl, rfl⟩ (by kernel_rfl) rfl
    (fun f fn hf hfn => by
      obtain rfl : f = 3 := Option.some.inj ((show Tryd.prog.funcNamed "loop.example/connectionpool/laws.FnExactFormatPool" = some 3 by kernel_rfl).symm.trans hf) |>.symm
      obtain rfl : fn = Tryd.f3 := (Option.some.inj (Tryd.func3.symm.trans hfn)).symm
      exact ⟨by kernel_rfl, fun j t ht => by
        rw [Tryd.params3] at ht
        have hm : t ∈ [25] := by simpa using Array.mem_of_getElem? ht
        have hall : ([25].all fun u => !Tryd.prog.wantsStandIn u) = true := by kernel_rfl
        exact (show Tryd.prog.wantsStandIn t = false by simpa using List.all_eq_true.1 hall t hm)⟩)
    (by kernel_rfl)
end fnExactFormatPool
end Go.Proofs.YtnmgnhpagnjhlaaDoor
