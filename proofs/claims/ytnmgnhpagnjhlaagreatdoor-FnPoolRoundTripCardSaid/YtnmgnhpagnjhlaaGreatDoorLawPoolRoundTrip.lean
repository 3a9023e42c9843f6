/- FnPoolRoundTrip: for every code the law returns true, and what was there is as it was. No condition. -/
import Derived.Test.YtnmgnhpagnjhlaaGreatDoorCards
import Derived.Test.YtnmgnhpagnjhlaaGreatDoorTie
import Derived.Test.YtnmgnhpagnjhlaaGreatDoorDoorP
import Derived.Test.YtnmgnhpagnjhlaaGreatDoorDrawQ
import Derived.Test.YtnmgnhpagnjhlaaGreatDoorCnt
import Derived.Test.YtnmgnhpagnjhlaaGreatDoorParsePI
import Derived.Test.YtnmgnhpagnjhlaaGreatDoorMarkP
import Derived.Test.YtnmgnhpagnjhlaaGreatDoorOpen
import Derived.Deep.Cut
set_option linter.unusedVariables false
set_option linter.unusedSimpArgs false
set_option linter.unnecessarySimpa false
namespace Go.Proofs.YtnmgnhpagnjhlaaGreatDoor
open Go.RowKit

set_option maxRecDepth 100000 in
set_option maxHeartbeats 8000000 in
theorem walk_FnPoolRoundTrip (zs : List Int) (A : Option Addr) (n c : Nat) (hN : zs.length = n) (hc : n ≤ c) (hm : c ≤ maxLen) {w : World} (h : Rd w A (zs.map (.int .u8))) (hz : ∀ z ∈ zs, 0 ≤ z ∧ z ≤ 255) (E : Env w) :
    Calls Tryz.prog 3 #[.slice A n c] w fun e w' => e = .returned (.bool true) ∧ Below w.heap.size w w' := by
  have HD := Lib.hid (drawFormatPool_c zs A n c w hN hc hm h hz)
  have HE := Lib.hid E
  clear h hz hN E
  unfold maxLen at hm
  by_cases hbig : 1048576 < n
  · go_enter Tryz.func3, Tryz.ntmps3
    go_wp2
    go_ret
    exact ⟨rfl, Below.refl _ _⟩
  · go_enter Tryz.func3, Tryz.ntmps3
    go_wp2_with fail
    refine HD.out.mono ?_
    rintro e w1 ⟨A1, a1, B1, b1, C1, c1, P, rfl, ⟨e1, e2, e3⟩, pr, bl1⟩
    have hs1 : w.heap.size ≤ w1.heap.size := bl1.size
    obtain ⟨w2, hw2⟩ : ∃ w2, w2 = w1.alloc (.cells #[.int .i64 P.mx, .slice A1 P.ids.length a1, .slice B1 P.hs.length b1, .slice C1 P.wt.length c1] 26) := ⟨_, rfl⟩
    have BP := Lib.hid (show Blk w2 w1.heap.size 26 #[.int .i64 P.mx, .slice A1 P.ids.length a1, .slice B1 P.hs.length b1, .slice C1 P.wt.length c1] by rw [hw2]; exact Blk.new w1 _ _)
    have PR := Lib.hid (show PRow w2 w.heap.size P A1 a1 B1 b1 C1 c1 by rw [hw2]; exact pr.alloc _)
    have HB := Lib.hid (show Below w.heap.size w w2 by rw [hw2]; exact bl1.alloc hs1 _)
    have hgp : w1.heap.size < w2.heap.size := by rw [hw2]; simp
    clear pr bl1 HD
    go_upto_region 4 with fail
    rw [← hw2]
    clear hw2
    obtain ⟨T, hT⟩ : ∃ T, T = P.fmt := ⟨_, rfl⟩
    have SF := Lib.hid (fun W (q : PRow W w.heap.size P A1 a1 B1 b1 C1 c1) => (show Calls Tryz.prog 13 #[.agg #[.int .i64 P.mx, .slice A1 P.ids.length a1, .slice B1 P.hs.length b1, .slice C1 P.wt.length c1]] W (fun e w' => e = .returned (.string T) ∧ Below W.heap.size W w') from by rw [hT]; exact sFormatPool_c P.mx P.ids P.hs P.wt A1 _ a1 B1 _ b1 C1 _ c1 W rfl rfl rfl q.1.rd q.2.1.rd q.2.2.1.rd (by omega) (by omega) (by omega)))
    have IF := Lib.hid (fun W (q : PRow W w.heap.size P A1 a1 B1 b1 C1 c1) => (show Calls Tryz.prog 12 #[.agg #[.int .i64 P.mx, .slice A1 P.ids.length a1, .slice B1 P.hs.length b1, .slice C1 P.wt.length c1]] W (fun e w' => e = .returned (.string T) ∧ Below W.heap.size W w') from by rw [hT]; exact formatPool_c P.mx P.ids P.hs P.wt A1 _ a1 B1 _ b1 C1 _ c1 W rfl rfl rfl q.1.rd q.2.1.rd q.2.2.1.rd (by omega) (by omega) (by omega) q.1.le))
    have HT := Lib.hid hT
    clear hT
    obtain ⟨k0, k1, k2, k3, kfz⟩ := blk4 BP.out
    go_wp2_with fail
    refine (IF.out _ PR.out).mono ?_
    rintro e w3 ⟨rfl, bl3⟩
    have BP3 := Lib.hid (BP.out.below bl3 hgp); have PR3 := Lib.hid (PR.out.below bl3); have HB3 := Lib.hid (HB.out.trans (bl3.mono HB.out.size))
    have hgp3 : w1.heap.size < w3.heap.size := BP3.out.lt
    clear bl3 k0 k1 k2 k3 kfz PR BP HB
    obtain ⟨k0, k1, k2, k3, kfz⟩ := blk4 BP3.out
    go_wp2_with fail
    refine (SF.out _ PR3.out).mono ?_
    rintro e w4 ⟨rfl, bl4⟩
    have BP4 := Lib.hid (BP3.out.below bl4 hgp3); have PR4 := Lib.hid (PR3.out.below bl4); have HB4 := Lib.hid (HB3.out.trans (bl4.mono HB3.out.size))
    have hgp4 : w1.heap.size < w4.heap.size := BP4.out.lt
    clear bl4 k0 k1 k2 k3 kfz PR3 BP3 HB3
    obtain ⟨k0, k1, k2, k3, kfz⟩ := blk4 BP4.out
    obtain ⟨em, hem⟩ : ∃ em, em = T.toList.isEmpty := ⟨_, rfl⟩
    cases em
    · have hv : P.valid = true := by
        cases hv : P.valid with
        | true => rfl
        | false =>
          have h0 := hem
          rw [HT.out] at h0
          unfold Pl.fmt at h0
          rw [hv] at h0
          simp only [Bool.false_eq_true, if_false, bsof_empty] at h0
      have hTT : T = bsof P.text := by rw [HT.out]; unfold Pl.fmt; rw [if_pos hv]
      have hgd := valid_good.1 hv
      have hsz := pool_size P hgd T hTT
      have hTl : T.data.toList = P.text := by rw [hTT]; rfl
      have HP := Lib.hid (fun W (hW : Env W) => (show Calls Tryz.prog 14 #[.string T] W (RetPS (some P) W) from by have := parsePool_c T W (by omega) hW; rw [hTl, poolS_text hgd] at this; exact this))
      have hem' := hem.symm
      clear hTT hv hgd hem HT hTl
      go_wp2_with fail
      refine (HP.out _ (HE.out.below HB4.out)).mono ?_
      rintro e w5 ⟨A5, a5, B5, b5, C5, c5, rfl, pr5, bl5⟩
      simp only [Option.getD_some, Option.isSome_some] at pr5 ⊢
      have hs4 : w.heap.size ≤ w4.heap.size := HB4.out.size
      have hs5 : w4.heap.size ≤ w5.heap.size := bl5.size
      obtain ⟨w6, hw6⟩ : ∃ w6, w6 = w5.alloc (.cells #[.int .i64 P.mx, .slice A5 P.ids.length a5, .slice B5 P.hs.length b5, .slice C5 P.wt.length c5] 26) := ⟨_, rfl⟩
      have BQ := Lib.hid (show Blk w6 w5.heap.size 26 #[.int .i64 P.mx, .slice A5 P.ids.length a5, .slice B5 P.hs.length b5, .slice C5 P.wt.length c5] by rw [hw6]; exact Blk.new w5 _ _)
      have PR5 := Lib.hid (show PRow w6 w4.heap.size P A5 a5 B5 b5 C5 c5 by rw [hw6]; exact pr5.alloc _)
      have PR6 := Lib.hid (show PRow w6 w.heap.size P A1 a1 B1 b1 C1 c1 by rw [hw6]; exact (PR4.out.below bl5).alloc _)
      have BP6 := Lib.hid (show Blk w6 w1.heap.size 26 #[.int .i64 P.mx, .slice A1 P.ids.length a1, .slice B1 P.hs.length b1, .slice C1 P.wt.length c1] by rw [hw6]; exact (BP4.out.below bl5 hgp4).alloc _)
      have HB6 := Lib.hid (show Below w.heap.size w w6 by rw [hw6]; exact (HB4.out.trans (bl5.mono hs4)).alloc (by omega) _)
      have EQ := Lib.hid (equalPool_c P.mx P.ids P.hs P.wt A5 _ a5 B5 _ b5 C5 _ c5 A1 a1 B1 b1 C1 c1 w6 rfl rfl rfl PR5.out.1.rd PR5.out.2.1.rd PR5.out.2.2.1.rd PR6.out.1.rd PR6.out.2.1.rd PR6.out.2.2.1.rd (by omega) (by omega) (by omega))
      clear pr5 bl5 PR4 BP4 HB4 k0 k1 k2 k3 kfz
      go_upto_region 8 with fail
      rw [← hw6]
      clear hw6
      obtain ⟨k0, k1, k2, k3, kfz⟩ := blk4 BP6.out
      obtain ⟨m0, m1, m2, m3, mfz⟩ := blk4 BQ.out
      go_wp2_with fail
      refine EQ.out.mono ?_
      rintro e w7 ⟨rfl, bl7⟩
      go_wp2_with fail
      go_ret
      exact ⟨by first | rfl | simp, HB6.out.trans (bl7.mono HB6.out.size)⟩
    · have hem' := hem.symm
      clear hem
      go_wp2_with fail
      refine (SF.out _ PR4.out).mono ?_
      rintro e w5 ⟨rfl, bl5⟩
      go_wp2_with fail
      go_ret
      exact ⟨by first | rfl | simp, HB4.out.trans (bl5.mono HB4.out.size)⟩

namespace fnPoolRoundTrip
open Go.ChangeShapes Go.WideShapes Go.ChangeAt
open Go.ChangeMaps (open_string shut_string)
theorem own : ownKnob Tryz.prog.godebug = none := by kernel_rfl
theorem laidOut : laidOutB Tryz.prog = true := by kernel_rfl
set_option maxRecDepth 100000 in
theorem lifted (os : Os) (started : os.Started) (H : Type) (enc : TypeId × Value → H) :
    ReturnsInHanded {} Tryz.checked os 3 .any (fun w args => (Rows.fnPoolRoundTripSpec.pre enc Tryz.prog Tryz.f3 Rows.fnPoolRoundTripRow.domain false w args ∧ laidMetH Tryz.prog Rows.fnPoolRoundTripRow.laid w) ∧ sizedMet enc Tryz.prog Tryz.f3 (OpenSpec.ofChange Rows.fnPoolRoundTripSpec) false w args)
      (Rows.fnPoolRoundTripSpec.post enc Tryz.prog Tryz.f3 false true false false) := by
  refine returnsInHanded_and_shaped (C := Tryz.checked) (X := fun w _ => laidMetH Tryz.prog Rows.fnPoolRoundTripRow.laid w) (fun _ _ _ hh h => h.of_heap hh) own started (by kernel_rfl) Tryz.func3
    (ChangeSpec.witness_shaped (enc := enc) (C := Tryz.checked) (os := os) (X := fun w _ => laidMetH Tryz.prog Rows.fnPoolRoundTripRow.laid w) false (World.laidAll Tryz.prog os Rows.fnPoolRoundTripRow.laid) #[.slice none 0 0] 8 (World.laidAll_os _ _ _)
      (World.shaped_of_ZipB (by kernel_rfl) (by kernel_rfl)) (by kernel_rfl) (by kernel_rfl) (by kernel_rfl)
      (by rw [MakeChecks.laidMetH_plain _ _ _ (by kernel_rfl)]; exact laidMet_laidAll _ (by kernel_rfl) (by kernel_rfl))) ?_
  intro W base args ds gs before hval0 hW hcnd _ hL hsh _
  have hval : ∀ (j : Nat) t v, Tryz.f3.params[j]? = some t → args[j]? = some v → Value.okWide Tryz.prog W .any base t v := hval0
  have hW' := hW
  obtain ⟨p, q, hA0, hV, rfl, hfz, hnd⟩ := hW
  have hA : DataW.TrodAll enc Tryz.prog W 0 (fun _ => true) true Tryz.f3.params.toList args.toList ds p := hA0
  rw [Tryz.params3] at hA hval
  obtain ⟨v0, vs0, d0, ds0, p0, q0, hargs, rfl, rfl, h0, r0⟩ := trodAll_cons hA
  obtain ⟨rfl, rfl, rfl⟩ := trodAll_nil r0
  obtain rfl : args = #[v0] := by cases args; simp_all
  obtain ⟨rfl, rfl⟩ := trodVars_none hV
  obtain ⟨a0, n0, c0, rfl⟩ := okWide_slice Tryz.underlying22 (hval 0 22 v0 rfl rfl)
  have k0 := h0
  have lt0 : ∀ x ∈ p0, x.block < W.heap.size := by obtain ⟨m, hm⟩ := k0; exact DataW.trod_lt m _ _ _ hm
  obtain ⟨z0, e0, lc0, cm0, rd0, wf0⟩ := open_rd_int Tryz.underlying22 Tryz.underlying5 (by kernel_rfl) h0
  clear hA0 hval0
  refine (walk_FnPoolRoundTrip (w := W) z0 a0 n0 c0 e0 lc0 cm0 rd0 (fun x hx => wf_u8 (wf0 x hx)) (env_of_laid hL hsh)).mono fun e W' ⟨he, bel⟩ => ?_
  subst he
  exact ⟨_, rfl, _, _, _, [], _, [], hW', trodAll_mk1 (shut_bool Tryz.underlying4 _), (trodAll_cons_mk (Below.trod laidOut (by kernel_rfl) (of_decide_eq_true (by kernel_rfl)) k0 bel lt0) trodAll_mk0), rfl, bel.frame _, fun h => by cases h⟩
theorem closed : joinedFacts Tryz.prog 3 Tryz.f3 Rows.fnPoolRoundTripSpec Rows.fnPoolRoundTripRow = true := by kernel_rfl
theorem over : Rows.fnPoolRoundTripRow.holds Tryz.pinned (OpenSpec.ofChange Rows.fnPoolRoundTripSpec) :=
  OpenClaim.holds_of_wide 3 Tryz.f3 rfl rfl rfl rfl rfl rfl rfl ⟨rfl, rfl, rfl, rfl, rfl⟩ rfl rfl rfl rfl rfl (by kernel_rfl) Tryz.func3 closed
    (of_decide_eq_true (by kernel_rfl)) (by unfold Func.isWrapper; first | (rw [if_pos (by decide +kernel)]; kernel_rfl) | (rw [if_neg (by decide +kernel)]; exact ⟨rfl, rfl⟩))
    (fun os started H enc _ => lifted os started H enc)
/-- THE STATEMENT: the tied card. -/
theorem proved : Rows.FnPoolRoundTripCardSaid :=
  Claim7.holds_tied_plain_at .later [] [.data, .data, .data, .data, .sentinel, .sentinel, .pinned] true (true, "be294eb38dac3e77696c27167f6ee1ff95c2be86aca27ec3f1751608eb7986fc") true over (fun _ h => by cases h) (by kernel_rfl) (fun _ h => by cases h) fnPoolRoundTrip_row_tie rfl ⟨rfl, rfl⟩ (by kernel_rfl) rfl
    (fun f fn hf hfn => by
      obtain rfl : f = 3 := Option.some.inj ((show Tryz.prog.funcNamed "loop.example/connectionpool/laws.FnPoolRoundTrip" = some 3 by kernel_rfl).symm.trans hf) |>.symm
      obtain rfl : fn = Tryz.f3 := (Option.some.inj (Tryz.func3.symm.trans hfn)).symm
      exact ⟨by kernel_rfl, fun j t ht => by
        rw [Tryz.params3] at ht
        have hm : t ∈ [22] := by simpa using Array.mem_of_getElem? ht
        have hall : ([22].all fun u => !Tryz.prog.wantsStandIn u) = true := by kernel_rfl
        exact (show Tryz.prog.wantsStandIn t = false by simpa using List.all_eq_true.1 hall t hm)⟩)
    (by kernel_rfl)
end fnPoolRoundTrip
end Go.Proofs.YtnmgnhpagnjhlaaGreatDoor
