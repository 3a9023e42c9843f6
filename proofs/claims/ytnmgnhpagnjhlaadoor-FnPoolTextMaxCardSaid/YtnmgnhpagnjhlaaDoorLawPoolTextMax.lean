/- FnPoolTextMax: for every code the law returns true, and what was there is as it was. No condition. -/
import Derived.Test.YtnmgnhpagnjhlaaDoorCards
import Derived.Test.YtnmgnhpagnjhlaaDoorTie
import Derived.Lib.IndexBytes
import Derived.Test.YtnmgnhpagnjhlaaDoorDrawQ
import Derived.Test.YtnmgnhpagnjhlaaDoorPoolFmtI
import Derived.Test.YtnmgnhpagnjhlaaDoorCnt
import Derived.Test.YtnmgnhpagnjhlaaDoorOpen
import Derived.Deep.Cut
set_option linter.unusedVariables false
set_option linter.unusedSimpArgs false
set_option linter.unnecessarySimpa false
namespace Go.Proofs.YtnmgnhpagnjhlaaDoor
open Go.RowKit

/-- The text of a pool with nothing in it. -/
theorem empty_fmt {P : Pl} (g : P.Good) : Pl.fmt ⟨P.mx, [], [], []⟩ = bsof (intL P.mx ++ [32, 124, 124]) := by
  have hm := g.2.2.1
  have hg : Pl.Good ⟨P.mx, [], [], []⟩ := ⟨by simp [conns], by simp, hm, by simp [conns], by simp, by simp, by simp⟩
  unfold Pl.fmt
  rw [if_pos (valid_good.2 hg)]
  rfl
theorem text_head (P : Pl) : ∃ R, P.text = intL P.mx ++ 32 :: R := ⟨_, rfl⟩
theorem bsof_data_ (s : ByteArray) : bsof s.data.toList = s := by
  apply ByteArray.ext
  simp [bsof]
theorem piece_ (s : ByteArray) (a b : Nat) : s.extract a b = bsof ((s.data.toList.drop a).take (b - a)) := by
  rw [← Lib.extract_data, bsof_data_]
set_option maxRecDepth 100000 in
set_option maxHeartbeats 8000000 in
theorem walk_FnPoolTextMax (zs : List Int) (A : Option Addr) (n c : Nat) (hN : zs.length = n) (hc : n ≤ c) (hm : c ≤ maxLen) {w : World} (h : Rd w A (zs.map (.int .u8))) (hz : ∀ z ∈ zs, 0 ≤ z ∧ z ≤ 255) :
    Calls Tryd.prog 5 #[.slice A n c] w fun e w' => e = .returned (.bool true) ∧ Below w.heap.size w w' := by
  have HD := Lib.hid (drawFormatPool_c zs A n c w hN hc hm h hz)
  clear h hz hN
  unfold maxLen at hm
  by_cases hbig : 1048576 < n
  · go_enter Tryd.func5, Tryd.ntmps5
    go_wp2
    go_ret
    exact ⟨rfl, Below.refl _ _⟩
  · go_enter Tryd.func5, Tryd.ntmps5
    go_wp2_with fail
    refine HD.out.mono ?_
    rintro e w1 ⟨A1, a1, B1, b1, C1, c1, P, rfl, ⟨e1, e2, e3⟩, pr, bl1⟩
    have hs1 : w.heap.size ≤ w1.heap.size := bl1.size
    obtain ⟨w2, hw2⟩ : ∃ w2, w2 = w1.alloc (.cells #[.int .i64 P.mx, .slice A1 P.ids.length a1, .slice B1 P.hs.length b1, .slice C1 P.wt.length c1] 30) := ⟨_, rfl⟩
    have BP := Lib.hid (show Blk w2 w1.heap.size 30 #[.int .i64 P.mx, .slice A1 P.ids.length a1, .slice B1 P.hs.length b1, .slice C1 P.wt.length c1] by rw [hw2]; exact Blk.new w1 _ _)
    have PR := Lib.hid (show PRow w2 w.heap.size P A1 a1 B1 b1 C1 c1 by rw [hw2]; exact pr.alloc _)
    have HB := Lib.hid (show Below w.heap.size w w2 by rw [hw2]; exact bl1.alloc hs1 _)
    have hgp : w1.heap.size < w2.heap.size := by rw [hw2]; simp
    clear pr bl1 HD
    go_upto_region 4 with fail
    rw [← hw2]
    clear hw2
    obtain ⟨T, hT⟩ : ∃ T, T = P.fmt := ⟨_, rfl⟩
    have SF := Lib.hid (fun W (q : PRow W w.heap.size P A1 a1 B1 b1 C1 c1) => (show Calls Tryd.prog 7 #[.agg #[.int .i64 P.mx, .slice A1 P.ids.length a1, .slice B1 P.hs.length b1, .slice C1 P.wt.length c1]] W (fun e w' => e = .returned (.string T) ∧ Below W.heap.size W w') from by rw [hT]; exact sFormatPool_c P.mx P.ids P.hs P.wt A1 _ a1 B1 _ b1 C1 _ c1 W rfl rfl rfl q.1.rd q.2.1.rd q.2.2.1.rd (by omega) (by omega) (by omega)))
    have IF := Lib.hid (fun W (q : PRow W w.heap.size P A1 a1 B1 b1 C1 c1) => (show Calls Tryd.prog 9 #[.agg #[.int .i64 P.mx, .slice A1 P.ids.length a1, .slice B1 P.hs.length b1, .slice C1 P.wt.length c1]] W (fun e w' => e = .returned (.string T) ∧ Below W.heap.size W w') from by rw [hT]; exact formatPool_c P.mx P.ids P.hs P.wt A1 _ a1 B1 _ b1 C1 _ c1 W rfl rfl rfl q.1.rd q.2.1.rd q.2.2.1.rd (by omega) (by omega) (by omega) q.1.le))
    have HT := Lib.hid hT
    clear hT
    obtain ⟨k0, k1, k2, k3, kfz⟩ := blk4 BP.out
    go_wp2_with fail
    refine (IF.out _ PR.out).mono ?_
    rintro e w3 ⟨rfl, bl3⟩
    have BP3 := Lib.hid (BP.out.below bl3 hgp); have PR3 := Lib.hid (PR.out.below bl3); have HB3 := Lib.hid (HB.out.trans (bl3.mono HB.out.size))
    have hgp3 : w1.heap.size < w3.heap.size := BP3.out.lt
    clear bl3 k0 k1 k2 k3 kfz PR BP HB
    obtain ⟨k0, k1, k2, k3, kfz⟩ := blk4 BP3.out
    go_wp2_with fail
    refine (SF.out _ PR3.out).mono ?_
    rintro e w4 ⟨rfl, bl4⟩
    have BP4 := Lib.hid (BP3.out.below bl4 hgp3); have PR4 := Lib.hid (PR3.out.below bl4); have HB4 := Lib.hid (HB3.out.trans (bl4.mono HB3.out.size))
    have hgp4 : w1.heap.size < w4.heap.size := BP4.out.lt
    clear bl4 k0 k1 k2 k3 kfz PR3 BP3 HB3
    obtain ⟨k0, k1, k2, k3, kfz⟩ := blk4 BP4.out
    obtain ⟨em, hem⟩ : ∃ em, em = T.toList.isEmpty := ⟨_, rfl⟩
    cases em
    · have hv : P.valid = true := by
        cases hv : P.valid with
        | true => rfl
        | false =>
          have h0 := hem
          rw [HT.out] at h0
          unfold Pl.fmt at h0
          rw [hv] at h0
          simp only [Bool.false_eq_true, if_false, bsof_empty] at h0
      have hTT : T = bsof P.text := by rw [HT.out]; unfold Pl.fmt; rw [if_pos hv]
      have hgd := valid_good.1 hv
      obtain ⟨R, hR⟩ := text_head P
      obtain ⟨D, hD⟩ : ∃ D, D = intL P.mx := ⟨_, rfl⟩
      rw [hR, ← hD] at hTT
      obtain ⟨E, hE⟩ : ∃ E, E = Pl.fmt ⟨P.mx, [], [], []⟩ := ⟨_, rfl⟩
      have hEE : E = bsof (D ++ [32, 124, 124]) := by rw [hE, hD]; exact empty_fmt hgd
      obtain ⟨J, hJ⟩ : ∃ J, J = D.length := ⟨_, rfl⟩
      have hJ15 : J ≤ 15 := by rw [hJ, hD]; exact intL_le (by have := hgd.2.2.1; omega)
      have hJ1 : 1 ≤ J := by
        rw [hJ, hD]
        unfold intL
        cases hd : Lib.decDigits P.mx.toNat with
        | nil => exact absurd hd (by
            by_cases h : P.mx.toNat < 10
            · rw [Lib.decDigits_one h]; simp
            · rw [Lib.decDigits, dif_neg h]; simp)
        | cons x y => simp
      have hEs : E.size = J + 3 := by rw [hEE, bsof_size, hJ]; simp
      have hTs : T.size = J + 1 + R.length := by rw [hTT, bsof_size, hJ]; simp; omega
      obtain ⟨X, hX⟩ : ∃ X, T.extract 0 (J + 1) = X := ⟨_, rfl⟩
      have hX2 : E.extract 0 (J + 1) = X := by
        rw [← hX, piece_, piece_, hTT, hEE]
        show bsof ((D ++ [32, 124, 124]).take (J + 1)) = bsof ((D ++ 32 :: R).take (J + 1))
        rw [hJ, List.take_length_add_append, List.take_length_add_append]
        rfl
      have hX3 : E.extract (J + 1) (J + 3) = ⟨#[124, 124]⟩ := by
        rw [piece_, hEE]
        show bsof (((D ++ [32, 124, 124]).drop (J + 1)).take (J + 3 - (J + 1))) = _
        rw [hJ, List.drop_length_add_append, show D.length + 3 - (D.length + 1) = 2 by omega]
        rfl
      have hJT : J < T.size := by omega
      have hz : (T[J]).toNat = 32 := by
        have e : T.data.toList[J]? = some 32 := by
          rw [hTT]
          show (D ++ 32 :: R)[J]? = _
          rw [hJ, List.getElem?_append_right (Nat.le_refl _), Nat.sub_self]
          rfl
        have e2 : T.data.toList[J]? = some T[J] := by
          rw [List.getElem?_eq_getElem (by simpa using hJT)]
          rfl
        rw [e2] at e
        injection e with e
        rw [e]; rfl
      have hwJ : IntKind.i64.wrap (J : Int) = (J : Int) := IntWalk.i64_in _ ⟨by omega, by omega⟩
      have hwJ1 : IntKind.i64.wrap ((J : Int) + 1) = (J : Int) + 1 := IntWalk.i64_in _ ⟨by omega, by omega⟩
      have hwJ3 : IntKind.i64.wrap ((J : Int) + 3 - 2) = (J : Int) + 1 := by rw [show (J : Int) + 3 - 2 = (J : Int) + 1 by omega]; exact hwJ1
      have hTJ : (J : Int) + 1 ≤ (T.size : Int) := by omega
      have hTJn : J + 1 ≤ T.size := by omega
      have hJ0 : 0 < J := by omega
      have hJ0I : (1 : Int) < (J : Int) + 1 := by omega
      have hem' := hem.symm
      have IE := Lib.hid (fun W => (show Calls Tryd.prog 9 #[.agg #[.int .i64 P.mx, .slice none 0 0, .slice none 0 0, .slice none 0 0]] W (fun e w' => e = .returned (.string E) ∧ Below W.heap.size W w') from by rw [hE]; exact formatPool_c P.mx [] [] [] none _ 0 none _ 0 none _ 0 W rfl rfl rfl (Rd.nil _ _) (Rd.nil _ _) (Rd.nil _ _) (by omega) (by omega) (by omega) (Nat.le_refl _)))
      clear hTT hv hgd hem HT hR hD hE hEE hJ hTs
      go_wp2_with fail
      refine (IE.out _).mono ?_
      rintro e w5 ⟨rfl, bl5⟩
      have HB5 := Lib.hid (HB4.out.trans (bl5.mono HB4.out.size))
      clear bl5
      go_wp2_with fail
      go_quiet (fail)
      go_wp2_with fail
      go_ret
      exact ⟨by first | rfl | simp, below_drewN HB5.out _⟩
    · have hem' := hem.symm
      clear hem
      go_wp2_with fail
      refine (SF.out _ PR4.out).mono ?_
      rintro e w5 ⟨rfl, bl5⟩
      go_wp2_with fail
      go_ret
      exact ⟨by first | rfl | simp, HB4.out.trans (bl5.mono HB4.out.size)⟩

namespace fnPoolTextMax
open Go.ChangeShapes Go.WideShapes Go.ChangeAt
open Go.ChangeMaps (open_string shut_string)
theorem own : ownKnob Tryd.prog.godebug = none := by kernel_rfl
theorem laidOut : laidOutB Tryd.prog = true := by kernel_rfl
set_option maxRecDepth 100000 in
theorem lifted (os : Os) (started : os.Started) (H : Type) (enc : TypeId × Value → H) :
    ReturnsInHanded {} Tryd.checked os 5 .any (fun w args => (Rows.fnPoolTextMaxSpec.pre enc Tryd.prog Tryd.f5 Rows.fnPoolTextMaxRow.domain false w args ∧ laidMetH Tryd.prog Rows.fnPoolTextMaxRow.laid w) ∧ sizedMet enc Tryd.prog Tryd.f5 (OpenSpec.ofChange Rows.fnPoolTextMaxSpec) false w args)
      (Rows.fnPoolTextMaxSpec.post enc Tryd.prog Tryd.f5 false true false false) := by
  refine returnsInHanded_of_change_and (C := Tryd.checked) (X := fun w _ => laidMetH Tryd.prog Rows.fnPoolTextMaxRow.laid w) (fun _ _ _ hh h => h.of_heap hh) own started (by kernel_rfl) Tryd.func5
    (ChangeSpec.witness_shaped (enc := enc) (C := Tryd.checked) (os := os) (X := fun w _ => laidMetH Tryd.prog Rows.fnPoolTextMaxRow.laid w) false (World.laidAll Tryd.prog os Rows.fnPoolTextMaxRow.laid) #[.slice none 0 0] 8 (World.laidAll_os _ _ _)
      (World.shaped_of_ZipB (by kernel_rfl) (by kernel_rfl)) (by kernel_rfl) (by kernel_rfl) (by kernel_rfl)
      (by rw [MakeChecks.laidMetH_plain _ _ _ (by kernel_rfl)]; exact laidMet_laidAll _ (by kernel_rfl) (by kernel_rfl))) ?_
  intro W base args ds gs before hval0 hW hcnd _ hL _
  have hval : ∀ (j : Nat) t v, Tryd.f5.params[j]? = some t → args[j]? = some v → Value.okWide Tryd.prog W .any base t v := hval0
  have hW' := hW
  obtain ⟨p, q, hA0, hV, rfl, hfz, hnd⟩ := hW
  have hA : DataW.TrodAll enc Tryd.prog W 0 (fun _ => true) true Tryd.f5.params.toList args.toList ds p := hA0
  rw [Tryd.params5] at hA hval
  obtain ⟨v0, vs0, d0, ds0, p0, q0, hargs, rfl, rfl, h0, r0⟩ := trodAll_cons hA
  obtain ⟨rfl, rfl, rfl⟩ := trodAll_nil r0
  obtain rfl : args = #[v0] := by cases args; simp_all
  obtain ⟨rfl, rfl⟩ := trodVars_none hV
  obtain ⟨a0, n0, c0, rfl⟩ := okWide_slice Tryd.underlying34 (hval 0 34 v0 rfl rfl)
  have k0 := h0
  have lt0 : ∀ x ∈ p0, x.block < W.heap.size := by obtain ⟨m, hm⟩ := k0; exact DataW.trod_lt m _ _ _ hm
  obtain ⟨z0, e0, lc0, cm0, rd0, wf0⟩ := open_rd_int Tryd.underlying34 Tryd.underlying5 (by kernel_rfl) h0
  clear hA0 hval0
  refine (walk_FnPoolTextMax (w := W) z0 a0 n0 c0 e0 lc0 cm0 rd0 (fun x hx => wf_u8 (wf0 x hx))).mono fun e W' ⟨he, bel⟩ => ?_
  subst he
  exact ⟨_, rfl, _, _, _, [], _, [], hW', trodAll_mk1 (shut_bool Tryd.underlying4 _), (trodAll_cons_mk (Below.trod laidOut (by kernel_rfl) (of_decide_eq_true (by kernel_rfl)) k0 bel lt0) trodAll_mk0), rfl, bel.frame _, fun h => by cases h⟩
theorem closed : joinedFacts Tryd.prog 5 Tryd.f5 Rows.fnPoolTextMaxSpec Rows.fnPoolTextMaxRow = true := by kernel_rfl
theorem over : Rows.fnPoolTextMaxRow.holds Tryd.pinned (OpenSpec.ofChange Rows.fnPoolTextMaxSpec) :=
  OpenClaim.holds_of_wide 5 Tryd.f5 rfl rfl rfl rfl rfl rfl rfl ⟨rfl, rfl, rfl, rfl, rfl⟩ rfl rfl rfl rfl rfl (by kernel_rfl) Tryd.func5 closed
    (of_decide_eq_true (by kernel_rfl)) (by unfold Func.isWrapper; first | (rw [if_pos (by decide +kernel)]; kernel_rfl) | (rw [if_neg (by decide +kernel)]; exact ⟨rfl, rfl⟩))
    (fun os started H enc _ => lifted os started H enc)
/-- THE STATEMENT: the tied card. -/
theorem proved : Rows.FnPoolTextMaxCardSaid :=
  Claim7.holds_tied_plain_at .later [] [.data, .data, .data] true (true, "addf9c7cac5bcf0a956d53dd88fdb6867cd31fffb845a34dfe585dc92098f1d3") false over (fun _ h => by cases h) (by kernel_rfl) (fun _ h => by cases h) fnPoolTextMax_row_tie rfl ⟨rfl, rfl⟩ (by kernel_rfl) rfl
    (fun f fn hf hfn => by
      obtain rfl : f = 5 := Option.some.inj ((show Tryd.prog.funcNamed "loop.example/connectionpool/laws.FnPoolTextMax" = some 5 by kernel_rfl).symm.trans hf) |>.symm
      obtain rfl : fn = Tryd.f5 := (Option.some.inj (Tryd.func5.symm.trans hfn)).symm
      exact ⟨by kernel_rfl, fun j t ht => by
        rw [Tryd.params5] at ht
        have hm : t ∈ [34] := by simpa using Array.mem_of_getElem? ht
        have hall : ([34].all fun u => !Tryd.prog.wantsStandIn u) = true := by kernel_rfl
        exact (show Tryd.prog.wantsStandIn t = false by simpa using List.all_eq_true.1 hall t hm)⟩)
    (by kernel_rfl)
end fnPoolTextMax
end Go.Proofs.YtnmgnhpagnjhlaaDoor
