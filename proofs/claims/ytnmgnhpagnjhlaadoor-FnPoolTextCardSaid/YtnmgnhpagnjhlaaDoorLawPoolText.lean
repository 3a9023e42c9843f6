/- FnPoolText: for every code the law returns true, and what was there is as it was. No condition. -/
import Derived.Test.YtnmgnhpagnjhlaaDoorCards
import Derived.Test.YtnmgnhpagnjhlaaDoorTie
import Derived.Test.YtnmgnhpagnjhlaaDoorDrawQ
import Derived.Test.YtnmgnhpagnjhlaaDoorPoolFmtI
import Derived.Test.YtnmgnhpagnjhlaaDoorCnt
import Derived.Test.YtnmgnhpagnjhlaaDoorOpen
import Derived.Deep.Cut
set_option linter.unusedVariables false
set_option linter.unusedSimpArgs false
set_option linter.unnecessarySimpa false
namespace Go.Proofs.YtnmgnhpagnjhlaaDoor
open Go.RowKit

set_option maxRecDepth 100000 in
set_option maxHeartbeats 8000000 in
theorem walk_FnPoolText (zs : List Int) (A : Option Addr) (n c : Nat) (hN : zs.length = n) (hc : n ≤ c) (hm : c ≤ maxLen) {w : World} (h : Rd w A (zs.map (.int .u8))) (hz : ∀ z ∈ zs, 0 ≤ z ∧ z ≤ 255) :
    Calls Tryd.prog 4 #[.slice A n c] w fun e w' => e = .returned (.bool true) ∧ Below w.heap.size w w' := by
  have HD := Lib.hid (drawFormatPool_c zs A n c w hN hc hm h hz)
  clear h hz hN
  unfold maxLen at hm
  by_cases hbig : 1048576 < n
  · go_enter Tryd.func4, Tryd.ntmps4
    go_wp2
    go_ret
    exact ⟨rfl, Below.refl _ _⟩
  · go_enter Tryd.func4, Tryd.ntmps4
    go_wp2_with fail
    refine HD.out.mono ?_
    rintro e w1 ⟨A1, a1, B1, b1, C1, c1, P, rfl, ⟨e1, e2, e3⟩, pr, bl1⟩
    have hs1 : w.heap.size ≤ w1.heap.size := bl1.size
    obtain ⟨w2, hw2⟩ : ∃ w2, w2 = w1.alloc (.cells #[.int .i64 P.mx, .slice A1 P.ids.length a1, .slice B1 P.hs.length b1, .slice C1 P.wt.length c1] 30) := ⟨_, rfl⟩
    have BP := Lib.hid (show Blk w2 w1.heap.size 30 #[.int .i64 P.mx, .slice A1 P.ids.length a1, .slice B1 P.hs.length b1, .slice C1 P.wt.length c1] by rw [hw2]; exact Blk.new w1 _ _)
    have PR := Lib.hid (show PRow w2 w.heap.size P A1 a1 B1 b1 C1 c1 by rw [hw2]; exact pr.alloc _)
    have HB := Lib.hid (show Below w.heap.size w w2 by rw [hw2]; exact bl1.alloc hs1 _)
    have hgp : w1.heap.size < w2.heap.size := by rw [hw2]; simp
    clear pr bl1 HD
    go_upto_region 4 with fail
    rw [← hw2]
    clear hw2
    obtain ⟨T, hT⟩ : ∃ T, T = P.fmt := ⟨_, rfl⟩
    have SF := Lib.hid (fun W (q : PRow W w.heap.size P A1 a1 B1 b1 C1 c1) => (show Calls Tryd.prog 7 #[.agg #[.int .i64 P.mx, .slice A1 P.ids.length a1, .slice B1 P.hs.length b1, .slice C1 P.wt.length c1]] W (fun e w' => e = .returned (.string T) ∧ Below W.heap.size W w') from by rw [hT]; exact sFormatPool_c P.mx P.ids P.hs P.wt A1 _ a1 B1 _ b1 C1 _ c1 W rfl rfl rfl q.1.rd q.2.1.rd q.2.2.1.rd (by omega) (by omega) (by omega)))
    have IF := Lib.hid (fun W (q : PRow W w.heap.size P A1 a1 B1 b1 C1 c1) => (show Calls Tryd.prog 9 #[.agg #[.int .i64 P.mx, .slice A1 P.ids.length a1, .slice B1 P.hs.length b1, .slice C1 P.wt.length c1]] W (fun e w' => e = .returned (.string T) ∧ Below W.heap.size W w') from by rw [hT]; exact formatPool_c P.mx P.ids P.hs P.wt A1 _ a1 B1 _ b1 C1 _ c1 W rfl rfl rfl q.1.rd q.2.1.rd q.2.2.1.rd (by omega) (by omega) (by omega) q.1.le))
    have HT := Lib.hid hT
    clear hT
    obtain ⟨k0, k1, k2, k3, kfz⟩ := blk4 BP.out
    go_wp2_with fail
    refine (IF.out _ PR.out).mono ?_
    rintro e w3 ⟨rfl, bl3⟩
    have BP3 := Lib.hid (BP.out.below bl3 hgp); have PR3 := Lib.hid (PR.out.below bl3); have HB3 := Lib.hid (HB.out.trans (bl3.mono HB.out.size))
    have hgp3 : w1.heap.size < w3.heap.size := BP3.out.lt
    clear bl3 k0 k1 k2 k3 kfz PR BP HB
    obtain ⟨k0, k1, k2, k3, kfz⟩ := blk4 BP3.out
    go_wp2_with fail
    refine (SF.out _ PR3.out).mono ?_
    rintro e w4 ⟨rfl, bl4⟩
    have BP4 := Lib.hid (BP3.out.below bl4 hgp3); have PR4 := Lib.hid (PR3.out.below bl4); have HB4 := Lib.hid (HB3.out.trans (bl4.mono HB3.out.size))
    have hgp4 : w1.heap.size < w4.heap.size := BP4.out.lt
    clear bl4 k0 k1 k2 k3 kfz PR3 BP3 HB3
    obtain ⟨k0, k1, k2, k3, kfz⟩ := blk4 BP4.out
    obtain ⟨em, hem⟩ : ∃ em, em = T.toList.isEmpty := ⟨_, rfl⟩
    cases em
    · have hv : P.valid = true := by
        cases hv : P.valid with
        | true => rfl
        | false =>
          have h0 := hem
          rw [HT.out] at h0
          unfold Pl.fmt at h0
          rw [hv] at h0
          simp only [Bool.false_eq_true, if_false, bsof_empty] at h0
      have hTT : T = bsof P.text := by rw [HT.out]; unfold Pl.fmt; rw [if_pos hv]
      have hgd := valid_good.1 hv
      have hcn := pool_count P T hTT
      have hsz := pool_size P hgd T hTT
      have CN := Lib.hid hcn
      have hem' := hem.symm
      clear hTT hv hgd hcn hem HT
      go_wp2_with fail
      go_loopw [5, 6, 7, 8] (fun s u v i wr => ∃ j : Nat, j ≤ T.size ∧ i = .int .i64 j ∧ s = .int .i64 (cnt 124 T j : Nat) ∧ u = .int .i64 (cnt 58 T j : Nat) ∧ v = .int .i64 (cnt 32 T j : Nat) ∧ wr = w4) (fun _ _ _ i _ => T.size - (intOf i).toNat)
      case atStart => exact ⟨0, Nat.zero_le _, rfl, rfl, rfl, rfl, rfl⟩
      case round =>
        obtain ⟨j, hj, rfl, rfl, rfl, rfl, rfl⟩ := hrel
        obtain ⟨a, ha⟩ : ∃ a, a = cnt 124 T j := ⟨_, rfl⟩
        obtain ⟨b, hb⟩ : ∃ b, b = cnt 58 T j := ⟨_, rfl⟩
        obtain ⟨d, hd⟩ : ∃ d, d = cnt 32 T j := ⟨_, rfl⟩
        have ha0 : a ≤ 50000 := by rw [ha]; exact Nat.le_trans (cnt_le _ _ _) (by omega)
        have hb0 : b ≤ 50000 := by rw [hb]; exact Nat.le_trans (cnt_le _ _ _) (by omega)
        have hd0 : d ≤ 50000 := by rw [hd]; exact Nat.le_trans (cnt_le _ _ _) (by omega)
        by_cases hlt : j < T.size
        · have s1 := cnt_succ 124 T j hlt
          have s2 := cnt_succ 58 T j hlt
          have s3 := cnt_succ 32 T j hlt
          rw [← ha] at s1
          rw [← hb] at s2
          rw [← hd] at s3
          rw [← ha, ← hb, ← hd]
          obtain ⟨z, hz⟩ : ∃ z, z = (T[j]).toNat := ⟨_, rfl⟩
          have hzz := hz.symm
          have q1 : (T[j] = 124) ↔ z = 124 := by rw [hz]; exact ⟨fun e => by rw [e]; rfl, fun e => UInt8.toNat_inj.1 (by rw [e]; rfl)⟩
          have q2 : (T[j] = 58) ↔ z = 58 := by rw [hz]; exact ⟨fun e => by rw [e]; rfl, fun e => UInt8.toNat_inj.1 (by rw [e]; rfl)⟩
          have q3 : (T[j] = 32) ↔ z = 32 := by rw [hz]; exact ⟨fun e => by rw [e]; rfl, fun e => UInt8.toNat_inj.1 (by rw [e]; rfl)⟩
          simp only [q1] at s1
          simp only [q2] at s2
          simp only [q3] at s3
          have S1 := Lib.hid s1; have S2 := Lib.hid s2; have S3 := Lib.hid s3
          clear s1 s2 s3 q1 q2 q3 ha hb hd hz
          by_cases y1 : z = 124
          · subst y1
            go_wp2_with fail
            go_roundw
            case rel => exact ⟨j + 1, by omega, by go_num, by rw [S1.out]; simp, by rw [S2.out]; simp, by rw [S3.out]; simp, by first | rfl | trivial⟩
            case measure => simp [intOf]; omega
          · by_cases y2 : z = 58
            · subst y2
              go_wp2_with fail
              go_roundw
              case rel => exact ⟨j + 1, by omega, by go_num, by rw [S1.out]; simp, by rw [S2.out]; simp, by rw [S3.out]; simp, by first | rfl | trivial⟩
              case measure => simp [intOf]; omega
            · by_cases y3 : z = 32
              · subst y3
                go_wp2_with fail
                go_roundw
                case rel => exact ⟨j + 1, by omega, by go_num, by rw [S1.out]; simp, by rw [S2.out]; simp, by rw [S3.out]; simp, by first | rfl | trivial⟩
                case measure => simp [intOf]; omega
              · have z1 : ((z : Int) == 124) = false := beq_eq_false_iff_ne.2 (by omega)
                have z2 : ((z : Int) == 58) = false := beq_eq_false_iff_ne.2 (by omega)
                have z3 : ((z : Int) == 32) = false := beq_eq_false_iff_ne.2 (by omega)
                have n1 := Lib.hid y1; have n2 := Lib.hid y2; have n3 := Lib.hid y3
                clear y1 y2 y3
                go_wp2_with fail
                go_roundw
                case rel => exact ⟨j + 1, by omega, by go_num, by rw [S1.out, if_neg n1.out]; rfl, by rw [S2.out, if_neg n2.out]; rfl, by rw [S3.out, if_neg n3.out]; rfl, by first | rfl | trivial⟩
                case measure => simp [intOf]; omega
        · obtain rfl : j = T.size := by omega
          rw [← ha, ← hb, ← hd]
          obtain rfl : a = 2 := by rw [ha]; exact CN.out.1
          obtain rfl : d = 1 := by rw [hd]; exact CN.out.2.2
          obtain rfl : b = P.hs.length := by rw [hb]; exact CN.out.2.1
          clear hb hd ha
          go_wp2_with fail
          go_ret
          exact ⟨by first | rfl | simp, HB4.out⟩
    · have hem' := hem.symm
      clear hem
      go_wp2_with fail
      refine (SF.out _ PR4.out).mono ?_
      rintro e w5 ⟨rfl, bl5⟩
      go_wp2_with fail
      go_ret
      exact ⟨by first | rfl | simp, HB4.out.trans (bl5.mono HB4.out.size)⟩

namespace fnPoolText
open Go.ChangeShapes Go.WideShapes Go.ChangeAt
open Go.ChangeMaps (open_string shut_string)
theorem own : ownKnob Tryd.prog.godebug = none := by kernel_rfl
theorem laidOut : laidOutB Tryd.prog = true := by kernel_rfl
set_option maxRecDepth 100000 in
theorem lifted (os : Os) (started : os.Started) (H : Type) (enc : TypeId × Value → H) :
    ReturnsInHanded {} Tryd.checked os 4 .any (fun w args => (Rows.fnPoolTextSpec.pre enc Tryd.prog Tryd.f4 Rows.fnPoolTextRow.domain false w args ∧ laidMetH Tryd.prog Rows.fnPoolTextRow.laid w) ∧ sizedMet enc Tryd.prog Tryd.f4 (OpenSpec.ofChange Rows.fnPoolTextSpec) false w args)
      (Rows.fnPoolTextSpec.post enc Tryd.prog Tryd.f4 false true false false) := by
  refine returnsInHanded_of_change_and (C := Tryd.checked) (X := fun w _ => laidMetH Tryd.prog Rows.fnPoolTextRow.laid w) (fun _ _ _ hh h => h.of_heap hh) own started (by kernel_rfl) Tryd.func4
    (ChangeSpec.witness_shaped (enc := enc) (C := Tryd.checked) (os := os) (X := fun w _ => laidMetH Tryd.prog Rows.fnPoolTextRow.laid w) false (World.laidAll Tryd.prog os Rows.fnPoolTextRow.laid) #[.slice none 0 0] 8 (World.laidAll_os _ _ _)
      (World.shaped_of_ZipB (by kernel_rfl) (by kernel_rfl)) (by kernel_rfl) (by kernel_rfl) (by kernel_rfl)
      (by rw [MakeChecks.laidMetH_plain _ _ _ (by kernel_rfl)]; exact laidMet_laidAll _ (by kernel_rfl) (by kernel_rfl))) ?_
  intro W base args ds gs before hval0 hW hcnd _ hL _
  have hval : ∀ (j : Nat) t v, Tryd.f4.params[j]? = some t → args[j]? = some v → Value.okWide Tryd.prog W .any base t v := hval0
  have hW' := hW
  obtain ⟨p, q, hA0, hV, rfl, hfz, hnd⟩ := hW
  have hA : DataW.TrodAll enc Tryd.prog W 0 (fun _ => true) true Tryd.f4.params.toList args.toList ds p := hA0
  rw [Tryd.params4] at hA hval
  obtain ⟨v0, vs0, d0, ds0, p0, q0, hargs, rfl, rfl, h0, r0⟩ := trodAll_cons hA
  obtain ⟨rfl, rfl, rfl⟩ := trodAll_nil r0
  obtain rfl : args = #[v0] := by cases args; simp_all
  obtain ⟨rfl, rfl⟩ := trodVars_none hV
  obtain ⟨a0, n0, c0, rfl⟩ := okWide_slice Tryd.underlying34 (hval 0 34 v0 rfl rfl)
  have k0 := h0
  have lt0 : ∀ x ∈ p0, x.block < W.heap.size := by obtain ⟨m, hm⟩ := k0; exact DataW.trod_lt m _ _ _ hm
  obtain ⟨z0, e0, lc0, cm0, rd0, wf0⟩ := open_rd_int Tryd.underlying34 Tryd.underlying5 (by kernel_rfl) h0
  clear hA0 hval0
  refine (walk_FnPoolText (w := W) z0 a0 n0 c0 e0 lc0 cm0 rd0 (fun x hx => wf_u8 (wf0 x hx))).mono fun e W' ⟨he, bel⟩ => ?_
  subst he
  exact ⟨_, rfl, _, _, _, [], _, [], hW', trodAll_mk1 (shut_bool Tryd.underlying4 _), (trodAll_cons_mk (Below.trod laidOut (by kernel_rfl) (of_decide_eq_true (by kernel_rfl)) k0 bel lt0) trodAll_mk0), rfl, bel.frame _, fun h => by cases h⟩
theorem closed : joinedFacts Tryd.prog 4 Tryd.f4 Rows.fnPoolTextSpec Rows.fnPoolTextRow = true := by kernel_rfl
theorem over : Rows.fnPoolTextRow.holds Tryd.pinned (OpenSpec.ofChange Rows.fnPoolTextSpec) :=
  OpenClaim.holds_of_wide 4 Tryd.f4 rfl rfl rfl rfl rfl rfl rfl ⟨rfl, rfl, rfl, rfl, rfl⟩ rfl rfl rfl rfl rfl (by kernel_rfl) Tryd.func4 closed
    (of_decide_eq_true (by kernel_rfl)) (by unfold Func.isWrapper; first | (rw [if_pos (by decide +kernel)]; kernel_rfl) | (rw [if_neg (by decide +kernel)]; exact ⟨rfl, rfl⟩))
    (fun os started H enc _ => lifted os started H enc)
/-- THE STATEMENT: the tied card. -/
theorem proved : Rows.FnPoolTextCardSaid :=
  Claim7.holds_tied_plain_at .later [] [.data, .data, .data] true (true, "addf9c7cac5bcf0a956d53dd88fdb6867cd31fffb845a34dfe585dc92098f1d3") false over (fun _ h => by cases h) (by kernel_rfl) (fun _ h => by cases h) fnPoolText_row_tie rfl ⟨rfl, rfl⟩ (by kernel_rfl) rfl
    (fun f fn hf hfn => by
      obtain rfl : f = 4 := Option.some.inj ((show Tryd.prog.funcNamed "loop.example/connectionpool/laws.FnPoolText" = some 4 by kernel_rfl).symm.trans hf) |>.symm
      obtain rfl : fn = Tryd.f4 := (Option.some.inj (Tryd.func4.symm.trans hfn)).symm
      exact ⟨by kernel_rfl, fun j t ht => by
        rw [Tryd.params4] at ht
        have hm : t ∈ [34] := by simpa using Array.mem_of_getElem? ht
        have hall : ([34].all fun u => !Tryd.prog.wantsStandIn u) = true := by kernel_rfl
        exact (show Tryd.prog.wantsStandIn t = false by simpa using List.all_eq_true.1 hall t hm)⟩)
    (by kernel_rfl)
end fnPoolText
end Go.Proofs.YtnmgnhpagnjhlaaDoor
