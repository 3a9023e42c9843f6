/- Whether a pool is valid: the program's answer. -/
import Derived.Test.YtnmgnhpagnjhlaaGreatDoorPoolV
set_option linter.unusedVariables false
set_option linter.unusedSimpArgs false
set_option linter.unnecessarySimpa false
namespace Go.Proofs.YtnmgnhpagnjhlaaGreatDoor
open Go.RowKit

set_option maxRecDepth 100000 in
set_option maxHeartbeats 4000000 in
theorem validPool_c (mx : Int) (ids : List Int) (hs : List Pr) (wt : List Int) (A : Option Addr) (n c : Nat) (B : Option Addr) (m d : Nat) (C : Option Addr) (k f : Nat) (w : World) (hA : ids.length = n) (hB : hs.length = m) (hC : wt.length = k)
    (h1 : Rd w A (ids.map (.int .i64))) (h2 : Rd w B (sc hs)) (h3 : Rd w C (wt.map (.int .i64))) (l1 : n ≤ 1073741824) (l2 : m ≤ 1073741824) (l3 : k ≤ 1073741824) (hcA : n ≤ c) :
    Calls Tryz.prog 21 #[.agg #[.int .i64 mx, .slice A n c, .slice B m d, .slice C k f]] w fun e w' => e = .returned (.bool (Pl.valid ⟨mx, ids, hs, wt⟩)) ∧ Below w.heap.size w w' := by
  have HA := Lib.hid hA; have HB := Lib.hid hB; have HC := Lib.hid hC
  clear hA hB hC
  obtain ⟨r, hr⟩ : ∃ r, r = Pl.valid ⟨mx, ids, hs, wt⟩ := ⟨_, rfl⟩
  rw [← hr]
  obtain ⟨w1, hw1⟩ : ∃ w1, w1 = w.alloc (.cells #[.int .i64 mx, .slice A n c, .slice B m d, .slice C k f] 26) := ⟨_, rfl⟩
  have hg : w1.heap.size = w.heap.size + 1 := by rw [hw1]; simp
  have H1 := Lib.hid (show Rd w1 A _ by rw [hw1]; exact h1.alloc _)
  have H2 := Lib.hid (show Rd w1 B _ by rw [hw1]; exact h2.alloc _)
  have H3 := Lib.hid (show Rd w1 C _ by rw [hw1]; exact h3.alloc _)
  have BX := Lib.hid (show Blk w1 w.heap.size 26 #[.int .i64 mx, .slice A n c, .slice B m d, .slice C k f] by rw [hw1]; exact Blk.new w _ _)
  have B01 := Lib.hid (show Below w.heap.size w w1 by rw [hw1]; exact (Below.refl _ _).alloc (Nat.le_refl _) _)
  have FIN := Lib.hid (fun (W : World) (hW : Below (w.heap.size + 1) w1 W) => (B01.out.trans (hW.mono (Nat.le_succ _)) : Below w.heap.size w W))
  have HR := Lib.hid hr
  clear hr h1 h2 h3
  obtain ⟨M, hM⟩ : ∃ M, M = IntKind.i64.wrap (mx - 1) := ⟨_, rfl⟩
  have HM := Lib.hid (show (1 ≤ mx ∧ mx ≤ 6) → M = mx - 1 by intro h; rw [hM]; exact wrap_small _ (by omega) (by omega))
  have hwM : IntKind.i64.wrap (mx - 1) = M := hM.symm
  clear hM
  have HD := Lib.hid (fun (v : Int) (W : World) (hW : Rd W B (sc hs)) => held_c hs mx v A n c B m d C k f W HB.out hW l2)
  go_enter Tryz.func21, Tryz.ntmps21
  go_wp2_with fail
  rw [← hw1]
  clear hw1
  have BX0 := BX.out
  have k1 : w1.cell? ⟨w.heap.size, 1, none⟩ = some (.slice A n c) := BX0.cell 1
  clear BX0
  go_wp2_with fail
  go_loopw [10] (fun i wr => ∃ (j : Nat), j ≤ n ∧ i = .int .i64 j ∧ okI M ⟨mx, ids, hs, wt⟩ j ∧ Below (w.heap.size + 1) w1 wr) (fun i _ => n - (intOf i).toNat)
  case atStart => exact ⟨0, Nat.zero_le _, rfl, okI_zero _ _, Below.refl _ _⟩
  case round =>
    clear k1
    obtain ⟨j, hj, rfl, hok, hb⟩ := hrel
    have bxr := BX.out.below hb (by omega)
    have k0 : wr.cell? ⟨w.heap.size, 0, none⟩ = some (.int .i64 mx) := bxr.cell 0
    have k1 : wr.cell? ⟨w.heap.size, 1, none⟩ = some (.slice A n c) := bxr.cell 1
    have k2 : wr.cell? ⟨w.heap.size, 2, none⟩ = some (.slice B m d) := bxr.cell 2
    have k3 : wr.cell? ⟨w.heap.size, 3, none⟩ = some (.slice C k f) := bxr.cell 3
    clear bxr
    have HB1 := Lib.hid hb; have HOK := Lib.hid hok
    have hsz : w.heap.size + 1 ≤ wr.heap.size := by have := hb.size; omega
    by_cases hlt : j < n
    · have hjx : j < ids.length := by have := HA.out; omega
      obtain ⟨b, off, hAA, hbl, hc⟩ := (H1.out.below (hb.mono (by omega))).block (by simp; omega)
      have hRA := H1.out.below (hb.mono (by omega))
      have hRB := H2.out.below (hb.mono (by omega))
      subst hAA
      obtain ⟨x, hX⟩ : ∃ x, x = ids[j] := ⟨_, rfl⟩
      have hx : wr.cell? ⟨b, off + j, none⟩ = some (.int .i64 x) := hc j _ (by simp [hX, hjx])
      have HX := Lib.hid hX
      have HC1 := Lib.hid (in_c x 0 M wr)
      have HC2 := Lib.hid (contains_c (ids.take j) x (some ⟨b, off, none⟩) j c wr (by rw [List.length_take, HA.out]; omega) (by rw [List.map_take]; exact hRA.take j) (by omega))
      have HC3 := Lib.hid (HD.out x wr hRB)
      clear hX hc hb hok hRA hRB
      by_cases hi : 0 ≤ x ∧ x ≤ M
      · rw [decide_eq_true hi] at HC1
        have HI := Lib.hid hi
        clear hi
        by_cases hin : x ∈ ids.take j
        · rw [decide_eq_true hin] at HC2
          have HR' : Hid (r = false) := HR.out.trans (bad_ids (p := ⟨mx, ids, hs, wt⟩) hjx (by rw [← HX.out]; exact hin))
          clear hin
          go_wp2_with fail
          refine HC1.out.mono ?_
          rintro e w2 ⟨rfl, rfl⟩
          go_wp2_with fail
          refine HC2.out.mono ?_
          rintro e w2 ⟨rfl, rfl⟩
          go_wp2_with fail
          go_ret
          rw [HR'.out]
          exact ⟨rfl, FIN.out _ HB1.out⟩
        · rw [decide_eq_false hin] at HC2
          have HN := Lib.hid hin
          clear hin
          have hge := hfind_ge hs x
          obtain ⟨F, hF⟩ : ∃ F, F = hfind hs x := ⟨_, rfl⟩
          rw [← hF] at HC3 hge
          clear hF
          by_cases hic : x ∈ conns hs
          · rw [decide_eq_true hic] at hge
            have HR' : Hid (r = false) := HR.out.trans (bad_both (p := ⟨mx, ids, hs, wt⟩) hjx (by rw [← HX.out]; exact hic))
            clear hic
            go_wp2_with fail
            refine HC1.out.mono ?_
            rintro e w2 ⟨rfl, rfl⟩
            go_wp2_with fail
            refine HC2.out.mono ?_
            rintro e w2 ⟨rfl, rfl⟩
            go_wp2_with fail
            refine HC3.out.mono ?_
            rintro e w2 ⟨rfl, b2⟩
            go_wp2_with fail
            go_ret
            rw [HR'.out]
            exact ⟨rfl, FIN.out _ (HB1.out.trans (b2.mono hsz))⟩
          · rw [decide_eq_false hic] at hge
            have HIC := Lib.hid hic
            clear hic
            go_wp2_with fail
            refine HC1.out.mono ?_
            rintro e w2 ⟨rfl, rfl⟩
            go_wp2_with fail
            refine HC2.out.mono ?_
            rintro e w2 ⟨rfl, rfl⟩
            go_wp2_with fail
            refine HC3.out.mono ?_
            rintro e w2 ⟨rfl, b2⟩
            have B2 := Lib.hid (HB1.out.trans (b2.mono hsz))
            clear b2
            go_wp2_with fail
            go_roundw
            case rel => exact ⟨j + 1, by omega, by go_num, okI_succ HOK.out hjx (by rw [show ids[j] = x from HX.out.symm]; exact HI.out) (by rw [show ids[j] = x from HX.out.symm]; exact HN.out) (by rw [show ids[j] = x from HX.out.symm]; exact HIC.out), B2.out⟩
            case measure => simp [intOf]; omega
      · rw [decide_eq_false hi] at HC1
        have HR' : Hid (r = false) := HR.out.trans (bad_idr (p := ⟨mx, ids, hs, wt⟩) HM.out hjx (by rw [← HX.out]; exact hi))
        clear hi
        go_wp2_with fail
        refine HC1.out.mono ?_
        rintro e w2 ⟨rfl, rfl⟩
        go_wp2_with fail
        go_ret
        rw [HR'.out]
        exact ⟨rfl, FIN.out _ HB1.out⟩
    · obtain rfl : j = n := by omega
      have OKI := Lib.hid (show okI M ⟨mx, ids, hs, wt⟩ ids.length by rw [HA.out]; exact hok)
      clear hok hb HOK hlt hj
      go_wp2_with fail
      go_loopw [39] (fun i wr => ∃ (q : Nat), q ≤ m ∧ i = .int .i64 q ∧ okH M ⟨mx, ids, hs, wt⟩ q ∧ Below (w.heap.size + 1) w1 wr) (fun i _ => m - (intOf i).toNat)
      case atStart => exact ⟨0, Nat.zero_le _, rfl, okH_zero _ _, HB1.out⟩
      case round =>
        clear HB1 hsz k0 k1 k2 k3
        obtain ⟨q, hq, rfl, hok, hb⟩ := hrel
        have bxr := BX.out.below hb (by omega)
        have k0 : wr.cell? ⟨w.heap.size, 0, none⟩ = some (.int .i64 mx) := bxr.cell 0
        have k1 : wr.cell? ⟨w.heap.size, 1, none⟩ = some (.slice A j c) := bxr.cell 1
        have k2 : wr.cell? ⟨w.heap.size, 2, none⟩ = some (.slice B m d) := bxr.cell 2
        have k3 : wr.cell? ⟨w.heap.size, 3, none⟩ = some (.slice C k f) := bxr.cell 3
        clear bxr
        have HB1 := Lib.hid hb; have HOK := Lib.hid hok
        have hsz : w.heap.size + 1 ≤ wr.heap.size := by have := hb.size; omega
        have hgl : w.heap.size < wr.heap.size := by omega
        by_cases hlt : q < m
        · have hqx : q < hs.length := by have := HB.out; omega
          have HRB := Lib.hid (H2.out.below (hb.mono (by omega)))
          obtain ⟨b, off, hBB, hbl, hc⟩ := sc_pair HRB.out (by omega)
          subst hBB
          obtain ⟨hc1, hc2⟩ := hc q hqx
          obtain ⟨⟨x, y⟩, hX⟩ : ∃ x, x = hs[q] := ⟨_, rfl⟩
          rw [← hX] at hc1 hc2
          simp only at hc1 hc2
          have HX1 : Hid (hs[q].1 = x) := (congrArg Prod.fst hX).symm
          have HX2 : Hid (hs[q].2 = y) := (congrArg Prod.snd hX).symm
          have HBA := Lib.hid (fun cs t => (HB1.out.alloc hsz (.cells cs t) : Below (w.heap.size + 1) w1 (wr.alloc (.cells cs t))))
          have HC1 := Lib.hid (fun W : World => in_c x 0 M W)
          have HC2 := Lib.hid (fun W : World => isOwner_c y W)
          have hse := hfind_self hs q hqx
          rw [HX1.out] at hse
          have HC3 := Lib.hid (fun W hW => HD.out x W hW)
          obtain ⟨F, hF⟩ : ∃ F, F = hfind hs x := ⟨_, rfl⟩
          rw [← hF] at hse HC3
          clear hX hc hb hok hF
          by_cases hi : 0 ≤ x ∧ x ≤ M
          · rw [decide_eq_true hi] at HC1
            have HI := Lib.hid hi
            clear hi
            by_cases hy : 0 ≤ y ∧ y ≤ 4
            · rw [decide_eq_true hy] at HC2
              have HY := Lib.hid hy
              clear hy
              by_cases hin : x ∈ (conns hs).take q
              · have hne : (F != (q : Int)) = true := bne_iff_ne.2 fun e => hse.1 e hin
                have HR' : Hid (r = false) := HR.out.trans (bad_again (p := ⟨mx, ids, hs, wt⟩) hqx (by rw [show hs[q].1 = x from HX1.out]; exact hin))
                clear hin hse
                go_wp2_with fail
                refine (HC1.out _).mono ?_
                rintro e w2 ⟨rfl, rfl⟩
                go_wp2_with fail
                refine (HC2.out _).mono ?_
                rintro e w2 ⟨rfl, rfl⟩
                go_wp2_with fail
                refine (HC3.out _ (HRB.out.alloc _)).mono ?_
                rintro e w2 ⟨rfl, b2⟩
                go_wp2_with fail
                go_ret
                rw [HR'.out]
                exact ⟨rfl, FIN.out _ ((HBA.out _ _).trans (b2.mono (by simp <;> omega)))⟩
              · have hne : (F != (q : Int)) = false := by rw [hse.2 hin]; simp
                have HN := Lib.hid hin
                clear hin hse
                go_wp2_with fail
                refine (HC1.out _).mono ?_
                rintro e w2 ⟨rfl, rfl⟩
                go_wp2_with fail
                refine (HC2.out _).mono ?_
                rintro e w2 ⟨rfl, rfl⟩
                go_wp2_with fail
                refine (HC3.out _ (HRB.out.alloc _)).mono ?_
                rintro e w2 ⟨rfl, b2⟩
                have B2 := Lib.hid ((HBA.out _ _).trans (b2.mono (by simp <;> omega)))
                clear b2
                go_wp2_with fail
                go_roundw
                case rel => exact ⟨q + 1, by omega, by go_num, okH_succ HOK.out hqx (by rw [show hs[q].1 = x from HX1.out]; exact HI.out) (by rw [show hs[q].2 = y from HX2.out]; exact HY.out) (by rw [show hs[q].1 = x from HX1.out]; exact HN.out), B2.out⟩
                case measure => simp [intOf]; omega
            · rw [decide_eq_false hy] at HC2
              have HR' : Hid (r = false) := HR.out.trans (bad_owner (p := ⟨mx, ids, hs, wt⟩) hqx (by rw [show hs[q].2 = y from HX2.out]; exact hy))
              clear hy hse
              go_wp2_with fail
              refine (HC1.out _).mono ?_
              rintro e w2 ⟨rfl, rfl⟩
              go_wp2_with fail
              refine (HC2.out _).mono ?_
              rintro e w2 ⟨rfl, rfl⟩
              go_wp2_with fail
              go_ret
              rw [HR'.out]
              exact ⟨rfl, FIN.out _ (HBA.out _ _)⟩
          · rw [decide_eq_false hi] at HC1
            have HR' : Hid (r = false) := HR.out.trans (bad_hr (p := ⟨mx, ids, hs, wt⟩) HM.out hqx (by rw [show hs[q].1 = x from HX1.out]; exact hi))
            clear hi hse
            go_wp2_with fail
            refine (HC1.out _).mono ?_
            rintro e w2 ⟨rfl, rfl⟩
            go_wp2_with fail
            go_ret
            rw [HR'.out]
            exact ⟨rfl, FIN.out _ (HBA.out _ _)⟩
        · obtain rfl : q = m := by omega
          have HR2 := Lib.hid (HR.out.trans (valid_impl (p := ⟨mx, ids, hs, wt⟩) HM.out OKI.out (by rw [show (⟨mx, ids, hs, wt⟩ : Pl).hs.length = q from HB.out]; exact hok)))
          have HC1 := Lib.hid (in_c mx 1 6 wr)
          have HC3 := Lib.hid (allIn_c wt 0 4 C k f wr HC.out (H3.out.below (hb.mono (by omega))) (by omega))
          obtain ⟨a2, ha2⟩ : ∃ a, a = allB 0 4 wt := ⟨_, rfl⟩
          simp only at HR2
          rw [← ha2, HC.out, HB.out] at HR2
          rw [← ha2] at HC3
          clear hok ha2 hb hlt HOK
          by_cases hmx : 1 ≤ mx ∧ mx ≤ 6
          · rw [decide_eq_true hmx] at HC1 HR2
            clear hmx
            by_cases hk : k ≤ 12
            · have hk1 : decide (k ≤ 12) = true := decide_eq_true (by omega)
              have hk2 : decide ((k : Int) ≤ (12 : Int)) = true := decide_eq_true (by omega)
              cases a2
              · have HV : Hid (r = false) := HR2.out.trans (by simp)
                go_wp2_with fail
                refine HC1.out.mono ?_
                rintro e w2 ⟨rfl, rfl⟩
                go_wp2_with fail
                refine HC3.out.mono ?_
                rintro e w2 ⟨rfl, b2⟩
                have hb : Below (w.heap.size + 1) w1 w2 := HB1.out.trans (b2.mono hsz)
                clear k0 k1 k2 k3
                have bxr := BX.out.below hb (by omega)
                have k0 : w2.cell? ⟨w.heap.size, 0, none⟩ = some (.int .i64 mx) := bxr.cell 0
                have k1 : w2.cell? ⟨w.heap.size, 1, none⟩ = some (.slice A j c) := bxr.cell 1
                have k2 : w2.cell? ⟨w.heap.size, 2, none⟩ = some (.slice B q d) := bxr.cell 2
                have k3 : w2.cell? ⟨w.heap.size, 3, none⟩ = some (.slice C k f) := bxr.cell 3
                clear bxr
                have HB1 := Lib.hid hb
                clear hb b2
                go_wp2_with fail
                go_ret
                rw [HV.out]
                exact ⟨rfl, FIN.out _ HB1.out⟩
              · by_cases hk0 : k = 0
                · have he0 : ((k : Int) == 0) = true := beq_iff_eq.2 (by omega)
                  have HV : Hid (r = true) := HR2.out.trans (by rw [decide_eq_true hk, decide_eq_true hk0]; rfl)
                  clear hk0
                  go_wp2_with fail
                  refine HC1.out.mono ?_
                  rintro e w2 ⟨rfl, rfl⟩
                  go_wp2_with fail
                  refine HC3.out.mono ?_
                  rintro e w2 ⟨rfl, b2⟩
                  have hb : Below (w.heap.size + 1) w1 w2 := HB1.out.trans (b2.mono hsz)
                  clear k0 k1 k2 k3
                  have bxr := BX.out.below hb (by omega)
                  have k0 : w2.cell? ⟨w.heap.size, 0, none⟩ = some (.int .i64 mx) := bxr.cell 0
                  have k1 : w2.cell? ⟨w.heap.size, 1, none⟩ = some (.slice A j c) := bxr.cell 1
                  have k2 : w2.cell? ⟨w.heap.size, 2, none⟩ = some (.slice B q d) := bxr.cell 2
                  have k3 : w2.cell? ⟨w.heap.size, 3, none⟩ = some (.slice C k f) := bxr.cell 3
                  clear bxr
                  have HB1 := Lib.hid hb
                  clear hb b2
                  go_wp2_with fail
                  go_ret
                  rw [HV.out]
                  exact ⟨rfl, FIN.out _ HB1.out⟩
                · have he0 : ((k : Int) == 0) = false := beq_eq_false_iff_ne.2 (by omega)
                  by_cases hqm : (q : Int) = mx
                  · have he1 : ((q : Int) == mx) = true := beq_iff_eq.2 hqm
                    have HV : Hid (r = true) := HR2.out.trans (by rw [decide_eq_true hk, decide_eq_true hqm]; simp)
                    clear hqm
                    go_wp2_with fail
                    refine HC1.out.mono ?_
                    rintro e w2 ⟨rfl, rfl⟩
                    go_wp2_with fail
                    refine HC3.out.mono ?_
                    rintro e w2 ⟨rfl, b2⟩
                    have hb : Below (w.heap.size + 1) w1 w2 := HB1.out.trans (b2.mono hsz)
                    clear k0 k1 k2 k3
                    have bxr := BX.out.below hb (by omega)
                    have k0 : w2.cell? ⟨w.heap.size, 0, none⟩ = some (.int .i64 mx) := bxr.cell 0
                    have k1 : w2.cell? ⟨w.heap.size, 1, none⟩ = some (.slice A j c) := bxr.cell 1
                    have k2 : w2.cell? ⟨w.heap.size, 2, none⟩ = some (.slice B q d) := bxr.cell 2
                    have k3 : w2.cell? ⟨w.heap.size, 3, none⟩ = some (.slice C k f) := bxr.cell 3
                    clear bxr
                    have HB1 := Lib.hid hb
                    clear hb b2
                    go_wp2_with fail
                    go_ret
                    rw [HV.out]
                    exact ⟨rfl, FIN.out _ HB1.out⟩
                  · have he1 : ((q : Int) == mx) = false := beq_eq_false_iff_ne.2 hqm
                    have HV : Hid (r = false) := HR2.out.trans (by rw [decide_eq_false hk0, decide_eq_false hqm]; simp)
                    clear hqm
                    go_wp2_with fail
                    refine HC1.out.mono ?_
                    rintro e w2 ⟨rfl, rfl⟩
                    go_wp2_with fail
                    refine HC3.out.mono ?_
                    rintro e w2 ⟨rfl, b2⟩
                    have hb : Below (w.heap.size + 1) w1 w2 := HB1.out.trans (b2.mono hsz)
                    clear k0 k1 k2 k3
                    have bxr := BX.out.below hb (by omega)
                    have k0 : w2.cell? ⟨w.heap.size, 0, none⟩ = some (.int .i64 mx) := bxr.cell 0
                    have k1 : w2.cell? ⟨w.heap.size, 1, none⟩ = some (.slice A j c) := bxr.cell 1
                    have k2 : w2.cell? ⟨w.heap.size, 2, none⟩ = some (.slice B q d) := bxr.cell 2
                    have k3 : w2.cell? ⟨w.heap.size, 3, none⟩ = some (.slice C k f) := bxr.cell 3
                    clear bxr
                    have HB1 := Lib.hid hb
                    clear hb b2
                    go_wp2_with fail
                    go_ret
                    rw [HV.out]
                    exact ⟨rfl, FIN.out _ HB1.out⟩
            · have hk1 : decide (k ≤ 12) = false := decide_eq_false (by omega)
              have hk2 : decide ((k : Int) ≤ (12 : Int)) = false := decide_eq_false (by omega)
              have HV : Hid (r = false) := HR2.out.trans (by rw [decide_eq_false hk]; simp)
              go_wp2_with fail
              refine HC1.out.mono ?_
              rintro e w2 ⟨rfl, rfl⟩
              go_wp2_with fail
              go_ret
              rw [HV.out]
              exact ⟨rfl, FIN.out _ HB1.out⟩
          · rw [decide_eq_false hmx] at HC1 HR2
            have HV : Hid (r = false) := HR2.out.trans (by simp)
            clear hmx
            go_wp2_with fail
            refine HC1.out.mono ?_
            rintro e w2 ⟨rfl, rfl⟩
            go_wp2_with fail
            go_ret
            rw [HV.out]
            exact ⟨rfl, FIN.out _ HB1.out⟩

end Go.Proofs.YtnmgnhpagnjhlaaGreatDoor
