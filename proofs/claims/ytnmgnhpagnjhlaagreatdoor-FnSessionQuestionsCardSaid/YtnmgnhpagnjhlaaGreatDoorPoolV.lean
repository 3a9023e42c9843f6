/- Whether a pool is valid: the reference's answer and the program's. -/
import Derived.Test.YtnmgnhpagnjhlaaGreatDoorFind
set_option linter.unusedVariables false
set_option linter.unusedSimpArgs false
set_option linter.unnecessarySimpa false
namespace Go.Proofs.YtnmgnhpagnjhlaaGreatDoor
open Go.RowKit

theorem poolIntInfo : (Tryz.prog.info? 3).map (fun i => (i.zero, i.size, i.bytes)) = some (some (.int .i64 0), 1, 8) := by kernel_rfl
theorem wrap_small (z : Int) (h1 : -1000 ≤ z) (h2 : z ≤ 1000) : IntKind.i64.wrap z = z := IntWalk.i64_in _ ⟨by omega, by omega⟩
set_option maxRecDepth 100000 in
set_option maxHeartbeats 4000000 in
theorem sValidPool_c (mx : Int) (ids : List Int) (hs : List Pr) (wt : List Int) (A : Option Addr) (n c : Nat) (B : Option Addr) (m d : Nat) (C : Option Addr) (k f : Nat) (w : World) (hA : ids.length = n) (hB : hs.length = m) (hC : wt.length = k)
    (h1 : Rd w A (ids.map (.int .i64))) (h2 : Rd w B (sc hs)) (h3 : Rd w C (wt.map (.int .i64))) (l1 : n ≤ 1073741824) (l2 : m ≤ 1073741824) (l3 : k ≤ 1073741824) :
    Calls Tryz.prog 33 #[.agg #[.int .i64 mx, .slice A n c, .slice B m d, .slice C k f]] w fun e w' => e = .returned (.bool (Pl.valid ⟨mx, ids, hs, wt⟩)) ∧ Below w.heap.size w w' := by
  have HA := Lib.hid hA; have HB := Lib.hid hB; have HC := Lib.hid hC
  clear hA hB hC
  obtain ⟨i0, i0_i, i0_z0, i0_z1, i0_z2⟩ := info_parts poolIntInfo
  obtain ⟨r, hr⟩ : ∃ r, r = Pl.valid ⟨mx, ids, hs, wt⟩ := ⟨_, rfl⟩
  rw [← hr]
  obtain ⟨w1, hw1⟩ : ∃ w1, w1 = w.alloc (.cells #[.int .i64 mx, .slice A n c, .slice B m d, .slice C k f] 26) := ⟨_, rfl⟩
  have hg : w1.heap.size = w.heap.size + 1 := by rw [hw1]; simp
  have H1 := Lib.hid (show Rd w1 A _ by rw [hw1]; exact h1.alloc _)
  have H2 := Lib.hid (show Rd w1 B _ by rw [hw1]; exact h2.alloc _)
  have H3 := Lib.hid (show Rd w1 C _ by rw [hw1]; exact h3.alloc _)
  have BX := Lib.hid (show Blk w1 w.heap.size 26 #[.int .i64 mx, .slice A n c, .slice B m d, .slice C k f] by rw [hw1]; exact Blk.new w _ _)
  have B01 := Lib.hid (show Below w.heap.size w w1 by rw [hw1]; exact (Below.refl _ _).alloc (Nat.le_refl _) _)
  have FIN := Lib.hid (fun (W : World) (hW : Below (w.heap.size + 1) w1 W) => (B01.out.trans (hW.mono (Nat.le_succ _)) : Below w.heap.size w W))
  have HR := Lib.hid hr
  clear hr h1 h2 h3
  go_enter Tryz.func33, Tryz.ntmps33
  go_wp2_with fail
  rw [← hw1]
  clear hw1
  go_loopw [3, 4] (fun s i wr => ∃ (j : Nat) (A2 : Option Addr) (c2 : Nat), j ≤ n ∧ i = .int .i64 j ∧ s = .slice A2 j c2 ∧ Row wr (w.heap.size + 1) 3 1 A2 j c2 ((ids.take j).map (.int .i64)) ∧ (ids.take j).Nodup ∧ Below (w.heap.size + 1) w1 wr) (fun _ i _ => n - (intOf i).toNat)
  case atStart => exact ⟨0, _, 0, Nat.zero_le _, rfl, rfl, Row.nil _ _ _ _ _, List.nodup_nil, (Below.refl _ _).alloc (by omega) _⟩
  case round =>
    obtain ⟨j, A2, c2, hj, rfl, rfl, row, hnd, hb⟩ := hrel
    have bxr := BX.out.below hb (by omega)
    have k0 : wr.cell? ⟨w.heap.size, 0, none⟩ = some (.int .i64 mx) := bxr.cell 0
    have k1 : wr.cell? ⟨w.heap.size, 1, none⟩ = some (.slice A n c) := bxr.cell 1
    have k2 : wr.cell? ⟨w.heap.size, 2, none⟩ = some (.slice B m d) := bxr.cell 2
    have k3 : wr.cell? ⟨w.heap.size, 3, none⟩ = some (.slice C k f) := bxr.cell 3
    clear bxr
    have RD := Lib.hid row.rd
    obtain ⟨L, hL⟩ : ∃ L, L = (ids.take j).map (Value.int .i64) := ⟨_, rfl⟩
    rw [← hL] at row
    have HL := Lib.hid hL
    clear hL
    have HB1 := Lib.hid hb; have ROW := Lib.hid row; have ND := Lib.hid hnd
    have hsz : w.heap.size + 1 ≤ wr.heap.size := by have := hb.size; omega
    by_cases hlt : j < n
    · have hjx : j < ids.length := by have := HA.out; omega
      obtain ⟨b, off, hAA, hbl, hc⟩ := (H1.out.below (hb.mono (by omega))).block (by simp; omega)
      subst hAA
      obtain ⟨x, hX⟩ : ∃ x, x = ids[j] := ⟨_, rfl⟩
      have hx : wr.cell? ⟨b, off + j, none⟩ = some (.int .i64 x) := hc j _ (by simp [hX, hjx])
      have HX := Lib.hid hX
      have HCI := Lib.hid (sIsIn_c (ids.take j) x A2 j c2 wr (by rw [List.length_take, HA.out]; omega) RD.out (by omega))
      clear hX hc hb row hnd
      by_cases hin : x ∈ ids.take j
      · rw [decide_eq_true hin] at HCI
        have HR' : Hid (r = false) := HR.out.trans (bad_ids (p := ⟨mx, ids, hs, wt⟩) hjx (by rw [← HX.out]; exact hin))
        clear hin
        go_wp2_with fail
        refine HCI.out.mono ?_
        rintro e w2 ⟨rfl, rfl⟩
        go_wp2_with fail
        go_ret
        rw [HR'.out]
        exact ⟨rfl, FIN.out _ HB1.out⟩
      · rw [decide_eq_false hin] at HCI
        have HN := Lib.hid hin
        clear hin
        go_wp2_with fail
        refine HCI.out.mono ?_
        rintro e w2 ⟨rfl, rfl⟩
        go_wp2_with (at_builtin; (refine wpList_append_row _ rfl (.tmp 21) (.tmp 27) 23 rfl (w.heap.size + 1) 3 i0 (.int .i64 0) 1 8 Tryz.underlying23 i0_i i0_z0 i0_z1 i0_z2 rfl A2 (j) c2 (L) rfl (ROW.out.alloc _) (some ⟨wr.heap.size, 0, none⟩) 1 1 [.int .i64 x] rfl rfl (Rd.one (cell_new _ _ _ 0)) (one1 _ rfl) (by omega) (by unfold maxLen; omega) (by omega) (by simp <;> omega) ?_))
        intro A3 c3 w3 row3 hg3 _
        have b3 : Below (w.heap.size + 1) w1 w3 := (HB1.out.alloc hsz _).grown hg3 (by simp <;> omega) (fun y hy => (ROW.out.lt y hy).1)
        rw [show L ++ [Value.int .i64 x] = (ids.take (j + 1)).map (Value.int .i64) by rw [HL.out, take_snoc ids j hjx, List.map_append, ← HX.out]; rfl] at row3
        have B3 := Lib.hid b3; have ROW3 := Lib.hid row3
        clear hg3 b3 row3
        go_wp2_with fail
        go_roundw
        case rel => exact ⟨j + 1, A3, c3, by omega, by go_num, rfl, ROW3.out, seen_ids hjx ND.out (by rw [← HX.out]; exact HN.out), B3.out⟩
        case measure => simp [intOf]; omega
    · obtain rfl : j = n := by omega
      have hti : ids.take j = ids := List.take_of_length_le (by rw [HA.out]; exact Nat.le_refl _)
      have ROW' := ROW.out
      rw [HL.out] at ROW'
      have ND' := ND.out
      rw [hti] at ROW' ND'
      have RW := Lib.hid ROW'; have NDD := Lib.hid ND'
      clear ROW' ND' hti row hnd hb ROW ND
      go_wp2_with fail
      go_loopw [3, 5] (fun s i wr => ∃ (q : Nat) (A2 : Option Addr) (c2 : Nat), q ≤ m ∧ i = .int .i64 q ∧ s = .slice A2 (j + q) c2 ∧ Row wr (w.heap.size + 1) 3 1 A2 (j + q) c2 ((ids ++ (conns hs).take q).map (.int .i64)) ∧ (ids ++ (conns hs).take q).Nodup ∧ (∀ h ∈ hs.take q, 0 ≤ h.2 ∧ h.2 ≤ 4) ∧ Below (w.heap.size + 1) w1 wr) (fun _ i _ => m - (intOf i).toNat)
      case atStart => exact ⟨0, A2, c2, Nat.zero_le _, rfl, rfl, by simpa using RW.out, by simpa using NDD.out, by simp, HB1.out⟩
      case round =>
        clear RW NDD HB1 hsz k0 k1 k2 k3 hlt hj
        obtain ⟨q, A2, c2, hq, rfl, rfl, row, hnd, how, hb⟩ := hrel
        have bxr := BX.out.below hb (by omega)
        have k0 : wr.cell? ⟨w.heap.size, 0, none⟩ = some (.int .i64 mx) := bxr.cell 0
        have k1 : wr.cell? ⟨w.heap.size, 1, none⟩ = some (.slice A j c) := bxr.cell 1
        have k2 : wr.cell? ⟨w.heap.size, 2, none⟩ = some (.slice B m d) := bxr.cell 2
        have k3 : wr.cell? ⟨w.heap.size, 3, none⟩ = some (.slice C k f) := bxr.cell 3
        clear bxr
        have RD := Lib.hid row.rd
        obtain ⟨L, hL⟩ : ∃ L, L = (ids ++ (conns hs).take q).map (Value.int .i64) := ⟨_, rfl⟩
        rw [← hL] at row
        have HL := Lib.hid hL
        clear hL
        have HB1 := Lib.hid hb; have ROW := Lib.hid row; have ND := Lib.hid hnd; have HOW := Lib.hid how
        have hsz : w.heap.size + 1 ≤ wr.heap.size := by have := hb.size; omega
        have hlc : (ids ++ (conns hs).take q).length = j + q := by rw [List.length_append, List.length_take, conns_len, HA.out, HB.out]; omega
        by_cases hlt : q < m
        · have hqx : q < hs.length := by have := HB.out; omega
          obtain ⟨b, off, hBB, hbl, hc⟩ := sc_pair (H2.out.below (hb.mono (by omega))) (by omega)
          subst hBB
          obtain ⟨hc1, hc2⟩ := hc q hqx
          obtain ⟨⟨x, y⟩, hX⟩ : ∃ x, x = hs[q] := ⟨_, rfl⟩
          rw [← hX] at hc1 hc2
          simp only at hc1 hc2
          have HX1 := Lib.hid (congrArg Prod.fst hX); have HX2 := Lib.hid (congrArg Prod.snd hX)
          have HCI := Lib.hid (sIsIn_c (ids ++ (conns hs).take q) x A2 (j + q) c2 wr hlc RD.out (by omega))
          clear hX hc hb row hnd how hlc
          by_cases hin : x ∈ ids ++ (conns hs).take q
          · rw [decide_eq_true hin] at HCI
            have HR' : Hid (r = false) := HR.out.trans (bad_conn (p := ⟨mx, ids, hs, wt⟩) hqx (by rw [show hs[q].1 = x from HX1.out.symm]; exact hin))
            clear hin
            go_wp2_with fail
            refine HCI.out.mono ?_
            rintro e w2 ⟨rfl, rfl⟩
            go_wp2_with fail
            go_ret
            rw [HR'.out]
            exact ⟨rfl, FIN.out _ HB1.out⟩
          · rw [decide_eq_false hin] at HCI
            have HN := Lib.hid hin
            have HCY := Lib.hid (inRange_c y 0 4 wr)
            clear hin
            by_cases hy : 0 ≤ y ∧ y ≤ 4
            · rw [decide_eq_true hy] at HCY
              have HY := Lib.hid hy
              clear hy
              go_wp2_with fail
              refine HCI.out.mono ?_
              rintro e w2 ⟨rfl, rfl⟩
              go_wp2_with fail
              refine HCY.out.mono ?_
              rintro e w2 ⟨rfl, rfl⟩
              go_wp2_with (at_builtin; (refine wpList_append_row _ rfl (.tmp 54) (.tmp 61) 23 rfl (w.heap.size + 1) 3 i0 (.int .i64 0) 1 8 Tryz.underlying23 i0_i i0_z0 i0_z1 i0_z2 rfl A2 (j + q) c2 (L) rfl (ROW.out.alloc _) (some ⟨wr.heap.size, 0, none⟩) 1 1 [.int .i64 x] rfl rfl (Rd.one (cell_new _ _ _ 0)) (one1 _ rfl) (by omega) (by unfold maxLen; omega) (by omega) (by simp <;> omega) ?_))
              intro A3 c3 w3 row3 hg3 _
              have b3 : Below (w.heap.size + 1) w1 w3 := (HB1.out.alloc hsz _).grown hg3 (by simp <;> omega) (fun y hy => (ROW.out.lt y hy).1)
              have hcx : (conns hs)[q]'(by rw [conns_len]; exact hqx) = x := by rw [conns_get hs q hqx]; exact HX1.out.symm
              rw [show L ++ [Value.int .i64 x] = (ids ++ (conns hs).take (q + 1)).map (Value.int .i64) by rw [HL.out, take_snoc (conns hs) q (by rw [conns_len]; exact hqx), hcx, ← List.append_assoc]; simp] at row3
              have hox : ∀ h ∈ hs.take (q + 1), 0 ≤ h.2 ∧ h.2 ≤ 4 := fun h hm => by
                rw [take_snoc hs q hqx] at hm
                rcases List.mem_append.1 hm with hm | hm
                · exact HOW.out h hm
                · rw [List.mem_singleton] at hm
                  rw [hm, show hs[q].2 = y from HX2.out.symm]
                  exact HY.out
              have B3 := Lib.hid b3; have ROW3 := Lib.hid row3; have HOX := Lib.hid hox
              clear hg3 b3 row3 hox hcx
              go_wp2_with fail
              go_roundw
              case rel => exact ⟨q + 1, A3, c3, by omega, by go_num, rfl, ROW3.out, seen_conns hqx ND.out (by rw [show hs[q].1 = x from HX1.out.symm]; exact HN.out), HOX.out, B3.out⟩
              case measure => simp [intOf]; omega
            · rw [decide_eq_false hy] at HCY
              have HR' : Hid (r = false) := HR.out.trans (bad_owner (p := ⟨mx, ids, hs, wt⟩) hqx (by rw [show hs[q].2 = y from HX2.out.symm]; exact hy))
              clear hy
              go_wp2_with fail
              refine HCI.out.mono ?_
              rintro e w2 ⟨rfl, rfl⟩
              go_wp2_with fail
              refine HCY.out.mono ?_
              rintro e w2 ⟨rfl, rfl⟩
              go_wp2_with fail
              go_ret
              rw [HR'.out]
              exact ⟨rfl, FIN.out _ HB1.out⟩
        · obtain rfl : q = m := by omega
          have htc : (conns hs).take q = conns hs := List.take_of_length_le (by rw [conns_len, HB.out]; exact Nat.le_refl _)
          have hth : hs.take q = hs := List.take_of_length_le (by rw [HB.out]; exact Nat.le_refl _)
          have RD' := RD.out
          rw [htc] at RD' hnd hlc
          rw [hth] at how
          have HR2 := Lib.hid (HR.out.trans (valid_last (p := ⟨mx, ids, hs, wt⟩) hnd how))
          have HC1 := Lib.hid (inRange_c mx 1 6 wr)
          have HC2 := Lib.hid (sAllIn_c (ids ++ conns hs) 0 (mx - 1) A2 (j + q) c2 wr hlc RD' (by omega))
          have HC3 := Lib.hid (sAllIn_c wt 0 4 C k f wr HC.out (H3.out.below (hb.mono (by omega))) (by omega))
          obtain ⟨a1, ha1⟩ : ∃ a, a = allB 0 (mx - 1) (ids ++ conns hs) := ⟨_, rfl⟩
          obtain ⟨a2, ha2⟩ : ∃ a, a = allB 0 4 wt := ⟨_, rfl⟩
          simp only at HR2
          rw [← ha1, ← ha2, HC.out, HB.out] at HR2
          rw [← ha1] at HC2
          rw [← ha2] at HC3
          clear RD' row hnd how htc hth ha1 ha2 hb hlc ROW ND HOW hlt
          by_cases hmx : 1 ≤ mx ∧ mx ≤ 6
          · rw [decide_eq_true hmx] at HC1 HR2
            obtain ⟨hm1, hm2⟩ := hmx
            have hwr : IntKind.i64.wrap (mx - 1) = mx - 1 := wrap_small _ (by omega) (by omega)
            cases a1
            · have HV : Hid (r = false) := HR2.out.trans (by simp)
              go_wp2_with fail
              refine HC1.out.mono ?_
              rintro e w2 ⟨rfl, rfl⟩
              go_wp2_with fail
              refine HC2.out.mono ?_
              rintro e w2 ⟨rfl, rfl⟩
              go_wp2_with fail
              go_ret
              rw [HV.out]
              exact ⟨rfl, FIN.out _ HB1.out⟩
            · by_cases hk : k ≤ 12
              · have hk1 : decide (12 < k) = false := decide_eq_false (by omega)
                have hk2 : decide ((12 : Int) < (k : Int)) = false := decide_eq_false (by omega)
                cases a2
                · have HV : Hid (r = false) := HR2.out.trans (by simp)
                  go_wp2_with fail
                  refine HC1.out.mono ?_
                  rintro e w2 ⟨rfl, rfl⟩
                  go_wp2_with fail
                  refine HC2.out.mono ?_
                  rintro e w2 ⟨rfl, rfl⟩
                  go_wp2_with fail
                  refine HC3.out.mono ?_
                  rintro e w2 ⟨rfl, rfl⟩
                  go_wp2_with fail
                  go_ret
                  rw [HV.out]
                  exact ⟨rfl, FIN.out _ HB1.out⟩
                · by_cases hk0 : k = 0
                  · have he0 : ((k : Int) == 0) = true := beq_iff_eq.2 (by omega)
                    have HV : Hid (r = true) := HR2.out.trans (by rw [decide_eq_true hk, decide_eq_true hk0]; rfl)
                    clear hk0
                    go_wp2_with fail
                    refine HC1.out.mono ?_
                    rintro e w2 ⟨rfl, rfl⟩
                    go_wp2_with fail
                    refine HC2.out.mono ?_
                    rintro e w2 ⟨rfl, rfl⟩
                    go_wp2_with fail
                    refine HC3.out.mono ?_
                    rintro e w2 ⟨rfl, rfl⟩
                    go_wp2_with fail
                    go_ret
                    rw [HV.out]
                    exact ⟨rfl, FIN.out _ HB1.out⟩
                  · have he0 : ((k : Int) == 0) = false := beq_eq_false_iff_ne.2 (by omega)
                    by_cases hqm : (q : Int) = mx
                    · have he1 : ((q : Int) == mx) = true := beq_iff_eq.2 hqm
                      have HV : Hid (r = true) := HR2.out.trans (by rw [decide_eq_true hk, decide_eq_true hqm]; simp)
                      clear hqm
                      go_wp2_with fail
                      refine HC1.out.mono ?_
                      rintro e w2 ⟨rfl, rfl⟩
                      go_wp2_with fail
                      refine HC2.out.mono ?_
                      rintro e w2 ⟨rfl, rfl⟩
                      go_wp2_with fail
                      refine HC3.out.mono ?_
                      rintro e w2 ⟨rfl, rfl⟩
                      go_wp2_with fail
                      go_ret
                      rw [HV.out]
                      exact ⟨rfl, FIN.out _ HB1.out⟩
                    · have he1 : ((q : Int) == mx) = false := beq_eq_false_iff_ne.2 hqm
                      have HV : Hid (r = false) := HR2.out.trans (by rw [decide_eq_false hk0, decide_eq_false hqm]; simp)
                      clear hqm
                      go_wp2_with fail
                      refine HC1.out.mono ?_
                      rintro e w2 ⟨rfl, rfl⟩
                      go_wp2_with fail
                      refine HC2.out.mono ?_
                      rintro e w2 ⟨rfl, rfl⟩
                      go_wp2_with fail
                      refine HC3.out.mono ?_
                      rintro e w2 ⟨rfl, rfl⟩
                      go_wp2_with fail
                      go_ret
                      rw [HV.out]
                      exact ⟨rfl, FIN.out _ HB1.out⟩
              · have hk1 : decide (12 < k) = true := decide_eq_true (by omega)
                have hk2 : decide ((12 : Int) < (k : Int)) = true := decide_eq_true (by omega)
                have HV : Hid (r = false) := HR2.out.trans (by rw [decide_eq_false hk]; simp)
                go_wp2_with fail
                refine HC1.out.mono ?_
                rintro e w2 ⟨rfl, rfl⟩
                go_wp2_with fail
                refine HC2.out.mono ?_
                rintro e w2 ⟨rfl, rfl⟩
                go_wp2_with fail
                go_ret
                rw [HV.out]
                exact ⟨rfl, FIN.out _ HB1.out⟩
          · rw [decide_eq_false hmx] at HC1 HR2
            have HV : Hid (r = false) := HR2.out.trans (by simp)
            clear hmx
            go_wp2_with fail
            refine HC1.out.mono ?_
            rintro e w2 ⟨rfl, rfl⟩
            go_wp2_with fail
            go_ret
            rw [HV.out]
            exact ⟨rfl, FIN.out _ HB1.out⟩

end Go.Proofs.YtnmgnhpagnjhlaaGreatDoor
