/- Contracts of runs of commands, by the program. -/
import Derived.Test.YtagmhmhhjkfhgaaNestRun
set_option linter.unusedVariables false
set_option linter.unusedSimpArgs false
set_option linter.unnecessarySimpa false
namespace Go.Proofs.Ytagmhmhhjkfhgaa
open Go.RowKit

theorem works_bd (l : List Int) : 0 ≤ works l ∧ works l ≤ l.length := by
  unfold works
  exact ⟨Int.natCast_nonneg _, Int.ofNat_le.2 (List.length_filter_le _ _)⟩
theorem works_take (ks : List Int) (j : Nat) (h : j < ks.length) : works (ks.take (j + 1)) = works (ks.take j) + (if ks[j] = 1 then 1 else 0) := by
  rw [List.take_succ_eq_append_getElem h]
  unfold works
  rw [List.filter_append, List.length_append]
  by_cases h1 : ks[j] = 1
  · simp [h1]
  · simp [h1]
theorem runV_le (ks : List Int) : (runV ks).marks.length ≤ 4 := by
  unfold runV
  split
  · have := runS_ok ks; rw [St.ok_iff] at this; exact this.1
  · simp [St.zero]
theorem runV_work (ks : List Int) : 0 ≤ (runV ks).work ∧ (runV ks).work ≤ 12 := by
  unfold runV
  split
  · have := runS_ok ks; rw [St.ok_iff] at this; exact this.2.1
  · simp [St.zero]
/-- A state of a nest and two numbers: new memory; what was there is as it was. -/
def RetRun3 (t : St) (u v : Int) (w : World) (e : Ending) (w' : World) : Prop :=
  ∃ A c, e = .returned (.tuple #[.agg #[.int .i64 (t.marks.length : Int), .int .i64 t.work, .slice A t.marks.length c, .bool t.broken], .int .i64 u, .int .i64 v]) ∧ Row w' w.heap.size 3 1 A t.marks.length c (t.marks.map (.int .i64)) ∧ Below w.heap.size w w'
set_option maxRecDepth 100000 in
set_option maxHeartbeats 16000000 in
theorem run_c (ks : List Int) (A : Option Addr) (n c : Nat) (w : World) (hN : ks.length = n) (hc0 : n ≤ c) (h : Rd w A (ks.map (.int .i64))) (hn : n ≤ 1073741824) :
    Calls Try.prog 39 #[.slice A n c] w (RetRun3 (runV ks) (missV ks) (keptV ks) w) := by
  have HN := Lib.hid hN; clear hN
  have H := Lib.hid h; clear h
  by_cases h16 : n ≤ 16
  · go_enter Try.func39, Try.ntmps39
    go_wp2_with fail
    have start : NestAt (runS (ks.take 0)) (w.heap.size + 1) (w.heap.size + 2) w ((w.alloc (.cells #[.int .i64 0, .int .i64 0, .slice none 0 0, .bool false] 25)).alloc (.cells #[.int .i64 0, .int .i64 0, .slice none 0 0, .bool false] 25)) := by
      refine ⟨_, 0, Blk.new_at _ (by simp) _ _, Row.nil _ _ _ _ _, ?_⟩
      exact ((Below.refl _ _).alloc (Nat.le_refl _) _).alloc (by simp) _
    have startr : Blk ((w.alloc (.cells #[.int .i64 0, .int .i64 0, .slice none 0 0, .bool false] 25)).alloc (.cells #[.int .i64 0, .int .i64 0, .slice none 0 0, .bool false] 25)) w.heap.size 25 #[.int .i64 0, .int .i64 0, .slice none 0 0, .bool false] := (Blk.new _ _ _).alloc _
    go_loopw [6, 7, 18] (fun q p i wr => ∃ j : Nat, j ≤ n ∧ i = .int .i64 j ∧ q = .int .i64 (missed (ks.take j)) ∧ p = .int .i64 (kept (ks.take j)) ∧ NestAt (runS (ks.take j)) (w.heap.size + 1) (w.heap.size + 2) w wr ∧ Blk wr w.heap.size 25 #[.int .i64 0, .int .i64 0, .slice none 0 0, .bool false]) (fun _ _ i _ => n - (intOf i).toNat)
    case atStart => exact ⟨0, Nat.zero_le _, rfl, rfl, rfl, start, startr⟩
    case round =>
      clear start startr
      obtain ⟨j, hj, rfl, rfl, rfl, ⟨A2, c2, bo, row, bel⟩, br⟩ := hrel
      by_cases hlt : j < n
      · have hjk : j < ks.length := by have := HN.out; omega
        obtain ⟨b0, off, hA, hcell⟩ := (H.out.block (by simp; omega))
        subst hA
        obtain ⟨hblt, hcell⟩ := hcell
        obtain ⟨x, hX⟩ : ∃ x, x = ks[j] := ⟨_, rfl⟩
        have hx0 : w.cell? ⟨b0, off + j, none⟩ = some (.int .i64 x) := hcell _ _ (by simp [hX, hjk])
        have hx : wr.cell? ⟨b0, off + j, none⟩ = some (.int .i64 x) := (bel.cell (by exact hblt)).trans hx0
        obtain ⟨e1, e2, e3⟩ := run_take_succ ks j hjk
        have hok := runS_ok (ks.take j)
        have hq := missed_bd (ks.take j)
        have hp := kept_bd (ks.take j)
        have htl : (ks.take j).length ≤ j := List.length_take_le _ _
        obtain ⟨q, hqd⟩ : ∃ q, q = missed (ks.take j) := ⟨_, rfl⟩
        obtain ⟨p, hpd⟩ : ∃ p, p = kept (ks.take j) := ⟨_, rfl⟩
        obtain ⟨s, hs⟩ : ∃ s, s = runS (ks.take j) := ⟨_, rfl⟩
        rw [← hs, ← hX] at e1 e2 e3
        rw [← hs] at bo row hok
        rw [← hqd] at e2 hq ⊢
        rw [← hpd] at e3 hp ⊢
        obtain ⟨k, ms, b⟩ := s
        have hq0 : 0 ≤ q := hq.1
        have hq1 : q ≤ 16 := by omega
        have hp0 : 0 ≤ p := hp.1
        have hp1 : p ≤ 16 := by omega
        obtain ⟨r, hr⟩ : ∃ r, r = St.step ⟨k, ms, b⟩ x := ⟨_, rfl⟩
        have hok' := hok
        rw [St.ok_iff] at hok'
        have hml : ms.length ≤ 4 := hok'.1
        have hk0 : 0 ≤ k := hok'.2.1.1
        have hk1 : k ≤ 12 := hok'.2.1.2
        have hcap := row.le
        have hcon : ∀ W, Rd W A2 (ms.map (.int .i64)) → Calls Try.prog 33 #[.agg #[.int .i64 (ms.length : Int), .int .i64 k, .slice A2 ms.length c2, .bool b], .int .i64 x] W (RetStep (r.getD ⟨k, ms, b⟩) r.isSome W) := by
          intro W hW
          have := step_c k ms b x A2 ms.length c2 W rfl hcap hW hok
          unfold St.next at this
          rw [← hr] at this
          exact this
        have HCON := Lib.hid hcon; have HR := Lib.hid hr; have HE1 := Lib.hid e1; have HE2 := Lib.hid e2; have HE3 := Lib.hid e3
        have BO := Lib.hid bo; have ROW := Lib.hid row; have BEL := Lib.hid bel; have RDW := Lib.hid row.rd; have BR := Lib.hid br
        have hsz : w.heap.size + 2 ≤ wr.heap.size := by have := bo.lt; omega
        obtain ⟨o0c, o1c, o2c, o3c, ofz⟩ := blk4 bo
        clear hcon hr e1 e2 e3 bo row bel hok hok' hcell hx0 hX hs hqd hpd hq hp htl br
        have hkd : (x == 3) = true ∨ (x == 3) = false := by cases (x == 3) <;> simp
        have hcase : r = none ∨ (∃ tk tm tb, r = some (St.mk tk tm tb) ∧ ((tm.length : Int) == 0) = true) ∨ (∃ tk tm tb, r = some (St.mk tk tm tb) ∧ ((tm.length : Int) == 0) = false) := by
          rcases r with _ | ⟨tk, tm, tb⟩
          · exact .inl rfl
          · cases hh : ((tm.length : Int) == 0)
            · exact .inr (.inr ⟨tk, tm, tb, rfl, hh⟩)
            · exact .inr (.inl ⟨tk, tm, tb, rfl, hh⟩)
        rcases hcase with rfl | ⟨tk, tm, tb, rfl, ht0⟩ | ⟨tk, tm, tb, rfl, ht0⟩ <;> rcases hkd with hkd | hkd
        all_goals
          go_wp2_with fail
          refine (HCON.out _ RDW.out).mono ?_
          rintro e w1 ⟨A3, c3, rfl, row3, b1⟩
          have bo1 := Blk.below BO.out b1 BO.out.lt
          have br1 := Blk.below BR.out b1 BR.out.lt
          have bel1 := BEL.out.trans (b1.mono (by omega))
          have hsz1 : w.heap.size + 2 ≤ w1.heap.size := by have := b1.size; omega
          have row3' : Row w1 (w.heap.size + 2) 3 1 A3 _ c3 _ := row3.mono hsz
          have ROW3 := Lib.hid row3'; have BO1 := Lib.hid bo1; have BEL1 := Lib.hid bel1; have BR1 := Lib.hid br1
          have hw1 : ¬ w.heap.size + 1 = w1.heap.size := by omega
          have hw2 : ¬ w1.heap.size = w.heap.size + 1 := by omega
          have hw3 : w.heap.size + 1 < w1.heap.size := by omega
          have hb9 : b0 < w1.heap.size := by omega
          clear o0c o1c o2c o3c ofz row3 row3' b1
          obtain ⟨o0c, o1c, o2c, o3c, ofz⟩ := blk4 BO1.out
          clear bo1 br1 bel1
          go_wp2_with fail
          go_roundw
          case rel =>
            refine ⟨j + 1, by omega, by go_num, ?_, ?_, ?_, ?_⟩
            · rw [HE2.out]
              unfold St.missed
              rw [← HR.out]
              simp
            · have h9 := HE3.out
              unfold St.keeps St.next at h9
              rw [← HR.out] at h9
              rw [h9]
              simp at hkd
              first
                | (simp at ht0; simp [hkd, ht0]; done)
                | (simp [hkd]; done)
            · rw [HE1.out]
              unfold St.next
              rw [← HR.out]
              exact ⟨A3, c3, (blk_set4 BO1.out).alloc _, (row_set4 ROW3.out BO1.out (by decide)).alloc _, (below_set4 BEL1.out (by omega)).alloc (by simp <;> omega) _⟩
            · exact (blk_far4 BR1.out (by omega)).alloc _
          case measure => simp [intOf]; omega
      · obtain rfl : j = n := by omega
        rw [List.take_of_length_le (by rw [HN.out]; exact Nat.le_refl _)] at *
        have hv : runV ks = runS ks ∧ missV ks = missed ks ∧ keptV ks = kept ks := by unfold runV missV keptV; rw [if_pos (by rw [HN.out]; exact h16), if_pos (by rw [HN.out]; exact h16), if_pos (by rw [HN.out]; exact h16)]; exact ⟨rfl, rfl, rfl⟩
        have HV := Lib.hid hv
        obtain ⟨o0c, o1c, o2c, o3c, ofz⟩ := blk4 bo
        obtain ⟨r0c, r1c, r2c, r3c, rfz⟩ := blk4 br
        have BEL := Lib.hid bel; have ROW := Lib.hid row; have BR := Lib.hid br
        obtain ⟨s, hs⟩ : ∃ s, s = runS ks := ⟨_, rfl⟩
        rw [← hs] at o0c o1c o2c o3c ROW HV
        obtain ⟨q, hqq⟩ : ∃ q, q = missed ks := ⟨_, rfl⟩
        rw [← hqq] at HV ⊢
        obtain ⟨p, hpp⟩ : ∃ p, p = kept ks := ⟨_, rfl⟩
        rw [← hpp] at HV ⊢
        clear bo row hv bel br hs hqq hpp
        go_wp2_with fail
        refine bodyPost_ret (v := .tuple #[.agg #[.int .i64 (s.marks.length : Int), .int .i64 s.work, .slice A2 s.marks.length c2, .bool s.broken], .int .i64 q, .int .i64 p]) (by simp [results, Try.results39, go_sem, o0c, o1c, o2c, o3c, ofz, r0c, r1c, r2c, r3c, rfz]) rfl ?_
        rw [HV.out.1, HV.out.2.1, HV.out.2.2]
        exact ⟨A2, c2, rfl, (row_set4 ROW.out BR.out (by decide)).mono (by omega), below_set4 BEL.out (Nat.le_refl _)⟩
  · have hv : ¬ ks.length ≤ 16 := by rw [HN.out]; exact h16
    go_enter Try.func39, Try.ntmps39
    go_wp2_with fail
    have hv1 : runV ks = St.zero ∧ missV ks = -1 ∧ keptV ks = -1 := by unfold runV missV keptV; rw [if_neg hv, if_neg hv, if_neg hv]; exact ⟨rfl, rfl, rfl⟩
    refine bodyPost_ret (v := .tuple #[.agg #[.int .i64 0, .int .i64 0, .slice none 0 0, .bool false], .int .i64 (-1), .int .i64 (-1)]) (by simp [results, Try.results39, go_sem]) rfl ?_
    rw [hv1.1, hv1.2.1, hv1.2.2]
    refine ⟨none, 0, rfl, Row.nil _ _ _ _ _, ?_⟩
    repeat (first | (with_reducible refine Below.setCell ?_ (by simp <;> omega) _) | (with_reducible refine Below.alloc ?_ (by simp <;> omega) _))
    exact Below.refl _ _
set_option maxRecDepth 100000 in
set_option maxHeartbeats 2000000 in
theorem runNest_c (ks : List Int) (A : Option Addr) (n c : Nat) (w : World) (hN : ks.length = n) (hc0 : n ≤ c) (h : Rd w A (ks.map (.int .i64))) (hn : n ≤ 1073741824) :
    Calls Try.prog 19 #[.slice A n c] w (RetRun (runV ks) (missV ks) w) := by
  have HC := Lib.hid (fun W hW => run_c ks A n c W hN hc0 hW hn)
  have H := Lib.hid h; clear h hN
  go_enter Try.func19, Try.ntmps19
  go_wp2_with fail
  refine (HC.out _ (H.out.alloc _)).mono ?_
  rintro e w1 ⟨A2, c2, rfl, row, b1⟩
  obtain ⟨s, hs⟩ : ∃ s, s = runV ks := ⟨_, rfl⟩
  obtain ⟨u, hu⟩ : ∃ u, u = missV ks := ⟨_, rfl⟩
  obtain ⟨v, hv⟩ : ∃ v, v = keptV ks := ⟨_, rfl⟩
  rw [← hs] at row ⊢
  rw [← hu, ← hv]
  have HS := Lib.hid hs.symm; have HM := Lib.hid hu.symm
  clear hs hu hv
  have br := (Blk.new w 25 #[.int .i64 0, .int .i64 0, .slice none 0 0, .bool false]).below b1 (by simp)
  have bel : Below w.heap.size w w1 := ((Below.refl _ _).alloc (Nat.le_refl _) _).trans (b1.mono (by simp))
  have row' : Row w1 (w.heap.size + 1) 3 1 A2 s.marks.length c2 (s.marks.map (.int .i64)) := row.mono (by simp)
  have hlt := br.lt
  have hne : ¬ w.heap.size = w1.heap.size := by omega
  have hne2 : ¬ w1.heap.size = w.heap.size := by omega
  obtain ⟨r0c, r1c, r2c, r3c, rfz⟩ := blk4 br
  have BR := Lib.hid br; have BEL := Lib.hid bel; have ROW := Lib.hid row'
  clear row row' b1 br bel
  go_wp2_with fail
  refine bodyPost_ret (v := .tuple #[.agg #[.int .i64 (s.marks.length : Int), .int .i64 s.work, .slice A2 s.marks.length c2, .bool s.broken], .int .i64 u]) (by simp [results, Try.results19, go_sem, r0c, r1c, r2c, r3c, rfz, hlt, hne, hne2]) rfl ?_
  try rw [HS.out]
  try rw [HM.out]
  exact ⟨A2, c2, rfl, ((row_set4 ROW.out BR.out (by decide)).alloc _).mono (Nat.le_succ _), (below_set4 BEL.out (Nat.le_refl _)).alloc (by simp <;> omega) _⟩
set_option maxRecDepth 100000 in
set_option maxHeartbeats 2000000 in
theorem keptWork_c (ks : List Int) (A : Option Addr) (n c : Nat) (w : World) (hN : ks.length = n) (hc0 : n ≤ c) (h : Rd w A (ks.map (.int .i64))) (hn : n ≤ 1073741824) :
    Calls Try.prog 26 #[.slice A n c] w fun e w' => e = .returned (.int .i64 (keptV ks)) ∧ Below w.heap.size w w' := by
  have HC := Lib.hid (run_c ks A n c w hN hc0 h hn)
  clear h hN
  go_enter Try.func26, Try.ntmps26
  go_wp2_with fail
  refine HC.out.mono ?_
  rintro e w1 ⟨A2, c2, rfl, row, b1⟩
  obtain ⟨s, hs⟩ : ∃ s, s = runV ks := ⟨_, rfl⟩
  obtain ⟨u, hu⟩ : ∃ u, u = missV ks := ⟨_, rfl⟩
  rw [← hs, ← hu]
  have hsz := b1.size
  clear hs hu row
  go_wp2_with fail
  go_ret
  exact ⟨rfl, b1.alloc hsz _⟩
set_option maxHeartbeats 1000000 in
theorem isIn_c (zs : List Int) (x : Int) (A : Option Addr) (n c : Nat) (w : World) (hN : zs.length = n) (h : Rd w A (zs.map (.int .i64))) (hn : n ≤ 1099511627776) :
    Calls Try.prog 29 #[.slice A n c, .int .i64 x] w fun e w' => e = .returned (.bool (decide (x ∈ zs))) ∧ w = w' := by
  have HN := Lib.hid hN; clear hN
  have H := Lib.hid h; clear h
  go_enter Try.func29, Try.ntmps29
  go_wp2_with fail
  go_loop [5] (fun i => ∃ j : Nat, j ≤ n ∧ i = .int .i64 j ∧ ¬ x ∈ zs.take j) (fun i => n - (intOf i).toNat)
  case atStart => exact ⟨0, Nat.zero_le _, rfl, by simp⟩
  case round =>
    obtain ⟨j, hj, rfl, hni⟩ := hrel
    have HNI := Lib.hid hni; clear hni
    by_cases hlt : j < n
    · have hjz : j < zs.length := by have := HN.out; omega
      obtain ⟨b, off, hA, hc⟩ := H.out (by simp; omega)
      subst hA
      obtain ⟨y, hY⟩ : ∃ y, y = zs[j] := ⟨_, rfl⟩
      have hy : w.cell? ⟨b, off + j, none⟩ = some (.int .i64 y) := hc j _ (by simp [hY, hjz])
      have HY := Lib.hid hY
      clear hc hY
      by_cases hxy : y = x
      · have hd : (y == x) = true := beq_iff_eq.2 hxy
        have HXY := Lib.hid hxy; clear hxy
        go_wp2_with fail
        go_ret
        exact ⟨ret_bool (decide_eq_true (by rw [← HXY.out, HY.out]; exact List.getElem_mem hjz)).symm, rfl⟩
      · have hd : (y == x) = false := beq_eq_false_iff_ne.2 hxy
        have HXY := Lib.hid hxy; clear hxy
        go_wp2_with fail
        go_round
        case rel =>
          refine ⟨j + 1, by omega, by go_num, ?_⟩
          rw [List.take_succ_eq_append_getElem hjz]
          intro hm
          rcases List.mem_append.1 hm with hm | hm
          · exact HNI.out hm
          · simp at hm; exact HXY.out (by rw [HY.out, hm])
        case measure => simp [intOf]; omega
    · obtain rfl : j = n := by omega
      have hni := HNI.out
      rw [List.take_of_length_le (by rw [HN.out]; exact Nat.le_refl _)] at hni
      have HNI2 := Lib.hid hni; clear hni
      go_wp2_with fail
      go_ret
      exact ⟨ret_bool (decide_eq_false HNI2.out).symm, rfl⟩
end Go.Proofs.Ytagmhmhhjkfhgaa
