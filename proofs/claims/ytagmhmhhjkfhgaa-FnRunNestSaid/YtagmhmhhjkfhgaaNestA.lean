/- Contract of a command of the program, all cases; StepNest of the program and of the reference. -/
import Derived.Test.YtagmhmhhjkfhgaaNestSpec
set_option linter.unusedVariables false
set_option linter.unusedSimpArgs false
set_option linter.unnecessarySimpa false
namespace Go.Proofs.Ytagmhmhhjkfhgaa
open Go.RowKit

theorem step_c (k : Int) (ms : List Int) (b : Bool) (kind : Int) (A : Option Addr) (n c : Nat) (w : World) (hN : ms.length = n) (hc0 : n ≤ c) (h : Rd w A (ms.map (.int .i64))) (hs : St.ok ⟨k, ms, b⟩) :
    Calls Try.prog 33 #[.agg #[.int .i64 (n : Int), .int .i64 k, .slice A n c, .bool b], .int .i64 kind] w (RetStep (St.next ⟨k, ms, b⟩ kind) (St.step ⟨k, ms, b⟩ kind).isSome w) := by
  have hs0 := hs
  rw [St.ok_iff] at hs
  obtain ⟨hn, ⟨hk0, hk1⟩, hmf, hfz, hor⟩ := hs
  simp only at hn hk0 hk1 hmf hor
  have hn' : n ≤ 4 := by omega
  have key : ∀ r : Option St, St.step ⟨k, ms, b⟩ kind = r → RetStep (St.next ⟨k, ms, b⟩ kind) (St.step ⟨k, ms, b⟩ kind).isSome w = RetStep (r.getD ⟨k, ms, b⟩) r.isSome w := by
    intro r hr; unfold St.next; rw [hr]
  cases b with
  | false =>
    have hkinds : kind = 0 ∨ kind = 1 ∨ kind = 2 ∨ kind = 3 ∨ kind = 4 ∨ (kind ≠ 0 ∧ kind ≠ 1 ∧ kind ≠ 2 ∧ kind ≠ 3 ∧ kind ≠ 4) := by omega
    rcases hkinds with rfl | rfl | rfl | rfl | rfl | ⟨q0, q1, q2, q3, q4⟩
    · by_cases hx : n < 4
      · rw [key (some ⟨k, ms ++ [k], false⟩) (by simp [St.step, hN, hx])]
        exact step_open k ms A n c w hN hc0 h hn' hk0 hk1 hx
      · rw [key none (by simp [St.step, hN]; omega)]
        exact step_no0 k ms A n c w hN hc0 h hn' hk0 hk1 hx
    · rcases Nat.eq_zero_or_pos n with hx | hx
      · rw [key none (by simp [St.step, hN, hx])]
        exact step_noE1 k ms A n c w hN hc0 h hn' hk0 hk1 hx
      · by_cases hy : k < 12
        · rw [key (some ⟨k + 1, ms, false⟩) (by simp [St.step, hN, hx, hy])]
          exact step_work k ms A n c w hN hc0 h hn' hk0 hk1 hx hy
        · rw [key none (by simp [St.step, hN]; omega)]
          exact step_noW k ms A n c w hN hc0 h hn' hk0 hk1 hx hy
    · rcases Nat.eq_zero_or_pos n with hx | hx
      · rw [key none (by simp [St.step, hN, hx])]
        exact step_noE2 k ms A n c w hN hc0 h hn' hk0 hk1 hx
      · rw [key (some ⟨k, ms, true⟩) (by simp [St.step, hN, hx])]
        exact step_fail_false k ms A n c w hN hc0 h hn' hk0 hk1 hx
    · rcases Nat.eq_zero_or_pos n with hx | hx
      · rw [key none (by simp [St.step, hN, hx])]
        exact step_noE3 k ms A n c w hN hc0 h hn' hk0 hk1 hx
      · by_cases h1 : n = 1
        · rw [key (some ⟨0, ms.take 0, false⟩) (by simp [St.step, hN, h1, List.dropLast_eq_take])]
          exact step_keep1_false k ms A n c w hN hc0 h hn' hk0 hk1 h1
        · rw [key (some ⟨k, ms.take (n - 1), false⟩) (by simp [St.step, hN, hx, h1, List.dropLast_eq_take])]
          exact step_keep2_false k ms A n c w hN hc0 h hn' hk0 hk1 (by omega)
    · rcases Nat.eq_zero_or_pos n with hx | hx
      · rw [key none (by simp [St.step, hN, hx])]
        exact step_noE4 k ms A n c w hN hc0 h hn' hk0 hk1 hx
      · have hxl : ms[n - 1]? = some (ms[n - 1]'(by omega)) := List.getElem?_eq_getElem (by omega)
        by_cases h1 : n = 1
        · rw [key (some ⟨0, ms.take 0, false⟩) (by simp [St.step, hN, h1, List.dropLast_eq_take])]
          exact step_back1_false k ms A n c w hN hc0 h hn' hk0 hk1 h1 _ hxl
        · rw [key (some ⟨ms[n - 1]'(by omega), ms.take (n - 1), false⟩) (by simp [St.step, hN, hx, h1, List.dropLast_eq_take, List.getLast?_eq_getElem?, hxl])]
          exact step_back2_false k ms A n c w hN hc0 h hn' hk0 hk1 (by omega) _ hxl
    · rw [key none (by simp [St.step, q0, q1, q2, q3, q4])]
      exact step_noK k ms kind A n c w hN hc0 h hn' hk0 hk1 (beq_eq_false_iff_ne.2 q0) (beq_eq_false_iff_ne.2 q1) (beq_eq_false_iff_ne.2 q2) (beq_eq_false_iff_ne.2 q3) (beq_eq_false_iff_ne.2 q4)
  | true =>
    have hx : 0 < n := by
      rcases hor with h | h
      · omega
      · cases h.2
    by_cases h2 : kind = 2
    · subst h2
      rw [key (some ⟨k, ms, true⟩) (by simp [St.step, hN, hx])]
      exact step_fail_true k ms A n c w hN hc0 h hn' hk0 hk1 hx
    · by_cases h4 : kind = 4
      · subst h4
        have hxl : ms[n - 1]? = some (ms[n - 1]'(by omega)) := List.getElem?_eq_getElem (by omega)
        by_cases h1 : n = 1
        · rw [key (some ⟨0, ms.take 0, false⟩) (by simp [St.step, hN, h1, List.dropLast_eq_take])]
          exact step_back1_true k ms A n c w hN hc0 h hn' hk0 hk1 h1 _ hxl
        · rw [key (some ⟨ms[n - 1]'(by omega), ms.take (n - 1), false⟩) (by simp [St.step, hN, hx, h1, List.dropLast_eq_take, List.getLast?_eq_getElem?, hxl])]
          exact step_back2_true k ms A n c w hN hc0 h hn' hk0 hk1 (by omega) _ hxl
      · rw [key none (by simp [St.step, h2, h4])]
        exact step_no1 k ms kind A n c w hN hc0 h hn' hk0 hk1 (by simpa using h2) (by simpa using h4)

/-- What StepNest answers, where nothing is said of the state. -/
theorem stepN_isSome_ok (d k : Int) (ms : List Int) (b : Bool) (kind : Int) (h : (stepN d k ms b kind).isSome = true) : d = (ms.length : Int) ∧ St.ok ⟨k, ms, b⟩ := by
  obtain ⟨t, ht⟩ := Option.isSome_iff_exists.1 h
  exact ⟨(stepN_some ht).1, (stepN_some ht).2.1⟩
set_option maxRecDepth 100000 in
set_option maxHeartbeats 4000000 in
theorem stepNest_c (d k : Int) (ms : List Int) (b : Bool) (kind : Int) (A : Option Addr) (n c : Nat) (w : World) (hN : ms.length = n) (hc0 : n ≤ c) (h : Rd w A (ms.map (.int .i64))) (hn : n ≤ 1073741824) :
    Calls Try.prog 13 #[.agg #[.int .i64 d, .int .i64 k, .slice A n c, .bool b], .int .i64 kind] w (RetStep ((stepN d k ms b kind).getD St.zero) (stepN d k ms b kind).isSome w) := by
  have HV := Lib.hid (fun W hR => validNest_c d k ms b A n c W hN hR hn)
  obtain ⟨v, hv⟩ : ∃ v, v = validN d k ms b := ⟨_, rfl⟩
  rw [← hv] at HV
  have hpos : ∀ r : Option St, stepN d k ms b kind = r → ∀ e w', RetStep (r.getD St.zero) r.isSome w e w' → RetStep ((stepN d k ms b kind).getD St.zero) (stepN d k ms b kind).isSome w e w' := by
    intro r hr e w' h9; rw [hr]; exact h9
  have HP := Lib.hid hpos
  have H := Lib.hid h
  clear hpos h
  cases v
  · have HST : Hid (stepN d k ms b kind = none) := by show _ = _; unfold stepN; rw [← hv]; rfl
    clear hv
    go_enter Try.func13, Try.ntmps13
    go_wp2_with fail
    refine (HV.out _ ((H.out.alloc _).alloc _)).mono ?_
    rintro e w1 ⟨rfl, b1⟩
    obtain ⟨bi, br⟩ := blk_lay2 w 25 #[.int .i64 d, .int .i64 k, .slice A n c, .bool b] #[.int .i64 0, .int .i64 0, .slice none 0 0, .bool false]
    have br1 := br.below b1 br.lt
    have bel1 : Below w.heap.size w w1 := (((Below.refl _ _).alloc (Nat.le_refl _) _).alloc (by simp) _).trans (b1.mono (by simp <;> omega))
    have BEL1 := Lib.hid bel1
    obtain ⟨r0c, r1c, r2c, r3c, rfz⟩ := blk4 br1
    clear bi br br1 b1 bel1
    go_wp2_with fail
    refine bodyPost_ret (v := .tuple #[.agg #[.int .i64 0, .int .i64 0, .slice none 0 0, .bool false], .bool false]) (by simp [results, Try.results13, go_sem, r0c, r1c, r2c, r3c, rfz]) rfl ?_
    refine HP.out none HST.out _ _ ?_
    refine ⟨none, 0, rfl, Row.nil _ _ _ _ _, ?_⟩
    repeat (with_reducible refine Below.setCell ?_ (by simp <;> omega) _)
    exact BEL1.out
  · obtain ⟨hd, hs⟩ := (validN_iff d k ms b).1 hv.symm
    rw [hN] at hd
    subst hd
    have HSTQ : Hid (stepN (n : Int) k ms b kind = St.step ⟨k, ms, b⟩ kind) := by show _ = _; unfold stepN; rw [← hv]; rfl
    have HS := Lib.hid (fun W hR => step_c k ms b kind A n c W hN hc0 hR hs)
    clear hv hs
    go_enter Try.func13, Try.ntmps13
    go_wp2_with fail
    refine (HV.out _ ((H.out.alloc _).alloc _)).mono ?_
    rintro e w1 ⟨rfl, b1⟩
    obtain ⟨bi, br⟩ := blk_lay2 w 25 #[.int .i64 (n : Int), .int .i64 k, .slice A n c, .bool b] #[.int .i64 0, .int .i64 0, .slice none 0 0, .bool false]
    have bi1 := bi.below b1 bi.lt
    have br1 := br.below b1 br.lt
    have bel1 : Below w.heap.size w w1 := (((Below.refl _ _).alloc (Nat.le_refl _) _).alloc (by simp) _).trans (b1.mono (by simp <;> omega))
    have hR1 : Rd w1 A (ms.map (.int .i64)) := ((H.out.alloc _).alloc _).below b1
    have hz1 : w.heap.size + 2 ≤ w1.heap.size := by have := b1.size; simp at this; omega
    have BEL1 := Lib.hid bel1; have BR1 := Lib.hid br1; have HR1 := Lib.hid hR1
    obtain ⟨i0c, i1c, i2c, i3c, ifz⟩ := blk4 bi1
    clear bi br br1 bi1 b1 bel1 hR1
    go_wp2_with fail
    refine (HS.out _ HR1.out).mono ?_
    obtain ⟨r, hr⟩ : ∃ r, r = St.step ⟨k, ms, b⟩ kind := ⟨_, rfl⟩
    have HSTQ2 : Hid (stepN (n : Int) k ms b kind = r) := by show _ = _; rw [HSTQ.out, hr]
    unfold St.next
    rw [← hr]
    have HR := Lib.hid hr
    clear hr
    cases r with
    | none =>
      rintro e w2 ⟨A2, c2, rfl, row2, b2⟩
      have br2 := BR1.out.below b2 (by omega)
      have bel2 : Below w.heap.size w w2 := BEL1.out.trans (b2.mono (by omega))
      have BEL2 := Lib.hid bel2
      obtain ⟨r0c, r1c, r2c, r3c, rfz⟩ := blk4 br2
      have hz2 : w.heap.size + 2 ≤ w2.heap.size := by have := b2.size; omega
      have hlt2 : w.heap.size + 1 < w2.heap.size := by omega
      have hne2 : ¬ w.heap.size + 1 = w2.heap.size := by omega
      have hne3 : ¬ w2.heap.size = w.heap.size + 1 := by omega
      clear br2 bel2 b2 row2
      go_wp2_with fail
      refine bodyPost_ret (v := .tuple #[.agg #[.int .i64 0, .int .i64 0, .slice none 0 0, .bool false], .bool false]) (by simp [results, Try.results13, go_sem, r0c, r1c, r2c, r3c, rfz, hz2, hlt2, hne2, hne3]) rfl ?_
      refine HP.out none HSTQ2.out _ _ ?_
      refine ⟨none, 0, rfl, Row.nil _ _ _ _ _, ?_⟩
      repeat (first | (with_reducible refine Below.setCell ?_ (by simp <;> omega) _) | (with_reducible refine Below.alloc ?_ (by have := BEL2.out.size; simp <;> omega) _))
      exact BEL2.out
    | some t =>
      rintro e w2 ⟨A2, c2, rfl, row2, b2⟩
      have br2 := BR1.out.below b2 (by omega)
      have bel2 : Below w.heap.size w w2 := BEL1.out.trans (b2.mono (by omega))
      have hz2 : w.heap.size + 2 ≤ w2.heap.size := by have := b2.size; omega
      have row2' : Row w2 (w.heap.size + 2) 3 1 A2 t.marks.length c2 (t.marks.map (.int .i64)) := row2.mono hz1
      have BEL2 := Lib.hid bel2; have ROW2 := Lib.hid row2'
      obtain ⟨r0c, r1c, r2c, r3c, rfz⟩ := blk4 br2
      have hlt2 : w.heap.size + 1 < w2.heap.size := by omega
      have hne2 : ¬ w.heap.size + 1 = w2.heap.size := by omega
      have hne3 : ¬ w2.heap.size = w.heap.size + 1 := by omega
      clear br2 bel2 b2 row2 row2'
      go_wp2_with fail
      refine bodyPost_ret (v := .tuple #[.agg #[.int .i64 (t.marks.length : Int), .int .i64 t.work, .slice A2 t.marks.length c2, .bool t.broken], .bool true]) (by simp [results, Try.results13, go_sem, r0c, r1c, r2c, r3c, rfz, hz2, hlt2, hne2, hne3]) rfl ?_
      refine HP.out (some t) HSTQ2.out _ _ ?_
      refine ⟨A2, c2, rfl, ?_, ?_⟩
      · refine Row.mono (B := w.heap.size + 2) ?_ (by omega)
        repeat (first | (with_reducible refine Row.setFar ?_ (by simp <;> omega) _) | (with_reducible refine Row.alloc ?_ _))
        exact ROW2.out
      · repeat (first | (with_reducible refine Below.setCell ?_ (by simp <;> omega) _) | (with_reducible refine Below.alloc ?_ (by have := BEL2.out.size; simp <;> omega) _))
        exact BEL2.out
set_option maxRecDepth 100000 in
set_option maxHeartbeats 4000000 in
theorem sStepNest_c (d k : Int) (ms : List Int) (b : Bool) (kind : Int) (A : Option Addr) (n c : Nat) (w : World) (hN : ms.length = n) (hc0 : n ≤ c) (h : Rd w A (ms.map (.int .i64))) (hn : n ≤ 1073741824) :
    Calls Try.prog 14 #[.agg #[.int .i64 d, .int .i64 k, .slice A n c, .bool b], .int .i64 kind] w (RetStep ((stepN d k ms b kind).getD St.zero) (stepN d k ms b kind).isSome w) := by
  have HV := Lib.hid (fun W hR => validState_c d k ms b A n c W hN hR hn)
  obtain ⟨v, hv⟩ : ∃ v, v = validN d k ms b := ⟨_, rfl⟩
  rw [← hv] at HV
  have hpos : ∀ r : Option St, stepN d k ms b kind = r → ∀ e w', RetStep (r.getD St.zero) r.isSome w e w' → RetStep ((stepN d k ms b kind).getD St.zero) (stepN d k ms b kind).isSome w e w' := by
    intro r hr e w' h9; rw [hr]; exact h9
  have HP := Lib.hid hpos
  have H := Lib.hid h
  clear hpos h
  cases v
  · have HST : Hid (stepN d k ms b kind = none) := by show _ = _; unfold stepN; rw [← hv]; rfl
    clear hv
    go_enter Try.func14, Try.ntmps14
    go_wp2_with fail
    refine (HV.out _ ((H.out.alloc _).alloc _)).mono ?_
    rintro e w1 ⟨rfl, b1⟩
    obtain ⟨bi, br⟩ := blk_lay2 w 25 #[.int .i64 d, .int .i64 k, .slice A n c, .bool b] #[.int .i64 0, .int .i64 0, .slice none 0 0, .bool false]
    have br1 := br.below b1 br.lt
    have bel1 : Below w.heap.size w w1 := (((Below.refl _ _).alloc (Nat.le_refl _) _).alloc (by simp) _).trans (b1.mono (by simp <;> omega))
    have BEL1 := Lib.hid bel1
    obtain ⟨r0c, r1c, r2c, r3c, rfz⟩ := blk4 br1
    clear bi br br1 b1 bel1
    go_wp2_with fail
    refine bodyPost_ret (v := .tuple #[.agg #[.int .i64 0, .int .i64 0, .slice none 0 0, .bool false], .bool false]) (by simp [results, Try.results14, go_sem, r0c, r1c, r2c, r3c, rfz]) rfl ?_
    refine HP.out none HST.out _ _ ?_
    refine ⟨none, 0, rfl, Row.nil _ _ _ _ _, ?_⟩
    repeat (with_reducible refine Below.setCell ?_ (by simp <;> omega) _)
    exact BEL1.out
  · obtain ⟨hd, hs⟩ := (validN_iff d k ms b).1 hv.symm
    rw [hN] at hd
    subst hd
    have HSTQ : Hid (stepN (n : Int) k ms b kind = St.step ⟨k, ms, b⟩ kind) := by show _ = _; unfold stepN; rw [← hv]; rfl
    have HS := Lib.hid (fun W hR => sstep_c k ms b kind A n c W hN hc0 hR hs)
    clear hv hs
    go_enter Try.func14, Try.ntmps14
    go_wp2_with fail
    refine (HV.out _ ((H.out.alloc _).alloc _)).mono ?_
    rintro e w1 ⟨rfl, b1⟩
    obtain ⟨bi, br⟩ := blk_lay2 w 25 #[.int .i64 (n : Int), .int .i64 k, .slice A n c, .bool b] #[.int .i64 0, .int .i64 0, .slice none 0 0, .bool false]
    have bi1 := bi.below b1 bi.lt
    have br1 := br.below b1 br.lt
    have bel1 : Below w.heap.size w w1 := (((Below.refl _ _).alloc (Nat.le_refl _) _).alloc (by simp) _).trans (b1.mono (by simp <;> omega))
    have hR1 : Rd w1 A (ms.map (.int .i64)) := ((H.out.alloc _).alloc _).below b1
    have hz1 : w.heap.size + 2 ≤ w1.heap.size := by have := b1.size; simp at this; omega
    have BEL1 := Lib.hid bel1; have BR1 := Lib.hid br1; have HR1 := Lib.hid hR1
    obtain ⟨i0c, i1c, i2c, i3c, ifz⟩ := blk4 bi1
    clear bi br br1 bi1 b1 bel1 hR1
    go_wp2_with fail
    refine (HS.out _ HR1.out).mono ?_
    obtain ⟨r, hr⟩ : ∃ r, r = St.step ⟨k, ms, b⟩ kind := ⟨_, rfl⟩
    have HSTQ2 : Hid (stepN (n : Int) k ms b kind = r) := by show _ = _; rw [HSTQ.out, hr]
    rw [← hr]
    have HR := Lib.hid hr
    clear hr
    cases r with
    | none =>
      rintro e w2 ⟨A2, c2, rfl, row2, b2⟩
      have br2 := BR1.out.below b2 (by omega)
      have bel2 : Below w.heap.size w w2 := BEL1.out.trans (b2.mono (by omega))
      have BEL2 := Lib.hid bel2
      obtain ⟨r0c, r1c, r2c, r3c, rfz⟩ := blk4 br2
      have hz2 : w.heap.size + 2 ≤ w2.heap.size := by have := b2.size; omega
      have row2z : Hid (Row w2 (w.heap.size + 2) 3 1 A2 0 c2 []) := row2.mono hz1
      clear br2 bel2 b2 row2
      go_wp2_with fail
      refine bodyPost_ret (v := .tuple #[.agg #[.int .i64 0, .int .i64 0, .slice A2 0 c2, .bool false], .bool false]) (by simp [results, Try.results14, go_sem, r0c, r1c, r2c, r3c, rfz, hz2, St.zero]) rfl ?_
      refine HP.out none HSTQ2.out _ _ ?_
      refine ⟨A2, c2, rfl, ?_, ?_⟩
      · refine Row.mono (B := w.heap.size + 2) ?_ (by omega)
        repeat (with_reducible refine Row.setFar ?_ (by simp <;> omega) _)
        exact row2z.out
      · repeat (with_reducible refine Below.setCell ?_ (by simp <;> omega) _)
        exact BEL2.out
    | some t =>
      rintro e w2 ⟨A2, c2, rfl, row2, b2⟩
      have br2 := BR1.out.below b2 (by omega)
      have bel2 : Below w.heap.size w w2 := BEL1.out.trans (b2.mono (by omega))
      have hz2 : w.heap.size + 2 ≤ w2.heap.size := by have := b2.size; omega
      have row2' : Row w2 (w.heap.size + 2) 3 1 A2 t.marks.length c2 (t.marks.map (.int .i64)) := row2.mono hz1
      have BEL2 := Lib.hid bel2; have ROW2 := Lib.hid row2'
      obtain ⟨r0c, r1c, r2c, r3c, rfz⟩ := blk4 br2
      have hlt2 : w.heap.size + 1 < w2.heap.size := by omega
      have hne2 : ¬ w.heap.size + 1 = w2.heap.size := by omega
      have hne3 : ¬ w2.heap.size = w.heap.size + 1 := by omega
      clear br2 bel2 b2 row2 row2'
      go_wp2_with fail
      refine bodyPost_ret (v := .tuple #[.agg #[.int .i64 (t.marks.length : Int), .int .i64 t.work, .slice A2 t.marks.length c2, .bool t.broken], .bool true]) (by simp [results, Try.results14, go_sem, r0c, r1c, r2c, r3c, rfz, hz2, hlt2, hne2, hne3]) rfl ?_
      refine HP.out (some t) HSTQ2.out _ _ ?_
      refine ⟨A2, c2, rfl, ?_, ?_⟩
      · refine Row.mono (B := w.heap.size + 2) ?_ (by omega)
        repeat (first | (with_reducible refine Row.setFar ?_ (by simp <;> omega) _) | (with_reducible refine Row.alloc ?_ _))
        exact ROW2.out
      · repeat (first | (with_reducible refine Below.setCell ?_ (by simp <;> omega) _) | (with_reducible refine Below.alloc ?_ (by have := BEL2.out.size; simp <;> omega) _))
        exact BEL2.out
end Go.Proofs.Ytagmhmhhjkfhgaa
