/- Contract of a command of the reference. -/
import Derived.Test.YtagmhmhhjkfhgaaNestStepB
import Derived.Deep.DeepCutAuto
set_option linter.unusedVariables false
set_option linter.unusedSimpArgs false
set_option linter.unnecessarySimpa false
namespace Go.Proofs.Ytagmhmhhjkfhgaa
open Go.RowKit

theorem blk_lay2 (w : World) (t : TypeId) (x y : Array Value) : Blk ((w.alloc (.cells x t)).alloc (.cells y t)) w.heap.size t x ∧ Blk ((w.alloc (.cells x t)).alloc (.cells y t)) (w.heap.size + 1) t y := by
  refine ⟨(Blk.new _ _ _).alloc _, ?_⟩
  have := Blk.new (w.alloc (.cells x t)) t y
  simpa using this
theorem row_blk_ne {w : World} {B g : Nat} {e t : TypeId} {size n c : Nat} {A : Option Addr} {xs : List Value} {cs : Array Value} (h : Row w B e size A n c xs) (hb : Blk w g t cs) (hne : e ≠ t) : rb A c = none ∨ rb A c ≠ some g := by
  cases hv : rb A c with
  | none => exact .inl rfl
  | some y =>
    refine .inr (fun e' => ?_)
    injection e' with e'
    subst e'
    unfold rb at hv
    split at hv
    · cases hv
    · rename_i hc
      obtain ⟨g', off, cur, rfl, _, hg, _⟩ := h.2.2.2 (by omega)
      obtain rfl : g' = y := by simpa using hv
      exact Blk.ne_ (cs := cur) hg hb hne rfl
theorem Row.setBlk {w : World} {B g : Nat} {e t : TypeId} {size n c : Nat} {A : Option Addr} {xs : List Value} {cs : Array Value} (h : Row w B e size A n c xs) (hb : Blk w g t cs) (hne : e ≠ t) (j : Nat) (u : Value) : Row (w.setCell ⟨g, j, none⟩ u) B e size A n c xs :=
  h.kept (only_setCell (World.grownBy.refl _ _) (.inl rfl) _) (row_blk_ne h hb hne)
/-- What stands in memory once the copy is made: the argument, the result, the copy, its marks. -/
def SCut (k : Int) (ms : List Int) (b : Bool) (A : Option Addr) (n c : Nat) (w : World) (s : Value) (wx : World) : Prop :=
  ∃ g A1 c1, s = .pointer (some ⟨g, 0, none⟩) ∧ Blk wx g 25 #[.int .i64 (n : Int), .int .i64 k, .slice A1 n c1, .bool b] ∧ Blk wx w.heap.size 25 #[.int .i64 (n : Int), .int .i64 k, .slice A n c, .bool b] ∧
    Blk wx (w.heap.size + 1) 25 #[.int .i64 0, .int .i64 0, .slice none 0 0, .bool false] ∧ Row wx (w.heap.size + 2) 3 1 A1 n c1 (ms.map (.int .i64)) ∧ Below w.heap.size w wx ∧ w.heap.size + 2 ≤ g
set_option maxRecDepth 100000 in
set_option maxHeartbeats 16000000 in
theorem sstep_c (k : Int) (ms : List Int) (b : Bool) (kind : Int) (A : Option Addr) (n c : Nat) (w : World) (hN : ms.length = n) (hc0 : n ≤ c) (h : Rd w A (ms.map (.int .i64))) (hs : St.ok ⟨k, ms, b⟩) :
    Calls Try.prog 35 #[.agg #[.int .i64 (n : Int), .int .i64 k, .slice A n c, .bool b], .int .i64 kind] w (RetStep ((St.step ⟨k, ms, b⟩ kind).getD St.zero) (St.step ⟨k, ms, b⟩ kind).isSome w) := by
  rw [St.ok_iff] at hs
  obtain ⟨hn, ⟨hk0, hk1⟩, hmf, hfz, hor⟩ := hs
  simp only at hn hk0 hk1 hmf hor
  have hor' : b = true → 0 < n := by
    intro e; subst e
    rcases hor with h | h
    · omega
    · cases h.2
  rw [hN] at hn
  have HOR := Lib.hid hor'
  clear hmf hfz hor hor'
  have HC := Lib.hid (fun W => copyInts_c ms A n c W hN)
  have H := Lib.hid h; clear h
  have HN := Lib.hid hN; clear hN
  obtain ⟨i0, i0_i, i0_z0, i0_z1, i0_z2⟩ := info_parts intInfo
  go_enter Try.func35, Try.ntmps35
  go_upto_region 1 with fail
  go_cut [6] (fun s6 wx => SCut k ms b A n c w s6 wx)
  case first =>
    obtain ⟨W0, hW0⟩ : ∃ W0, W0 = (w.alloc (.cells #[.int .i64 (n : Int), .int .i64 k, .slice A n c, .bool b] 25)).alloc (.cells #[.int .i64 0, .int .i64 0, .slice none 0 0, .bool false] 25) := ⟨_, rfl⟩
    rw [← hW0]
    obtain ⟨bi, br⟩ := blk_lay2 w 25 #[.int .i64 (n : Int), .int .i64 k, .slice A n c, .bool b] #[.int .i64 0, .int .i64 0, .slice none 0 0, .bool false]
    have bel0 : Below w.heap.size w W0 := by rw [hW0]; exact ((Below.refl _ _).alloc (Nat.le_refl _) _).alloc (by simp) _
    have hR0 : Rd W0 A (ms.map (.int .i64)) := by rw [hW0]; exact (H.out.alloc _).alloc _
    rw [← hW0] at bi br
    have BI := Lib.hid bi; have BR := Lib.hid br; have BEL0 := Lib.hid bel0; have HR0 := Lib.hid hR0
    obtain ⟨i0c, i1c, i2c, i3c, ifz⟩ := blk4 BI.out
    have hz0 : w.heap.size + 2 ≤ W0.heap.size := by rw [hW0]; simp
    have hne : ¬ w.heap.size = W0.heap.size := by omega
    have hne' : ¬ W0.heap.size = w.heap.size := by omega
    clear hW0 bi br bel0 hR0 H
    go_region_held3 (fun w' => w'.cell? ⟨w.heap.size, 0, none⟩ = some (.int .i64 (n : Int)) ∧ w'.cell? ⟨w.heap.size, 1, none⟩ = some (.int .i64 k) ∧ w'.cell? ⟨w.heap.size, 2, none⟩ = some (.slice A n c) ∧ w'.cell? ⟨w.heap.size, 3, none⟩ = some (.bool b)) (go_keep) ((go_at_call 44; refine (HC.out _ ?_ ?_).mono ?_; (first | exact HR0.out | exact HR0.out.alloc _); omega; rintro e w1 ⟨A1, c1, rfl, o1, b1⟩; have k0 := (b1.cell (p := ⟨w.heap.size, 0, none⟩) (by simp <;> omega)).trans (show _ = some (Value.int .i64 (n : Int)) by go_keep); have k1 := (b1.cell (p := ⟨w.heap.size, 1, none⟩) (by simp <;> omega)).trans (show _ = some (Value.int .i64 k) by go_keep); have k2 := (b1.cell (p := ⟨w.heap.size, 2, none⟩) (by simp <;> omega)).trans (show _ = some (Value.slice A n c) by go_keep); have k3 := (b1.cell (p := ⟨w.heap.size, 3, none⟩) (by simp <;> omega)).trans (show _ = some (Value.bool b) by go_keep); (first | (have zb := Blk.below (w := (W0.alloc (.cells #[.int .i64 0, .int .i64 0, .slice none 0 0, .bool false] 25)).drew) (Blk.new W0 25 #[.int .i64 0, .int .i64 0, .slice none 0 0, .bool false]) b1 (by simp); obtain ⟨z0, z1, z2, z3, zf⟩ := blk4 zb; clear zb) | skip)))
    · go_wp2_with fail
      go_meet
      have row1 := Row.of_own o1
      rw [HN.out] at row1 ⊢
      have b1' : Below W0.heap.size W0 w1 := ⟨b1.os, b1.tape, b1.output, b1.size, fun j hj => b1.block j hj⟩
      have row1' : Row w1 (w.heap.size + 2) 3 1 A1 n c1 (ms.map (.int .i64)) := row1.mono hz0
      exact ⟨w1.heap.size, A1, c1, rfl, Blk.new _ _ _, (BI.out.below b1' BI.out.lt).alloc _, (BR.out.below b1' BR.out.lt).alloc _, row1'.alloc _, (BEL0.out.trans (b1'.mono (by omega))).alloc (by have := b1'.size; omega) _, by have := b1'.size; omega⟩
    · go_wp2_with fail
      go_meet
      have row1 := Row.of_own o1
      rw [HN.out] at row1 ⊢
      have hzz : (W0.alloc (.cells #[.int .i64 0, .int .i64 0, .slice none 0 0, .bool false] 25)).drew.heap.size = W0.heap.size + 1 := by simp
      have b1' : Below (W0.heap.size + 1) (W0.alloc (.cells #[.int .i64 0, .int .i64 0, .slice none 0 0, .bool false] 25)) w1 := ⟨b1.os, b1.tape, b1.output, by have := b1.size; simpa using this, fun j hj => b1.block j (by rw [hzz]; exact hj)⟩
      have row1' : Row w1 (W0.heap.size + 1) 3 1 A1 n c1 (ms.map (.int .i64)) := row1.mono (by rw [hzz]; exact Nat.le_refl _)
      have bz := (Blk.new W0 25 #[.int .i64 0, .int .i64 0, .slice none 0 0, .bool false]).below b1' (by omega)
      refine ⟨W0.heap.size, A1, c1, rfl, (((bz.set_ 0 (.int .i64 (n : Int))).set_ 1 (.int .i64 k)).set_ 2 (.slice A1 n c1)).set_ 3 (.bool b), ?_, ?_, ?_, ?_, hz0⟩
      · exact (((((BI.out.alloc _).below b1' (by have := BI.out.lt; omega)).far (by simp <;> omega) _).far (by simp <;> omega) _).far (by simp <;> omega) _).far (by simp <;> omega) _
      · exact (((((BR.out.alloc _).below b1' (by have := BR.out.lt; omega)).far (by simp <;> omega) _).far (by simp <;> omega) _).far (by simp <;> omega) _).far (by simp <;> omega) _
      · exact ((((row1'.setFar (by simp <;> omega) _).setFar (by simp <;> omega) _).setFar (by simp <;> omega) _).setFar (by simp <;> omega) _).mono (by omega)
      · exact (((((BEL0.out.alloc (by omega) _).trans (b1'.mono (by omega))).setCell (by simp <;> omega) _).setCell (by simp <;> omega) _).setCell (by simp <;> omega) _).setCell (by simp <;> omega) _
  case rest =>
    obtain ⟨g, A1, c1, rfl, bo, bi, br, row1, bel1, hg⟩ := hcut
    have hcap1 := row1.le
    have BO := Lib.hid bo; have BI := Lib.hid bi; have BR := Lib.hid br; have ROW1 := Lib.hid row1; have BEL1 := Lib.hid bel1
    have hwx := br.lt
    clear bo bi br row1 bel1
    obtain ⟨i0c, i1c, i2c, i3c, ifz⟩ := blk4 BI.out
    obtain ⟨r0c, r1c, r2c, r3c, rfz⟩ := blk4 BR.out
    obtain ⟨o0c, o1c, o2c, o3c, ofz⟩ := blk4 BO.out
    have hg0 : ¬ g = w.heap.size := by omega
    have hg1 : ¬ w.heap.size = g := by omega
    have hg2 : ¬ g = w.heap.size + 1 := by omega
    have hg3 : ¬ w.heap.size + 1 = g := by omega
    have hstep : ∀ (r : Option St) (e : Ending) (w' : World), St.step ⟨k, ms, b⟩ kind = r → RetStep (r.getD St.zero) r.isSome w e w' → RetStep ((St.step ⟨k, ms, b⟩ kind).getD St.zero) (St.step ⟨k, ms, b⟩ kind).isSome w e w' := by
      intro r e w' hr h9; rw [hr]; exact h9
    have HSTEP := Lib.hid hstep
    clear hstep
    cases b
    · have hkinds : kind = 0 ∨ kind = 1 ∨ kind = 2 ∨ kind = 3 ∨ kind = 4 ∨ ((kind == 0) = false ∧ (kind == 1) = false ∧ (kind == 2) = false ∧ (kind == 3) = false ∧ (kind == 4) = false) := by simp; omega
      rcases hkinds with rfl | rfl | rfl | rfl | rfl | ⟨q0, q1, q2, q3, q4⟩
      · by_cases hn4 : n < 4
        · skip
          have hx0 : ((n : Int) + 1 == 0) = false := beq_eq_false_iff_ne.2 (by omega)
          have HST : Hid (St.step ⟨k, ms, false⟩ 0 = some ⟨k, ms ++ [k], false⟩) := by
            show _ = _
            simp [St.step, HN.out]; omega
          go_wp2_with (at_builtin; (refine wpList_append_row _ rfl (.tmp 40) (.tmp 43) 23 rfl (w.heap.size + 2) 3 i0 (.int .i64 0) 1 8 Try.underlying23 i0_i i0_z0 i0_z1 i0_z2 rfl A1 n c1 (ms.map (.int .i64)) rfl ?r1 (some ⟨wc.heap.size, 0, none⟩) 1 1 [.int .i64 k] rfl rfl ?r2 (one1 _ rfl) (by omega) ?r3 ?r4 ?r5 ?_))
          case r1 => exact Row.alloc (ROW1.out.setBlk BO.out (by decide) 0 (.int .i64 ((n : Int) + 1))) _
          case r2 => exact Rd.one (cell_new_at _ (by simp) _ _ 0)
          case r3 => unfold maxLen; omega
          case r4 => omega
          case r5 => simp; omega
          intro A2 c2 w2 row2 hg2' _
          have hgb := row_blk_ne (ROW1.out.setBlk BO.out (by decide) 0 (.int .i64 ((n : Int) + 1))) (BO.out.set_ 0 (.int .i64 ((n : Int) + 1))) (show 3 ≠ 25 by decide)
          have bo2 : Blk w2 g 25 #[.int .i64 ((n : Int) + 1), .int .i64 k, .slice A1 n c1, .bool false] := Blk.grown (Blk.alloc (BO.out.set_ 0 (.int .i64 ((n : Int) + 1))) _) hg2' (by
            rcases hgb with h | h
            · rw [h]; simp
            · exact fun e => h e.symm)
          have hlt1 := ROW1.out.lt
          have bi2 := ((BI.out.far (p := ⟨g, 0, none⟩) (by simp <;> omega) (.int .i64 ((n : Int) + 1))).alloc (.cells #[.int .i64 k] 3)).grown hg2' (fun e => by have := (hlt1 _ e.symm).1; omega)
          have br2 := ((BR.out.far (p := ⟨g, 0, none⟩) (by simp <;> omega) (.int .i64 ((n : Int) + 1))).alloc (.cells #[.int .i64 k] 3)).grown hg2' (fun e => by have := (hlt1 _ e.symm).1; omega)
          have bel2 : Below w.heap.size w w2 := Below.grown (Below.alloc (Below.setCell BEL1.out (by simp <;> omega) _) (by simp <;> omega) _) hg2' (by simp <;> omega) (fun y hy => by have := (hlt1 _ hy).1; omega)
          have BO2 := Lib.hid bo2; have BI2 := Lib.hid bi2; have BR2 := Lib.hid br2; have ROW2 := Lib.hid row2; have BEL2 := Lib.hid bel2
          clear bo2 bi2 br2 row2 bel2 hg2' hgb hlt1 i0c i1c i2c i3c ifz r0c r1c r2c r3c rfz o0c o1c o2c o3c ofz
          obtain ⟨i0c, i1c, i2c, i3c, ifz⟩ := blk4 BI2.out
          obtain ⟨r0c, r1c, r2c, r3c, rfz⟩ := blk4 BR2.out
          obtain ⟨o0c, o1c, o2c, o3c, ofz⟩ := blk4 BO2.out
          go_wp2_with fail
          refine bodyPost_ret (v := .tuple #[.agg #[.int .i64 ((n : Int) + 1), .int .i64 k, .slice A2 (n + 1) c2, .bool false], .bool true]) (by simp [results, Try.results35, go_sem, i0c, i1c, i2c, i3c, ifz, r0c, r1c, r2c, r3c, rfz, o0c, o1c, o2c, o3c, ofz, hg0, hg1, hg2, hg3]) rfl ?_
          refine HSTEP.out _ _ _ HST.out ?_
          show RetStep ⟨k, ms ++ [k], false⟩ true w _ _
          refine ⟨A2, c2, by rw [show (ms ++ [k]).length = n + 1 by simp [HN.out]] <;> rfl, ?_, ?_⟩
          · rw [show (ms ++ [k]).length = n + 1 by simp [HN.out]]
            refine Row.mono (B := w.heap.size + 2) ?_ (by omega)
            refine Row.setFar (Row.setFar (Row.setFar (Row.setFar ?_ (by simp <;> omega) _) (by simp <;> omega) _) (by simp <;> omega) _) (by simp <;> omega) _
            exact (by have := ROW2.out.setBlk BO2.out (by decide) 2 (.slice A2 (n + 1) c2); simpa using this)
          · repeat (with_reducible refine Below.setCell ?_ (by simp <;> omega) _)
            exact BEL2.out
        · have hd1 : decide ((n : Int) < 4) = false := decide_eq_false (by omega)
          have hd2 : decide (n < 4) = false := decide_eq_false hn4
          have HST : Hid (St.step ⟨k, ms, false⟩ 0 = none) := by show _ = _; simp [St.step, HN.out] <;> omega
          clear hn4
          go_wp2_with fail
          refine bodyPost_ret (v := .tuple #[.agg #[.int .i64 0, .int .i64 0, .slice none 0 0, .bool false], .bool false]) (by simp [results, Try.results35, go_sem, i0c, i1c, i2c, i3c, ifz, r0c, r1c, r2c, r3c, rfz, o0c, o1c, o2c, o3c, ofz, hg0, hg1, hg2, hg3]) rfl ?_
          refine HSTEP.out _ _ _ HST.out ?_
          refine ⟨none, 0, rfl, Row.nil _ _ _ _ _, ?_⟩
          repeat (with_reducible refine Below.setCell ?_ (by simp <;> omega) _)
          exact BEL1.out
      · rcases Nat.eq_zero_or_pos n with hn0 | hn0
        · have hd1 : decide ((0 : Int) < (n : Int)) = false := decide_eq_false (by omega)
          have hd2 : decide (0 < n) = false := decide_eq_false (by omega)
          have HN0 := Lib.hid hn0
          have HST : Hid (St.step ⟨k, ms, false⟩ 1 = none) := by show _ = _; simp [St.step, HN.out] <;> omega
          clear hn0
          go_wp2_with fail
          refine bodyPost_ret (v := .tuple #[.agg #[.int .i64 0, .int .i64 0, .slice none 0 0, .bool false], .bool false]) (by simp [results, Try.results35, go_sem, i0c, i1c, i2c, i3c, ifz, r0c, r1c, r2c, r3c, rfz, o0c, o1c, o2c, o3c, ofz, hg0, hg1, hg2, hg3]) rfl ?_
          refine HSTEP.out _ _ _ HST.out ?_
          refine ⟨none, 0, rfl, Row.nil _ _ _ _ _, ?_⟩
          repeat (with_reducible refine Below.setCell ?_ (by simp <;> omega) _)
          exact BEL1.out
        · by_cases hk : k < 12
          · skip
            have hx0 : ((n : Int) == 0) = false := beq_eq_false_iff_ne.2 (by omega)
            have HST : Hid (St.step ⟨k, ms, false⟩ 1 = some ⟨k + 1, ms, false⟩) := by
              show _ = _
              simp [St.step, HN.out]; omega
            go_wp2_with fail
            refine bodyPost_ret (v := .tuple #[.agg #[.int .i64 (n : Int), .int .i64 (k + 1), .slice A1 n c1, .bool false], .bool true]) (by simp [results, Try.results35, go_sem, i0c, i1c, i2c, i3c, ifz, r0c, r1c, r2c, r3c, rfz, o0c, o1c, o2c, o3c, ofz, hg0, hg1, hg2, hg3]) rfl ?_
            refine HSTEP.out _ _ _ HST.out ?_
            show RetStep ⟨k + 1, ms, false⟩ true w _ _
            refine ⟨A1, c1, by rw [show ms.length = n from HN.out] <;> rfl, ?_, ?_⟩
            · rw [show ms.length = n from HN.out]
              refine Row.mono (B := w.heap.size + 2) ?_ (by omega)
              refine Row.setFar (Row.setFar (Row.setFar (Row.setFar ?_ (by simp <;> omega) _) (by simp <;> omega) _) (by simp <;> omega) _) (by simp <;> omega) _
              exact (ROW1.out.setBlk BO.out (by decide) 1 (.int .i64 (k + 1)))
            · repeat (with_reducible refine Below.setCell ?_ (by simp <;> omega) _)
              exact BEL1.out
          · have hd1 : decide (k < 12) = false := decide_eq_false hk
            have HST : Hid (St.step ⟨k, ms, false⟩ 1 = none) := by show _ = _; simp [St.step, HN.out] <;> omega
            clear hk
            go_wp2_with fail
            refine bodyPost_ret (v := .tuple #[.agg #[.int .i64 0, .int .i64 0, .slice none 0 0, .bool false], .bool false]) (by simp [results, Try.results35, go_sem, i0c, i1c, i2c, i3c, ifz, r0c, r1c, r2c, r3c, rfz, o0c, o1c, o2c, o3c, ofz, hg0, hg1, hg2, hg3]) rfl ?_
            refine HSTEP.out _ _ _ HST.out ?_
            refine ⟨none, 0, rfl, Row.nil _ _ _ _ _, ?_⟩
            repeat (with_reducible refine Below.setCell ?_ (by simp <;> omega) _)
            exact BEL1.out
      · rcases Nat.eq_zero_or_pos n with hn0 | hn0
        · have hd1 : decide ((0 : Int) < (n : Int)) = false := decide_eq_false (by omega)
          have hd2 : decide (0 < n) = false := decide_eq_false (by omega)
          have HN0 := Lib.hid hn0
          have HST : Hid (St.step ⟨k, ms, false⟩ 2 = none) := by show _ = _; simp [St.step, HN.out] <;> omega
          clear hn0
          go_wp2_with fail
          refine bodyPost_ret (v := .tuple #[.agg #[.int .i64 0, .int .i64 0, .slice none 0 0, .bool false], .bool false]) (by simp [results, Try.results35, go_sem, i0c, i1c, i2c, i3c, ifz, r0c, r1c, r2c, r3c, rfz, o0c, o1c, o2c, o3c, ofz, hg0, hg1, hg2, hg3]) rfl ?_
          refine HSTEP.out _ _ _ HST.out ?_
          refine ⟨none, 0, rfl, Row.nil _ _ _ _ _, ?_⟩
          repeat (with_reducible refine Below.setCell ?_ (by simp <;> omega) _)
          exact BEL1.out
        · skip
          have hx0 : ((n : Int) == 0) = false := beq_eq_false_iff_ne.2 (by omega)
          have HST : Hid (St.step ⟨k, ms, false⟩ 2 = some ⟨k, ms, true⟩) := by
            show _ = _
            simp [St.step, HN.out]; omega
          go_wp2_with fail
          refine bodyPost_ret (v := .tuple #[.agg #[.int .i64 (n : Int), .int .i64 k, .slice A1 n c1, .bool true], .bool true]) (by simp [results, Try.results35, go_sem, i0c, i1c, i2c, i3c, ifz, r0c, r1c, r2c, r3c, rfz, o0c, o1c, o2c, o3c, ofz, hg0, hg1, hg2, hg3]) rfl ?_
          refine HSTEP.out _ _ _ HST.out ?_
          show RetStep ⟨k, ms, true⟩ true w _ _
          refine ⟨A1, c1, by rw [show ms.length = n from HN.out] <;> rfl, ?_, ?_⟩
          · rw [show ms.length = n from HN.out]
            refine Row.mono (B := w.heap.size + 2) ?_ (by omega)
            refine Row.setFar (Row.setFar (Row.setFar (Row.setFar ?_ (by simp <;> omega) _) (by simp <;> omega) _) (by simp <;> omega) _) (by simp <;> omega) _
            exact (ROW1.out.setBlk BO.out (by decide) 3 (.bool true))
          · repeat (with_reducible refine Below.setCell ?_ (by simp <;> omega) _)
            exact BEL1.out
      · rcases Nat.eq_zero_or_pos n with hn0 | hn0
        · have hd1 : decide ((0 : Int) < (n : Int)) = false := decide_eq_false (by omega)
          have hd2 : decide (0 < n) = false := decide_eq_false (by omega)
          have HN0 := Lib.hid hn0
          have HST : Hid (St.step ⟨k, ms, false⟩ 3 = none) := by show _ = _; simp [St.step, HN.out] <;> omega
          clear hn0
          go_wp2_with fail
          refine bodyPost_ret (v := .tuple #[.agg #[.int .i64 0, .int .i64 0, .slice none 0 0, .bool false], .bool false]) (by simp [results, Try.results35, go_sem, i0c, i1c, i2c, i3c, ifz, r0c, r1c, r2c, r3c, rfz, o0c, o1c, o2c, o3c, ofz, hg0, hg1, hg2, hg3]) rfl ?_
          refine HSTEP.out _ _ _ HST.out ?_
          refine ⟨none, 0, rfl, Row.nil _ _ _ _ _, ?_⟩
          repeat (with_reducible refine Below.setCell ?_ (by simp <;> omega) _)
          exact BEL1.out
        · by_cases hn1 : n = 1
          · subst hn1
            
            have HST : Hid (St.step ⟨k, ms, false⟩ 3 = some ⟨0, ms.take 0, false⟩) := by
              show _ = _
              obtain ⟨y, rfl⟩ : ∃ y, ms = [y] := by
                have hl := HN.out
                match ms, hl with
                | [y], _ => exact ⟨y, rfl⟩
              simp [St.step]
            go_wp2_with fail
            refine (copyInts_c (ms.take 0) _ 0 _ _ (by rw [List.length_take, HN.out]; omega) ?q1 (by omega)).mono ?_
            case q1 =>
              rw [List.map_take]
              refine Rd.take ?_ _
              exact Rd.below (H.out) (by first | exact (BEL1.out.setCell (by simp <;> omega) _))
            rintro e w3 ⟨A3, c3, rfl, o3, b3⟩
            have row3 := Row.of_own o3
            rw [show (ms.take 0).length = 0 by rw [List.length_take, HN.out]; omega] at row3 ⊢
            have bo3 : Blk w3 g 25 #[.int .i64 0, .int .i64 k, .slice A1 1 c1, .bool false] := Blk.below (BO.out.set_ 0 (.int .i64 0)) b3 (by have := BO.out.lt; simp <;> omega)
            have bi3 := Blk.below (BI.out.far (by simp <;> omega) _) b3 (by have := BI.out.lt; simp <;> omega)
            have br3 := Blk.below (BR.out.far (by simp <;> omega) _) b3 (by have := BR.out.lt; simp <;> omega)
            have bel3 : Below w.heap.size w w3 := Below.trans (BEL1.out.setCell (by simp <;> omega) _) (b3.mono (by have := BEL1.out.size; simp <;> omega))
            have row3' : Row w3 (w.heap.size + 2) 3 1 A3 0 c3 ((ms.take 0).map (.int .i64)) := row3.mono (by simp <;> omega)
            have BO3 := Lib.hid bo3; have BI3 := Lib.hid bi3; have BR3 := Lib.hid br3; have ROW3 := Lib.hid row3'; have BEL3 := Lib.hid bel3
            clear bo3 bi3 br3 row3 row3' o3 b3 bel3 i0c i1c i2c i3c ifz r0c r1c r2c r3c rfz o0c o1c o2c o3c ofz
            obtain ⟨i0c, i1c, i2c, i3c, ifz⟩ := blk4 BI3.out
            obtain ⟨r0c, r1c, r2c, r3c, rfz⟩ := blk4 BR3.out
            obtain ⟨o0c, o1c, o2c, o3c, ofz⟩ := blk4 BO3.out
            go_wp2_with fail
            refine bodyPost_ret (v := .tuple #[.agg #[.int .i64 0, .int .i64 0, .slice A3 0 c3, .bool false], .bool true]) (by simp [results, Try.results35, go_sem, i0c, i1c, i2c, i3c, ifz, r0c, r1c, r2c, r3c, rfz, o0c, o1c, o2c, o3c, ofz, hg0, hg1, hg2, hg3]) rfl ?_
            refine HSTEP.out _ _ _ HST.out ?_
            show RetStep ⟨0, ms.take 0, false⟩ true w _ _
            refine ⟨A3, c3, by rw [show (ms.take 0).length = 0 by rw [List.length_take, HN.out]; omega] <;> rfl, ?_, ?_⟩
            · rw [show (ms.take 0).length = 0 by rw [List.length_take, HN.out]; omega]
              refine Row.mono (B := w.heap.size + 2) ?_ (by omega)
              refine Row.setFar (Row.setFar (Row.setFar (Row.setFar ?_ (by simp <;> omega) _) (by simp <;> omega) _) (by simp <;> omega) _) (by simp <;> omega) _
              exact ((ROW3.out.setBlk BO3.out (by decide) 2 (.slice A3 0 c3)).setBlk (BO3.out.set_ 2 (.slice A3 0 c3)) (by decide) 1 (.int .i64 0))
            · repeat (with_reducible refine Below.setCell ?_ (by simp <;> omega) _)
              exact BEL3.out
          · obtain ⟨m, rfl⟩ : ∃ m, n = m + 1 := ⟨n - 1, by omega⟩
            have hx0 : ((m : Int) == 0) = false := beq_eq_false_iff_ne.2 (by omega)
            have hx1 : ¬ m = 0 := by omega
            have HST : Hid (St.step ⟨k, ms, false⟩ 3 = some ⟨k, ms.take m, false⟩) := by
              show _ = _
              have hl := HN.out; simp [St.step, hl, hx1, List.dropLast_eq_take]
            go_wp2_with fail
            refine (copyInts_c (ms.take m) _ m _ _ (by rw [List.length_take, HN.out]; omega) ?q1 (by omega)).mono ?_
            case q1 =>
              rw [List.map_take]
              refine Rd.take ?_ _
              exact Rd.below (H.out) (by first | exact (BEL1.out.setCell (by simp <;> omega) _))
            rintro e w3 ⟨A3, c3, rfl, o3, b3⟩
            have row3 := Row.of_own o3
            rw [show (ms.take m).length = m by rw [List.length_take, HN.out]; omega] at row3 ⊢
            have bo3 : Blk w3 g 25 #[.int .i64 (m : Int), .int .i64 k, .slice A1 (m + 1) c1, .bool false] := Blk.below (BO.out.set_ 0 (.int .i64 (m : Int))) b3 (by have := BO.out.lt; simp <;> omega)
            have bi3 := Blk.below (BI.out.far (by simp <;> omega) _) b3 (by have := BI.out.lt; simp <;> omega)
            have br3 := Blk.below (BR.out.far (by simp <;> omega) _) b3 (by have := BR.out.lt; simp <;> omega)
            have bel3 : Below w.heap.size w w3 := Below.trans (BEL1.out.setCell (by simp <;> omega) _) (b3.mono (by have := BEL1.out.size; simp <;> omega))
            have row3' : Row w3 (w.heap.size + 2) 3 1 A3 m c3 ((ms.take m).map (.int .i64)) := row3.mono (by simp <;> omega)
            have BO3 := Lib.hid bo3; have BI3 := Lib.hid bi3; have BR3 := Lib.hid br3; have ROW3 := Lib.hid row3'; have BEL3 := Lib.hid bel3
            clear bo3 bi3 br3 row3 row3' o3 b3 bel3 i0c i1c i2c i3c ifz r0c r1c r2c r3c rfz o0c o1c o2c o3c ofz
            obtain ⟨i0c, i1c, i2c, i3c, ifz⟩ := blk4 BI3.out
            obtain ⟨r0c, r1c, r2c, r3c, rfz⟩ := blk4 BR3.out
            obtain ⟨o0c, o1c, o2c, o3c, ofz⟩ := blk4 BO3.out
            go_wp2_with fail
            refine bodyPost_ret (v := .tuple #[.agg #[.int .i64 (m : Int), .int .i64 k, .slice A3 m c3, .bool false], .bool true]) (by simp [results, Try.results35, go_sem, i0c, i1c, i2c, i3c, ifz, r0c, r1c, r2c, r3c, rfz, o0c, o1c, o2c, o3c, ofz, hg0, hg1, hg2, hg3]) rfl ?_
            refine HSTEP.out _ _ _ HST.out ?_
            show RetStep ⟨k, ms.take m, false⟩ true w _ _
            refine ⟨A3, c3, by rw [show (ms.take m).length = m by rw [List.length_take, HN.out]; omega] <;> rfl, ?_, ?_⟩
            · rw [show (ms.take m).length = m by rw [List.length_take, HN.out]; omega]
              refine Row.mono (B := w.heap.size + 2) ?_ (by omega)
              refine Row.setFar (Row.setFar (Row.setFar (Row.setFar ?_ (by simp <;> omega) _) (by simp <;> omega) _) (by simp <;> omega) _) (by simp <;> omega) _
              exact (ROW3.out.setBlk BO3.out (by decide) 2 (.slice A3 m c3))
            · repeat (with_reducible refine Below.setCell ?_ (by simp <;> omega) _)
              exact BEL3.out
      · rcases Nat.eq_zero_or_pos n with hn0 | hn0
        · have hd1 : decide ((0 : Int) < (n : Int)) = false := decide_eq_false (by omega)
          have hd2 : decide (0 < n) = false := decide_eq_false (by omega)
          have HN0 := Lib.hid hn0
          have HST : Hid (St.step ⟨k, ms, false⟩ 4 = none) := by show _ = _; simp [St.step, HN.out] <;> omega
          clear hn0
          go_wp2_with fail
          refine bodyPost_ret (v := .tuple #[.agg #[.int .i64 0, .int .i64 0, .slice none 0 0, .bool false], .bool false]) (by simp [results, Try.results35, go_sem, i0c, i1c, i2c, i3c, ifz, r0c, r1c, r2c, r3c, rfz, o0c, o1c, o2c, o3c, ofz, hg0, hg1, hg2, hg3]) rfl ?_
          refine HSTEP.out _ _ _ HST.out ?_
          refine ⟨none, 0, rfl, Row.nil _ _ _ _ _, ?_⟩
          repeat (with_reducible refine Below.setCell ?_ (by simp <;> omega) _)
          exact BEL1.out
        · by_cases hn1 : n = 1
          · subst hn1
            obtain ⟨b0, off, hA, hcell⟩ := H.out (by rw [List.length_map, HN.out]; omega)
            subst hA
            obtain ⟨x, hX⟩ : ∃ x, x = ms[0]'(by rw [HN.out]; omega) := ⟨_, rfl⟩
            have hxw : w.cell? ⟨b0, off, none⟩ = some (.int .i64 x) := hcell 0 _ (by rw [List.getElem?_map, List.getElem?_eq_getElem (by rw [HN.out]; omega), hX]; rfl)
            have hblt : b0 < w.heap.size := World.block_lt_of_cell? w _ hxw
            have hxc := (BEL1.out.cell (p := ⟨b0, off, none⟩) hblt).trans hxw
            have hb1 : ¬ b0 = g := by omega
            have hb2 : ¬ g = b0 := by omega
            have HX := Lib.hid hX
            clear hcell hX hxw
            have HST : Hid (St.step ⟨k, ms, false⟩ 4 = some ⟨0, ms.take 0, false⟩) := by
              show _ = _
              obtain ⟨y, rfl⟩ : ∃ y, ms = [y] := by
                have hl := HN.out
                match ms, hl with
                | [y], _ => exact ⟨y, rfl⟩
              simp [St.step]
            go_wp2_with fail
            refine (copyInts_c (ms.take 0) _ 0 _ _ (by rw [List.length_take, HN.out]; omega) ?q1 (by omega)).mono ?_
            case q1 =>
              rw [List.map_take]
              refine Rd.take ?_ _
              exact Rd.below (H.out) (by first | exact ((BEL1.out.setCell (by simp <;> omega) _).setCell (by simp <;> omega) _))
            rintro e w3 ⟨A3, c3, rfl, o3, b3⟩
            have row3 := Row.of_own o3
            rw [show (ms.take 0).length = 0 by rw [List.length_take, HN.out]; omega] at row3 ⊢
            have bo3 : Blk w3 g 25 #[.int .i64 0, .int .i64 x, .slice A1 1 c1, .bool false] := Blk.below ((BO.out.set_ 1 (.int .i64 x)).set_ 0 (.int .i64 0)) b3 (by have := BO.out.lt; simp <;> omega)
            have bi3 := Blk.below ((BI.out.far (by simp <;> omega) _).far (by simp <;> omega) _) b3 (by have := BI.out.lt; simp <;> omega)
            have br3 := Blk.below ((BR.out.far (by simp <;> omega) _).far (by simp <;> omega) _) b3 (by have := BR.out.lt; simp <;> omega)
            have bel3 : Below w.heap.size w w3 := Below.trans ((BEL1.out.setCell (by simp <;> omega) _).setCell (by simp <;> omega) _) (b3.mono (by have := BEL1.out.size; simp <;> omega))
            have row3' : Row w3 (w.heap.size + 2) 3 1 A3 0 c3 ((ms.take 0).map (.int .i64)) := row3.mono (by simp <;> omega)
            have BO3 := Lib.hid bo3; have BI3 := Lib.hid bi3; have BR3 := Lib.hid br3; have ROW3 := Lib.hid row3'; have BEL3 := Lib.hid bel3
            clear bo3 bi3 br3 row3 row3' o3 b3 bel3 i0c i1c i2c i3c ifz r0c r1c r2c r3c rfz o0c o1c o2c o3c ofz
            obtain ⟨i0c, i1c, i2c, i3c, ifz⟩ := blk4 BI3.out
            obtain ⟨r0c, r1c, r2c, r3c, rfz⟩ := blk4 BR3.out
            obtain ⟨o0c, o1c, o2c, o3c, ofz⟩ := blk4 BO3.out
            go_wp2_with fail
            refine bodyPost_ret (v := .tuple #[.agg #[.int .i64 0, .int .i64 0, .slice A3 0 c3, .bool false], .bool true]) (by simp [results, Try.results35, go_sem, i0c, i1c, i2c, i3c, ifz, r0c, r1c, r2c, r3c, rfz, o0c, o1c, o2c, o3c, ofz, hg0, hg1, hg2, hg3]) rfl ?_
            refine HSTEP.out _ _ _ HST.out ?_
            show RetStep ⟨0, ms.take 0, false⟩ true w _ _
            refine ⟨A3, c3, by rw [show (ms.take 0).length = 0 by rw [List.length_take, HN.out]; omega] <;> rfl, ?_, ?_⟩
            · rw [show (ms.take 0).length = 0 by rw [List.length_take, HN.out]; omega]
              refine Row.mono (B := w.heap.size + 2) ?_ (by omega)
              refine Row.setFar (Row.setFar (Row.setFar (Row.setFar ?_ (by simp <;> omega) _) (by simp <;> omega) _) (by simp <;> omega) _) (by simp <;> omega) _
              exact (((ROW3.out.setBlk BO3.out (by decide) 2 (.slice A3 0 c3)).setBlk (BO3.out.set_ 2 (.slice A3 0 c3)) (by decide) 3 (.bool false)).setBlk ((BO3.out.set_ 2 (.slice A3 0 c3)).set_ 3 (.bool false)) (by decide) 1 (.int .i64 0))
            · repeat (with_reducible refine Below.setCell ?_ (by simp <;> omega) _)
              exact BEL3.out
          · obtain ⟨m, rfl⟩ : ∃ m, n = m + 1 := ⟨n - 1, by omega⟩
            obtain ⟨b0, off, hA, hcell⟩ := H.out (by rw [List.length_map, HN.out]; omega)
            subst hA
            obtain ⟨x, hX⟩ : ∃ x, x = ms[m]'(by rw [HN.out]; omega) := ⟨_, rfl⟩
            have hxw : w.cell? ⟨b0, off + m, none⟩ = some (.int .i64 x) := hcell m _ (by rw [List.getElem?_map, List.getElem?_eq_getElem (by rw [HN.out]; omega), hX]; rfl)
            have hblt : b0 < w.heap.size := World.block_lt_of_cell? w _ hxw
            have hxc := (BEL1.out.cell (p := ⟨b0, off + m, none⟩) hblt).trans hxw
            have hb1 : ¬ b0 = g := by omega
            have hb2 : ¬ g = b0 := by omega
            have HX := Lib.hid hX
            clear hcell hX hxw
            have hx0 : ((m : Int) == 0) = false := beq_eq_false_iff_ne.2 (by omega)
            have hx1 : ¬ m = 0 := by omega
            have HST : Hid (St.step ⟨k, ms, false⟩ 4 = some ⟨x, ms.take m, false⟩) := by
              show _ = _
              have hl := HN.out; simp [St.step, hl, hx1, List.dropLast_eq_take]; rw [HX.out]; simp [List.getLast?_eq_getElem?, hl, List.getElem?_eq_getElem (show m < ms.length by omega)]
            go_wp2_with fail
            refine (copyInts_c (ms.take m) _ m _ _ (by rw [List.length_take, HN.out]; omega) ?q1 (by omega)).mono ?_
            case q1 =>
              rw [List.map_take]
              refine Rd.take ?_ _
              exact Rd.below (H.out) (by first | exact ((BEL1.out.setCell (by simp <;> omega) _).setCell (by simp <;> omega) _))
            rintro e w3 ⟨A3, c3, rfl, o3, b3⟩
            have row3 := Row.of_own o3
            rw [show (ms.take m).length = m by rw [List.length_take, HN.out]; omega] at row3 ⊢
            have bo3 : Blk w3 g 25 #[.int .i64 (m : Int), .int .i64 x, .slice A1 (m + 1) c1, .bool false] := Blk.below ((BO.out.set_ 1 (.int .i64 x)).set_ 0 (.int .i64 (m : Int))) b3 (by have := BO.out.lt; simp <;> omega)
            have bi3 := Blk.below ((BI.out.far (by simp <;> omega) _).far (by simp <;> omega) _) b3 (by have := BI.out.lt; simp <;> omega)
            have br3 := Blk.below ((BR.out.far (by simp <;> omega) _).far (by simp <;> omega) _) b3 (by have := BR.out.lt; simp <;> omega)
            have bel3 : Below w.heap.size w w3 := Below.trans ((BEL1.out.setCell (by simp <;> omega) _).setCell (by simp <;> omega) _) (b3.mono (by have := BEL1.out.size; simp <;> omega))
            have row3' : Row w3 (w.heap.size + 2) 3 1 A3 m c3 ((ms.take m).map (.int .i64)) := row3.mono (by simp <;> omega)
            have BO3 := Lib.hid bo3; have BI3 := Lib.hid bi3; have BR3 := Lib.hid br3; have ROW3 := Lib.hid row3'; have BEL3 := Lib.hid bel3
            clear bo3 bi3 br3 row3 row3' o3 b3 bel3 i0c i1c i2c i3c ifz r0c r1c r2c r3c rfz o0c o1c o2c o3c ofz
            obtain ⟨i0c, i1c, i2c, i3c, ifz⟩ := blk4 BI3.out
            obtain ⟨r0c, r1c, r2c, r3c, rfz⟩ := blk4 BR3.out
            obtain ⟨o0c, o1c, o2c, o3c, ofz⟩ := blk4 BO3.out
            go_wp2_with fail
            refine bodyPost_ret (v := .tuple #[.agg #[.int .i64 (m : Int), .int .i64 x, .slice A3 m c3, .bool false], .bool true]) (by simp [results, Try.results35, go_sem, i0c, i1c, i2c, i3c, ifz, r0c, r1c, r2c, r3c, rfz, o0c, o1c, o2c, o3c, ofz, hg0, hg1, hg2, hg3]) rfl ?_
            refine HSTEP.out _ _ _ HST.out ?_
            show RetStep ⟨x, ms.take m, false⟩ true w _ _
            refine ⟨A3, c3, by rw [show (ms.take m).length = m by rw [List.length_take, HN.out]; omega] <;> rfl, ?_, ?_⟩
            · rw [show (ms.take m).length = m by rw [List.length_take, HN.out]; omega]
              refine Row.mono (B := w.heap.size + 2) ?_ (by omega)
              refine Row.setFar (Row.setFar (Row.setFar (Row.setFar ?_ (by simp <;> omega) _) (by simp <;> omega) _) (by simp <;> omega) _) (by simp <;> omega) _
              exact ((ROW3.out.setBlk BO3.out (by decide) 2 (.slice A3 m c3)).setBlk (BO3.out.set_ 2 (.slice A3 m c3)) (by decide) 3 (.bool false))
            · repeat (with_reducible refine Below.setCell ?_ (by simp <;> omega) _)
              exact BEL3.out
      · simp only [beq_eq_false_iff_ne, ne_eq] at q0 q1 q2 q3 q4
        have q0' : (kind == 0) = false := beq_eq_false_iff_ne.2 q0
        have q1' : (kind == 1) = false := beq_eq_false_iff_ne.2 q1
        have q2' : (kind == 2) = false := beq_eq_false_iff_ne.2 q2
        have q3' : (kind == 3) = false := beq_eq_false_iff_ne.2 q3
        have q4' : (kind == 4) = false := beq_eq_false_iff_ne.2 q4
        have HST9 : Hid (St.step ⟨k, ms, false⟩ kind = none) := by show _ = _; simp [St.step, q0, q1, q2, q3, q4]
        clear q0 q1 q2 q3 q4
        have HST := HST9
        go_wp2_with fail
        refine bodyPost_ret (v := .tuple #[.agg #[.int .i64 0, .int .i64 0, .slice none 0 0, .bool false], .bool false]) (by simp [results, Try.results35, go_sem, i0c, i1c, i2c, i3c, ifz, r0c, r1c, r2c, r3c, rfz, o0c, o1c, o2c, o3c, ofz, hg0, hg1, hg2, hg3]) rfl ?_
        refine HSTEP.out _ _ _ HST.out ?_
        refine ⟨none, 0, rfl, Row.nil _ _ _ _ _, ?_⟩
        repeat (with_reducible refine Below.setCell ?_ (by simp <;> omega) _)
        exact BEL1.out
    · have hn0 : 0 < n := HOR.out rfl
      have hkinds : kind = 0 ∨ kind = 1 ∨ kind = 2 ∨ kind = 3 ∨ kind = 4 ∨ ((kind == 0) = false ∧ (kind == 1) = false ∧ (kind == 2) = false ∧ (kind == 3) = false ∧ (kind == 4) = false) := by simp; omega
      rcases hkinds with rfl | rfl | rfl | rfl | rfl | ⟨q0, q1, q2, q3, q4⟩
      · by_cases hn4 : n < 4
        · skip
          have HST : Hid (St.step ⟨k, ms, true⟩ 0 = none) := by show _ = _; simp [St.step, HN.out] <;> omega
          go_wp2_with fail
          refine bodyPost_ret (v := .tuple #[.agg #[.int .i64 0, .int .i64 0, .slice none 0 0, .bool false], .bool false]) (by simp [results, Try.results35, go_sem, i0c, i1c, i2c, i3c, ifz, r0c, r1c, r2c, r3c, rfz, o0c, o1c, o2c, o3c, ofz, hg0, hg1, hg2, hg3]) rfl ?_
          refine HSTEP.out _ _ _ HST.out ?_
          refine ⟨none, 0, rfl, Row.nil _ _ _ _ _, ?_⟩
          repeat (with_reducible refine Below.setCell ?_ (by simp <;> omega) _)
          exact BEL1.out
        · have hd1 : decide ((n : Int) < 4) = false := decide_eq_false (by omega)
          have hd2 : decide (n < 4) = false := decide_eq_false hn4
          have HST : Hid (St.step ⟨k, ms, true⟩ 0 = none) := by show _ = _; simp [St.step, HN.out] <;> omega
          clear hn4
          go_wp2_with fail
          refine bodyPost_ret (v := .tuple #[.agg #[.int .i64 0, .int .i64 0, .slice none 0 0, .bool false], .bool false]) (by simp [results, Try.results35, go_sem, i0c, i1c, i2c, i3c, ifz, r0c, r1c, r2c, r3c, rfz, o0c, o1c, o2c, o3c, ofz, hg0, hg1, hg2, hg3]) rfl ?_
          refine HSTEP.out _ _ _ HST.out ?_
          refine ⟨none, 0, rfl, Row.nil _ _ _ _ _, ?_⟩
          repeat (with_reducible refine Below.setCell ?_ (by simp <;> omega) _)
          exact BEL1.out
      · by_cases hk : k < 12
        · skip
          have HST : Hid (St.step ⟨k, ms, true⟩ 1 = none) := by show _ = _; simp [St.step, HN.out] <;> omega
          go_wp2_with fail
          refine bodyPost_ret (v := .tuple #[.agg #[.int .i64 0, .int .i64 0, .slice none 0 0, .bool false], .bool false]) (by simp [results, Try.results35, go_sem, i0c, i1c, i2c, i3c, ifz, r0c, r1c, r2c, r3c, rfz, o0c, o1c, o2c, o3c, ofz, hg0, hg1, hg2, hg3]) rfl ?_
          refine HSTEP.out _ _ _ HST.out ?_
          refine ⟨none, 0, rfl, Row.nil _ _ _ _ _, ?_⟩
          repeat (with_reducible refine Below.setCell ?_ (by simp <;> omega) _)
          exact BEL1.out
        · have hd1 : decide (k < 12) = false := decide_eq_false hk
          have HST : Hid (St.step ⟨k, ms, true⟩ 1 = none) := by show _ = _; simp [St.step, HN.out] <;> omega
          clear hk
          go_wp2_with fail
          refine bodyPost_ret (v := .tuple #[.agg #[.int .i64 0, .int .i64 0, .slice none 0 0, .bool false], .bool false]) (by simp [results, Try.results35, go_sem, i0c, i1c, i2c, i3c, ifz, r0c, r1c, r2c, r3c, rfz, o0c, o1c, o2c, o3c, ofz, hg0, hg1, hg2, hg3]) rfl ?_
          refine HSTEP.out _ _ _ HST.out ?_
          refine ⟨none, 0, rfl, Row.nil _ _ _ _ _, ?_⟩
          repeat (with_reducible refine Below.setCell ?_ (by simp <;> omega) _)
          exact BEL1.out
      · skip
        have hx0 : ((n : Int) == 0) = false := beq_eq_false_iff_ne.2 (by omega)
        have HST : Hid (St.step ⟨k, ms, true⟩ 2 = some ⟨k, ms, true⟩) := by
          show _ = _
          simp [St.step, HN.out]; omega
        go_wp2_with fail
        refine bodyPost_ret (v := .tuple #[.agg #[.int .i64 (n : Int), .int .i64 k, .slice A1 n c1, .bool true], .bool true]) (by simp [results, Try.results35, go_sem, i0c, i1c, i2c, i3c, ifz, r0c, r1c, r2c, r3c, rfz, o0c, o1c, o2c, o3c, ofz, hg0, hg1, hg2, hg3]) rfl ?_
        refine HSTEP.out _ _ _ HST.out ?_
        show RetStep ⟨k, ms, true⟩ true w _ _
        refine ⟨A1, c1, by rw [show ms.length = n from HN.out] <;> rfl, ?_, ?_⟩
        · rw [show ms.length = n from HN.out]
          refine Row.mono (B := w.heap.size + 2) ?_ (by omega)
          refine Row.setFar (Row.setFar (Row.setFar (Row.setFar ?_ (by simp <;> omega) _) (by simp <;> omega) _) (by simp <;> omega) _) (by simp <;> omega) _
          exact (ROW1.out.setBlk BO.out (by decide) 3 (.bool true))
        · repeat (with_reducible refine Below.setCell ?_ (by simp <;> omega) _)
          exact BEL1.out
      · skip
        have HST : Hid (St.step ⟨k, ms, true⟩ 3 = none) := by show _ = _; simp [St.step, HN.out] <;> omega
        go_wp2_with fail
        refine bodyPost_ret (v := .tuple #[.agg #[.int .i64 0, .int .i64 0, .slice none 0 0, .bool false], .bool false]) (by simp [results, Try.results35, go_sem, i0c, i1c, i2c, i3c, ifz, r0c, r1c, r2c, r3c, rfz, o0c, o1c, o2c, o3c, ofz, hg0, hg1, hg2, hg3]) rfl ?_
        refine HSTEP.out _ _ _ HST.out ?_
        refine ⟨none, 0, rfl, Row.nil _ _ _ _ _, ?_⟩
        repeat (with_reducible refine Below.setCell ?_ (by simp <;> omega) _)
        exact BEL1.out
      · by_cases hn1 : n = 1
        · subst hn1
          obtain ⟨b0, off, hA, hcell⟩ := H.out (by rw [List.length_map, HN.out]; omega)
          subst hA
          obtain ⟨x, hX⟩ : ∃ x, x = ms[0]'(by rw [HN.out]; omega) := ⟨_, rfl⟩
          have hxw : w.cell? ⟨b0, off, none⟩ = some (.int .i64 x) := hcell 0 _ (by rw [List.getElem?_map, List.getElem?_eq_getElem (by rw [HN.out]; omega), hX]; rfl)
          have hblt : b0 < w.heap.size := World.block_lt_of_cell? w _ hxw
          have hxc := (BEL1.out.cell (p := ⟨b0, off, none⟩) hblt).trans hxw
          have hb1 : ¬ b0 = g := by omega
          have hb2 : ¬ g = b0 := by omega
          have HX := Lib.hid hX
          clear hcell hX hxw
          have HST : Hid (St.step ⟨k, ms, true⟩ 4 = some ⟨0, ms.take 0, false⟩) := by
            show _ = _
            obtain ⟨y, rfl⟩ : ∃ y, ms = [y] := by
              have hl := HN.out
              match ms, hl with
              | [y], _ => exact ⟨y, rfl⟩
            simp [St.step]
          go_wp2_with fail
          refine (copyInts_c (ms.take 0) _ 0 _ _ (by rw [List.length_take, HN.out]; omega) ?q1 (by omega)).mono ?_
          case q1 =>
            rw [List.map_take]
            refine Rd.take ?_ _
            exact Rd.below (H.out) (by first | exact ((BEL1.out.setCell (by simp <;> omega) _).setCell (by simp <;> omega) _))
          rintro e w3 ⟨A3, c3, rfl, o3, b3⟩
          have row3 := Row.of_own o3
          rw [show (ms.take 0).length = 0 by rw [List.length_take, HN.out]; omega] at row3 ⊢
          have bo3 : Blk w3 g 25 #[.int .i64 0, .int .i64 x, .slice A1 1 c1, .bool true] := Blk.below ((BO.out.set_ 1 (.int .i64 x)).set_ 0 (.int .i64 0)) b3 (by have := BO.out.lt; simp <;> omega)
          have bi3 := Blk.below ((BI.out.far (by simp <;> omega) _).far (by simp <;> omega) _) b3 (by have := BI.out.lt; simp <;> omega)
          have br3 := Blk.below ((BR.out.far (by simp <;> omega) _).far (by simp <;> omega) _) b3 (by have := BR.out.lt; simp <;> omega)
          have bel3 : Below w.heap.size w w3 := Below.trans ((BEL1.out.setCell (by simp <;> omega) _).setCell (by simp <;> omega) _) (b3.mono (by have := BEL1.out.size; simp <;> omega))
          have row3' : Row w3 (w.heap.size + 2) 3 1 A3 0 c3 ((ms.take 0).map (.int .i64)) := row3.mono (by simp <;> omega)
          have BO3 := Lib.hid bo3; have BI3 := Lib.hid bi3; have BR3 := Lib.hid br3; have ROW3 := Lib.hid row3'; have BEL3 := Lib.hid bel3
          clear bo3 bi3 br3 row3 row3' o3 b3 bel3 i0c i1c i2c i3c ifz r0c r1c r2c r3c rfz o0c o1c o2c o3c ofz
          obtain ⟨i0c, i1c, i2c, i3c, ifz⟩ := blk4 BI3.out
          obtain ⟨r0c, r1c, r2c, r3c, rfz⟩ := blk4 BR3.out
          obtain ⟨o0c, o1c, o2c, o3c, ofz⟩ := blk4 BO3.out
          go_wp2_with fail
          refine bodyPost_ret (v := .tuple #[.agg #[.int .i64 0, .int .i64 0, .slice A3 0 c3, .bool false], .bool true]) (by simp [results, Try.results35, go_sem, i0c, i1c, i2c, i3c, ifz, r0c, r1c, r2c, r3c, rfz, o0c, o1c, o2c, o3c, ofz, hg0, hg1, hg2, hg3]) rfl ?_
          refine HSTEP.out _ _ _ HST.out ?_
          show RetStep ⟨0, ms.take 0, false⟩ true w _ _
          refine ⟨A3, c3, by rw [show (ms.take 0).length = 0 by rw [List.length_take, HN.out]; omega] <;> rfl, ?_, ?_⟩
          · rw [show (ms.take 0).length = 0 by rw [List.length_take, HN.out]; omega]
            refine Row.mono (B := w.heap.size + 2) ?_ (by omega)
            refine Row.setFar (Row.setFar (Row.setFar (Row.setFar ?_ (by simp <;> omega) _) (by simp <;> omega) _) (by simp <;> omega) _) (by simp <;> omega) _
            exact (((ROW3.out.setBlk BO3.out (by decide) 2 (.slice A3 0 c3)).setBlk (BO3.out.set_ 2 (.slice A3 0 c3)) (by decide) 3 (.bool false)).setBlk ((BO3.out.set_ 2 (.slice A3 0 c3)).set_ 3 (.bool false)) (by decide) 1 (.int .i64 0))
          · repeat (with_reducible refine Below.setCell ?_ (by simp <;> omega) _)
            exact BEL3.out
        · obtain ⟨m, rfl⟩ : ∃ m, n = m + 1 := ⟨n - 1, by omega⟩
          obtain ⟨b0, off, hA, hcell⟩ := H.out (by rw [List.length_map, HN.out]; omega)
          subst hA
          obtain ⟨x, hX⟩ : ∃ x, x = ms[m]'(by rw [HN.out]; omega) := ⟨_, rfl⟩
          have hxw : w.cell? ⟨b0, off + m, none⟩ = some (.int .i64 x) := hcell m _ (by rw [List.getElem?_map, List.getElem?_eq_getElem (by rw [HN.out]; omega), hX]; rfl)
          have hblt : b0 < w.heap.size := World.block_lt_of_cell? w _ hxw
          have hxc := (BEL1.out.cell (p := ⟨b0, off + m, none⟩) hblt).trans hxw
          have hb1 : ¬ b0 = g := by omega
          have hb2 : ¬ g = b0 := by omega
          have HX := Lib.hid hX
          clear hcell hX hxw
          have hx0 : ((m : Int) == 0) = false := beq_eq_false_iff_ne.2 (by omega)
          have hx1 : ¬ m = 0 := by omega
          have HST : Hid (St.step ⟨k, ms, true⟩ 4 = some ⟨x, ms.take m, false⟩) := by
            show _ = _
            have hl := HN.out; simp [St.step, hl, hx1, List.dropLast_eq_take]; rw [HX.out]; simp [List.getLast?_eq_getElem?, hl, List.getElem?_eq_getElem (show m < ms.length by omega)]
          go_wp2_with fail
          refine (copyInts_c (ms.take m) _ m _ _ (by rw [List.length_take, HN.out]; omega) ?q1 (by omega)).mono ?_
          case q1 =>
            rw [List.map_take]
            refine Rd.take ?_ _
            exact Rd.below (H.out) (by first | exact ((BEL1.out.setCell (by simp <;> omega) _).setCell (by simp <;> omega) _))
          rintro e w3 ⟨A3, c3, rfl, o3, b3⟩
          have row3 := Row.of_own o3
          rw [show (ms.take m).length = m by rw [List.length_take, HN.out]; omega] at row3 ⊢
          have bo3 : Blk w3 g 25 #[.int .i64 (m : Int), .int .i64 x, .slice A1 (m + 1) c1, .bool true] := Blk.below ((BO.out.set_ 1 (.int .i64 x)).set_ 0 (.int .i64 (m : Int))) b3 (by have := BO.out.lt; simp <;> omega)
          have bi3 := Blk.below ((BI.out.far (by simp <;> omega) _).far (by simp <;> omega) _) b3 (by have := BI.out.lt; simp <;> omega)
          have br3 := Blk.below ((BR.out.far (by simp <;> omega) _).far (by simp <;> omega) _) b3 (by have := BR.out.lt; simp <;> omega)
          have bel3 : Below w.heap.size w w3 := Below.trans ((BEL1.out.setCell (by simp <;> omega) _).setCell (by simp <;> omega) _) (b3.mono (by have := BEL1.out.size; simp <;> omega))
          have row3' : Row w3 (w.heap.size + 2) 3 1 A3 m c3 ((ms.take m).map (.int .i64)) := row3.mono (by simp <;> omega)
          have BO3 := Lib.hid bo3; have BI3 := Lib.hid bi3; have BR3 := Lib.hid br3; have ROW3 := Lib.hid row3'; have BEL3 := Lib.hid bel3
          clear bo3 bi3 br3 row3 row3' o3 b3 bel3 i0c i1c i2c i3c ifz r0c r1c r2c r3c rfz o0c o1c o2c o3c ofz
          obtain ⟨i0c, i1c, i2c, i3c, ifz⟩ := blk4 BI3.out
          obtain ⟨r0c, r1c, r2c, r3c, rfz⟩ := blk4 BR3.out
          obtain ⟨o0c, o1c, o2c, o3c, ofz⟩ := blk4 BO3.out
          go_wp2_with fail
          refine bodyPost_ret (v := .tuple #[.agg #[.int .i64 (m : Int), .int .i64 x, .slice A3 m c3, .bool false], .bool true]) (by simp [results, Try.results35, go_sem, i0c, i1c, i2c, i3c, ifz, r0c, r1c, r2c, r3c, rfz, o0c, o1c, o2c, o3c, ofz, hg0, hg1, hg2, hg3]) rfl ?_
          refine HSTEP.out _ _ _ HST.out ?_
          show RetStep ⟨x, ms.take m, false⟩ true w _ _
          refine ⟨A3, c3, by rw [show (ms.take m).length = m by rw [List.length_take, HN.out]; omega] <;> rfl, ?_, ?_⟩
          · rw [show (ms.take m).length = m by rw [List.length_take, HN.out]; omega]
            refine Row.mono (B := w.heap.size + 2) ?_ (by omega)
            refine Row.setFar (Row.setFar (Row.setFar (Row.setFar ?_ (by simp <;> omega) _) (by simp <;> omega) _) (by simp <;> omega) _) (by simp <;> omega) _
            exact ((ROW3.out.setBlk BO3.out (by decide) 2 (.slice A3 m c3)).setBlk (BO3.out.set_ 2 (.slice A3 m c3)) (by decide) 3 (.bool false))
          · repeat (with_reducible refine Below.setCell ?_ (by simp <;> omega) _)
            exact BEL3.out
      · simp only [beq_eq_false_iff_ne, ne_eq] at q0 q1 q2 q3 q4
        have q0' : (kind == 0) = false := beq_eq_false_iff_ne.2 q0
        have q1' : (kind == 1) = false := beq_eq_false_iff_ne.2 q1
        have q2' : (kind == 2) = false := beq_eq_false_iff_ne.2 q2
        have q3' : (kind == 3) = false := beq_eq_false_iff_ne.2 q3
        have q4' : (kind == 4) = false := beq_eq_false_iff_ne.2 q4
        have HST9 : Hid (St.step ⟨k, ms, true⟩ kind = none) := by show _ = _; simp [St.step, q0, q1, q2, q3, q4]
        clear q0 q1 q2 q3 q4
        have HST := HST9
        go_wp2_with fail
        refine bodyPost_ret (v := .tuple #[.agg #[.int .i64 0, .int .i64 0, .slice none 0 0, .bool false], .bool false]) (by simp [results, Try.results35, go_sem, i0c, i1c, i2c, i3c, ifz, r0c, r1c, r2c, r3c, rfz, o0c, o1c, o2c, o3c, ofz, hg0, hg1, hg2, hg3]) rfl ?_
        refine HSTEP.out _ _ _ HST.out ?_
        refine ⟨none, 0, rfl, Row.nil _ _ _ _ _, ?_⟩
        repeat (with_reducible refine Below.setCell ?_ (by simp <;> omega) _)
        exact BEL1.out
end Go.Proofs.Ytagmhmhhjkfhgaa
