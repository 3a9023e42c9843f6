/- Contracts of runs of commands, by the reference. -/
import Derived.Test.YtagmhmhhjkfhgaaNestA
set_option linter.unusedVariables false
set_option linter.unusedSimpArgs false
set_option linter.unnecessarySimpa false
namespace Go.Proofs.Ytagmhmhhjkfhgaa
open Go.RowKit

theorem Blk.new_at (w : World) {g : Nat} (hg : g = w.heap.size) (t : TypeId) (cs : Array Value) : Blk (w.alloc (.cells cs t)) g t cs := by subst hg; exact Blk.new w t cs
section
variable {w : World} {g g' : Nat} {t t' : TypeId} {x0 x1 x2 x3 a b c d : Value}
theorem blk_set4 (h : Blk w g t #[x0, x1, x2, x3]) : Blk ((((w.setCell ⟨g, 0, none⟩ a).setCell ⟨g, 1, none⟩ b).setCell ⟨g, 2, none⟩ c).setCell ⟨g, 3, none⟩ d) g t #[a, b, c, d] := (((h.set_ 0 a).set_ 1 b).set_ 2 c).set_ 3 d
theorem blk_far4 {cs : Array Value} (h : Blk w g' t' cs) (hne : g' ≠ g) : Blk ((((w.setCell ⟨g, 0, none⟩ a).setCell ⟨g, 1, none⟩ b).setCell ⟨g, 2, none⟩ c).setCell ⟨g, 3, none⟩ d) g' t' cs := (((h.far hne _).far hne _).far hne _).far hne _
theorem row_set4 {B : Nat} {e : TypeId} {size n cc : Nat} {A : Option Addr} {xs : List Value} (h : Row w B e size A n cc xs) (hb : Blk w g t #[x0, x1, x2, x3]) (hne : e ≠ t) : Row ((((w.setCell ⟨g, 0, none⟩ a).setCell ⟨g, 1, none⟩ b).setCell ⟨g, 2, none⟩ c).setCell ⟨g, 3, none⟩ d) B e size A n cc xs :=
  (((h.setBlk hb hne 0 a).setBlk (hb.set_ 0 a) hne 1 b).setBlk ((hb.set_ 0 a).set_ 1 b) hne 2 c).setBlk (((hb.set_ 0 a).set_ 1 b).set_ 2 c) hne 3 d
theorem below_set4 {B : Nat} {w0 : World} (h : Below B w0 w) (hB : B ≤ g) : Below B w0 ((((w.setCell ⟨g, 0, none⟩ a).setCell ⟨g, 1, none⟩ b).setCell ⟨g, 2, none⟩ c).setCell ⟨g, 3, none⟩ d) :=
  (((h.setCell hB _).setCell hB _).setCell hB _).setCell hB _
end
def runV (ks : List Int) : St := if ks.length ≤ 16 then runS ks else St.zero
def missV (ks : List Int) : Int := if ks.length ≤ 16 then missed ks else -1
def keptV (ks : List Int) : Int := if ks.length ≤ 16 then kept ks else -1
/-- A state of a nest and a number: new memory; what was there is as it was. -/
def RetRun (t : St) (v : Int) (w : World) (e : Ending) (w' : World) : Prop :=
  ∃ A c, e = .returned (.tuple #[.agg #[.int .i64 (t.marks.length : Int), .int .i64 t.work, .slice A t.marks.length c, .bool t.broken], .int .i64 v]) ∧ Row w' w.heap.size 3 1 A t.marks.length c (t.marks.map (.int .i64)) ∧ Below w.heap.size w w'
theorem run_take_succ (ks : List Int) (j : Nat) (h : j < ks.length) : runS (ks.take (j + 1)) = (runS (ks.take j)).next ks[j] ∧ missed (ks.take (j + 1)) = missed (ks.take j) + (runS (ks.take j)).missed ks[j] ∧ kept (ks.take (j + 1)) = kept (ks.take j) + (runS (ks.take j)).keeps ks[j] := by
  rw [List.take_succ_eq_append_getElem h]
  exact ⟨runS_snoc _ _, missed_snoc _ _, kept_snoc _ _⟩
theorem kept_bd (ks : List Int) : 0 ≤ kept ks ∧ kept ks ≤ ks.length := by
  have h1 := run_work ks
  have h2 := runS_ok ks
  rw [St.ok_iff] at h2
  have h3 : works ks ≤ ks.length := by unfold works; have := List.length_filter_le (fun k => k == 1) ks; omega
  omega
/-- The state after j commands lies in block g; its marks are a row. -/
def NestAt (s : St) (g B : Nat) (w wr : World) : Prop :=
  ∃ A c, Blk wr g 25 #[.int .i64 (s.marks.length : Int), .int .i64 s.work, .slice A s.marks.length c, .bool s.broken] ∧ Row wr B 3 1 A s.marks.length c (s.marks.map (.int .i64)) ∧ Below w.heap.size w wr

set_option maxRecDepth 100000 in
set_option maxHeartbeats 16000000 in
theorem sRunNest_c (ks : List Int) (A : Option Addr) (n c : Nat) (w : World) (hN : ks.length = n) (hc0 : n ≤ c) (h : Rd w A (ks.map (.int .i64))) (hn : n ≤ 1073741824) :
    Calls Try.prog 17 #[.slice A n c] w (RetRun (runV ks) (missV ks) w) := by
  have HN := Lib.hid hN; clear hN
  have H := Lib.hid h; clear h
  by_cases h16 : n ≤ 16
  · go_enter Try.func17, Try.ntmps17
    go_wp2_with fail
    have start : NestAt (runS (ks.take 0)) (w.heap.size + 1 + 1) (w.heap.size + 3) w (((w.alloc (.cells #[.int .i64 0, .int .i64 0, .slice none 0 0, .bool false] 25)).alloc (.cells #[] 3)).alloc (.cells #[.int .i64 0, .int .i64 0, .slice (some ⟨w.heap.size + 1, 0, none⟩) 0 0, .bool false] 25)) := by
      refine ⟨_, 0, Blk.new_at _ (by simp) _ _, Row.nil _ _ _ _ _, ?_⟩
      exact (((Below.refl _ _).alloc (Nat.le_refl _) _).alloc (by simp) _).alloc (by simp <;> omega) _
    have startr : Blk (((w.alloc (.cells #[.int .i64 0, .int .i64 0, .slice none 0 0, .bool false] 25)).alloc (.cells #[] 3)).alloc (.cells #[.int .i64 0, .int .i64 0, .slice (some ⟨w.heap.size + 1, 0, none⟩) 0 0, .bool false] 25)) w.heap.size 25 #[.int .i64 0, .int .i64 0, .slice none 0 0, .bool false] := ((Blk.new _ _ _).alloc _).alloc _
    go_loopw [5, 6] (fun q i wr => ∃ j : Nat, j ≤ n ∧ i = .int .i64 j ∧ q = .int .i64 (missed (ks.take j)) ∧ NestAt (runS (ks.take j)) (w.heap.size + 1 + 1) (w.heap.size + 3) w wr ∧ Blk wr w.heap.size 25 #[.int .i64 0, .int .i64 0, .slice none 0 0, .bool false]) (fun _ i _ => n - (intOf i).toNat)
    case atStart => exact ⟨0, Nat.zero_le _, rfl, rfl, start, startr⟩
    case round =>
      clear start
      clear startr
      obtain ⟨j, hj, rfl, rfl, ⟨A2, c2, bo, row, bel⟩, br⟩ := hrel
      by_cases hlt : j < n
      · have hjk : j < ks.length := by have := HN.out; omega
        obtain ⟨b0, off, hA, hcell⟩ := (H.out.block (by simp; omega))
        subst hA
        obtain ⟨hblt, hcell⟩ := hcell
        obtain ⟨x, hX⟩ : ∃ x, x = ks[j] := ⟨_, rfl⟩
        have hx0 : w.cell? ⟨b0, off + j, none⟩ = some (.int .i64 x) := hcell _ _ (by simp [hX, hjk])
        have hx : wr.cell? ⟨b0, off + j, none⟩ = some (.int .i64 x) := (bel.cell (by exact hblt)).trans hx0
        obtain ⟨e1, e2, e3⟩ := run_take_succ ks j hjk
        have hok := runS_ok (ks.take j)
        have hq := missed_bd (ks.take j)
        have htl : (ks.take j).length ≤ j := List.length_take_le _ _
        obtain ⟨q, hqd⟩ : ∃ q, q = missed (ks.take j) := ⟨_, rfl⟩
        obtain ⟨s, hs⟩ : ∃ s, s = runS (ks.take j) := ⟨_, rfl⟩
        rw [← hs, ← hX] at e1 e2 e3
        rw [← hs] at bo row hok
        rw [← hqd] at e2 hq ⊢
        obtain ⟨k, ms, b⟩ := s
        have hq0 : 0 ≤ q := hq.1
        have hq1 : q ≤ 16 := by omega
        obtain ⟨r, hr⟩ : ∃ r, r = St.step ⟨k, ms, b⟩ x := ⟨_, rfl⟩
        have hok' := hok
        rw [St.ok_iff] at hok'
        have hml : ms.length ≤ 4 := hok'.1
        have hk0 : 0 ≤ k := hok'.2.1.1
        have hk1 : k ≤ 12 := hok'.2.1.2
        have hcap := row.le
        have hcon : ∀ W, Rd W A2 (ms.map (.int .i64)) → Calls Try.prog 35 #[.agg #[.int .i64 (ms.length : Int), .int .i64 k, .slice A2 ms.length c2, .bool b], .int .i64 x] W (RetStep (r.getD St.zero) r.isSome W) := by
          intro W hW; rw [hr]; exact sstep_c k ms b x A2 ms.length c2 W rfl hcap hW hok
        have HCON := Lib.hid hcon; have HR := Lib.hid hr; have HE1 := Lib.hid e1; have HE2 := Lib.hid e2; have HE3 := Lib.hid e3
        have BO := Lib.hid bo; have ROW := Lib.hid row; have BEL := Lib.hid bel; have RDW := Lib.hid row.rd
        have BR := Lib.hid br
        have hsz : w.heap.size + 3 ≤ wr.heap.size := by have := bo.lt; omega
        obtain ⟨o0c, o1c, o2c, o3c, ofz⟩ := blk4 bo
        have hb1 : b0 < wr.heap.size := by omega
        have hb2 : ¬ b0 = wr.heap.size := by omega
        have hb3 : ¬ wr.heap.size = b0 := by omega
        have hg2 : ¬ (w.heap.size + 1 + 1) = wr.heap.size := by omega
        have hg3 : ¬ wr.heap.size = (w.heap.size + 1 + 1) := by omega
        have hbg : ¬ b0 = (w.heap.size + 1 + 1) := by omega
        clear hcon hr e1 e2 e3 bo row bel hok hok' hcell hx0 hX hs hqd hq htl br
        rcases r with _ | ⟨tk, tm, tb⟩
        all_goals
          go_wp2_with fail
          go_region_held3 (fun w' => w'.cell? ⟨(w.heap.size + 1 + 1), 0, none⟩ = some (.int .i64 (ms.length : Int)) ∧ w'.cell? ⟨(w.heap.size + 1 + 1), 1, none⟩ = some (.int .i64 k) ∧ w'.cell? ⟨(w.heap.size + 1 + 1), 2, none⟩ = some (.slice A2 ms.length c2) ∧ w'.cell? ⟨(w.heap.size + 1 + 1), 3, none⟩ = some (.bool b) ∧ w'.cell? ⟨b0, off + j, none⟩ = some (.int .i64 x)) (go_keep) ((go_at_call 35; refine (HCON.out _ ?_).mono ?_; (first | exact RDW.out | exact RDW.out.alloc _); rintro e w1 ⟨A3, c3, rfl, row3, b1⟩; (first | have bo1 := Blk.below (w := wr.drew) BO.out b1 BO.out.lt | have bo1 := Blk.below (w := (wr.alloc (.cells #[.int .i64 0, .int .i64 0, .slice none 0 0, .bool false] 25)).drew) (BO.out.alloc _) b1 (by have := BO.out.lt; simp <;> omega)); (first | have rowk := Row.below (w := wr.drew) ROW.out b1 | have rowk := Row.below (w := (wr.alloc (.cells #[.int .i64 0, .int .i64 0, .slice none 0 0, .bool false] 25)).drew) (ROW.out.alloc _) b1); (first | have br1 := Blk.below (w := wr.drew) BR.out b1 BR.out.lt | have br1 := Blk.below (w := (wr.alloc (.cells #[.int .i64 0, .int .i64 0, .slice none 0 0, .bool false] 25)).drew) (BR.out.alloc _) b1 (by have := BR.out.lt; simp <;> omega)); obtain ⟨k0, k1, k2, k3, kf⟩ := blk4 bo1; have k4 := (b1.cell (p := ⟨b0, off + j, none⟩) (by simp <;> omega)).trans (show _ = some (Value.int .i64 x) by go_keep); have hsz1 : wr.heap.size ≤ w1.heap.size := (by have := b1.size; simp at this; omega); (first | have bel1 : Below w.heap.size w w1 := BEL.out.drew.trans (b1.mono (by simp <;> omega)) | have bel1 : Below w.heap.size w w1 := (BEL.out.alloc (by omega) _).drew.trans (b1.mono (by simp <;> omega))); (first | (have zb := Blk.below (w := (wr.alloc (.cells #[.int .i64 0, .int .i64 0, .slice none 0 0, .bool false] 25)).drew) (Blk.new wr 25 #[.int .i64 0, .int .i64 0, .slice none 0 0, .bool false]) b1 (by simp); obtain ⟨z0, z1, z2, z3, zf⟩ := blk4 zb; have ZB := Lib.hid zb; clear zb) | skip)))
          all_goals
            have hsz2 : w.heap.size + 3 ≤ w1.heap.size := by omega
            have hw1 : ¬ (w.heap.size + 1 + 1) = w1.heap.size := by omega
            have hw2 : ¬ w1.heap.size = (w.heap.size + 1 + 1) := by omega
            have hw3 : (w.heap.size + 1 + 1) < w1.heap.size := by omega
            have row3' : Row w1 (w.heap.size + 3) 3 1 A3 _ c3 _ := row3.mono (by simp <;> omega)
            have ROW3 := Lib.hid row3'; have ROWK := Lib.hid rowk; have BO1 := Lib.hid bo1; have BEL1 := Lib.hid bel1
            have BR1 := Lib.hid br1; clear br1
            clear row3 row3' bo1 bel1 b1 rowk
            go_wp2_with fail
            refine (sToInt_c _ _).mono ?_
            rintro e w9 ⟨rfl, rfl⟩
            go_wp2_with fail
            go_roundw
            case rel =>
              refine ⟨j + 1, by omega, by go_num, ?_, ?_, ?_⟩
              · rw [HE2.out]
                unfold St.missed
                rw [← HR.out]
                simp
              · rw [HE1.out]
                unfold St.next
                rw [← HR.out]
                first
                  | (have _z := ZB; have _t := tk; exact ⟨A3, c3, blk_set4 (blk_far4 BO1.out (by omega)), row_set4 (row_set4 ROW3.out ZB.out (by decide)) (blk_far4 BO1.out (by omega)) (by decide), below_set4 (below_set4 BEL1.out (by omega)) (by omega)⟩)
                  | (have _z := ZB; exact ⟨A2, c2, blk_far4 BO1.out (by omega), row_set4 ROWK.out ZB.out (by decide), below_set4 BEL1.out (by omega)⟩)
                  | (have _t := tk; exact ⟨A3, c3, (blk_set4 BO1.out).alloc _, (row_set4 ROW3.out BO1.out (by decide)).alloc _, (below_set4 BEL1.out (by omega)).alloc (by simp <;> omega) _⟩)
                  | exact ⟨A2, c2, BO1.out.alloc _, ROWK.out.alloc _, BEL1.out.alloc (by omega) _⟩
              · first
                  | (have _z := ZB; have _t := tk; exact blk_far4 (blk_far4 BR1.out (by omega)) (by omega))
                  | (have _z := ZB; exact blk_far4 BR1.out (by omega))
                  | (have _t := tk; exact (blk_far4 BR1.out (by omega)).alloc _)
                  | exact BR1.out.alloc _
            case measure => simp [intOf]; omega
      · obtain rfl : j = n := by omega
        rw [List.take_of_length_le (by rw [HN.out]; exact Nat.le_refl _)] at *
        have hv : runV ks = runS ks ∧ missV ks = missed ks := by unfold runV missV; rw [if_pos (by rw [HN.out]; exact h16), if_pos (by rw [HN.out]; exact h16)]; exact ⟨rfl, rfl⟩
        have HV := Lib.hid hv
        obtain ⟨o0c, o1c, o2c, o3c, ofz⟩ := blk4 bo
        obtain ⟨r0c, r1c, r2c, r3c, rfz⟩ := blk4 br
        have hlt9 := br.lt
        have BEL := Lib.hid bel; have ROW := Lib.hid row; have BR := Lib.hid br
        obtain ⟨s, hs⟩ : ∃ s, s = runS ks := ⟨_, rfl⟩
        rw [← hs] at o0c o1c o2c o3c ROW HV
        obtain ⟨q, hqq⟩ : ∃ q, q = missed ks := ⟨_, rfl⟩
        rw [← hqq] at HV ⊢
        clear bo row hv bel br hs hqq
        go_wp2_with fail
        refine bodyPost_ret (v := .tuple #[.agg #[.int .i64 (s.marks.length : Int), .int .i64 s.work, .slice A2 s.marks.length c2, .bool s.broken], .int .i64 q]) (by simp [results, Try.results17, go_sem, o0c, o1c, o2c, o3c, ofz, r0c, r1c, r2c, r3c, rfz]) rfl ?_
        rw [HV.out.1, HV.out.2]
        exact ⟨A2, c2, rfl, (row_set4 ROW.out BR.out (by decide)).mono (by omega), below_set4 BEL.out (Nat.le_refl _)⟩
  · have hv : ¬ ks.length ≤ 16 := by rw [HN.out]; exact h16
    go_enter Try.func17, Try.ntmps17
    go_wp2_with fail
    have hv1 : runV ks = St.zero ∧ missV ks = -1 := by unfold runV missV; rw [if_neg hv, if_neg hv]; exact ⟨rfl, rfl⟩
    refine bodyPost_ret (v := .tuple #[.agg #[.int .i64 0, .int .i64 0, .slice none 0 0, .bool false], .int .i64 (-1)]) (by simp [results, Try.results17, go_sem]) rfl ?_
    rw [hv1.1, hv1.2]
    refine ⟨none, 0, rfl, Row.nil _ _ _ _ _, ?_⟩
    repeat (first | (with_reducible refine Below.setCell ?_ (by simp <;> omega) _) | (with_reducible refine Below.alloc ?_ (by simp <;> omega) _))
    exact Below.refl _ _
set_option maxRecDepth 100000 in
set_option maxHeartbeats 16000000 in
theorem sKeptWork_c (ks : List Int) (A : Option Addr) (n c : Nat) (w : World) (hN : ks.length = n) (hc0 : n ≤ c) (h : Rd w A (ks.map (.int .i64))) (hn : n ≤ 1073741824) :
    Calls Try.prog 27 #[.slice A n c] w (fun e w' => e = .returned (.int .i64 (keptV ks)) ∧ Below w.heap.size w w') := by
  have HN := Lib.hid hN; clear hN
  have H := Lib.hid h; clear h
  by_cases h16 : n ≤ 16
  · go_enter Try.func27, Try.ntmps27
    go_wp2_with fail
    have start : NestAt (runS (ks.take 0)) (w.heap.size + 1) (w.heap.size + 2) w ((w.alloc (.cells #[] 3)).alloc (.cells #[.int .i64 0, .int .i64 0, .slice (some ⟨w.heap.size, 0, none⟩) 0 0, .bool false] 25)) := by
      refine ⟨_, 0, Blk.new_at _ (by simp) _ _, Row.nil _ _ _ _ _, ?_⟩
      exact ((Below.refl _ _).alloc (Nat.le_refl _) _).alloc (by simp) _
    skip
    go_loopw [4, 5] (fun q i wr => ∃ j : Nat, j ≤ n ∧ i = .int .i64 j ∧ q = .int .i64 (kept (ks.take j)) ∧ NestAt (runS (ks.take j)) (w.heap.size + 1) (w.heap.size + 2) w wr) (fun _ i _ => n - (intOf i).toNat)
    case atStart => exact ⟨0, Nat.zero_le _, rfl, rfl, start⟩
    case round =>
      clear start
      skip
      obtain ⟨j, hj, rfl, rfl, ⟨A2, c2, bo, row, bel⟩⟩ := hrel
      by_cases hlt : j < n
      · have hjk : j < ks.length := by have := HN.out; omega
        obtain ⟨b0, off, hA, hcell⟩ := (H.out.block (by simp; omega))
        subst hA
        obtain ⟨hblt, hcell⟩ := hcell
        obtain ⟨x, hX⟩ : ∃ x, x = ks[j] := ⟨_, rfl⟩
        have hx0 : w.cell? ⟨b0, off + j, none⟩ = some (.int .i64 x) := hcell _ _ (by simp [hX, hjk])
        have hx : wr.cell? ⟨b0, off + j, none⟩ = some (.int .i64 x) := (bel.cell (by exact hblt)).trans hx0
        obtain ⟨e1, e2, e3⟩ := run_take_succ ks j hjk
        have hok := runS_ok (ks.take j)
        have hq := kept_bd (ks.take j)
        have htl : (ks.take j).length ≤ j := List.length_take_le _ _
        obtain ⟨q, hqd⟩ : ∃ q, q = kept (ks.take j) := ⟨_, rfl⟩
        obtain ⟨s, hs⟩ : ∃ s, s = runS (ks.take j) := ⟨_, rfl⟩
        rw [← hs, ← hX] at e1 e2 e3
        rw [← hs] at bo row hok
        rw [← hqd] at e3 hq ⊢
        obtain ⟨k, ms, b⟩ := s
        have hq0 : 0 ≤ q := hq.1
        have hq1 : q ≤ 16 := by omega
        obtain ⟨r, hr⟩ : ∃ r, r = St.step ⟨k, ms, b⟩ x := ⟨_, rfl⟩
        have hok' := hok
        rw [St.ok_iff] at hok'
        have hml : ms.length ≤ 4 := hok'.1
        have hk0 : 0 ≤ k := hok'.2.1.1
        have hk1 : k ≤ 12 := hok'.2.1.2
        have hcap := row.le
        have hcon : ∀ W, Rd W A2 (ms.map (.int .i64)) → Calls Try.prog 35 #[.agg #[.int .i64 (ms.length : Int), .int .i64 k, .slice A2 ms.length c2, .bool b], .int .i64 x] W (RetStep (r.getD St.zero) r.isSome W) := by
          intro W hW; rw [hr]; exact sstep_c k ms b x A2 ms.length c2 W rfl hcap hW hok
        have HCON := Lib.hid hcon; have HR := Lib.hid hr; have HE1 := Lib.hid e1; have HE2 := Lib.hid e2; have HE3 := Lib.hid e3
        have BO := Lib.hid bo; have ROW := Lib.hid row; have BEL := Lib.hid bel; have RDW := Lib.hid row.rd
        skip
        have hsz : w.heap.size + 2 ≤ wr.heap.size := by have := bo.lt; omega
        obtain ⟨o0c, o1c, o2c, o3c, ofz⟩ := blk4 bo
        have hb1 : b0 < wr.heap.size := by omega
        have hb2 : ¬ b0 = wr.heap.size := by omega
        have hb3 : ¬ wr.heap.size = b0 := by omega
        have hg2 : ¬ (w.heap.size + 1) = wr.heap.size := by omega
        have hg3 : ¬ wr.heap.size = (w.heap.size + 1) := by omega
        have hbg : ¬ b0 = (w.heap.size + 1) := by omega
        clear hcon hr e1 e2 e3 bo row bel hok hok' hcell hx0 hX hs hqd hq htl 
        have hkd : (x == 3) = true ∨ (x == 3) = false := by cases (x == 3) <;> simp
        have hcase : r = none ∨ (∃ tk tm tb, r = some (St.mk tk tm tb) ∧ ((tm.length : Int) == 0) = true) ∨ (∃ tk tm tb, r = some (St.mk tk tm tb) ∧ ((tm.length : Int) == 0) = false) := by
          rcases r with _ | ⟨tk, tm, tb⟩
          · exact .inl rfl
          · cases hh : ((tm.length : Int) == 0)
            · exact .inr (.inr ⟨tk, tm, tb, rfl, hh⟩)
            · exact .inr (.inl ⟨tk, tm, tb, rfl, hh⟩)
        rcases hcase with rfl | ⟨tk, tm, tb, rfl, ht0⟩ | ⟨tk, tm, tb, rfl, ht0⟩ <;> rcases hkd with hkd | hkd
        all_goals
          go_wp2_with fail
          go_region_held3 (fun w' => w'.cell? ⟨(w.heap.size + 1), 0, none⟩ = some (.int .i64 (ms.length : Int)) ∧ w'.cell? ⟨(w.heap.size + 1), 1, none⟩ = some (.int .i64 k) ∧ w'.cell? ⟨(w.heap.size + 1), 2, none⟩ = some (.slice A2 ms.length c2) ∧ w'.cell? ⟨(w.heap.size + 1), 3, none⟩ = some (.bool b) ∧ w'.cell? ⟨b0, off + j, none⟩ = some (.int .i64 x)) (go_keep) ((go_at_call 35; refine (HCON.out _ ?_).mono ?_; (first | exact RDW.out | exact RDW.out.alloc _); rintro e w1 ⟨A3, c3, rfl, row3, b1⟩; (first | have bo1 := Blk.below (w := wr.drew) BO.out b1 BO.out.lt | have bo1 := Blk.below (w := (wr.alloc (.cells #[.int .i64 0, .int .i64 0, .slice none 0 0, .bool false] 25)).drew) (BO.out.alloc _) b1 (by have := BO.out.lt; simp <;> omega)); (first | have rowk := Row.below (w := wr.drew) ROW.out b1 | have rowk := Row.below (w := (wr.alloc (.cells #[.int .i64 0, .int .i64 0, .slice none 0 0, .bool false] 25)).drew) (ROW.out.alloc _) b1);  obtain ⟨k0, k1, k2, k3, kf⟩ := blk4 bo1; have k4 := (b1.cell (p := ⟨b0, off + j, none⟩) (by simp <;> omega)).trans (show _ = some (Value.int .i64 x) by go_keep); have hsz1 : wr.heap.size ≤ w1.heap.size := (by have := b1.size; simp at this; omega); (first | have bel1 : Below w.heap.size w w1 := BEL.out.drew.trans (b1.mono (by simp <;> omega)) | have bel1 : Below w.heap.size w w1 := (BEL.out.alloc (by omega) _).drew.trans (b1.mono (by simp <;> omega))); (first | (have zb := Blk.below (w := (wr.alloc (.cells #[.int .i64 0, .int .i64 0, .slice none 0 0, .bool false] 25)).drew) (Blk.new wr 25 #[.int .i64 0, .int .i64 0, .slice none 0 0, .bool false]) b1 (by simp); obtain ⟨z0, z1, z2, z3, zf⟩ := blk4 zb; have ZB := Lib.hid zb; clear zb) | skip)))
          all_goals
            have hsz2 : w.heap.size + 2 ≤ w1.heap.size := by omega
            have hw1 : ¬ (w.heap.size + 1) = w1.heap.size := by omega
            have hw2 : ¬ w1.heap.size = (w.heap.size + 1) := by omega
            have hw3 : (w.heap.size + 1) < w1.heap.size := by omega
            have row3' : Row w1 (w.heap.size + 2) 3 1 A3 _ c3 _ := row3.mono (by simp <;> omega)
            have ROW3 := Lib.hid row3'; have ROWK := Lib.hid rowk; have BO1 := Lib.hid bo1; have BEL1 := Lib.hid bel1
            skip
            clear row3 row3' bo1 bel1 b1 rowk
            go_wp2_with fail
            go_roundw
            case rel =>
              refine ⟨j + 1, by omega, by go_num, ?_, ?_⟩
              · have h9 := HE3.out
                unfold St.keeps St.next at h9
                rw [← HR.out] at h9
                rw [h9]
                simp at hkd
                first
                  | (simp at ht0; simp [hkd, ht0]; done)
                  | (simp [hkd]; done)
              · rw [HE1.out]
                unfold St.next
                rw [← HR.out]
                first
                  | (have _z := ZB; have _t := tk; exact ⟨A3, c3, blk_set4 (blk_far4 BO1.out (by omega)), row_set4 (row_set4 ROW3.out ZB.out (by decide)) (blk_far4 BO1.out (by omega)) (by decide), below_set4 (below_set4 BEL1.out (by omega)) (by omega)⟩)
                  | (have _z := ZB; exact ⟨A2, c2, blk_far4 BO1.out (by omega), row_set4 ROWK.out ZB.out (by decide), below_set4 BEL1.out (by omega)⟩)
                  | (have _t := tk; exact ⟨A3, c3, (blk_set4 BO1.out).alloc _, (row_set4 ROW3.out BO1.out (by decide)).alloc _, (below_set4 BEL1.out (by omega)).alloc (by simp <;> omega) _⟩)
                  | exact ⟨A2, c2, BO1.out.alloc _, ROWK.out.alloc _, BEL1.out.alloc (by omega) _⟩
              skip
            case measure => simp [intOf]; omega
      · obtain rfl : j = n := by omega
        rw [List.take_of_length_le (by rw [HN.out]; exact Nat.le_refl _)] at *
        skip
        have hv : keptV ks = kept ks := by unfold keptV; rw [if_pos (by rw [HN.out]; exact h16)]
        have HV := Lib.hid hv
        have BEL := Lib.hid bel
        clear bo row hv bel
        go_wp2_with fail
        go_ret
        exact ⟨ret_int HV.out.symm, BEL.out⟩
  · have hv : ¬ ks.length ≤ 16 := by rw [HN.out]; exact h16
    go_enter Try.func27, Try.ntmps27
    go_wp2_with fail
    have hv : keptV ks = -1 := by unfold keptV; rw [if_neg hv]
    go_ret
    exact ⟨ret_int hv.symm, ((Below.refl _ _).alloc (Nat.le_refl _) _).alloc (by simp) _⟩
end Go.Proofs.Ytagmhmhhjkfhgaa
