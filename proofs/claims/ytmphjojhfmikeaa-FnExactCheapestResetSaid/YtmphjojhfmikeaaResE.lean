/- The cheapest plan, by the program. -/
import Derived.Test.YtmphjojhfmikeaaResD
set_option linter.unusedVariables false
set_option linter.unusedSimpArgs false
set_option linter.unnecessarySimpa false
namespace Go.Proofs.Ytmphjojhfmikeaa
open Go.RowKit

set_option maxRecDepth 100000 in
set_option maxHeartbeats 4000000 in
theorem cheapest_c (es : List El) (ys : List Pr) (A B : Option Addr) (n c m d : Nat) (w : World) (hN : es.length = n) (hM : ys.length = m) (h : RdN w A es) (h' : Rd w B (sc ys)) (hn : n ≤ 1073741824) (hm : m ≤ 1073741824) (hes : ∀ e ∈ es, e.2.2.length ≤ 1073741824) :
    Calls Try.prog 9 #[.slice A n c, .slice B m d] w fun e w' => e = .returned (.int .i64 (chV (es.map (·.2.2)) ys)) ∧ Below w.heap.size w w' := by
  obtain ⟨r, hr⟩ : ∃ r, r = chV (es.map (·.2.2)) ys := ⟨_, rfl⟩
  rw [← hr]
  obtain ⟨L, hL⟩ : ∃ L, L = es.map (·.2.2) := ⟨_, rfl⟩
  rw [← hL] at hr
  have hLn : L.length = n := by rw [hL, List.length_map, hN]
  have HR := Lib.hid hr; have HL := Lib.hid hL; have HLN := Lib.hid hLn; have HN := Lib.hid hN; have HM := Lib.hid hM; have HES := Lib.hid hes
  have H := Lib.hid h; have H' := Lib.hid h'
  clear hr hL hLn hN hM hes h h'
  by_cases h6 : n ≤ 6
  · have hd6 : decide ((6 : Int) < (n : Int)) = false := decide_eq_false (by omega)
    have hd6' : decide (6 < n) = false := decide_eq_false (by omega)
    obtain ⟨v, hv⟩ : ∃ v, v = validS (-1) ys := ⟨_, rfl⟩
    have hvy : Calls Try.prog 15 #[.slice B m d] w fun e w' => e = .returned (.bool v) ∧ Below w.heap.size w w' := (validSets_c ys B m d w HM.out H'.out (by omega)).mono fun e w' ⟨he, hw⟩ => ⟨by rw [he, hv], hw⟩
    have VY := Lib.hid hvy; have HV := Lib.hid hv
    clear hvy hv
    cases v
    · have hr1 : r = -1 := by rw [HR.out]; unfold chV; rw [if_neg]; rintro ⟨_, h2, _⟩; rw [← HV.out] at h2; cases h2
      subst hr1
      go_enter Try.func9, Try.ntmps9
      go_wp2_with fail
      refine VY.out.mono ?_
      rintro e w1 ⟨rfl, b1⟩
      go_wp2_with fail
      go_ret
      exact ⟨rfl, b1⟩
    · have hm10 : m ≤ 10 := by rw [← HM.out]; exact validS_len ys HV.out.symm
      have hrr : r = if allV L = true then (stF ys L).2.1 else -1 := by
        rw [HR.out]; unfold chV
        by_cases ha : allV L = true
        · rw [if_pos ⟨by rw [HLN.out]; exact h6, HV.out.symm, ha⟩, if_pos ha]
        · rw [if_neg (fun e => ha e.2.2), if_neg ha]
      have HRR := Lib.hid hrr
      clear hrr
      go_enter Try.func9, Try.ntmps9
      go_wp2_with fail
      refine VY.out.mono ?_
      rintro e w1 ⟨rfl, b1⟩
      have B1 := Lib.hid b1
      clear b1
      go_wp2_with fail
      go_loopw [5, 6, 20] (fun b l i wr => ∃ j : Nat, j ≤ n ∧ i = .int .i64 j ∧ b = .int .i64 (stF ys (L.take j)).2.1 ∧ l = .int .i64 (if (stF ys (L.take j)).2.1 < 0 then 0 else (stF ys (L.take j)).2.2) ∧ allV (L.take j) = true ∧ Below w.heap.size w wr) (fun _ _ i _ => n - (intOf i).toNat)
      case atStart => exact ⟨0, Nat.zero_le _, rfl, rfl, rfl, rfl, B1.out⟩
      case round =>
        clear B1
        obtain ⟨j, hj, rfl, rfl, rfl, hall, hb⟩ := hrel
        have HALL := Lib.hid hall; have HB := Lib.hid hb
        obtain ⟨i1, i2⟩ := stF_inv ys _ (L.take j) rfl
        have hLj : (L.take j).length = j := by rw [List.length_take, HLN.out]; omega
        rw [hLj] at i1 i2
        obtain ⟨st, hst⟩ : ∃ st, st = stF ys (L.take j) := ⟨_, rfl⟩
        rw [← hst] at i1 i2
        rw [← hst]
        obtain ⟨s1, s2, s3⟩ := st
        simp only at i1 i2
        simp only
        have hs2 : -1 ≤ s2 ∧ s2 ≤ 6 := by omega
        have hs3 : 0 ≤ s3 ∧ s3 ≤ 11 := by omega
        obtain ⟨hs20, hs21⟩ := hs2
        obtain ⟨hs30, hs31⟩ := hs3
        have HST := Lib.hid hst; have HI1 := Lib.hid i1
        have HI2 := Lib.hid (show (s2 = -1 ∧ s3 = 11) ∨ (0 ≤ s2 ∧ 0 ≤ s3) by omega)
        obtain ⟨f, hf⟩ : ∃ f, f = (if s2 < 0 then (0 : Int) else s3) := ⟨_, rfl⟩
        rw [← hf]
        have HF0 := Lib.hid hf
        clear hall hst i1 i2 hLj hf
        by_cases hlt : j < n
        · have hjx : j < es.length := by have := HN.out; omega
          have hjL : j < L.length := by have := HLN.out; omega
          obtain ⟨b, off, hA, hbl, hc⟩ := (H.out.below hb).at_ (by omega)
          subst hA
          obtain ⟨x, hX⟩ : ∃ x, x = es[j] := ⟨_, rfl⟩
          have hcx := hc j hjx
          rw [← hX] at hcx
          have hxl : x.2.2.length ≤ 1073741824 := by rw [hX]; exact HES.out _ (List.getElem_mem hjx)
          have hrx : Rd wr x.1 (sc x.2.2) := by rw [hX]; exact (H.out.below hb).2 _ (List.getElem_mem hjx)
          have hLx : L[j] = x.2.2 := by
            have e : ∀ (M : List (List Pr)) (h : j < M.length), M = es.map (·.2.2) → M[j] = x.2.2 := fun M h e => by subst e; rw [List.getElem_map, hX]
            exact e L hjL HL.out
          have htk : L.take (j + 1) = L.take j ++ [x.2.2] := by rw [take_snoc L j hjL, hLx]
          obtain ⟨u, hu⟩ : ∃ u, u = validS (-1) x.2.2 := ⟨_, rfl⟩
          have hvx : Calls Try.prog 15 #[.slice x.1 x.2.2.length x.2.1] wr fun e w' => e = .returned (.bool u) ∧ Below wr.heap.size wr w' := (validSets_c x.2.2 x.1 _ x.2.1 wr rfl hrx hxl).mono fun e w' ⟨he, hw⟩ => ⟨by rw [he, hu], hw⟩
          have VX := Lib.hid hvx; have HU := Lib.hid hu; have HTK := Lib.hid htk; have HRX := Lib.hid hrx
          obtain ⟨p, hp⟩ : ∃ p, p = x.2.2.length := ⟨_, rfl⟩
          rw [← hp] at hcx VX
          have HP := Lib.hid hp
          clear hc hX hvx hu htk hrx hLx hp hxl
          cases u
          · have hr1 : r = -1 := by
              rw [HRR.out, if_neg]
              rw [allV_false L (j + 1) (by rw [HTK.out, allV_snoc, ← HU.out]; simp)]
              simp
            subst hr1
            clear hb
            go_wp2_with fail
            refine VX.out.mono ?_
            rintro e w2 ⟨rfl, b2⟩
            go_wp2_with fail
            go_ret
            exact ⟨rfl, HB.out.trans (b2.mono HB.out.size)⟩
          · have hp10 : p ≤ 10 := by rw [HP.out]; exact validS_len _ HU.out.symm
            have hpl : ∀ W, Below wr.heap.size wr W → Calls Try.prog 16 #[.slice x.1 p x.2.1, .slice B m d] W (RetPlan (planN x.2.2 ys) W) := fun W hW => plan_c x.2.2 ys x.1 B p x.2.1 m d W HP.out.symm HM.out (HRX.out.below hW) ((H'.out.below hb).below hW) HU.out.symm HV.out.symm hp10 hm10
            obtain ⟨k, hk⟩ : ∃ k, k = planN x.2.2 ys := ⟨_, rfl⟩
            rw [← hk] at hpl
            have hk10 : k ≤ 10 := by rw [hk]; exact cntD_le _ _ 10
            have PL := Lib.hid hpl
            have hnx : stF ys (L.take (j + 1)) = if (k : Int) < s3 then (s1 + 1, s1, (k : Int)) else (s1 + 1, s2, s3) := by
              rw [HTK.out, stF_snoc, ← HST.out]; unfold stp; rw [← hk]
            have hal : allV (L.take (j + 1)) = true := by rw [HTK.out, allV_snoc, HALL.out, ← HU.out]; rfl
            have HNX := Lib.hid hnx; have HAL := Lib.hid hal
            clear hpl hk hnx hal hb
            go_wp2_with fail
            refine VX.out.mono ?_
            rintro e w2 ⟨rfl, b2⟩
            have B2 := Lib.hid (HB.out.trans (b2.mono HB.out.size))
            have PL2 := Lib.hid (PL.out w2 b2)
            clear b2
            go_wp2_with fail
            refine PL2.out.mono ?_
            rintro e w3 ⟨A3, c3, rfl, b3⟩
            have B3 := Lib.hid (B2.out.trans (b3.mono B2.out.size))
            clear b3
            rcases HI2.out with ⟨e2, e3⟩ | ⟨h20, h30⟩
            · subst e2 e3
              have hk3 : (k : Int) < 11 := by omega
              have hnx2 : stF ys (L.take (j + 1)) = (s1 + 1, s1, (k : Int)) := by rw [HNX.out, if_pos hk3]
              have HN2 := Lib.hid hnx2
              have hif : (if s1 < 0 then 0 else (k : Int)) = k := by rw [HI1.out, if_neg (by omega)]
              have HIF := Lib.hid hif
              clear hnx2 hif hk3
              go_wp2_with fail
              go_roundw
              case rel => exact ⟨j + 1, by omega, by go_num, by rw [HN2.out]; simp only; rw [HI1.out], by rw [HN2.out]; simp only; rw [HIF.out], HAL.out, B3.out⟩
              case measure => simp [intOf]; omega
            · have hb20 : decide (s2 < 0) = false := decide_eq_false (by omega)
              obtain rfl : f = s3 := by rw [HF0.out, if_neg (by omega)]
              have hif0 : (if s2 < 0 then 0 else f) = f := by rw [if_neg (by omega)]
              by_cases hlt3 : (k : Int) < f
              · have hd3 : decide ((k : Int) < f) = true := decide_eq_true hlt3
                have hnx2 : stF ys (L.take (j + 1)) = (s1 + 1, s1, (k : Int)) := by rw [HNX.out, if_pos hlt3]
                have HN2 := Lib.hid hnx2
                have hif : (if s1 < 0 then 0 else (k : Int)) = k := by rw [HI1.out, if_neg (by omega)]
                have HIF := Lib.hid hif
                clear hnx2 hif hlt3 hif0
                go_wp2_with fail
                go_roundw
                case rel => exact ⟨j + 1, by omega, by go_num, by rw [HN2.out]; simp only; rw [HI1.out], by rw [HN2.out]; simp only; rw [HIF.out], HAL.out, B3.out⟩
                case measure => simp [intOf]; omega
              · have hd3 : decide ((k : Int) < f) = false := decide_eq_false hlt3
                have hnx2 : stF ys (L.take (j + 1)) = (s1 + 1, s2, f) := by rw [HNX.out, if_neg hlt3]
                have HN2 := Lib.hid hnx2
                have HIF := Lib.hid hif0
                clear hnx2 hif0 hlt3
                go_wp2_with fail
                go_roundw
                case rel => exact ⟨j + 1, by omega, by go_num, by rw [HN2.out], by rw [HN2.out]; simp only; rw [HIF.out], HAL.out, B3.out⟩
                case measure => simp [intOf]; omega
        · obtain rfl : j = n := by omega
          have hfull : L.take j = L := List.take_of_length_le (by rw [HLN.out]; exact Nat.le_refl _)
          have hr1 : r = s2 := by
            have ha := HALL.out
            have hs := HST.out
            rw [hfull] at ha hs
            rw [HRR.out, if_pos ha, ← hs]
          have HR1 := Lib.hid hr1
          clear hfull hr1 hb
          go_wp2_with fail
          go_ret
          rw [HR1.out]
          exact ⟨rfl, HB.out⟩
  · have hd6 : decide ((6 : Int) < (n : Int)) = true := decide_eq_true (by omega)
    have hd6' : decide (6 < n) = true := decide_eq_true (by omega)
    have hr1 : r = -1 := by rw [HR.out]; unfold chV; rw [if_neg]; rintro ⟨h1, _⟩; rw [HLN.out] at h1; exact h6 h1
    subst hr1
    go_enter Try.func9, Try.ntmps9
    go_wp2_with fail
    go_ret
    exact ⟨rfl, Below.refl _ _⟩
end Go.Proofs.Ytmphjojhfmikeaa
