/- Contracts of the functions on checks: runs, goodness, paths; each says what the call returns, for every list of at most 2^40 results. -/
import Derived.Test.YtfmkpcoacghonaaProg
import Derived.Test.YtfmkpcoacghonaaBase
import Derived.Test.YtfmkpcoacghonaaPlainA
set_option linter.unusedVariables false
set_option linter.unusedSimpArgs false
namespace Go.Proofs.Ytfmkpcoacghonaa
open Go.RowKit

set_option maxHeartbeats 1000000 in
theorem lastRun_c (bs : List Bool) (A : Option Addr) (n c : Nat) (w : World) (hN : bs.length = n) (h : Rd w A (bs.map .bool)) (hn : n ≤ 1099511627776) :
    Calls Try.prog 17 #[.slice A n c] w fun e w' => e = .returned (.int .i64 (lastRun bs)) ∧ ∃ m, w' = w.drewN m := by
  have HN := Lib.hid hN; clear hN
  have H := Lib.hid h; clear h
  by_cases h12 : 12 < n
  · go_enter Try.func17, Try.ntmps17
    go_wp2
    go_ret
    refine ⟨ret_int ?_, 0, rfl⟩
    unfold lastRun
    rw [HN.out, if_pos h12]
  · go_enter Try.func17, Try.ntmps17
    go_wp2
    go_loopw [3] (fun i wr => ∃ k m : Nat, k ≤ n ∧ i = .int .i64 k ∧ wr = w.drewN m ∧ ∀ j, j < k → bs[n - 1 - j]? = bs[n - 1]?) (fun i _ => n - (intOf i).toNat)
    case atStart => exact ⟨0, 0, Nat.zero_le _, rfl, rfl, fun j hj => absurd hj (by omega)⟩
    case round =>
      obtain ⟨k, m, hk, rfl, rfl, hs⟩ := hrel
      have HS := Lib.hid hs; clear hs
      by_cases hlt : k < n
      · obtain ⟨b, off, hA, hc⟩ := H.out (by simp [HN.out]; omega)
        subst hA
        have hx : w.cell? ⟨b, off + (n - 1 - k), none⟩ = some (.bool (bs.getD (n - 1 - k) false)) := hc _ _ (by
          have : n - 1 - k < bs.length := by have := HN.out; omega
          simp [List.getElem?_eq_getElem this])
        have hy : w.cell? ⟨b, off + (n - 1), none⟩ = some (.bool (bs.getD (n - 1) false)) := hc _ _ (by
          have : n - 1 < bs.length := by have := HN.out; omega
          simp [List.getElem?_eq_getElem this])
        have HC := Lib.hid hc; clear hc
        obtain ⟨x, hX⟩ : ∃ x, x = bs.getD (n - 1 - k) false := ⟨_, rfl⟩
        obtain ⟨y, hY⟩ : ∃ y, y = bs.getD (n - 1) false := ⟨_, rfl⟩
        rw [← hX] at hx
        rw [← hY] at hy
        have HX := Lib.hid hX; clear hX
        have HY := Lib.hid hY; clear hY
        by_cases hxy : x = y
        · subst hxy
          go_wp2
          go_quiet (fail)
          go_wp2
          go_roundw
          case rel =>
            refine ⟨k + 1, m + nq, by omega, by go_num, rfl, fun j hj => ?_⟩
            rcases Nat.lt_or_ge j k with hj' | hj'
            · exact HS.out j hj'
            · obtain rfl : j = k := by omega
              have h1 := HX.out
              have h2 := HY.out
              have hl := HN.out
              rw [List.getElem?_eq_getElem (by omega), List.getElem?_eq_getElem (by omega)]
              rw [getD_of _ _ _ (by omega)] at h1 h2
              rw [← h1, ← h2]
          case measure => simp [intOf]; omega
        · have hxy' : (x == y) = false := by simpa using hxy
          clear hxy
          go_wp2
          go_quiet (fail)
          go_wp2
          go_ret
          refine ⟨ret_int ?_, m + nq, World.drewN_drewN _ _ _⟩
          have h1 := HX.out
          have h2 := HY.out
          have hl := HN.out
          subst hl
          unfold lastRun
          rw [if_neg (by omega)]
          congr 1
          refine (lrun_eq bs k hk HS.out fun _ => ?_).symm
          rw [List.getElem?_eq_getElem (by omega), List.getElem?_eq_getElem (by omega)]
          rw [getD_of _ _ _ (by omega)] at h1 h2
          rw [← h1, ← h2]
          simpa using hxy'
      · obtain rfl : k = n := by omega
        go_wp2
        go_quiet (fail)
        go_wp2
        go_ret
        refine ⟨ret_int ?_, m + nq, World.drewN_drewN _ _ _⟩
        have hl := HN.out
        subst hl
        unfold lastRun
        rw [if_neg (by omega)]
        congr 1
        exact (lrun_eq bs bs.length (Nat.le_refl _) HS.out (fun h => absurd h (Nat.lt_irrefl _))).symm

set_option maxHeartbeats 1000000 in
theorem run_c (bs : List Bool) (A : Option Addr) (n c : Nat) (w : World) (hN : bs.length = n) (h : Rd w A (bs.map .bool)) (hn : n ≤ 1099511627776) :
    Calls Try.prog 31 #[.slice A n c] w fun e w' => e = .returned (.int .i64 ((lrun bs : Nat))) ∧ ∃ m, w' = w.drewN m := by
  have HN := Lib.hid hN; clear hN
  have H := Lib.hid h; clear h
  go_enter Try.func31, Try.ntmps31
  go_wp2
  go_loopw [3] (fun i wr => ∃ k m : Nat, k ≤ n ∧ i = .int .i64 k ∧ wr = w.drewN m ∧ ∀ j, j < k → bs[n - 1 - j]? = bs[n - 1]?) (fun i _ => n - (intOf i).toNat)
  case atStart => exact ⟨0, 0, Nat.zero_le _, rfl, rfl, fun j hj => absurd hj (by omega)⟩
  case round =>
    obtain ⟨k, m, hk, rfl, rfl, hs⟩ := hrel
    have HS := Lib.hid hs; clear hs
    by_cases hlt : k < n
    · obtain ⟨b, off, hA, hc⟩ := H.out (by simp [HN.out]; omega)
      subst hA
      have hx : w.cell? ⟨b, off + (n - 1 - k), none⟩ = some (.bool (bs.getD (n - 1 - k) false)) := hc _ _ (by
        have : n - 1 - k < bs.length := by have := HN.out; omega
        simp [List.getElem?_eq_getElem this])
      have hy : w.cell? ⟨b, off + (n - 1), none⟩ = some (.bool (bs.getD (n - 1) false)) := hc _ _ (by
        have : n - 1 < bs.length := by have := HN.out; omega
        simp [List.getElem?_eq_getElem this])
      have HC := Lib.hid hc; clear hc
      obtain ⟨x, hX⟩ : ∃ x, x = bs.getD (n - 1 - k) false := ⟨_, rfl⟩
      obtain ⟨y, hY⟩ : ∃ y, y = bs.getD (n - 1) false := ⟨_, rfl⟩
      rw [← hX] at hx
      rw [← hY] at hy
      have HX := Lib.hid hX; clear hX
      have HY := Lib.hid hY; clear hY
      by_cases hxy : x = y
      · subst hxy
        go_wp2
        go_quiet (fail)
        go_wp2
        go_roundw
        case rel =>
          refine ⟨k + 1, m + nq, by omega, by go_num, rfl, fun j hj => ?_⟩
          rcases Nat.lt_or_ge j k with hj' | hj'
          · exact HS.out j hj'
          · obtain rfl : j = k := by omega
            have h1 := HX.out
            have h2 := HY.out
            have hl := HN.out
            rw [List.getElem?_eq_getElem (by omega), List.getElem?_eq_getElem (by omega)]
            rw [getD_of _ _ _ (by omega)] at h1 h2
            rw [← h1, ← h2]
        case measure => simp [intOf]; omega
      · have hxy' : (x == y) = false := by simpa using hxy
        clear hxy
        go_wp2
        go_quiet (fail)
        go_wp2
        go_ret
        refine ⟨ret_int ?_, m + nq, World.drewN_drewN _ _ _⟩
        have h1 := HX.out
        have h2 := HY.out
        have hl := HN.out
        subst hl
        congr 1
        refine (lrun_eq bs k hk HS.out fun _ => ?_).symm
        rw [List.getElem?_eq_getElem (by omega), List.getElem?_eq_getElem (by omega)]
        rw [getD_of _ _ _ (by omega)] at h1 h2
        rw [← h1, ← h2]
        simpa using hxy'
    · obtain rfl : k = n := by omega
      go_wp2
      go_quiet (fail)
      go_wp2
      go_ret
      refine ⟨ret_int ?_, m + nq, World.drewN_drewN _ _ _⟩
      have hl := HN.out
      subst hl
      congr 1
      exact (lrun_eq bs bs.length (Nat.le_refl _) HS.out (fun h => absurd h (Nat.lt_irrefl _))).symm

set_option maxHeartbeats 400000 in
theorem sLastRun_c (bs : List Bool) (A : Option Addr) (n c : Nat) (w : World) (hN : bs.length = n) (h : Rd w A (bs.map .bool)) (hn : n ≤ 1099511627776) :
    Calls Try.prog 15 #[.slice A n c] w fun e w' => e = .returned (.int .i64 (lastRun bs)) ∧ ∃ m, w' = w.drewN m := by
  have HN := Lib.hid hN; clear hN
  have H := Lib.hid h; clear h
  by_cases h12 : 12 < n
  · go_enter Try.func15, Try.ntmps15
    go_wp2
    go_ret
    refine ⟨ret_int ?_, 0, rfl⟩
    unfold lastRun
    rw [HN.out, if_pos h12]
  · go_enter Try.func15, Try.ntmps15
    go_wp2_with (go_at_call 31; refine (run_c bs _ _ _ _ HN.out H.out hn).mono ?_; rintro e w' ⟨rfl, m, rfl⟩)
    go_ret
    refine ⟨ret_int ?_, m, rfl⟩
    unfold lastRun
    rw [HN.out, if_neg h12]

set_option maxHeartbeats 400000 in
theorem inRange_c (a lo hi : Int) (w : World) :
    Calls Try.prog 40 #[.int .i64 a, .int .i64 lo, .int .i64 hi] w fun e w' => e = .returned (.bool (decide (lo ≤ a ∧ a ≤ hi))) ∧ w = w' := by
  by_cases h1 : lo ≤ a
  · go_enter Try.func40, Try.ntmps40
    go_wp2
    go_ret
    exact ⟨ret_bool (by simp [h1]), rfl⟩
  · have h1' : decide (lo ≤ a) = false := by simpa using h1
    go_enter Try.func40, Try.ntmps40
    go_wp2
    go_ret
    exact ⟨ret_bool (by simp [h1]), rfl⟩

set_option maxHeartbeats 400000 in
theorem in_c (a lo hi : Int) (w : World) :
    Calls Try.prog 41 #[.int .i64 a, .int .i64 lo, .int .i64 hi] w fun e w' => e = .returned (.bool (decide (lo ≤ a ∧ a ≤ hi))) ∧ w = w' := by
  by_cases h1 : lo ≤ a
  · go_enter Try.func41, Try.ntmps41
    go_wp2
    go_ret
    exact ⟨ret_bool (by simp [h1]), rfl⟩
  · have h1' : decide (lo ≤ a) = false := by simpa using h1
    go_enter Try.func41, Try.ntmps41
    go_wp2
    go_ret
    exact ⟨ret_bool (by simp [h1]), rfl⟩

theorem toInt_c (b : Bool) (w : World) :
    Calls Try.prog 38 #[.bool b] w fun e w' => e = .returned (.int .i64 (bit b)) ∧ w = w' := by
  cases b
  all_goals
    go_enter Try.func38, Try.ntmps38
    go_wp2
    go_ret
    exact ⟨ret_int rfl, rfl⟩

set_option maxHeartbeats 1000000 in
theorem goodAfter_c (bs : List Bool) (f g : Int) (A : Option Addr) (n c : Nat) (w : World) (hN : bs.length = n) (hc : n ≤ c) (h : Rd w A (bs.map .bool)) (hn : n ≤ 1099511627776) :
    Calls Try.prog 35 #[.slice A n c, .int .i64 f, .int .i64 g] w fun e w' => e = .returned (.bool (good f g bs)) ∧ ∃ m, w' = w.drewN m := by
  have HN := Lib.hid hN; clear hN
  have H := Lib.hid h; clear h
  go_enter Try.func35, Try.ntmps35
  go_wp2_with fail
  go_loopw [7, 8] (fun gd i wr => ∃ k m : Nat, k ≤ n ∧ i = .int .i64 k ∧ wr = w.drewN m ∧ gd = .bool (good f g (bs.take k))) (fun _ i _ => n - (intOf i).toNat)
  case atStart => exact ⟨0, 0, Nat.zero_le _, rfl, rfl, rfl⟩
  case round =>
    obtain ⟨k, m, hk, rfl, rfl, rfl⟩ := hrel
    by_cases hlt : k < n
    · have hkb : k < bs.length := by have := HN.out; omega
      obtain ⟨b, off, hA, hcell⟩ := H.out (by simp; omega)
      subst hA
      obtain ⟨x, hX⟩ : ∃ x, x = bs[k] := ⟨_, rfl⟩
      have hx : w.cell? ⟨b, off + k, none⟩ = some (.bool x) := hcell _ _ (by simp [hX])
      have HC := Lib.hid hcell; clear hcell
      have HT := Lib.hid (take_snocB bs k hkb)
      rw [← hX] at HT
      have HX := Lib.hid hX; clear hX
      obtain ⟨gd, hG⟩ : ∃ gd, gd = good f g (bs.take k) := ⟨_, rfl⟩
      rw [← hG]
      obtain ⟨r, hR⟩ : ∃ r, r = lrun (bs.take (k + 1)) := ⟨_, rfl⟩
      have hstep := good_snoc f g (bs.take k) x
      rw [← HT.out, ← hR, ← hG] at hstep
      have HST := Lib.hid hstep; clear hstep
      have HG := Lib.hid hG; clear hG
      have HR := Lib.hid hR; clear hR
      have HL : Hid ((bs.take (k + 1)).length = k + 1) := by show _ = _; simp; omega
      by_cases hf : f ≤ (r : Int) <;> by_cases hg : g ≤ (r : Int) <;> cases x <;> cases gd
      all_goals
        first | have hf' : decide (f ≤ (r : Int)) = true := by simpa using hf
              | have hf' : decide (f ≤ (r : Int)) = false := by simpa using hf
        first | have hg' : decide (g ≤ (r : Int)) = true := by simpa using hg
              | have hg' : decide (g ≤ (r : Int)) = false := by simpa using hg
        go_wp2_with fail
        refine (run_c (bs.take (k + 1)) _ _ _ _ HL.out (by
          have := H.out.take (k + 1)
          rw [← List.map_take] at this
          exact this.drewN m) (by omega)).mono ?_
        rw [← HR.out]
        rintro e w' ⟨rfl, m', rfl⟩
        go_wp2
        go_roundw
        case rel => exact ⟨k + 1, m + m', by omega, by go_num, by simp, by rw [HST.out]; simp [hf, hg]⟩
        case measure => simp [intOf]; omega
    · obtain rfl : k = n := by omega
      go_wp2
      go_ret
      refine ⟨ret_bool ?_, m, rfl⟩
      rw [List.take_of_length_le (by rw [HN.out]; omega)]
end Go.Proofs.Ytfmkpcoacghonaa
