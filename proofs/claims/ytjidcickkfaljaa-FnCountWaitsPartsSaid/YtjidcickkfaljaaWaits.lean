/- Contracts of the functions on waits: sums, tops, bins, valid counts. -/
import Derived.Test.YtjidcickkfaljaaAllIn
import Derived.Test.YtjidcickkfaljaaShelf
import Derived.IntWalk
set_option linter.unusedVariables false
set_option linter.unusedSimpArgs false
set_option linter.unnecessarySimpa false
namespace Go.Proofs.Ytjidcickkfaljaa
open Go.RowKit

set_option maxHeartbeats 1000000 in
theorem sum_c (zs : List Int) (A : Option Addr) (n c : Nat) (w : World) (hN : zs.length = n) (h : Rd w A (zs.map (.int .i64))) (hn : n ≤ 1000000) (hz : ∀ z ∈ zs, 0 ≤ z ∧ z ≤ 1000000) :
    Calls Try.prog 35 #[.slice A n c] w fun e w' => e = .returned (.int .i64 (sumL zs)) ∧ w = w' := by
  have HN := Lib.hid hN; clear hN
  have H := Lib.hid h; clear h
  have HZ := Lib.hid hz; clear hz
  go_enter Try.func35, Try.ntmps35
  go_wp2_with fail
  go_loop [3, 8] (fun s i => ∃ j : Nat, j ≤ n ∧ i = .int .i64 j ∧ s = .int .i64 (sumL (zs.take j))) (fun _ i => n - (intOf i).toNat)
  case atStart => exact ⟨0, Nat.zero_le _, rfl, rfl⟩
  case round =>
    obtain ⟨j, hj, rfl, rfl⟩ := hrel
    by_cases hlt : j < n
    · have hjz : j < zs.length := by have := HN.out; omega
      obtain ⟨b, off, hA, hc⟩ := H.out (by simp; omega)
      subst hA
      obtain ⟨x, hX⟩ : ∃ x, x = zs[j] := ⟨_, rfl⟩
      have hx : w.cell? ⟨b, off + j, none⟩ = some (.int .i64 x) := hc j _ (by simp [hX, hjz])
      have hxb := HZ.out x (by rw [hX]; exact List.getElem_mem hjz)
      have hs := sumL_bd 0 1000000 (zs.take j) (fun y hy => HZ.out y (List.mem_of_mem_take hy))
      have hl : (zs.take j).length ≤ j := by simp; omega
      have ht := sumL_take_succ zs j hjz
      rw [← hX] at ht
      have HT := Lib.hid ht; clear ht
      have HX := Lib.hid hX; clear hX
      obtain ⟨S, hS⟩ : ∃ S, S = sumL (zs.take j) := ⟨_, rfl⟩
      rw [← hS] at hs ⊢
      have HS := Lib.hid hS; clear hS
      have hs1 : 0 ≤ S := by omega
      have hs2 : S ≤ 1000000000000 := by omega
      clear hc hs hl
      go_wp2_with fail
      go_round
      case rel => exact ⟨j + 1, by omega, by go_num, by rw [HT.out, ← HS.out]⟩
      case measure => simp [intOf]; omega
    · obtain rfl : j = n := by omega
      go_wp2_with fail
      go_ret
      refine ⟨ret_int ?_, rfl⟩
      rw [List.take_of_length_le (by rw [HN.out]; omega)]
set_option maxHeartbeats 1000000 in
theorem total_c (zs : List Int) (A : Option Addr) (n c : Nat) (w : World) (hN : zs.length = n) (h : Rd w A (zs.map (.int .i64))) (hn : n ≤ 1000000) (hz : ∀ z ∈ zs, 0 ≤ z ∧ z ≤ 1000000) :
    Calls Try.prog 32 #[.slice A n c] w fun e w' => e = .returned (.int .i64 (sumL zs)) ∧ w = w' := by
  have HN := Lib.hid hN; clear hN
  have H := Lib.hid h; clear h
  have HZ := Lib.hid hz; clear hz
  go_enter Try.func32, Try.ntmps32
  go_wp2_with fail
  go_loop [3, 4] (fun s i => ∃ j : Nat, j ≤ n ∧ i = .int .i64 j ∧ s = .int .i64 (sumL (zs.take j))) (fun _ i => n - (intOf i).toNat)
  case atStart => exact ⟨0, Nat.zero_le _, rfl, rfl⟩
  case round =>
    obtain ⟨j, hj, rfl, rfl⟩ := hrel
    by_cases hlt : j < n
    · have hjz : j < zs.length := by have := HN.out; omega
      obtain ⟨b, off, hA, hc⟩ := H.out (by simp; omega)
      subst hA
      obtain ⟨x, hX⟩ : ∃ x, x = zs[j] := ⟨_, rfl⟩
      have hx : w.cell? ⟨b, off + j, none⟩ = some (.int .i64 x) := hc j _ (by simp [hX, hjz])
      have hxb := HZ.out x (by rw [hX]; exact List.getElem_mem hjz)
      have hs := sumL_bd 0 1000000 (zs.take j) (fun y hy => HZ.out y (List.mem_of_mem_take hy))
      have hl : (zs.take j).length ≤ j := by simp; omega
      have ht := sumL_take_succ zs j hjz
      rw [← hX] at ht
      have HT := Lib.hid ht; clear ht
      have HX := Lib.hid hX; clear hX
      obtain ⟨S, hS⟩ : ∃ S, S = sumL (zs.take j) := ⟨_, rfl⟩
      rw [← hS] at hs ⊢
      have HS := Lib.hid hS; clear hS
      have hs1 : 0 ≤ S := by omega
      have hs2 : S ≤ 1000000000000 := by omega
      clear hc hs hl
      go_wp2_with fail
      go_round
      case rel => exact ⟨j + 1, by omega, by go_num, by rw [HT.out, ← HS.out]⟩
      case measure => simp [intOf]; omega
    · obtain rfl : j = n := by omega
      go_wp2_with fail
      go_ret
      refine ⟨ret_int ?_, rfl⟩
      rw [List.take_of_length_le (by rw [HN.out]; omega)]
set_option maxHeartbeats 1000000 in
theorem lsum_c (zs : List Int) (A : Option Addr) (n c : Nat) (w : World) (hN : zs.length = n) (h : Rd w A (zs.map (.int .i64))) (hn : n ≤ 1000000) (hz : ∀ z ∈ zs, 0 ≤ z ∧ z ≤ 1000000) :
    Calls Try.prog 24 #[.slice A n c] w fun e w' => e = .returned (.int .i64 (sumL zs)) ∧ w = w' := by
  have HN := Lib.hid hN; clear hN
  have H := Lib.hid h; clear h
  have HZ := Lib.hid hz; clear hz
  go_enter Try.func24, Try.ntmps24
  go_wp2_with fail
  go_loop [3, 4] (fun s i => ∃ j : Nat, j ≤ n ∧ i = .int .i64 j ∧ s = .int .i64 (sumL (zs.take j))) (fun _ i => n - (intOf i).toNat)
  case atStart => exact ⟨0, Nat.zero_le _, rfl, rfl⟩
  case round =>
    obtain ⟨j, hj, rfl, rfl⟩ := hrel
    by_cases hlt : j < n
    · have hjz : j < zs.length := by have := HN.out; omega
      obtain ⟨b, off, hA, hc⟩ := H.out (by simp; omega)
      subst hA
      obtain ⟨x, hX⟩ : ∃ x, x = zs[j] := ⟨_, rfl⟩
      have hx : w.cell? ⟨b, off + j, none⟩ = some (.int .i64 x) := hc j _ (by simp [hX, hjz])
      have hxb := HZ.out x (by rw [hX]; exact List.getElem_mem hjz)
      have hs := sumL_bd 0 1000000 (zs.take j) (fun y hy => HZ.out y (List.mem_of_mem_take hy))
      have hl : (zs.take j).length ≤ j := by simp; omega
      have ht := sumL_take_succ zs j hjz
      rw [← hX] at ht
      have HT := Lib.hid ht; clear ht
      have HX := Lib.hid hX; clear hX
      obtain ⟨S, hS⟩ : ∃ S, S = sumL (zs.take j) := ⟨_, rfl⟩
      rw [← hS] at hs ⊢
      have HS := Lib.hid hS; clear hS
      have hs1 : 0 ≤ S := by omega
      have hs2 : S ≤ 1000000000000 := by omega
      clear hc hs hl
      go_wp2_with fail
      go_round
      case rel => exact ⟨j + 1, by omega, by go_num, by rw [HT.out, ← HS.out]⟩
      case measure => simp [intOf]; omega
    · obtain rfl : j = n := by omega
      go_wp2_with fail
      go_ret
      refine ⟨ret_int ?_, rfl⟩
      rw [List.take_of_length_le (by rw [HN.out]; omega)]

theorem topCases (b : Int) (h : 0 ≤ b ∧ b ≤ 7) : b = 0 ∨ b = 1 ∨ b = 2 ∨ b = 3 ∨ b = 4 ∨ b = 5 ∨ b = 6 ∨ b = 7 := by omega
set_option maxHeartbeats 1000000 in
theorem binTop_c (b : Int) (w : World) : Calls Try.prog 27 #[.int .i64 b] w fun e w' => e = .returned (.int .i64 (binTop b)) ∧ w = w' := by
  by_cases h : 0 ≤ b ∧ b ≤ 7
  · rcases topCases b h with rfl | rfl | rfl | rfl | rfl | rfl | rfl | rfl
    all_goals
      go_enter Try.func27, Try.ntmps27
      go_wp2_with (go_at_call 34; refine (in_c _ _ _ _).mono ?_; rintro e w' ⟨rfl, rfl⟩)
      go_ret
      exact ⟨ret_int (by simp [binTop, topN]), rfl⟩
  · have hb : (decide (0 ≤ b) && decide (b ≤ 7)) = false := by simpa using h
    have hv : binTop b = -1 := by unfold binTop; rw [if_neg h]
    have HV := Lib.hid hv; clear hv
    go_enter Try.func27, Try.ntmps27
    go_wp2_with (go_at_call 34; refine (in_c _ _ _ _).mono ?_; rintro e w' ⟨rfl, rfl⟩)
    go_ret
    exact ⟨ret_int HV.out.symm, rfl⟩
set_option maxHeartbeats 1000000 in
theorem sBinTop_c (b : Int) (w : World) : Calls Try.prog 33 #[.int .i64 b] w fun e w' => e = .returned (.int .i64 (binTop b)) ∧ w = w' := by
  by_cases h : 0 ≤ b ∧ b ≤ 7
  · by_cases h7 : b = 7
    · subst h7
      go_enter Try.func33, Try.ntmps33
      go_wp2_with (go_at_call 31; refine (inRange_c _ _ _ _).mono ?_; rintro e w' ⟨rfl, rfl⟩)
      go_ret
      exact ⟨ret_int (by simp [binTop, topN]), rfl⟩
    · obtain ⟨m, rfl⟩ := Int.eq_ofNat_of_zero_le h.1
      have hm : m < 7 := by omega
      have h7' : ((m : Int) == 7) = false := beq_eq_false_iff_ne.2 h7
      clear h7
      go_enter Try.func33, Try.ntmps33
      go_wp2_with (go_at_call 31; refine (inRange_c _ _ _ _).mono ?_; rintro e w' ⟨rfl, rfl⟩)
      go_loop [3, 4] (fun t i => ∃ j : Nat, j ≤ m ∧ i = .int .i64 j ∧ t = .int .i64 ((2 ^ j : Nat) : Int)) (fun _ i => m - (intOf i).toNat)
      case atStart => exact ⟨0, Nat.zero_le _, rfl, rfl⟩
      case round =>
        obtain ⟨j, hj, rfl, rfl⟩ := hrel
        have hp : 2 ^ j ≤ 128 := Nat.le_trans (Nat.pow_le_pow_right (by omega) (show j ≤ 7 by omega)) (by decide)
        have hp2 : 2 ^ (j + 1) = 2 * 2 ^ j := by rw [Nat.pow_succ, Nat.mul_comm]
        have HP := Lib.hid hp2; clear hp2
        have hv : j = m → (((2 ^ j : Nat) : Int) - 1 = binTop m) := by
          rintro rfl
          have : j = 0 ∨ j = 1 ∨ j = 2 ∨ j = 3 ∨ j = 4 ∨ j = 5 ∨ j = 6 := by omega
          rcases this with rfl | rfl | rfl | rfl | rfl | rfl | rfl <;> simp [binTop, topN]
        have HV := Lib.hid hv; clear hv
        obtain ⟨t, ht⟩ : ∃ t, t = 2 ^ j := ⟨_, rfl⟩
        rw [← ht] at hp HP HV ⊢
        have HT := Lib.hid ht; clear ht
        by_cases hlt : j < m
        · go_wp2_with fail
          go_round
          case rel => exact ⟨j + 1, by omega, by go_num, by rw [HP.out]; go_num⟩
          case measure => simp [intOf]; omega
        · obtain rfl : j = m := by omega
          go_wp2_with fail
          go_ret
          exact ⟨ret_int (by simpa using HV.out), rfl⟩
  · have hb : (decide (0 ≤ b) && decide (b ≤ 7)) = false := by simpa using h
    have hv : binTop b = -1 := by unfold binTop; rw [if_neg h]
    have HV := Lib.hid hv; clear hv
    go_enter Try.func33, Try.ntmps33
    go_wp2_with (go_at_call 31; refine (inRange_c _ _ _ _).mono ?_; rintro e w' ⟨rfl, rfl⟩)
    go_ret
    exact ⟨ret_int HV.out.symm, rfl⟩
set_option maxHeartbeats 1000000 in
theorem sbin_c (x : Int) (w : World) (h0 : 0 ≤ x) (h1 : x ≤ 1000) : Calls Try.prog 37 #[.int .i64 x] w fun e w' => e = .returned (.int .i64 (binN x)) ∧ w = w' := by
  have key : ∀ j : Nat, j ≤ 7 → (j = 7 ∨ x < ((2 ^ j : Nat) : Int)) → (∀ i, i < j → ((2 ^ i : Nat) : Int) ≤ x) → binN x = j := by
    intro j hj h2 h3
    have c := binN_cases x
    have : j = 0 ∨ j = 1 ∨ j = 2 ∨ j = 3 ∨ j = 4 ∨ j = 5 ∨ j = 6 ∨ j = 7 := by omega
    rcases this with rfl | rfl | rfl | rfl | rfl | rfl | rfl | rfl
    · simp at h2; omega
    · have := h3 0 (by omega); simp at h2 this; omega
    · have := h3 1 (by omega); simp at h2 this; omega
    · have := h3 2 (by omega); simp at h2 this; omega
    · have := h3 3 (by omega); simp at h2 this; omega
    · have := h3 4 (by omega); simp at h2 this; omega
    · have := h3 5 (by omega); simp at h2 this; omega
    · have := h3 6 (by omega); simp at this; omega
  have KEY := Lib.hid key; clear key
  go_enter Try.func37, Try.ntmps37
  go_wp2_with fail
  go_loop [3, 4] (fun i t => ∃ j : Nat, j ≤ 7 ∧ i = .int .i64 j ∧ t = .int .i64 ((2 ^ j : Nat) : Int) ∧ ∀ i, i < j → ((2 ^ i : Nat) : Int) ≤ x) (fun i _ => 7 - (intOf i).toNat)
  case atStart => exact ⟨0, by omega, rfl, rfl, fun i hi => absurd hi (by omega)⟩
  case round =>
    obtain ⟨j, hj, rfl, rfl, hs⟩ := hrel
    have HS := Lib.hid hs; clear hs
    have hp : 2 ^ j ≤ 128 := Nat.le_trans (Nat.pow_le_pow_right (by omega) hj) (by decide)
    have hp2 : 2 ^ (j + 1) = 2 * 2 ^ j := by rw [Nat.pow_succ, Nat.mul_comm]
    have HP := Lib.hid hp2; clear hp2
    obtain ⟨t, ht⟩ : ∃ t, t = 2 ^ j := ⟨_, rfl⟩
    rw [← ht] at hp HP ⊢
    have HT := Lib.hid ht; clear ht
    by_cases hx : (t : Int) ≤ x
    · by_cases hlt : j < 7
      · go_wp2_with fail
        go_round
        case rel =>
          refine ⟨j + 1, by omega, by go_num, by rw [HP.out]; go_num, fun i hi => ?_⟩
          rcases Nat.lt_or_ge i j with h | h
          · exact HS.out i h
          · obtain rfl : i = j := by omega
            rw [← HT.out]; exact hx
        case measure => simp [intOf]; omega
      · obtain rfl : j = 7 := by omega
        go_wp2_with fail
        go_ret
        exact ⟨ret_int (KEY.out 7 (by omega) (.inl rfl) HS.out).symm, rfl⟩
    · have hx' : decide ((t : Int) ≤ x) = false := decide_eq_false hx
      go_wp2_with fail
      go_ret
      exact ⟨ret_int (KEY.out j hj (.inr (by rw [← HT.out]; omega)) HS.out).symm, rfl⟩
theorem bitLen_bin (x : Int) (h0 : 0 ≤ x) (h1 : x ≤ 1000) : min 7 ((Lib.bitLen x.toNat : Nat) : Int) = binN x := by
  obtain ⟨n, rfl⟩ := Int.eq_ofNat_of_zero_le h0
  have hn : n < 1001 := by omega
  have key : ∀ n : Nat, n < 1001 → min 7 ((Lib.bitLen ((n : Int)).toNat : Nat) : Int) = binN n := by decide +kernel
  exact key n hn
set_option maxHeartbeats 1000000 in
theorem bin_c (x : Int) (w : World) (h0 : 0 ≤ x) (h1 : x ≤ 1000) : Calls Try.prog 39 #[.int .i64 x] w fun e w' => e = .returned (.int .i64 (binN x)) ∧ w = w' := by
  have HB := Lib.hid (bitLen_bin x h0 h1)
  go_enter Try.func39, Try.ntmps39
  go_wp2_with fail
  refine (Try.bits_Len _ _ h0 (by omega)).mono ?_
  rintro e w1 ⟨rfl, rfl⟩
  go_wp2_with fail
  go_ret
  exact ⟨ret_int HB.out, rfl⟩
set_option maxHeartbeats 400000 in
theorem binOf_c (x : Int) (w : World) : Calls Try.prog 29 #[.int .i64 x] w fun e w' => e = .returned (.int .i64 (binOf x)) ∧ w = w' := by
  by_cases h : 0 ≤ x ∧ x ≤ 1000
  · have hv : binOf x = binN x := by unfold binOf; rw [if_pos h]
    have HV := Lib.hid hv; clear hv
    go_enter Try.func29, Try.ntmps29
    go_wp2_with fail
    refine (isTime_c _ _).mono ?_
    rw [decide_eq_true h]
    rintro e w1 ⟨rfl, rfl⟩
    go_wp2_with fail
    refine (bin_c x _ h.1 h.2).mono ?_
    rintro e w1 ⟨rfl, rfl⟩
    go_wp2_with fail
    go_ret
    exact ⟨ret_int HV.out.symm, rfl⟩
  · have hv : binOf x = -1 := by unfold binOf; rw [if_neg h]
    have HV := Lib.hid hv; clear hv
    go_enter Try.func29, Try.ntmps29
    go_wp2_with fail
    refine (isTime_c _ _).mono ?_
    rw [decide_eq_false h]
    rintro e w1 ⟨rfl, rfl⟩
    go_wp2_with fail
    go_ret
    exact ⟨ret_int HV.out.symm, rfl⟩
set_option maxHeartbeats 400000 in
theorem svalidCounts_c (zs : List Int) (A : Option Addr) (n c : Nat) (w : World) (hN : zs.length = n) (h : Rd w A (zs.map (.int .i64))) (hn : n ≤ 1073741824) :
    Calls Try.prog 30 #[.slice A n c] w fun e w' => e = .returned (.bool (validCounts zs)) ∧ w = w' := by
  have HI := Lib.hid (sAllIn_c zs 0 100 A n c w hN h (by omega))
  have hv : validCounts zs = (decide (n = 8) && allB 0 100 zs) := by rw [validCounts, hN]
  have HV := Lib.hid hv; clear hv h hN
  by_cases h8 : n = 8
  · subst h8
    go_enter Try.func30, Try.ntmps30
    go_wp2_with fail
    refine HI.out.mono ?_
    rintro e w1 ⟨rfl, rfl⟩
    go_wp2_with fail
    go_ret
    exact ⟨ret_bool (by rw [HV.out]; simp), rfl⟩
  · have h8' : ((n : Int) == 8) = false := beq_eq_false_iff_ne.2 (by omega)
    have H8 := Lib.hid h8; clear h8
    go_enter Try.func30, Try.ntmps30
    go_wp2_with fail
    go_ret
    exact ⟨ret_bool (by rw [HV.out]; simp [H8.out]), rfl⟩
set_option maxHeartbeats 400000 in
theorem validCounts_c (zs : List Int) (A : Option Addr) (n c : Nat) (w : World) (hN : zs.length = n) (h : Rd w A (zs.map (.int .i64))) (hn : n ≤ 1073741824) :
    Calls Try.prog 25 #[.slice A n c] w fun e w' => e = .returned (.bool (validCounts zs)) ∧ Below w.heap.size w w' := by
  have HI := Lib.hid (allIn_c zs 0 100 A n c w hN h (by omega))
  have hv : validCounts zs = (decide (n = 8) && allB 0 100 zs) := by rw [validCounts, hN]
  have HV := Lib.hid hv; clear hv h hN
  by_cases h8 : n = 8
  · subst h8
    go_enter Try.func25, Try.ntmps25
    go_wp2_with fail
    refine HI.out.mono ?_
    rintro e w1 ⟨rfl, hb⟩
    go_wp2_with fail
    go_ret
    exact ⟨ret_bool (by rw [HV.out]; simp), hb⟩
  · have h8' : ((n : Int) == 8) = false := beq_eq_false_iff_ne.2 (by omega)
    have H8 := Lib.hid h8; clear h8
    go_enter Try.func25, Try.ntmps25
    go_wp2_with fail
    go_ret
    exact ⟨ret_bool (by rw [HV.out]; simp [H8.out]), Below.refl _ _⟩
end Go.Proofs.Ytjidcickkfaljaa
