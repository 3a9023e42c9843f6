/- Contracts of WaitUnder. -/
import Derived.Test.YtjidcickkfaljaaCntWaits
set_option linter.unusedVariables false
set_option linter.unusedSimpArgs false
set_option linter.unnecessarySimpa false
namespace Go.Proofs.Ytjidcickkfaljaa
open Go.RowKit

theorem under_exit (l : List Int) (p : Int) (j : Nat) (hl : validCounts l = true) (hp : 0 ≤ p ∧ p ≤ 100) (hj : j ≤ 8) (hprev : ∀ q, q < j → sumL (l.take q) * 100 < p * sumL l) (hend : j = 8 ∨ ¬ sumL (l.take j) * 100 < p * sumL l) :
    under l p = j - 1 := by
  obtain ⟨hl8, hx⟩ := (validCounts_iff l).1 hl
  have hs := sumL_bd 0 100 l hx
  rcases Nat.eq_zero_or_pos j with h0 | h0
  · subst h0
    have h1 : ¬ sumL (l.take 0) * 100 < p * sumL l := by rcases hend with h | h
                                                         · omega
                                                         · exact h
    have h2 := sumL_take_mono l (fun x hx' => (hx x hx').1) 0 1 (by omega)
    simp only [List.take_zero, sumL] at h1
    rw [List.take_zero] at h2
    simp only [sumL] at h2
    exact under_eq l p 0 (by omega) (by show _ ≤ 100 * sumL (l.take 1); omega) (fun q hq => absurd hq (by omega))
  · refine under_eq l p (j - 1) (by omega) ?_ (fun q hq => ?_)
    · rw [show j - 1 + 1 = j by omega]
      rcases hend with rfl | h
      · rw [List.take_of_length_le (by omega)]
        have := Int.mul_le_mul_of_nonneg_right hp.2 (show 0 ≤ sumL l by omega)
        omega
      · omega
    · have := hprev (q + 1) (by omega)
      omega

set_option maxRecDepth 100000 in
set_option maxHeartbeats 2000000 in
theorem waitUnder_c (zs : List Int) (p : Int) (A : Option Addr) (n c : Nat) (w : World) (hN : zs.length = n) (hc : n ≤ c) (h : Rd w A (zs.map (.int .i64))) (hn : n ≤ 1073741824) :
    Calls Try.prog 19 #[.slice A n c, .int .i64 p] w fun e w' => e = .returned (.tuple #[.int .i64 (wuVal zs p), .bool (wuOk zs p)]) ∧ Below w.heap.size w w' := by
  have HN := Lib.hid hN; clear hN
  have H := Lib.hid h; clear h
  obtain ⟨ka, hka⟩ : ∃ k, k = validCounts zs := ⟨_, rfl⟩
  have HKA := Lib.hid hka; clear hka
  have bad : (ka = false ∨ ¬ (0 ≤ p ∧ p ≤ 100) ∨ sumL zs = 0) → wuVal zs p = 0 ∧ wuOk zs p = false := by
    intro hk
    have ho : wuOk zs p = false := by
      unfold wuOk
      rw [← HKA.out]
      rcases hk with hk | hk | hk
      · simp [hk]
      · rw [decide_eq_false hk]; simp
      · simp [hk]
    exact ⟨by unfold wuVal; rw [ho]; rfl, ho⟩
  have BAD := Lib.hid bad; clear bad
  cases ka
  · obtain ⟨e1, e2⟩ := BAD.out (.inl rfl)
    rw [e1, e2]
    clear e1 e2
    go_enter Try.func19, Try.ntmps19
    go_wp2_with fail
    refine (validCounts_c zs _ _ _ _ HN.out H.out hn).mono ?_
    rw [← HKA.out]
    rintro e w1 ⟨rfl, b1⟩
    go_wp2_with fail
    go_ret2
    exact ⟨rfl, b1⟩
  · by_cases hp : 0 ≤ p ∧ p ≤ 100
    · obtain ⟨hx8, hxb⟩ := (validCounts_iff zs).1 HKA.out.symm
      obtain rfl : n = 8 := by rw [← HN.out, hx8]
      have hsb := sumL_bd 0 100 zs hxb
      rw [hx8] at hsb
      have hz6 : ∀ z ∈ zs, 0 ≤ z ∧ z ≤ 1000000 := fun z hz => by have := hxb z hz; omega
      by_cases h0 : sumL zs = 0
      · obtain ⟨e1, e2⟩ := BAD.out (.inr (.inr h0))
        rw [e1, e2]
        have H0 := Lib.hid h0
        have HZ6 := Lib.hid hz6
        clear e1 e2 h0 hsb hxb hx8 hz6
        go_enter Try.func19, Try.ntmps19
        go_wp2_with fail
        refine (validCounts_c zs _ _ _ _ HN.out H.out hn).mono ?_
        rw [← HKA.out]
        rintro e w1 ⟨rfl, b1⟩
        go_wp2_with fail
        refine (in_c _ _ _ _).mono ?_
        rw [decide_eq_true hp]
        rintro e w2 ⟨rfl, rfl⟩
        go_wp2_with fail
        refine (sum_c zs _ _ _ _ HN.out (H.out.below b1) (by omega) HZ6.out).mono ?_
        rw [H0.out]
        rintro e w2 ⟨rfl, rfl⟩
        go_wp2_with fail
        go_ret2
        exact ⟨rfl, b1⟩
      · have hok : wuOk zs p = true := by
          unfold wuOk
          rw [← HKA.out, decide_eq_true hp, decide_eq_false h0]; rfl
        have hval : wuVal zs p = binTop (under zs p) := by unfold wuVal; rw [hok]; rfl
        obtain ⟨u, hu⟩ : ∃ u, u = under zs p := ⟨_, rfl⟩
        obtain ⟨S, hS⟩ : ∃ S, S = sumL zs := ⟨_, rfl⟩
        obtain ⟨us1, us2, us3⟩ := under_spec zs p HKA.out.symm hp
        rw [hok, hval]
        rw [← hS] at hsb h0 us2 us3
        rw [← hu] at us1 us2 us3 ⊢
        have hT0 : 0 ≤ p * S := Int.mul_nonneg hp.1 (by omega)
        have hT1 : p * S ≤ 80000 := by
          have h1 := Int.mul_le_mul_of_nonneg_right hp.2 (show 0 ≤ S by omega)
          omega
        have hS0 : 0 ≤ S := by omega
        have hS1 : S ≤ 800 := by omega
        have hp0 : 0 ≤ p := hp.1
        have hp1 : p ≤ 100 := hp.2
        have HP := Lib.hid hp
        have h0' : (S == 0) = false := beq_eq_false_iff_ne.2 h0
        have US2 := Lib.hid us2
        have US3 := Lib.hid us3
        have HS := Lib.hid hS
        have HU := Lib.hid hu
        have HZ6 := Lib.hid hz6
        have HXB := Lib.hid hxb
        have HX8 := Lib.hid hx8
        clear us2 us3 hS hu hz6 hxb hx8 hok hval h0 hp hsb
        go_enter Try.func19, Try.ntmps19
        go_wp2_with fail
        refine (validCounts_c zs _ _ _ _ HN.out H.out hn).mono ?_
        rw [← HKA.out]
        rintro e w1 ⟨rfl, b1⟩
        go_wp2_with fail
        refine (in_c _ _ _ _).mono ?_
        rw [decide_eq_true HP.out]
        rintro e w2 ⟨rfl, rfl⟩
        go_wp2_with fail
        refine (sum_c zs _ _ _ _ HN.out (H.out.below b1) (by omega) HZ6.out).mono ?_
        rw [← HS.out]
        rintro e w2 ⟨rfl, rfl⟩
        go_wp2_with fail
        go_loop [6] (fun b => ∃ j : Nat, j ≤ u ∧ b = .int .i64 j) (fun b => u - (intOf b).toNat)
        case atStart => exact ⟨0, Nat.zero_le _, rfl⟩
        case round =>
          obtain ⟨j, hj, rfl⟩ := hrel
          have hts := sumL_bd 0 100 (zs.take (j + 1)) (fun y hy => HXB.out y (List.mem_of_mem_take hy))
          have htl : (zs.take (j + 1)).length = j + 1 := by rw [List.length_take, HX8.out]; omega
          rw [htl] at hts
          have hsc := sum_c (zs.take (j + 1)) A (j + 1) c w1 htl (by rw [List.map_take]; exact (H.out.below b1).take _) (by omega) (fun y hy => HZ6.out y (List.mem_of_mem_take hy))
          obtain ⟨R, hR⟩ : ∃ R, R = sumL (zs.take (j + 1)) := ⟨_, rfl⟩
          rw [← hR] at hsc hts
          have HSC := Lib.hid hsc
          have hR0 : 0 ≤ R := by omega
          have hR1 : R ≤ 800 := by omega
          by_cases hlt : j < u
          · have hlt' : 100 * R < p * S := by have := US3.out j hlt; rw [hR]; exact this
            have hd : decide (100 * R < p * S) = true := decide_eq_true hlt'
            clear hR hsc hts htl
            go_wp2_with fail
            refine HSC.out.mono ?_
            rintro e w2 ⟨rfl, rfl⟩
            go_wp2_with fail
            refine (sum_c zs _ _ _ _ HN.out (H.out.below b1) (by omega) HZ6.out).mono ?_
            rw [← HS.out]
            rintro e w2 ⟨rfl, rfl⟩
            go_wp2_with fail
            go_round
            case rel => exact ⟨j + 1, by omega, by go_num⟩
            case measure => simp [intOf]; omega
          · obtain rfl : j = u := by omega
            have hlt' : ¬ 100 * R < p * S := by have := US2.out; rw [hR]; omega
            have hd : decide (100 * R < p * S) = false := decide_eq_false hlt'
            clear hR hsc hts htl
            go_wp2_with fail
            refine HSC.out.mono ?_
            rintro e w2 ⟨rfl, rfl⟩
            go_wp2_with fail
            refine (sum_c zs _ _ _ _ HN.out (H.out.below b1) (by omega) HZ6.out).mono ?_
            rw [← HS.out]
            rintro e w2 ⟨rfl, rfl⟩
            go_wp2_with fail
            refine (binTop_c _ _).mono ?_
            rintro e w2 ⟨rfl, rfl⟩
            go_wp2_with fail
            go_ret2
            exact ⟨rfl, b1⟩
    · obtain ⟨e1, e2⟩ := BAD.out (.inr (.inl hp))
      rw [e1, e2]
      have HP := Lib.hid hp
      clear e1 e2 hp
      go_enter Try.func19, Try.ntmps19
      go_wp2_with fail
      refine (validCounts_c zs _ _ _ _ HN.out H.out hn).mono ?_
      rw [← HKA.out]
      rintro e w1 ⟨rfl, b1⟩
      go_wp2_with fail
      refine (in_c _ _ _ _).mono ?_
      rw [decide_eq_false HP.out]
      rintro e w2 ⟨rfl, rfl⟩
      go_wp2_with fail
      go_ret2
      exact ⟨rfl, b1⟩

set_option maxRecDepth 100000 in
set_option maxHeartbeats 2000000 in
theorem sWaitUnder_c (zs : List Int) (p : Int) (A : Option Addr) (n c : Nat) (w : World) (hN : zs.length = n) (h : Rd w A (zs.map (.int .i64))) (hn : n ≤ 1073741824) :
    Calls Try.prog 18 #[.slice A n c, .int .i64 p] w fun e w' => e = .returned (.tuple #[.int .i64 (wuVal zs p), .bool (wuOk zs p)]) ∧ w = w' := by
  have HN := Lib.hid hN; clear hN
  have H := Lib.hid h; clear h
  obtain ⟨ka, hka⟩ : ∃ k, k = validCounts zs := ⟨_, rfl⟩
  have HKA := Lib.hid hka; clear hka
  have bad : (ka = false ∨ ¬ (0 ≤ p ∧ p ≤ 100) ∨ sumL zs = 0) → wuVal zs p = 0 ∧ wuOk zs p = false := by
    intro hk
    have ho : wuOk zs p = false := by
      unfold wuOk
      rw [← HKA.out]
      rcases hk with hk | hk | hk
      · simp [hk]
      · rw [decide_eq_false hk]; simp
      · simp [hk]
    exact ⟨by unfold wuVal; rw [ho]; rfl, ho⟩
  have BAD := Lib.hid bad; clear bad
  cases ka
  · obtain ⟨e1, e2⟩ := BAD.out (.inl rfl)
    rw [e1, e2]
    clear e1 e2
    go_enter Try.func18, Try.ntmps18
    go_wp2_with fail
    refine (svalidCounts_c zs _ _ _ _ HN.out H.out hn).mono ?_
    rw [← HKA.out]
    rintro e w1 ⟨rfl, rfl⟩
    go_wp2_with fail
    go_ret2
    exact ⟨rfl, rfl⟩
  · by_cases hp : 0 ≤ p ∧ p ≤ 100
    · obtain ⟨hx8, hxb⟩ := (validCounts_iff zs).1 HKA.out.symm
      obtain rfl : n = 8 := by rw [← HN.out, hx8]
      have hsb := sumL_bd 0 100 zs hxb
      rw [hx8] at hsb
      have hz6 : ∀ z ∈ zs, 0 ≤ z ∧ z ≤ 1000000 := fun z hz => by have := hxb z hz; omega
      by_cases h0 : sumL zs = 0
      · obtain ⟨e1, e2⟩ := BAD.out (.inr (.inr h0))
        rw [e1, e2]
        have H0 := Lib.hid h0
        have HZ6 := Lib.hid hz6
        clear e1 e2 h0 hsb hxb hx8 hz6
        go_enter Try.func18, Try.ntmps18
        go_wp2_with fail
        refine (svalidCounts_c zs _ _ _ _ HN.out H.out hn).mono ?_
        rw [← HKA.out]
        rintro e w1 ⟨rfl, rfl⟩
        go_wp2_with fail
        refine (inRange_c _ _ _ _).mono ?_
        rw [decide_eq_true hp]
        rintro e w2 ⟨rfl, rfl⟩
        go_wp2_with fail
        refine (total_c zs _ _ _ _ HN.out H.out (by omega) HZ6.out).mono ?_
        rw [H0.out]
        rintro e w2 ⟨rfl, rfl⟩
        go_wp2_with fail
        go_ret2
        exact ⟨rfl, rfl⟩
      · have hok : wuOk zs p = true := by
          unfold wuOk
          rw [← HKA.out, decide_eq_true hp, decide_eq_false h0]; rfl
        have hval : wuVal zs p = binTop (under zs p) := by unfold wuVal; rw [hok]; rfl
        obtain ⟨S, hS⟩ : ∃ S, S = sumL zs := ⟨_, rfl⟩
        have hex : ∀ j, j ≤ 8 → (∀ q, q < j → sumL (zs.take q) * 100 < p * S) → (j = 8 ∨ ¬ sumL (zs.take j) * 100 < p * S) → binTop (under zs p) = binTop ((j - 1 : Nat) : Int) := by
          intro j h1 h2 h3
          rw [hS] at h2 h3
          rw [under_exit zs p j HKA.out.symm hp h1 h2 h3]
        rw [hok, hval]
        rw [← hS] at hsb h0
        have hT0 : 0 ≤ p * S := Int.mul_nonneg hp.1 (by omega)
        have hT1 : p * S ≤ 80000 := by
          have h1 := Int.mul_le_mul_of_nonneg_right hp.2 (show 0 ≤ S by omega)
          omega
        have hS0 : 0 ≤ S := by omega
        have hS1 : S ≤ 800 := by omega
        have hp0 : 0 ≤ p := hp.1
        have hp1 : p ≤ 100 := hp.2
        have HP := Lib.hid hp
        have h0' : (S == 0) = false := beq_eq_false_iff_ne.2 h0
        have HEX := Lib.hid hex
        have HS := Lib.hid hS
        have HZ6 := Lib.hid hz6
        have HXB := Lib.hid hxb
        have HX8 := Lib.hid hx8
        clear hex hS hz6 hxb hx8 hok hval h0 hp hsb
        go_enter Try.func18, Try.ntmps18
        go_wp2_with fail
        refine (svalidCounts_c zs _ _ _ _ HN.out H.out hn).mono ?_
        rw [← HKA.out]
        rintro e w1 ⟨rfl, rfl⟩
        go_wp2_with fail
        refine (inRange_c _ _ _ _).mono ?_
        rw [decide_eq_true HP.out]
        rintro e w2 ⟨rfl, rfl⟩
        go_wp2_with fail
        refine (total_c zs _ _ _ _ HN.out H.out (by omega) HZ6.out).mono ?_
        rw [← HS.out]
        rintro e w2 ⟨rfl, rfl⟩
        go_wp2_with fail
        go_loop [6, 7, 8] (fun nn b i => ∃ j : Nat, j ≤ 8 ∧ i = .int .i64 j ∧ nn = .int .i64 (sumL (zs.take j)) ∧ b = .int .i64 ((j - 1 : Nat) : Int) ∧ ∀ q, q < j → sumL (zs.take q) * 100 < p * S) (fun _ _ i => 8 - (intOf i).toNat)
        case atStart => exact ⟨0, by omega, rfl, rfl, rfl, fun q hq => absurd hq (by omega)⟩
        case round =>
          obtain ⟨j, hj, rfl, rfl, rfl, hprev⟩ := hrel
          have HPREV := Lib.hid hprev; clear hprev
          have hts := sumL_bd 0 100 (zs.take j) (fun y hy => HXB.out y (List.mem_of_mem_take hy))
          have htl : (zs.take j).length = j := by rw [List.length_take, HX8.out]; omega
          rw [htl] at hts
          obtain ⟨R, hR⟩ : ∃ R, R = sumL (zs.take j) := ⟨_, rfl⟩
          rw [← hR] at hts ⊢
          have hR0 : 0 ≤ R := by omega
          have hR1 : R ≤ 800 := by omega
          have HR := Lib.hid hR
          clear hR hts htl
          by_cases h8 : j < 8
          · by_cases hlt : R * 100 < p * S
            · have hd : decide (R * 100 < p * S) = true := decide_eq_true hlt
              have hkx : j < zs.length := by rw [HX8.out]; exact h8
              obtain ⟨b, off, hA, hc⟩ := H.out (by simp; omega)
              subst hA
              obtain ⟨x, hX⟩ : ∃ x, x = zs[j] := ⟨_, rfl⟩
              have hx : w.cell? ⟨b, off + j, none⟩ = some (.int .i64 x) := hc _ _ (by simp [hX, hkx])
              have hxr := HXB.out x (by rw [hX]; exact List.getElem_mem hkx)
              obtain ⟨hx0, hx1⟩ := hxr
              have hts := sumL_take_succ zs j hkx
              rw [← hX, ← HR.out] at hts
              have HTS := Lib.hid hts
              clear hts hX hc
              go_wp2_with fail
              refine (total_c zs _ _ _ _ HN.out H.out (by omega) HZ6.out).mono ?_
              rw [← HS.out]
              rintro e w2 ⟨rfl, rfl⟩
              go_wp2_with fail
              go_round
              case rel =>
                refine ⟨j + 1, by omega, by go_num, by rw [HTS.out], by go_num, fun q hq => ?_⟩
                rcases Nat.lt_or_ge q j with h' | h'
                · exact HPREV.out q h'
                · obtain rfl : q = j := by omega
                  rw [← HR.out]; exact hlt
              case measure => simp [intOf]; omega
            · have hd : decide (R * 100 < p * S) = false := decide_eq_false hlt
              have hv := HEX.out j hj HPREV.out (.inr (by rw [← HR.out]; exact Int.not_lt.1 hlt))
              have HV := Lib.hid hv
              clear hv
              go_wp2_with fail
              refine (total_c zs _ _ _ _ HN.out H.out (by omega) HZ6.out).mono ?_
              rw [← HS.out]
              rintro e w2 ⟨rfl, rfl⟩
              go_wp2_with fail
              refine (sBinTop_c _ _).mono ?_
              rw [← HV.out]
              rintro e w2 ⟨rfl, rfl⟩
              go_wp2_with fail
              go_ret2
              exact ⟨rfl, rfl⟩
          · obtain rfl : j = 8 := by omega
            have hv : binTop (under zs p) = binTop 7 := HEX.out 8 hj HPREV.out (.inl rfl)
            have HV := Lib.hid hv
            clear hv
            go_wp2_with fail
            refine (sBinTop_c _ _).mono ?_
            rw [← HV.out]
            rintro e w2 ⟨rfl, rfl⟩
            go_wp2_with fail
            go_ret2
            exact ⟨rfl, rfl⟩
    · obtain ⟨e1, e2⟩ := BAD.out (.inr (.inl hp))
      rw [e1, e2]
      have HP := Lib.hid hp
      clear e1 e2 hp
      go_enter Try.func18, Try.ntmps18
      go_wp2_with fail
      refine (svalidCounts_c zs _ _ _ _ HN.out H.out hn).mono ?_
      rw [← HKA.out]
      rintro e w1 ⟨rfl, rfl⟩
      go_wp2_with fail
      refine (inRange_c _ _ _ _).mono ?_
      rw [decide_eq_false HP.out]
      rintro e w2 ⟨rfl, rfl⟩
      go_wp2_with fail
      go_ret2
      exact ⟨rfl, rfl⟩
end Go.Proofs.Ytjidcickkfaljaa
