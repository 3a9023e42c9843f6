/- Contracts of tests over all numbers of a list. -/
import Derived.Test.YtnmgnhpagnjhlaaGreatDoorNum
import Derived.Test.YtnmgnhpagnjhlaaGreatDoorPlainB
set_option linter.unusedVariables false
set_option linter.unusedSimpArgs false
namespace Go.Proofs.YtnmgnhpagnjhlaaGreatDoor
open Go.RowKit

/-- The place of the first element that p holds of; -1 if there is none. -/
def fidx {α : Type} (p : α → Bool) (l : List α) : Int := if l.any p then (l.findIdx p : Nat) else -1
theorem fidx_none {α : Type} (p : α → Bool) (l : List α) (h : ∀ j (hj : j < l.length), p l[j] = false) : fidx p l = -1 := by
  unfold fidx
  rw [if_neg]
  intro ha
  obtain ⟨x, hx, hp⟩ := List.any_eq_true.1 ha
  obtain ⟨j, hj, rfl⟩ := List.mem_iff_getElem.1 hx
  rw [h j hj] at hp
  cases hp
theorem fidx_some {α : Type} (p : α → Bool) (l : List α) (k : Nat) (hk : k < l.length) (hp : p l[k] = true) (h : ∀ j (hj : j < l.length), j < k → p l[j] = false) : fidx p l = (k : Nat) := by
  unfold fidx
  rw [if_pos (List.any_eq_true.2 ⟨l[k], List.getElem_mem hk, hp⟩)]
  congr 1
  rw [List.findIdx_eq hk]
  exact ⟨hp, fun j hj => by simpa using h j (by omega) hj⟩
theorem fidx_any {α : Type} (p : α → Bool) (l : List α) : decide (0 ≤ fidx p l) = l.any p := by
  unfold fidx
  cases l.any p
  · rfl
  · simp

set_option maxHeartbeats 1000000 in
theorem indexFuncI_c (p : Int → Bool) (c1 c2 : Value) (zs : List Int) (A : Option Addr) (n c : Nat) (w : World) (hN : zs.length = n) (h : Rd w A (zs.map (.int .i64))) (hn : n ≤ 1099511627776)
    (hf : ∀ v, v ∈ zs → Calls Tryz.prog 90 #[.int .i64 v, c1, c2] w fun e w' => e = .returned (.bool (p v)) ∧ w = w') :
    Calls Tryz.prog 115 #[.slice A n c, .func (Fn.func 90) #[] #[c1, c2]] w fun e w' => e = .returned (.int .i64 (fidx p zs)) ∧ w = w' := by
  have HN := Lib.hid hN; clear hN
  have H := Lib.hid h; clear h
  have HF := Lib.hid hf; clear hf
  go_enter Tryz.func115, Tryz.ntmps115
  go_wp2_with fail
  go_loop [8] (fun i => ∃ j : Nat, j ≤ n ∧ i = .int .i64 j ∧ ∀ q (hq : q < zs.length), q < j → p zs[q] = false) (fun i => n - (intOf i).toNat)
  case atStart => exact ⟨0, Nat.zero_le _, rfl, fun q hq h => absurd h (by omega)⟩
  case round =>
    obtain ⟨j, hj, rfl, hs⟩ := hrel
    have HS := Lib.hid hs; clear hs
    by_cases hlt : j < n
    · have hjz : j < zs.length := by have := HN.out; omega
      obtain ⟨b, off, hA, hc⟩ := H.out (by simp; omega)
      subst hA
      obtain ⟨x, hX⟩ : ∃ x, x = zs[j] := ⟨_, rfl⟩
      have hx : w.cell? ⟨b, off + j, none⟩ = some (.int .i64 x) := hc j _ (by simp [hX, hjz])
      have hfx := HF.out x (by rw [hX]; exact List.getElem_mem hjz)
      obtain ⟨r, hr⟩ : ∃ r, r = p x := ⟨_, rfl⟩
      rw [← hr] at hfx
      have HFX := Lib.hid hfx
      have HR := Lib.hid hr
      have HX := Lib.hid hX
      have HC := Lib.hid hc
      clear hfx hr hX hc
      cases r
      · go_wp2_with fail
        refine HFX.out.mono ?_
        rintro e w' ⟨rfl, rfl⟩
        go_wp2_with fail
        go_round
        case rel =>
          refine ⟨j + 1, by omega, by go_num, fun q hq h => ?_⟩
          rcases Nat.lt_or_ge q j with h' | h'
          · exact HS.out q hq h'
          · obtain rfl : q = j := by omega
            rw [← HX.out]; exact HR.out.symm
        case measure => simp [intOf]; omega
      · go_wp2_with fail
        refine HFX.out.mono ?_
        rintro e w' ⟨rfl, rfl⟩
        go_wp2_with fail
        go_ret
        refine ⟨ret_int ?_, rfl⟩
        exact (fidx_some p zs j hjz (by rw [← HX.out]; exact HR.out.symm) (fun q hq h => HS.out q hq h)).symm
    · obtain rfl : j = n := by omega
      go_wp2_with fail
      go_ret
      refine ⟨ret_int ?_, rfl⟩
      exact (fidx_none p zs (fun q hq => HS.out q hq (by have := HN.out; omega))).symm
set_option maxHeartbeats 1000000 in
theorem containsFuncI_c (p : Int → Bool) (c1 c2 : Value) (zs : List Int) (A : Option Addr) (n c : Nat) (w : World) (hN : zs.length = n) (h : Rd w A (zs.map (.int .i64))) (hn : n ≤ 1099511627776)
    (hf : ∀ v, v ∈ zs → Calls Tryz.prog 90 #[.int .i64 v, c1, c2] w fun e w' => e = .returned (.bool (p v)) ∧ w = w') :
    Calls Tryz.prog 89 #[.slice A n c, .func (Fn.func 90) #[] #[c1, c2]] w fun e w' => e = .returned (.bool (zs.any p)) ∧ w = w' := by
  have HI := Lib.hid (indexFuncI_c p c1 c2 zs A n c w hN h hn hf)
  have HA := Lib.hid (fidx_any p zs)
  clear hf h hN
  go_enter Tryz.func89, Tryz.ntmps89
  go_wp2_with fail
  refine HI.out.mono ?_
  rintro e w' ⟨rfl, rfl⟩
  go_wp2_with fail
  go_ret
  exact ⟨ret_bool HA.out, rfl⟩
set_option maxHeartbeats 400000 in
theorem allIn1_c (v lo hi : Int) (a b : Nat) (w : World) (ha : w.cell? ⟨a, 0, none⟩ = some (.int .i64 lo)) (hb : w.cell? ⟨b, 0, none⟩ = some (.int .i64 hi)) :
    Calls Tryz.prog 90 #[.int .i64 v, .pointer (some ⟨a, 0, none⟩), .pointer (some ⟨b, 0, none⟩)] w fun e w' => e = .returned (.bool (!decide (lo ≤ v ∧ v ≤ hi))) ∧ w = w' := by
  go_enter Tryz.func90, Tryz.ntmps90
  go_wp2_with fail
  refine (in_c _ _ _ _).mono ?_
  rintro e w' ⟨rfl, rfl⟩
  go_wp2_with fail
  go_ret
  exact ⟨ret_bool (by simp), rfl⟩
theorem not_any_allB (lo hi : Int) (zs : List Int) : (!zs.any fun v => !decide (lo ≤ v ∧ v ≤ hi)) = allB lo hi zs := by
  rw [Bool.eq_iff_iff]
  simp [allB]
set_option maxHeartbeats 400000 in
theorem allIn_c (zs : List Int) (lo hi : Int) (A : Option Addr) (n c : Nat) (w : World) (hN : zs.length = n) (h : Rd w A (zs.map (.int .i64))) (hn : n ≤ 1099511627776) :
    Calls Tryz.prog 61 #[.slice A n c, .int .i64 lo, .int .i64 hi] w fun e w' => e = .returned (.bool (allB lo hi zs)) ∧ Below w.heap.size w w' := by
  have HN := Lib.hid hN; clear hN
  have H := Lib.hid h; clear h
  have HA := Lib.hid (not_any_allB lo hi zs)
  go_enter Tryz.func61, Tryz.ntmps61
  go_wp2_with fail
  refine (containsFuncI_c (fun v => !decide (lo ≤ v ∧ v ≤ hi)) _ _ zs _ _ _ _ HN.out ((H.out.alloc _).alloc _) hn (fun v hv => allIn1_c v lo hi _ _ _ (by go_simp) (by go_simp))).mono ?_
  rintro e w' ⟨rfl, rfl⟩
  go_wp2_with fail
  go_ret
  exact ⟨ret_bool (by simpa using HA.out), ((Below.refl _ _).alloc (Nat.le_refl _) _).alloc (by simp) _⟩
set_option maxHeartbeats 1000000 in
theorem sAllIn_c (zs : List Int) (lo hi : Int) (A : Option Addr) (n c : Nat) (w : World) (hN : zs.length = n) (h : Rd w A (zs.map (.int .i64))) (hn : n ≤ 1099511627776) :
    Calls Tryz.prog 74 #[.slice A n c, .int .i64 lo, .int .i64 hi] w fun e w' => e = .returned (.bool (allB lo hi zs)) ∧ w = w' := by
  have HN := Lib.hid hN; clear hN
  have H := Lib.hid h; clear h
  go_enter Tryz.func74, Tryz.ntmps74
  go_wp2_with fail
  go_loop [7] (fun i => ∃ j : Nat, j ≤ n ∧ i = .int .i64 j ∧ allB lo hi (zs.take j) = true) (fun i => n - (intOf i).toNat)
  case atStart => exact ⟨0, Nat.zero_le _, rfl, rfl⟩
  case round =>
    obtain ⟨j, hj, rfl, hs⟩ := hrel
    have HS := Lib.hid hs; clear hs
    by_cases hlt : j < n
    · have hjz : j < zs.length := by have := HN.out; omega
      obtain ⟨b, off, hA, hc⟩ := H.out (by simp; omega)
      subst hA
      obtain ⟨x, hX⟩ : ∃ x, x = zs[j] := ⟨_, rfl⟩
      have hx : w.cell? ⟨b, off + j, none⟩ = some (.int .i64 x) := hc j _ (by simp [hX, hjz])
      have HX := Lib.hid hX
      have HC := Lib.hid hc
      clear hX hc
      have ht : allB lo hi (zs.take (j + 1)) = (decide (lo ≤ x) && decide (x ≤ hi)) := by
        rw [List.take_succ_eq_append_getElem hjz, allB_snoc, HS.out, HX.out]; simp
      have HT := Lib.hid ht; clear ht
      by_cases hin : lo ≤ x ∧ x ≤ hi
      · go_wp2_with fail
        refine (inRange_c _ _ _ _).mono ?_
        rw [decide_eq_true hin]
        rintro e w' ⟨rfl, rfl⟩
        go_wp2_with fail
        go_round
        case rel => exact ⟨j + 1, by omega, by go_num, by rw [HT.out]; simp [hin.1, hin.2]⟩
        case measure => simp [intOf]; omega
      · go_wp2_with fail
        refine (inRange_c _ _ _ _).mono ?_
        rw [decide_eq_false hin]
        rintro e w' ⟨rfl, rfl⟩
        go_wp2_with fail
        go_ret
        refine ⟨ret_bool ?_, rfl⟩
        refine (Bool.eq_false_iff.2 fun e => hin ?_).symm
        rw [allB_iff] at e
        have := e zs[j] (List.getElem_mem hjz)
        rw [← HX.out] at this
        exact this
    · obtain rfl : j = n := by omega
      go_wp2_with fail
      go_ret
      refine ⟨ret_bool ?_, rfl⟩
      have h1 := HS.out
      rw [List.take_of_length_le (by rw [HN.out]; omega)] at h1
      exact h1.symm
end Go.Proofs.YtnmgnhpagnjhlaaGreatDoor
