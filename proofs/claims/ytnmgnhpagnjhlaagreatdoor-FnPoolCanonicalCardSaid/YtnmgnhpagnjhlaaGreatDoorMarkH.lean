/- What is held is marked and looked at again. -/
import Derived.Test.YtnmgnhpagnjhlaaGreatDoorHolds
set_option linter.unusedVariables false
set_option linter.unusedSimpArgs false
set_option linter.unnecessarySimpa false
namespace Go.Proofs.YtnmgnhpagnjhlaaGreatDoor
open Go.RowKit

/-- The marks: running numbers. -/
def mkP (k : Nat) : Nat → List Pr
  | 0 => []
  | n + 1 => mkP k n ++ [(((k + 2 * n : Nat) : Int), ((k + 2 * n + 1 : Nat) : Int))]
theorem mkP_len (k : Nat) : ∀ n, (mkP k n).length = n
  | 0 => rfl
  | n + 1 => by simp [mkP, mkP_len k n]
theorem mkP_get (k : Nat) : ∀ (n j : Nat) (h : j < (mkP k n).length), (mkP k n)[j] = (((k + 2 * j : Nat) : Int), ((k + 2 * j + 1 : Nat) : Int))
  | 0, j, h => by simp [mkP] at h
  | n + 1, j, h => by
    rw [mkP_len] at h
    simp only [mkP]
    by_cases hj : j < n
    · rw [List.getElem_append_left (by rw [mkP_len]; exact hj)]
      exact mkP_get k n j _
    · have : j = n := by omega
      subst this
      rw [List.getElem_append_right (by rw [mkP_len]; exact Nat.le_refl _)]
      simp [mkP_len]
set_option maxRecDepth 100000 in
set_option maxHeartbeats 2000000 in
theorem markS_c (B : Nat) (xs : List Pr) (k0 : Nat) (A : Option Addr) (n c : Nat) (w : World) (hN : xs.length = n) (h : Row w B 48 2 A n c (sc xs)) (hn : n ≤ 1073741824) (hk0 : k0 ≤ 1073741824) :
    Calls Tryz.prog 51 #[.slice A n c, .int .i64 k0] w fun e w' => e = .returned (.int .i64 (k0 + 2 * n : Nat)) ∧ Row w' B 48 2 A n c (sc (mkP k0 n)) ∧ w.grownBy w' (rb A c) := by
  have HN := Lib.hid hN; have H := Lib.hid h; clear hN h
  go_enter Tryz.func51, Tryz.ntmps51
  go_wp2_with fail
  go_loopw [1, 5] (fun m i wr => ∃ j : Nat, j ≤ n ∧ i = .int .i64 j ∧ m = .int .i64 (k0 + 2 * j : Nat) ∧ Row wr B 48 2 A n c (sc (mkP k0 j) ++ (sc xs).drop (j * 2)) ∧ w.grownBy wr (rb A c)) (fun _ i _ => n - (intOf i).toNat)
  case atStart => exact ⟨0, Nat.zero_le _, rfl, rfl, by simpa [mkP, sc] using H.out, World.grownBy.refl _ _⟩
  case round =>
    obtain ⟨j, hj, rfl, rfl, row, hg⟩ := hrel
    obtain ⟨m, hm⟩ : ∃ m, m = k0 + 2 * j := ⟨_, rfl⟩
    rw [← hm]
    have hm1 : m ≤ 4294967296 := by omega
    by_cases hlt : j < n
    · obtain ⟨g, off, hA, hBg, hlg, hrb⟩ := row.form (by omega)
      subst hA
      have hsl : (sc (mkP k0 j)).length = j * 2 := by rw [sc_len, mkP_len]
      obtain ⟨z0, z1, hz⟩ := drop_two (sc xs) j n (by rw [sc_len, HN.out]) hlt
      have ho1 : wr.cell? ⟨g, off + j * 2, none⟩ = some z0 := row.cell (j := j * 2) (u := z0) (by rw [List.getElem?_append_right (by omega), hsl, hz]; simp)
      have ho2 : wr.cell? ⟨g, off + j * 2 + 1, none⟩ = some z1 := by
        have := row.cell (j := j * 2 + 1) (u := z1) (by rw [List.getElem?_append_right (by omega), hsl, hz]; simp [show j * 2 + 1 - j * 2 = 1 by omega])
        rwa [← Nat.add_assoc] at this
      have hf1 : wr.frozen? ⟨g, off + j * 2, none⟩ = false := row.frozen (by omega) _
      have hf2 : wr.frozen? ⟨g, off + j * 2 + 1, none⟩ = false := row.frozen (by omega) _
      have fin : Row ((wr.setCell ⟨g, off + j * 2, none⟩ (.int .i64 m)).setCell ⟨g, off + j * 2 + 1, none⟩ (.int .i64 ((m : Int) + 1))) B 48 2 (some ⟨g, off, none⟩) n c (sc (mkP k0 (j + 1)) ++ (sc xs).drop ((j + 1) * 2)) ∧ w.grownBy ((wr.setCell ⟨g, off + j * 2, none⟩ (.int .i64 m)).setCell ⟨g, off + j * 2 + 1, none⟩ (.int .i64 ((m : Int) + 1))) (rb (some ⟨g, off, none⟩) c) := by
        constructor
        · have h1 := (row.store (j * 2) (.int .i64 m) (by omega)).store (j * 2 + 1) (.int .i64 ((m : Int) + 1)) (by omega)
          have h2 := set_two (sc (mkP k0 j)) z0 z1 (.int .i64 m) (.int .i64 ((m : Int) + 1)) ((sc xs).drop ((j + 1) * 2))
          rw [hsl] at h2
          rw [hz, h2, ← Nat.add_assoc] at h1
          have e : sc (mkP k0 (j + 1)) = sc (mkP k0 j) ++ [.int .i64 m, .int .i64 ((m : Int) + 1)] := by
            rw [mkP, sc_append, hm]; simp [sc]
          rw [e]
          exact h1
        · rw [hrb] at hg ⊢
          exact only_setCell (only_setCell hg (.inl rfl) _) (.inl rfl) _
      have FIN := Lib.hid fin; have HM := Lib.hid hm
      clear fin row hg hsl hz hrb hm
      go_wp2_with fail
      go_roundw
      case rel => exact ⟨j + 1, by omega, by go_num, by rw [HM.out]; first | rfl | (congr 1; omega), FIN.out⟩
      case measure => simp [intOf]; omega
    · obtain rfl : j = n := by omega
      have fin : Row wr B 48 2 A j c (sc (mkP k0 j)) := by
        rw [List.drop_of_length_le (by rw [sc_len, HN.out]; exact Nat.le_refl _), List.append_nil] at row
        exact row
      have FIN := Lib.hid fin; have HG := Lib.hid hg; have HM := Lib.hid hm
      clear fin row hg hm
      go_wp2_with fail
      go_ret
      exact ⟨by rw [← HM.out]; rfl, FIN.out, HG.out⟩
set_option maxRecDepth 100000 in
set_option maxHeartbeats 2000000 in
theorem heldS_c (k0 : Nat) (A : Option Addr) (n c : Nat) (w : World) (h : Rd w A (sc (mkP k0 n))) (hn : n ≤ 1073741824) (hk0 : k0 ≤ 1073741824) :
    Calls Tryz.prog 53 #[.slice A n c, .int .i64 k0] w fun e w' => e = .returned (.int .i64 (k0 + 2 * n : Nat)) ∧ w = w' := by
  have H := Lib.hid h; clear h
  go_enter Tryz.func53, Tryz.ntmps53
  go_wp2_with fail
  go_loopw [1, 5] (fun m i wr => ∃ j : Nat, j ≤ n ∧ i = .int .i64 j ∧ m = .int .i64 (k0 + 2 * j : Nat) ∧ wr = w) (fun _ i _ => n - (intOf i).toNat)
  case atStart => exact ⟨0, Nat.zero_le _, rfl, rfl, rfl⟩
  case round =>
    obtain ⟨j, hj, rfl, rfl, hw⟩ := hrel
    subst hw
    obtain ⟨m, hm⟩ : ∃ m, m = k0 + 2 * j := ⟨_, rfl⟩
    rw [← hm]
    have hm1 : m ≤ 4294967296 := by omega
    by_cases hlt : j < n
    · obtain ⟨b, off, hA, hbl, hc⟩ := sc_pair H.out (by rw [mkP_len]; omega)
      subst hA
      obtain ⟨hc1, hc2⟩ := hc j (by rw [mkP_len]; exact hlt)
      rw [mkP_get] at hc1 hc2
      simp only at hc1 hc2
      rw [← hm] at hc1 hc2
      have hc2' : wr.cell? ⟨b, off + j * 2 + 1, none⟩ = some (.int .i64 ((m : Int) + 1)) := by rw [hc2]; congr 2
      have HM := Lib.hid hm
      clear hc hc2 hm
      go_wp2_with fail
      go_roundw
      case rel => exact ⟨j + 1, by omega, by go_num, by rw [HM.out]; first | rfl | (congr 1; omega), by first | rfl | trivial⟩
      case measure => simp [intOf]; omega
    · obtain rfl : j = n := by omega
      have HM := Lib.hid hm
      clear hm
      go_wp2_with fail
      go_ret
      exact ⟨by rw [← HM.out]; rfl, by first | rfl | trivial⟩
set_option maxRecDepth 100000 in
set_option maxHeartbeats 2000000 in
theorem equalSets_c (xs : List Pr) (A B : Option Addr) (n c d : Nat) (w : World) (hN : xs.length = n) (h : Rd w A (sc xs)) (h' : Rd w B (sc xs)) (hn : n ≤ 1073741824) :
    Calls Tryz.prog 43 #[.slice A n c, .slice B n d] w fun e w' => e = .returned (.bool true) ∧ Below w.heap.size w w' := by
  have HN := Lib.hid hN; clear hN
  have H := Lib.hid h; have H' := Lib.hid h'; clear h h'
  go_enter Tryz.func43, Tryz.ntmps43
  go_wp2_with fail
  go_loopw [5] (fun i wr => ∃ k q : Nat, k ≤ n ∧ i = .int .i64 k ∧ wr = w.drewN q) (fun i _ => n - (intOf i).toNat)
  case atStart => exact ⟨0, 0, Nat.zero_le _, rfl, rfl⟩
  case round =>
    obtain ⟨k, q, hk, rfl, rfl⟩ := hrel
    by_cases hlt : k < n
    · have hkx : k < xs.length := by have := HN.out; omega
      obtain ⟨b, off, hA, hbl, hc⟩ := sc_pair H.out (by omega)
      obtain ⟨b', off', hA', hbl', hc'⟩ := sc_pair H'.out (by omega)
      subst hA hA'
      obtain ⟨hc1, hc2⟩ := hc k hkx
      obtain ⟨hd1, hd2⟩ := hc' k hkx
      obtain ⟨⟨x, y⟩, hX⟩ : ∃ x, x = xs[k] := ⟨_, rfl⟩
      rw [← hX] at hc1 hc2 hd1 hd2
      clear hc hc' hX
      go_wp2
      go_quiet (fail)
      go_wp2
      go_roundw
      case rel => exact ⟨k + 1, q + nq, by omega, by go_num, by first | rfl | exact World.drewN_drewN _ _ _⟩
      case measure => simp [intOf]; omega
    · obtain rfl : k = n := by omega
      go_wp2_with fail
      go_ret
      exact ⟨rfl, below_drewN (Below.refl _ _) _⟩
end Go.Proofs.YtnmgnhpagnjhlaaGreatDoor
