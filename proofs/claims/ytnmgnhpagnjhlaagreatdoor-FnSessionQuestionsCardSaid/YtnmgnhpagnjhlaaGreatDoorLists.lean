/- Contracts of the laws' own list functions: copies, comparisons, marks. -/
import Derived.Test.YtnmgnhpagnjhlaaGreatDoorProg
import Derived.Test.YtnmgnhpagnjhlaaGreatDoorBase
set_option linter.unusedVariables false
set_option linter.unusedSimpArgs false
namespace Go.Proofs.YtnmgnhpagnjhlaaGreatDoor
open Go.RowKit

/-- k, k + 1, .. : n numbers. -/
def runFrom (k : Int) (n : Nat) : List Int := (List.range n).map fun i => k + (i : Nat)
theorem runFrom_length (k : Int) (n : Nat) : (runFrom k n).length = n := by simp [runFrom]
theorem runFrom_succ (k : Int) (n : Nat) : runFrom k (n + 1) = runFrom k n ++ [k + n] := by simp [runFrom, List.range_succ]
theorem runFrom_get (k : Int) (n i : Nat) (h : i < n) : (runFrom k n)[i]? = some (k + i) := by simp [runFrom, h]

set_option maxHeartbeats 1000000 in
theorem eqInts_c (xs ys : List Int) (A B : Option Addr) (n m c d : Nat) (w : World) (hN : xs.length = n) (hM : ys.length = m) (h : Rd w A (xs.map (Value.int .i64))) (h' : Rd w B (ys.map (Value.int .i64))) (hn : n ≤ 1099511627776) (hm : m ≤ 1099511627776) :
    Calls Tryz.prog 48 #[.slice A n c, .slice B m d] w fun e w' => e = .returned (.bool (decide (xs = ys))) ∧ ∃ k, w' = w.drewN k := by
  have HN := Lib.hid hN; clear hN
  have HM := Lib.hid hM; clear hM
  have H := Lib.hid h; clear h
  have H' := Lib.hid h'; clear h'
  by_cases hnm : n = m
  · subst hnm
    go_enter Tryz.func48, Tryz.ntmps48
    go_wp2_with fail
    go_loopw [5] (fun i wr => ∃ k q : Nat, k ≤ n ∧ i = .int .i64 k ∧ wr = w.drewN q ∧ ∀ j, j < k → xs[j]? = ys[j]?) (fun i _ => n - (intOf i).toNat)
    case atStart => exact ⟨0, 0, Nat.zero_le _, rfl, rfl, fun j hj => absurd hj (by omega)⟩
    case round =>
      obtain ⟨k, q, hk, rfl, rfl, hs⟩ := hrel
      have HS := Lib.hid hs; clear hs
      by_cases hlt : k < n
      · have hkx : k < xs.length := by have := HN.out; omega
        have hky : k < ys.length := by have := HM.out; omega
        obtain ⟨b, off, hA, hc⟩ := H.out (by simp; omega)
        obtain ⟨b', off', hB, hc'⟩ := H'.out (by simp; omega)
        subst hA hB
        obtain ⟨x, hX⟩ : ∃ x, x = xs[k] := ⟨_, rfl⟩
        obtain ⟨y, hY⟩ : ∃ y, y = ys[k] := ⟨_, rfl⟩
        have hx : w.cell? ⟨b, off + k, none⟩ = some ((Value.int .i64) x) := hc _ _ (by simp [hX])
        have hy : w.cell? ⟨b', off' + k, none⟩ = some ((Value.int .i64) y) := hc' _ _ (by simp [hY])
        have HC := Lib.hid hc; clear hc
        have HC' := Lib.hid hc'; clear hc'
        have HX := Lib.hid hX; clear hX
        have HY := Lib.hid hY; clear hY
        by_cases hxy : x = y
        · subst hxy
          go_wp2
          go_quiet (fail)
          go_wp2
          go_roundw
          case rel =>
            refine ⟨k + 1, q + nq, by omega, by go_num, rfl, fun j hj => ?_⟩
            rcases Nat.lt_or_ge j k with hj' | hj'
            · exact HS.out j hj'
            · obtain rfl : j = k := by omega
              rw [List.getElem?_eq_getElem hkx, List.getElem?_eq_getElem hky, ← HX.out, ← HY.out]
          case measure => simp [intOf]; omega
        · have hne : (x != y) = true := by simpa using hxy
          have hne' : (x == y) = false := by simpa using hxy
          have HXY := Lib.hid hxy; clear hxy
          go_wp2
          go_quiet (fail)
          go_wp2
          go_ret
          refine ⟨ret_bool ?_, q + nq, World.drewN_drewN _ _ _⟩
          refine (decide_eq_false fun e => HXY.out ?_).symm
          rw [HX.out, HY.out]
          simp [e]
      · obtain rfl : k = n := by omega
        go_wp2
        go_ret
        refine ⟨ret_bool ?_, q, rfl⟩
        refine (decide_eq_true (List.ext_getElem? fun j => ?_)).symm
        have h1 := HN.out
        have h2 := HM.out
        rcases Nat.lt_or_ge j k with hj' | hj'
        · exact HS.out j hj'
        · rw [List.getElem?_eq_none (by omega), List.getElem?_eq_none (by omega)]
  · have hne : ((n : Int) != (m : Int)) = true := by rw [bne_iff_ne]; omega
    have hne' : ((n : Int) == (m : Int)) = false := by simp; omega
    have HNM := Lib.hid hnm; clear hnm
    go_enter Tryz.func48, Tryz.ntmps48
    go_wp2
    go_ret
    refine ⟨ret_bool ?_, 0, rfl⟩
    refine (decide_eq_false fun e => HNM.out ?_).symm
    rw [← HN.out, ← HM.out, e]

set_option maxHeartbeats 1000000 in
theorem equalInts_c (xs ys : List Int) (A B : Option Addr) (n m c d : Nat) (w : World) (hN : xs.length = n) (hM : ys.length = m) (h : Rd w A (xs.map (Value.int .i64))) (h' : Rd w B (ys.map (Value.int .i64))) (hn : n ≤ 1099511627776) (hm : m ≤ 1099511627776) :
    Calls Tryz.prog 42 #[.slice A n c, .slice B m d] w fun e w' => e = .returned (.bool (decide (xs = ys))) ∧ ∃ k, w' = w.drewN k := by
  have HN := Lib.hid hN; clear hN
  have HM := Lib.hid hM; clear hM
  have H := Lib.hid h; clear h
  have H' := Lib.hid h'; clear h'
  by_cases hnm : n = m
  · subst hnm
    go_enter Tryz.func42, Tryz.ntmps42
    go_wp2_with fail
    go_loopw [5] (fun i wr => ∃ k q : Nat, k ≤ n ∧ i = .int .i64 k ∧ wr = w.drewN q ∧ ∀ j, j < k → xs[j]? = ys[j]?) (fun i _ => n - (intOf i).toNat)
    case atStart => exact ⟨0, 0, Nat.zero_le _, rfl, rfl, fun j hj => absurd hj (by omega)⟩
    case round =>
      obtain ⟨k, q, hk, rfl, rfl, hs⟩ := hrel
      have HS := Lib.hid hs; clear hs
      by_cases hlt : k < n
      · have hkx : k < xs.length := by have := HN.out; omega
        have hky : k < ys.length := by have := HM.out; omega
        obtain ⟨b, off, hA, hc⟩ := H.out (by simp; omega)
        obtain ⟨b', off', hB, hc'⟩ := H'.out (by simp; omega)
        subst hA hB
        obtain ⟨x, hX⟩ : ∃ x, x = xs[k] := ⟨_, rfl⟩
        obtain ⟨y, hY⟩ : ∃ y, y = ys[k] := ⟨_, rfl⟩
        have hx : w.cell? ⟨b, off + k, none⟩ = some ((Value.int .i64) x) := hc _ _ (by simp [hX])
        have hy : w.cell? ⟨b', off' + k, none⟩ = some ((Value.int .i64) y) := hc' _ _ (by simp [hY])
        have HC := Lib.hid hc; clear hc
        have HC' := Lib.hid hc'; clear hc'
        have HX := Lib.hid hX; clear hX
        have HY := Lib.hid hY; clear hY
        by_cases hxy : x = y
        · subst hxy
          go_wp2
          go_quiet (fail)
          go_wp2
          go_roundw
          case rel =>
            refine ⟨k + 1, q + nq, by omega, by go_num, rfl, fun j hj => ?_⟩
            rcases Nat.lt_or_ge j k with hj' | hj'
            · exact HS.out j hj'
            · obtain rfl : j = k := by omega
              rw [List.getElem?_eq_getElem hkx, List.getElem?_eq_getElem hky, ← HX.out, ← HY.out]
          case measure => simp [intOf]; omega
        · have hne : (x != y) = true := by simpa using hxy
          have hne' : (x == y) = false := by simpa using hxy
          have HXY := Lib.hid hxy; clear hxy
          go_wp2
          go_quiet (fail)
          go_wp2
          go_ret
          refine ⟨ret_bool ?_, q + nq, World.drewN_drewN _ _ _⟩
          refine (decide_eq_false fun e => HXY.out ?_).symm
          rw [HX.out, HY.out]
          simp [e]
      · obtain rfl : k = n := by omega
        go_wp2
        go_ret
        refine ⟨ret_bool ?_, q, rfl⟩
        refine (decide_eq_true (List.ext_getElem? fun j => ?_)).symm
        have h1 := HN.out
        have h2 := HM.out
        rcases Nat.lt_or_ge j k with hj' | hj'
        · exact HS.out j hj'
        · rw [List.getElem?_eq_none (by omega), List.getElem?_eq_none (by omega)]
  · have hne : ((n : Int) != (m : Int)) = true := by rw [bne_iff_ne]; omega
    have hne' : ((n : Int) == (m : Int)) = false := by simp; omega
    have HNM := Lib.hid hnm; clear hnm
    go_enter Tryz.func42, Tryz.ntmps42
    go_wp2
    go_ret
    refine ⟨ret_bool ?_, 0, rfl⟩
    refine (decide_eq_false fun e => HNM.out ?_).symm
    rw [← HN.out, ← HM.out, e]

set_option maxHeartbeats 1000000 in
theorem heldInts_c (k0 : Nat) (A : Option Addr) (n c : Nat) (w : World) (h : Rd w A ((runFrom k0 n).map (Value.int .i64))) (hn : n ≤ 1099511627776) (hk0 : k0 ≤ 1099511627776) :
    Calls Tryz.prog 52 #[.slice A n c, .int .i64 k0] w fun e w' => e = .returned (.int .i64 (k0 + n : Nat)) ∧ w = w' := by
  have H := Lib.hid h; clear h
  go_enter Tryz.func52, Tryz.ntmps52
  go_wp2_with fail
  go_loop [1, 5] (fun q i => ∃ k : Nat, k ≤ n ∧ i = .int .i64 k ∧ q = .int .i64 (k0 + k : Nat)) (fun _ i => n - (intOf i).toNat)
  case atStart => exact ⟨0, Nat.zero_le _, rfl, rfl⟩
  case round =>
    obtain ⟨k, hk, rfl, rfl⟩ := hrel
    by_cases hlt : k < n
    · obtain ⟨b, off, hA, hc⟩ := H.out (by simp [runFrom_length]; omega)
      subst hA
      have hx : w.cell? ⟨b, off + k, none⟩ = some (.int .i64 ((k0 + k : Nat) : Int)) := hc _ _ (by rw [List.getElem?_map, runFrom_get _ _ _ hlt]; simp)
      have HC := Lib.hid hc; clear hc
      go_wp2
      go_round
      case rel => exact ⟨k + 1, by omega, by go_num, by go_num⟩
      case measure => simp [intOf]; omega
    · obtain rfl : k = n := by omega
      go_wp2
      go_ret
      exact ⟨ret_int rfl, rfl⟩

/-- The row that is marked holds k0, k0 + 1, ..; nothing else has turned. -/
def RetMark (T : TypeId) (B : Nat) (k0 : Nat) (A : Option Addr) (n c : Nat) (w : World) (e : Ending) (w' : World) : Prop :=
  e = .returned (.int .i64 (k0 + n : Nat)) ∧ w'.ownsRow B T 1 (.slice A n c) n ((runFrom k0 n).map (Value.int .i64)) ∧ w.grownBy w' (Value.slice A n c).ownBlock
theorem set_mark (k0 k n : Nat) (zs : List Int) (hz : zs.length = n) (hk : k < n) :
    ((runFrom k0 k ++ zs.drop k).map (Value.int .i64)).set k (.int .i64 ((k0 + k : Nat) : Int)) = (runFrom k0 (k + 1) ++ zs.drop (k + 1)).map (Value.int .i64) := by
  obtain ⟨x, hx⟩ : ∃ x, zs.drop k = x :: zs.drop (k + 1) := ⟨_, List.drop_eq_getElem_cons (show k < zs.length by omega)⟩
  have hl := runFrom_length k0 k
  rw [runFrom_succ, hx]
  generalize zs.drop (k + 1) = r
  simp [hl]
set_option maxHeartbeats 1000000 in
theorem markInts_c (B : Nat) (zs : List Int) (k0 : Nat) (A : Option Addr) (n c : Nat) (w : World) (hN : zs.length = n) (h : w.ownsRow B 3 1 (.slice A n c) n (zs.map (Value.int .i64))) (hn : n ≤ 1099511627776) (hk0 : k0 ≤ 1099511627776) :
    Calls Tryz.prog 50 #[.slice A n c, .int .i64 k0] w (RetMark 3 B k0 A n c w) := by
  have HN := Lib.hid hN; clear hN
  rcases Nat.eq_zero_or_pos n with h0 | h0
  · subst h0
    have hz : zs = [] := List.eq_nil_of_length_eq_zero HN.out
    subst hz
    have fin : RetMark 3 B k0 A 0 c w (.returned (.int .i64 (k0 : Nat))) w := ⟨by simp, h, World.grownBy.refl _ _⟩
    have FIN := Lib.hid fin; clear fin h
    go_enter Tryz.func50, Tryz.ntmps50
    go_wp2_with fail
    go_loop [1, 5] (fun q i => q = .int .i64 (k0 : Nat) ∧ i = .int .i64 0) (fun _ i => 0)
    case atStart => exact ⟨rfl, rfl⟩
    case round =>
      obtain ⟨rfl, rfl⟩ := hrel
      go_wp2
      go_ret
      exact FIN.out
  · obtain ⟨g, cap, hv, hB, hlt⟩ := h.form h0
    obtain ⟨hA, hcc⟩ : A = some ⟨g, 0, none⟩ ∧ c = cap := by simpa using hv
    subst hA hcc
    have H := Lib.hid h; clear h hv
    go_enter Tryz.func50, Tryz.ntmps50
    go_wp2_with fail
    go_loopw [1, 5] (fun q i wr => ∃ k : Nat, k ≤ n ∧ i = .int .i64 k ∧ q = .int .i64 (k0 + k : Nat) ∧ wr.ownsRow B 3 1 (.slice (some ⟨g, 0, none⟩) n c) n ((runFrom k0 k ++ zs.drop k).map (Value.int .i64)) ∧ w.grownBy wr (some g)) (fun _ i _ => n - (intOf i).toNat)
    case atStart => exact ⟨0, Nat.zero_le _, rfl, rfl, H.out, World.grownBy.refl _ _⟩
    case round =>
      obtain ⟨k, hk, rfl, rfl, hown, hg⟩ := hrel
      by_cases hlt' : k < n
      · have ho : ∃ u, wr.cell? ⟨g, k, none⟩ = some u := ⟨_, (hown.cellAt k (by omega)).trans (List.getElem?_eq_getElem (by have := HN.out; simp [runFrom_length]; omega))⟩
        obtain ⟨u, ho⟩ := ho
        have hfr : wr.frozen? ⟨g, k, none⟩ = false := hown.frozenAt k
        have fin : (wr.setCell ⟨g, k, none⟩ (.int .i64 ((k0 + k : Nat) : Int))).ownsRow B 3 1 (.slice (some ⟨g, 0, none⟩) n c) n ((runFrom k0 (k + 1) ++ zs.drop (k + 1)).map (Value.int .i64)) ∧ w.grownBy (wr.setCell ⟨g, k, none⟩ (.int .i64 ((k0 + k : Nat) : Int))) (some g) := by
          have h1 := (hown.stored k (.int .i64 ((k0 + k : Nat) : Int))).1
          rw [set_mark k0 k n zs HN.out hlt'] at h1
          exact ⟨h1, only_setCell hg (.inl rfl) _⟩
        have FIN := Lib.hid fin; clear fin hown hg
        go_wp2
        go_roundw
        case rel => exact ⟨k + 1, by omega, by go_num, by go_num, FIN.out⟩
        case measure => simp [intOf]; omega
      · obtain rfl : k = n := by omega
        have fin : RetMark 3 B k0 (some ⟨g, 0, none⟩) k c w (.returned (.int .i64 (k0 + k : Nat))) wr := by
          refine ⟨rfl, ?_, hg⟩
          rw [List.drop_of_length_le (by rw [HN.out]; omega)] at hown
          simpa using hown
        have FIN := Lib.hid fin; clear fin hown hg
        go_wp2
        go_ret
        exact FIN.out

end Go.Proofs.YtnmgnhpagnjhlaaGreatDoor
