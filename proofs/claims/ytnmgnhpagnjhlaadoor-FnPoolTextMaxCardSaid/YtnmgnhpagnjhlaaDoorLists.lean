/- Contracts of the laws' own list functions: copies, comparisons, marks. -/
import Derived.Test.YtnmgnhpagnjhlaaDoorProg
import Derived.Test.YtnmgnhpagnjhlaaDoorBase
set_option linter.unusedVariables false
set_option linter.unusedSimpArgs false
namespace Go.Proofs.YtnmgnhpagnjhlaaDoor
open Go.RowKit

/-- k, k + 1, .. : n numbers. -/
def runFrom (k : Int) (n : Nat) : List Int := (List.range n).map fun i => k + (i : Nat)
theorem runFrom_length (k : Int) (n : Nat) : (runFrom k n).length = n := by simp [runFrom]
theorem runFrom_succ (k : Int) (n : Nat) : runFrom k (n + 1) = runFrom k n ++ [k + n] := by simp [runFrom, List.range_succ]
theorem runFrom_get (k : Int) (n i : Nat) (h : i < n) : (runFrom k n)[i]? = some (k + i) := by simp [runFrom, h]

set_option maxHeartbeats 1000000 in
theorem eqInts_c (xs ys : List Int) (A B : Option Addr) (n m c d : Nat) (w : World) (hN : xs.length = n) (hM : ys.length = m) (h : Rd w A (xs.map (Value.int .i64))) (h' : Rd w B (ys.map (Value.int .i64))) (hn : n ≤ 1099511627776) (hm : m ≤ 1099511627776) :
    Calls Tryd.prog 22 #[.slice A n c, .slice B m d] w fun e w' => e = .returned (.bool (decide (xs = ys))) ∧ ∃ k, w' = w.drewN k := by
  have HN := Lib.hid hN; clear hN
  have HM := Lib.hid hM; clear hM
  have H := Lib.hid h; clear h
  have H' := Lib.hid h'; clear h'
  by_cases hnm : n = m
  · subst hnm
    go_enter Tryd.func22, Tryd.ntmps22
    go_wp2_with fail
    go_loopw [5] (fun i wr => ∃ k q : Nat, k ≤ n ∧ i = .int .i64 k ∧ wr = w.drewN q ∧ ∀ j, j < k → xs[j]? = ys[j]?) (fun i _ => n - (intOf i).toNat)
    case atStart => exact ⟨0, 0, Nat.zero_le _, rfl, rfl, fun j hj => absurd hj (by omega)⟩
    case round =>
      obtain ⟨k, q, hk, rfl, rfl, hs⟩ := hrel
      have HS := Lib.hid hs; clear hs
      by_cases hlt : k < n
      · have hkx : k < xs.length := by have := HN.out; omega
        have hky : k < ys.length := by have := HM.out; omega
        obtain ⟨b, off, hA, hc⟩ := H.out (by simp; omega)
        obtain ⟨b', off', hB, hc'⟩ := H'.out (by simp; omega)
        subst hA hB
        obtain ⟨x, hX⟩ : ∃ x, x = xs[k] := ⟨_, rfl⟩
        obtain ⟨y, hY⟩ : ∃ y, y = ys[k] := ⟨_, rfl⟩
        have hx : w.cell? ⟨b, off + k, none⟩ = some ((Value.int .i64) x) := hc _ _ (by simp [hX])
        have hy : w.cell? ⟨b', off' + k, none⟩ = some ((Value.int .i64) y) := hc' _ _ (by simp [hY])
        have HC := Lib.hid hc; clear hc
        have HC' := Lib.hid hc'; clear hc'
        have HX := Lib.hid hX; clear hX
        have HY := Lib.hid hY; clear hY
        by_cases hxy : x = y
        · subst hxy
          go_wp2
          go_quiet (fail)
          go_wp2
          go_roundw
          case rel =>
            refine ⟨k + 1, q + nq, by omega, by go_num, rfl, fun j hj => ?_⟩
            rcases Nat.lt_or_ge j k with hj' | hj'
            · exact HS.out j hj'
            · obtain rfl : j = k := by omega
              rw [List.getElem?_eq_getElem hkx, List.getElem?_eq_getElem hky, ← HX.out, ← HY.out]
          case measure => simp [intOf]; omega
        · have hne : (x != y) = true := by simpa using hxy
          have hne' : (x == y) = false := by simpa using hxy
          have HXY := Lib.hid hxy; clear hxy
          go_wp2
          go_quiet (fail)
          go_wp2
          go_ret
          refine ⟨ret_bool ?_, q + nq, World.drewN_drewN _ _ _⟩
          refine (decide_eq_false fun e => HXY.out ?_).symm
          rw [HX.out, HY.out]
          simp [e]
      · obtain rfl : k = n := by omega
        go_wp2
        go_ret
        refine ⟨ret_bool ?_, q, rfl⟩
        refine (decide_eq_true (List.ext_getElem? fun j => ?_)).symm
        have h1 := HN.out
        have h2 := HM.out
        rcases Nat.lt_or_ge j k with hj' | hj'
        · exact HS.out j hj'
        · rw [List.getElem?_eq_none (by omega), List.getElem?_eq_none (by omega)]
  · have hne : ((n : Int) != (m : Int)) = true := by rw [bne_iff_ne]; omega
    have hne' : ((n : Int) == (m : Int)) = false := by simp; omega
    have HNM := Lib.hid hnm; clear hnm
    go_enter Tryd.func22, Tryd.ntmps22
    go_wp2
    go_ret
    refine ⟨ret_bool ?_, 0, rfl⟩
    refine (decide_eq_false fun e => HNM.out ?_).symm
    rw [← HN.out, ← HM.out, e]

theorem set_mid_toInts_c (a b : List Int) (v : Int) (k : Nat) (hk : a.length = k) (hb : 0 < b.length) :
    ((a ++ b).map (Value.int .i64)).set k ((Value.int .i64) v) = ((a ++ [v]) ++ b.drop 1).map (Value.int .i64) := by
  subst hk
  cases b with
  | nil => simp at hb
  | cons x b => simp
/-- New memory that reads as this list is handed back; what was there is as it was. -/
def Ret_toInts_c (zs : List Int) (w : World) (e : Ending) (w' : World) : Prop :=
  ∃ A c, e = .returned (.slice A zs.length c) ∧ w'.ownsRow w.heap.size 3 1 (.slice A zs.length c) zs.length (zs.map (Value.int .i64)) ∧ Below w.heap.size w w'
theorem info_toInts_c : (Tryd.prog.info? 3).map (fun i => (i.zero, i.size, i.bytes)) = some (some ((Value.int .i64) 0), 1, 8) := by kernel_rfl
set_option maxHeartbeats 1000000 in
theorem toInts_c (xs : List Int) (A : Option Addr) (n c : Nat) (w : World) (hN : xs.length = n) (h : Rd w A (xs.map (Value.int .i64))) (hn : n ≤ 1073741824) :
    Calls Tryd.prog 16 #[.slice A n c] w (Ret_toInts_c xs w) := by
  have HN := Lib.hid hN; clear hN
  have H := Lib.hid h; clear h
  obtain ⟨i0, hi, hz0, hz1, hz2⟩ := info_parts info_toInts_c
  go_enter Tryd.func16, Tryd.ntmps16
  go_wp2_with (at_make; refine wpList_make_full _ rfl (.tmp 6) (.tmp 6) 22 rfl w.heap.size 3 i0 ((Value.int .i64) 0) 1 Tryd.underlying22 hi hz0 hz1 .i64 .i64 n n n rfl rfl rfl rfl ?b2 ?b3 ?b4 ?_)
  case b2 => rw [hz2]; omega
  case b3 => unfold maxLen; omega
  case b4 => exact Nat.le_refl _
  intro w1 hown1 hg1
  have hown1' : w1.ownsRow w.heap.size 3 1 (.slice (some ⟨w.heap.size, 0, none⟩) n n) n ((xs.take 0 ++ List.replicate (n - 0) 0).map (Value.int .i64)) := by
    have e : ((xs.take 0 ++ List.replicate (n - 0) 0).map (Value.int .i64)) = (madeCells #[(Value.int .i64) 0] n).toList := by
      rw [toList_madeCells_one]; simp
    rw [e]; exact hown1
  have hb1 : Below w.heap.size w w1 := (Below.refl _ _).grown hg1 (Nat.le_refl _) (fun k hk => by cases hk)
  clear hown1 hg1
  go_wp2_with fail
  go_loopw [4] (fun i wr => ∃ k : Nat, k ≤ n ∧ i = .int .i64 k ∧ wr.ownsRow w.heap.size 3 1 (.slice (some ⟨w.heap.size, 0, none⟩) n n) n ((xs.take k ++ List.replicate (n - k) 0).map (Value.int .i64)) ∧ Below w.heap.size w wr) (fun i _ => n - (intOf i).toNat)
  case atStart => exact ⟨0, Nat.zero_le _, rfl, hown1', hb1⟩
  case round =>
    clear hown1' hb1
    obtain ⟨k, hk, rfl, hown, hb⟩ := hrel
    by_cases hlt : k < n
    · have hkx : k < xs.length := by have := HN.out; omega
      obtain ⟨b, off, hA, hc⟩ := (H.out.below hb) (by simp; omega)
      subst hA
      obtain ⟨x, hX⟩ : ∃ x, x = xs[k] := ⟨_, rfl⟩
      have hx : wr.cell? ⟨b, off + k, none⟩ = some ((Value.int .i64) x) := hc _ _ (by simp [hX])
      clear hc
      have hlen : (xs.take k).length = k := by simp; omega
      have ho : wr.cell? ⟨w.heap.size, k, none⟩ = some ((Value.int .i64) 0) := by
        rw [hown.cellAt k (by omega)]
        rw [List.getElem?_map, List.getElem?_append_right (by omega), hlen, List.getElem?_replicate, if_pos (by omega)]
        rfl
      have hfr : wr.frozen? ⟨w.heap.size, k, none⟩ = false := hown.frozenAt k
      have fin : (wr.setCell ⟨w.heap.size, k, none⟩ ((Value.int .i64) x)).ownsRow w.heap.size 3 1 (.slice (some ⟨w.heap.size, 0, none⟩) n n) n ((xs.take (k + 1) ++ List.replicate (n - (k + 1)) 0).map (Value.int .i64)) ∧ Below w.heap.size w (wr.setCell ⟨w.heap.size, k, none⟩ ((Value.int .i64) x)) := by
        refine ⟨?_, hb.setCell (Nat.le_refl _) _⟩
        have h1 := (hown.stored k ((Value.int .i64) x)).1
        rw [set_mid_toInts_c _ _ x k hlen (by simp; omega)] at h1
        rw [List.take_succ_eq_append_getElem hkx, ← hX]
        rw [show n - (k + 1) = n - k - 1 by omega]
        simpa using h1
      have FIN := Lib.hid fin; clear fin hown hb hX hlen
      go_wp2
      go_roundw
      case rel => exact ⟨k + 1, by omega, by go_num, FIN.out⟩
      case measure => simp [intOf]; omega
    · obtain rfl : k = n := by omega
      have fin : Ret_toInts_c xs w (.returned (.slice (some ⟨w.heap.size, 0, none⟩) k k)) wr := by
        refine ⟨some ⟨w.heap.size, 0, none⟩, k, by rw [HN.out], ?_, hb⟩
        rw [HN.out]
        rw [List.take_of_length_le (by rw [HN.out]; omega)] at hown
        simpa using hown
      have FIN := Lib.hid fin; clear fin hown hb
      go_wp2
      go_ret
      exact FIN.out

end Go.Proofs.YtnmgnhpagnjhlaaDoor
