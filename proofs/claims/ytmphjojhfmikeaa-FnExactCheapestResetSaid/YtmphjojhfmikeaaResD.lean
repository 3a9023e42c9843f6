/- The values of names as an array, by the program. -/
import Derived.Test.YtmphjojhfmikeaaResC
set_option linter.unusedVariables false
set_option linter.unusedSimpArgs false
set_option linter.unnecessarySimpa false
namespace Go.Proofs.Ytmphjojhfmikeaa
open Go.RowKit

theorem valOf_snoc (m : Int) : ∀ (l : List Pr) (x : Pr), (∀ y ∈ l, y.1 ≠ x.1) → valOf m (l ++ [x]) = if x.1 = m then x.2 else valOf m l
  | [], x, _ => rfl
  | y :: l, x, h => by
    rw [List.cons_append]
    unfold valOf
    by_cases hy : y.1 = m
    · have hx : x.1 ≠ m := fun e => h y (by simp) (by rw [hy, e])
      rw [if_pos hy, if_neg hx, if_pos hy]
    · rw [if_neg hy, valOf_snoc m l x (fun z hz => h z (List.mem_cons_of_mem _ hz)), if_neg hy]
theorem validS_last : ∀ (l : Int) (xs : List Pr), validS l xs = true → ∀ y ∈ xs, y.1 ≤ lastD l xs
  | l, [], _, y, hy => by simp at hy
  | l, x :: xs, h, y, hy => by
    simp only [validS, okP, Bool.and_eq_true, decide_eq_true_eq] at h
    rcases List.mem_cons.1 hy with rfl | hy
    · have := validS_bd y.1 xs (by omega) h.2
      simp only [lastD]; omega
    · exact validS_last x.1 xs h.2 y hy
theorem take_diff (xs : List Pr) (hv : validS (-1) xs = true) (j : Nat) (h : j < xs.length) : ∀ y ∈ xs.take j, y.1 ≠ (xs[j]).1 := by
  have h1 : validS (-1) (xs.take j) = true := by
    cases hb : validS (-1) (xs.take j) with
    | true => rfl
    | false => rw [validS_false xs j hb] at hv; cases hv
  have h2 : validS (-1) (xs.take (j + 1)) = true := by
    cases hb : validS (-1) (xs.take (j + 1)) with
    | true => rfl
    | false => rw [validS_false xs (j + 1) hb] at hv; cases hv
  rw [validS_succ xs j h h1] at h2
  simp only [okP, Bool.and_eq_true, decide_eq_true_eq] at h2
  intro y hy
  have := validS_last (-1) _ h1 y hy
  omega
/-- The cells of an array of ten numbers. -/
def arr (a : List Int) : Array Value := (a.map (Value.int .i64)).toArray
theorem arr_set (a : List Int) (j : Nat) (v : Int) : (arr a).setIfInBounds j (.int .i64 v) = arr (a.set j v) := by
  unfold arr
  apply Array.ext'
  simp [List.map_set]
theorem arr_get (a : List Int) (j : Nat) (h : j < a.length) : (arr a)[j]? = some (.int .i64 a[j]) := by
  unfold arr
  simp [h]
def vArr (xs : List Pr) : Array Value := #[.int .i64 (valOf 0 xs), .int .i64 (valOf 1 xs), .int .i64 (valOf 2 xs), .int .i64 (valOf 3 xs), .int .i64 (valOf 4 xs), .int .i64 (valOf 5 xs), .int .i64 (valOf 6 xs), .int .i64 (valOf 7 xs), .int .i64 (valOf 8 xs), .int .i64 (valOf 9 xs)]
def zArr : Array Value := #[.int .i64 0, .int .i64 0, .int .i64 0, .int .i64 0, .int .i64 0, .int .i64 0, .int .i64 0, .int .i64 0, .int .i64 0, .int .i64 0]
theorem arr_vals (a : List Int) (xs : List Pr) (h10 : a.length = 10) (h : ∀ i : Nat, i < 10 → a[i]? = some (valOf (i : Int) xs)) : arr a = vArr xs := by
  match a, h10 with
  | [a0, a1, a2, a3, a4, a5, a6, a7, a8, a9], _ =>
    have e0 := h 0 (by omega); have e1 := h 1 (by omega); have e2 := h 2 (by omega); have e3 := h 3 (by omega); have e4 := h 4 (by omega)
    have e5 := h 5 (by omega); have e6 := h 6 (by omega); have e7 := h 7 (by omega); have e8 := h 8 (by omega); have e9 := h 9 (by omega)
    simp at e0 e1 e2 e3 e4 e5 e6 e7 e8 e9
    subst e0 e1 e2 e3 e4 e5 e6 e7 e8 e9
    rfl
theorem blk10 {w : World} {g : Nat} {t : TypeId} {a0 a1 a2 a3 a4 a5 a6 a7 a8 a9 : Value} (h : Blk w g t #[a0, a1, a2, a3, a4, a5, a6, a7, a8, a9]) :
    w.cell? ⟨g, 0, none⟩ = some a0 ∧ w.cell? ⟨g, 1, none⟩ = some a1 ∧ w.cell? ⟨g, 2, none⟩ = some a2 ∧ w.cell? ⟨g, 3, none⟩ = some a3 ∧ w.cell? ⟨g, 4, none⟩ = some a4 ∧ w.cell? ⟨g, 5, none⟩ = some a5 ∧ w.cell? ⟨g, 6, none⟩ = some a6 ∧ w.cell? ⟨g, 7, none⟩ = some a7 ∧ w.cell? ⟨g, 8, none⟩ = some a8 ∧ w.cell? ⟨g, 9, none⟩ = some a9 ∧ ∀ i, w.frozen? ⟨g, i, none⟩ = false :=
  ⟨h.cell 0, h.cell 1, h.cell 2, h.cell 3, h.cell 4, h.cell 5, h.cell 6, h.cell 7, h.cell 8, h.cell 9, h.frozen⟩
theorem blk_set10 {w : World} {g : Nat} {t : TypeId} {x0 x1 x2 x3 x4 x5 x6 x7 x8 x9 a0 a1 a2 a3 a4 a5 a6 a7 a8 a9 : Value} (h : Blk w g t #[x0, x1, x2, x3, x4, x5, x6, x7, x8, x9]) : Blk ((((((((((w.setCell ⟨g, 0, none⟩ a0).setCell ⟨g, 1, none⟩ a1).setCell ⟨g, 2, none⟩ a2).setCell ⟨g, 3, none⟩ a3).setCell ⟨g, 4, none⟩ a4).setCell ⟨g, 5, none⟩ a5).setCell ⟨g, 6, none⟩ a6).setCell ⟨g, 7, none⟩ a7).setCell ⟨g, 8, none⟩ a8).setCell ⟨g, 9, none⟩ a9) g t #[a0, a1, a2, a3, a4, a5, a6, a7, a8, a9] := by
  have h0 : Blk (w.setCell ⟨g, 0, none⟩ a0) g t #[a0, x1, x2, x3, x4, x5, x6, x7, x8, x9] := h.set_ 0 a0
  have h1 : Blk ((w.setCell ⟨g, 0, none⟩ a0).setCell ⟨g, 1, none⟩ a1) g t #[a0, a1, x2, x3, x4, x5, x6, x7, x8, x9] := h0.set_ 1 a1
  have h2 : Blk (((w.setCell ⟨g, 0, none⟩ a0).setCell ⟨g, 1, none⟩ a1).setCell ⟨g, 2, none⟩ a2) g t #[a0, a1, a2, x3, x4, x5, x6, x7, x8, x9] := h1.set_ 2 a2
  have h3 : Blk ((((w.setCell ⟨g, 0, none⟩ a0).setCell ⟨g, 1, none⟩ a1).setCell ⟨g, 2, none⟩ a2).setCell ⟨g, 3, none⟩ a3) g t #[a0, a1, a2, a3, x4, x5, x6, x7, x8, x9] := h2.set_ 3 a3
  have h4 : Blk (((((w.setCell ⟨g, 0, none⟩ a0).setCell ⟨g, 1, none⟩ a1).setCell ⟨g, 2, none⟩ a2).setCell ⟨g, 3, none⟩ a3).setCell ⟨g, 4, none⟩ a4) g t #[a0, a1, a2, a3, a4, x5, x6, x7, x8, x9] := h3.set_ 4 a4
  have h5 : Blk ((((((w.setCell ⟨g, 0, none⟩ a0).setCell ⟨g, 1, none⟩ a1).setCell ⟨g, 2, none⟩ a2).setCell ⟨g, 3, none⟩ a3).setCell ⟨g, 4, none⟩ a4).setCell ⟨g, 5, none⟩ a5) g t #[a0, a1, a2, a3, a4, a5, x6, x7, x8, x9] := h4.set_ 5 a5
  have h6 : Blk (((((((w.setCell ⟨g, 0, none⟩ a0).setCell ⟨g, 1, none⟩ a1).setCell ⟨g, 2, none⟩ a2).setCell ⟨g, 3, none⟩ a3).setCell ⟨g, 4, none⟩ a4).setCell ⟨g, 5, none⟩ a5).setCell ⟨g, 6, none⟩ a6) g t #[a0, a1, a2, a3, a4, a5, a6, x7, x8, x9] := h5.set_ 6 a6
  have h7 : Blk ((((((((w.setCell ⟨g, 0, none⟩ a0).setCell ⟨g, 1, none⟩ a1).setCell ⟨g, 2, none⟩ a2).setCell ⟨g, 3, none⟩ a3).setCell ⟨g, 4, none⟩ a4).setCell ⟨g, 5, none⟩ a5).setCell ⟨g, 6, none⟩ a6).setCell ⟨g, 7, none⟩ a7) g t #[a0, a1, a2, a3, a4, a5, a6, a7, x8, x9] := h6.set_ 7 a7
  have h8 : Blk (((((((((w.setCell ⟨g, 0, none⟩ a0).setCell ⟨g, 1, none⟩ a1).setCell ⟨g, 2, none⟩ a2).setCell ⟨g, 3, none⟩ a3).setCell ⟨g, 4, none⟩ a4).setCell ⟨g, 5, none⟩ a5).setCell ⟨g, 6, none⟩ a6).setCell ⟨g, 7, none⟩ a7).setCell ⟨g, 8, none⟩ a8) g t #[a0, a1, a2, a3, a4, a5, a6, a7, a8, x9] := h7.set_ 8 a8
  have h9 : Blk ((((((((((w.setCell ⟨g, 0, none⟩ a0).setCell ⟨g, 1, none⟩ a1).setCell ⟨g, 2, none⟩ a2).setCell ⟨g, 3, none⟩ a3).setCell ⟨g, 4, none⟩ a4).setCell ⟨g, 5, none⟩ a5).setCell ⟨g, 6, none⟩ a6).setCell ⟨g, 7, none⟩ a7).setCell ⟨g, 8, none⟩ a8).setCell ⟨g, 9, none⟩ a9) g t #[a0, a1, a2, a3, a4, a5, a6, a7, a8, a9] := h8.set_ 9 a9
  exact h9
set_option maxRecDepth 100000 in
set_option maxHeartbeats 4000000 in
theorem values_c (xs : List Pr) (A : Option Addr) (n c : Nat) (w : World) (hN : xs.length = n) (h : Rd w A (sc xs)) (hv : validS (-1) xs = true) (hn : n ≤ 10) :
    Calls Try.prog 21 #[.slice A n c] w fun e w' => e = .returned (.agg (vArr xs)) ∧ Below w.heap.size w w' := by
  have HN := Lib.hid hN; have H := Lib.hid h; have HV := Lib.hid hv; clear hN h hv
  go_enter Try.func21, Try.ntmps21
  go_wp2_with fail
  go_loopw [7] (fun i wr => ∃ (j : Nat) (a : List Int), j ≤ 10 ∧ i = .int .i64 j ∧ a.length = 10 ∧ (∀ i : Nat, i < j → a[i]? = some (-1)) ∧ Blk wr (w.heap.size + 1) 43 (arr a) ∧ Blk wr w.heap.size 43 zArr ∧ w.heap.size + 2 ≤ wr.heap.size ∧ Below w.heap.size w wr) (fun i _ => 10 - (intOf i).toNat)
  case atStart =>
    refine ⟨0, [0, 0, 0, 0, 0, 0, 0, 0, 0, 0], by omega, rfl, rfl, fun i hi => absurd hi (by omega), ?_, ?_, by simp, ?_⟩
    · have := Blk.new (w.alloc (.cells zArr 43)) 43 zArr
      simpa [arr, zArr] using this
    · exact (Blk.new w 43 zArr).alloc _
    · exact ((Below.refl _ _).alloc (Nat.le_refl _) _).alloc (by simp) _
  case round =>
    obtain ⟨j, a, hj, rfl, hal, hai, hb1, hb0, hsz, hb⟩ := hrel
    have HAI := Lib.hid hai; have HB1 := Lib.hid hb1; have HB0 := Lib.hid hb0; have HB := Lib.hid hb; have HAL := Lib.hid hal
    by_cases hlt : j < 10
    · have ho : wr.cell? ⟨w.heap.size + 1, j, none⟩ = some (.int .i64 (a[j]'(by omega))) := by rw [hb1.cell]; exact arr_get a j (by omega)
      obtain ⟨o, hoo⟩ : ∃ o, o = a[j]'(by omega) := ⟨_, rfl⟩
      rw [← hoo] at ho
      have hfz : wr.frozen? ⟨w.heap.size + 1, j, none⟩ = false := hb1.frozen j
      have fin : Blk (wr.setCell ⟨w.heap.size + 1, j, none⟩ (.int .i64 (-1))) (w.heap.size + 1) 43 (arr (a.set j (-1))) ∧ Blk (wr.setCell ⟨w.heap.size + 1, j, none⟩ (.int .i64 (-1))) w.heap.size 43 zArr ∧ w.heap.size + 2 ≤ (wr.setCell ⟨w.heap.size + 1, j, none⟩ (.int .i64 (-1))).heap.size ∧ Below w.heap.size w (wr.setCell ⟨w.heap.size + 1, j, none⟩ (.int .i64 (-1))) :=
        ⟨by rw [← arr_set]; exact hb1.set_ j _, hb0.far (by simp) _, by simpa [World.setCell] using hsz, hb.setCell (by simp) _⟩
      have hnx : ∀ i : Nat, i < j + 1 → (a.set j (-1))[i]? = some (-1) := by
        intro i hi
        by_cases hij : i = j
        · subst hij; rw [List.getElem?_set_self (by omega)]
        · rw [List.getElem?_set_ne (by omega)]; exact hai i (by omega)
      have hln : (a.set j (-1)).length = 10 := by rw [List.length_set, hal]
      have FIN := Lib.hid fin; have HNX := Lib.hid hnx; have HLN := Lib.hid hln
      clear fin hnx hln hoo hai hb1 hb0 hb hal
      go_wp2_with fail
      go_roundw
      case rel => exact ⟨j + 1, _, by omega, by go_num, HLN.out, HNX.out, FIN.out.1, FIN.out.2.1, FIN.out.2.2.1, FIN.out.2.2.2⟩
      case measure => simp [intOf]; omega
    · obtain rfl : j = 10 := by omega
      clear hai hb1 hb0 hb hal
      go_wp2_with fail
      go_loopw [15] (fun i wq => ∃ (j : Nat) (a : List Int), j ≤ n ∧ i = .int .i64 j ∧ a.length = 10 ∧ (∀ i : Nat, i < 10 → a[i]? = some (valOf (i : Int) (xs.take j))) ∧ Blk wq (w.heap.size + 1) 43 (arr a) ∧ Blk wq w.heap.size 43 zArr ∧ w.heap.size + 2 ≤ wq.heap.size ∧ Below w.heap.size w wq) (fun i _ => n - (intOf i).toNat)
      case atStart => exact ⟨0, a, Nat.zero_le _, rfl, HAL.out, fun i hi => by rw [HAI.out i hi]; rfl, HB1.out, HB0.out, hsz, HB.out⟩
      case round =>
        clear HAI HB1 HB0 HB HAL hsz
        obtain ⟨j, a, hj, rfl, hal, hai, hb1, hb0, hsz, hb⟩ := hrel
        have HAI := Lib.hid hai; have HB1 := Lib.hid hb1; have HB0 := Lib.hid hb0; have HB := Lib.hid hb; have HAL := Lib.hid hal
        by_cases hlt : j < n
        · have hjx : j < xs.length := by have := HN.out; omega
          obtain ⟨b, off, hA, hbl, hc⟩ := sc_pair (H.out.below hb) (by omega)
          subst hA
          obtain ⟨hc1, hc2⟩ := hc j hjx
          obtain ⟨⟨x, y⟩, hX⟩ : ∃ x, x = xs[j] := ⟨_, rfl⟩
          have hmem := validS_mem (-1) xs (by omega) HV.out _ (List.getElem_mem hjx)
          have hdf := take_diff xs HV.out j hjx
          have htk : xs.take (j + 1) = xs.take j ++ [(x, y)] := by rw [take_snoc xs j hjx, hX]
          rw [← hX] at hc1 hc2 hmem hdf
          obtain ⟨⟨hx0, hx1⟩, hy0, hy1⟩ := hmem
          simp only at hx0 hx1 hy0 hy1 hdf
          obtain ⟨p, rfl⟩ := Int.eq_ofNat_of_zero_le hx0
          simp only at hc1 hc2
          have hp9 : p ≤ 9 := by omega
          have hpi : (p : Int) < 10 := by omega
          have ho : wr.cell? ⟨w.heap.size + 1, p, none⟩ = some (.int .i64 (a[p]'(by omega))) := by rw [hb1.cell]; exact arr_get a p (by omega)
          obtain ⟨o, hoo⟩ : ∃ o, o = a[p]'(by omega) := ⟨_, rfl⟩
          rw [← hoo] at ho
          have hfz : wr.frozen? ⟨w.heap.size + 1, p, none⟩ = false := hb1.frozen p
          have hlt1 : w.heap.size + 1 < wr.heap.size := by omega
          have hne1 : ¬ w.heap.size + 1 = wr.heap.size := by omega
          have hne2 : ¬ wr.heap.size = w.heap.size + 1 := by omega
          have fin0 : Blk (wr.setCell ⟨w.heap.size + 1, p, none⟩ (.int .i64 y)) (w.heap.size + 1) 43 (arr (a.set p y)) ∧ Blk (wr.setCell ⟨w.heap.size + 1, p, none⟩ (.int .i64 y)) w.heap.size 43 zArr ∧ w.heap.size + 2 ≤ (wr.setCell ⟨w.heap.size + 1, p, none⟩ (.int .i64 y)).heap.size ∧ Below w.heap.size w (wr.setCell ⟨w.heap.size + 1, p, none⟩ (.int .i64 y)) :=
            ⟨by rw [← arr_set]; exact hb1.set_ p _, hb0.far (by simp) _, by simpa [World.setCell] using hsz, hb.setCell (by simp) _⟩
          have fin : ∀ O, Blk ((wr.setCell ⟨w.heap.size + 1, p, none⟩ (.int .i64 y)).alloc O) (w.heap.size + 1) 43 (arr (a.set p y)) ∧ Blk ((wr.setCell ⟨w.heap.size + 1, p, none⟩ (.int .i64 y)).alloc O) w.heap.size 43 zArr ∧ w.heap.size + 2 ≤ ((wr.setCell ⟨w.heap.size + 1, p, none⟩ (.int .i64 y)).alloc O).heap.size ∧ Below w.heap.size w ((wr.setCell ⟨w.heap.size + 1, p, none⟩ (.int .i64 y)).alloc O) := fun O =>
            ⟨fin0.1.alloc _, fin0.2.1.alloc _, by have := fin0.2.2.1; simp only [World.size_alloc] at *; omega, fin0.2.2.2.alloc fin0.2.2.2.size _⟩
          have hnx : ∀ i : Nat, i < 10 → (a.set p y)[i]? = some (valOf (i : Int) (xs.take (j + 1))) := by
            intro i hi
            rw [htk, valOf_snoc _ _ _ hdf]
            simp only
            by_cases hij : p = i
            · subst hij; rw [if_pos rfl, List.getElem?_set_self (by omega)]
            · rw [if_neg (by omega), List.getElem?_set_ne (by omega)]; exact hai i hi
          have hln : (a.set p y).length = 10 := by rw [List.length_set, hal]
          have FIN := Lib.hid fin; have HNX := Lib.hid hnx; have HLN := Lib.hid hln
          clear fin fin0 hnx hln hoo hai hb1 hb0 hb hal hc hdf htk hX
          go_wp2_with fail
          go_roundw
          case rel => exact ⟨j + 1, _, by omega, by go_num, HLN.out, HNX.out, (FIN.out _).1, (FIN.out _).2.1, (FIN.out _).2.2.1, (FIN.out _).2.2.2⟩
          case measure => simp [intOf]; omega
        · obtain rfl : j = n := by omega
          have hfull : xs.take j = xs := List.take_of_length_le (by rw [HN.out]; exact Nat.le_refl _)
          rw [hfull] at hai
          have he := arr_vals a xs hal hai
          rw [he] at hb1
          obtain ⟨v0, v1, v2, v3, v4, v5, v6, v7, v8, v9, vz⟩ := blk10 hb1
          obtain ⟨z0, z1, z2, z3, z4, z5, z6, z7, z8, z9, zz⟩ := blk10 hb0
          have VX := Lib.hid (show vArr xs = vArr xs from rfl)
          clear hfull hai he hb1 hb0 hb hal HAI
          go_wp2_with fail
          obtain ⟨W, hW⟩ : ∃ W, W = ((((((((((wr.setCell ⟨w.heap.size, 0, none⟩ (.int .i64 (valOf 0 xs))).setCell ⟨w.heap.size, 1, none⟩ (.int .i64 (valOf 1 xs))).setCell ⟨w.heap.size, 2, none⟩ (.int .i64 (valOf 2 xs))).setCell ⟨w.heap.size, 3, none⟩ (.int .i64 (valOf 3 xs))).setCell ⟨w.heap.size, 4, none⟩ (.int .i64 (valOf 4 xs))).setCell ⟨w.heap.size, 5, none⟩ (.int .i64 (valOf 5 xs))).setCell ⟨w.heap.size, 6, none⟩ (.int .i64 (valOf 6 xs))).setCell ⟨w.heap.size, 7, none⟩ (.int .i64 (valOf 7 xs))).setCell ⟨w.heap.size, 8, none⟩ (.int .i64 (valOf 8 xs))).setCell ⟨w.heap.size, 9, none⟩ (.int .i64 (valOf 9 xs))) := ⟨_, rfl⟩
          rw [← hW]
          have bw : Blk W w.heap.size 43 (vArr xs) := by rw [hW]; exact blk_set10 HB0.out
          have bel : Below w.heap.size w W := by rw [hW]; exact ((((((((((HB.out.setCell (Nat.le_refl _) _).setCell (Nat.le_refl _) _).setCell (Nat.le_refl _) _).setCell (Nat.le_refl _) _).setCell (Nat.le_refl _) _).setCell (Nat.le_refl _) _).setCell (Nat.le_refl _) _).setCell (Nat.le_refl _) _).setCell (Nat.le_refl _) _).setCell (Nat.le_refl _) _)
          obtain ⟨q0, q1, q2, q3, q4, q5, q6, q7, q8, q9, qz⟩ := blk10 bw
          clear hW bw v0 v1 v2 v3 v4 v5 v6 v7 v8 v9 vz z0 z1 z2 z3 z4 z5 z6 z7 z8 z9 zz HB0 HB1
          refine bodyPost_ret (v := .agg (vArr xs)) ?_ rfl ⟨rfl, bel⟩
          simp only [results, Try.results21]
          simp [go_sem]
          simp only [q0, q1, q2, q3, q4, q5, q6, q7, q8, q9, Result.andThen_ok]
          rfl
theorem blk_new_at (w : World) {g : Nat} (hg : g = w.heap.size) (t : TypeId) (cs : Array Value) : Blk (w.alloc (.cells cs t)) g t cs := by subst hg; exact Blk.new w t cs
theorem vArr_get (xs : List Pr) (k : Nat) (h : k < 10) : (vArr xs)[k]? = some (.int .i64 (valOf (k : Int) xs)) := by
  have : k = 0 ∨ k = 1 ∨ k = 2 ∨ k = 3 ∨ k = 4 ∨ k = 5 ∨ k = 6 ∨ k = 7 ∨ k = 8 ∨ k = 9 := by omega
  rcases this with rfl | rfl | rfl | rfl | rfl | rfl | rfl | rfl | rfl | rfl <;> rfl
theorem clipS_c (A : Option Addr) (n c : Nat) (w : World) (hc : n ≤ c) (hm : c ≤ maxLen) :
    Calls Try.prog 22 #[.slice A n c] w fun e w' => e = .returned (.slice A n n) ∧ w = w' := by
  unfold maxLen at hm
  go_enter Try.func22, Try.ntmps22
  go_wp2_with fail
  go_ret
  exact ⟨rfl, rfl⟩
set_option maxRecDepth 100000 in
set_option maxHeartbeats 4000000 in
theorem plan_c (xs ys : List Pr) (A B : Option Addr) (n c m d : Nat) (w : World) (hN : xs.length = n) (hM : ys.length = m) (h : Rd w A (sc xs)) (h' : Rd w B (sc ys)) (hx : validS (-1) xs = true) (hy : validS (-1) ys = true) (hn : n ≤ 10) (hm : m ≤ 10) :
    Calls Try.prog 16 #[.slice A n c, .slice B m d] w (RetPlan (planN xs ys) w) := by
  obtain ⟨i0, i0_i, i0_z0, i0_z1, i0_z2⟩ := info_parts setInfo
  have hvx : ∀ W, Rd W A (sc xs) → Calls Try.prog 21 #[.slice A n c] W fun e w' => e = .returned (.agg (vArr xs)) ∧ Below W.heap.size W w' := fun W hW => values_c xs A n c W hN hW hx hn
  have hvy : ∀ W, Rd W B (sc ys) → Calls Try.prog 21 #[.slice B m d] W fun e w' => e = .returned (.agg (vArr ys)) ∧ Below W.heap.size W w' := fun W hW => values_c ys B m d W hM hW hy hm
  have VX := Lib.hid hvx; have VY := Lib.hid hvy
  have H := Lib.hid h; have H' := Lib.hid h'
  clear hvx hvy h h' hN hM hx hy
  go_enter Try.func16, Try.ntmps16
  go_wp2_with fail
  refine (VX.out _ H.out).mono ?_
  rintro e w1 ⟨rfl, b1⟩
  have B1 := Lib.hid b1
  clear b1
  go_wp2_with fail
  refine (VY.out _ (H'.out.below B1.out)).mono ?_
  rintro e w2 ⟨rfl, b2⟩
  have B2 := Lib.hid (B1.out.trans (b2.mono B1.out.size))
  have hs2 := B2.out.size
  clear b2
  unfold vArr
  go_wp2_with fail
  go_loopw [7, 13] (fun o i wr => ∃ (k : Nat) (A2 : Option Addr) (c2 : Nat) (zs : List Pr), k ≤ 10 ∧ i = .int .i64 k ∧ o = .slice A2 (cntD xs ys k) c2 ∧ Row wr (w2.heap.size + 2) 37 2 A2 (cntD xs ys k) c2 (sc zs) ∧ Blk wr w2.heap.size 43 (vArr xs) ∧ Blk wr (w2.heap.size + 1) 43 (vArr ys) ∧ w2.heap.size + 2 ≤ wr.heap.size ∧ Below w.heap.size w wr) (fun _ i _ => 10 - (intOf i).toNat)
  case atStart => exact ⟨0, none, 0, [], Nat.zero_le _, rfl, rfl, Row.nil _ _ _ _ _, (Blk.new w2 43 (vArr xs)).alloc _, blk_new_at (w2.alloc (.cells (vArr xs) 43)) (by simp) 43 (vArr ys), by simp, (B2.out.alloc hs2 _).alloc (by simp <;> omega) _⟩
  case round =>
    obtain ⟨k, A2, c2, zs, hk, rfl, rfl, row, hbx, hby, hsz, hb⟩ := hrel
    have ROW := Lib.hid row; have HBX := Lib.hid hbx; have HBY := Lib.hid hby; have HB := Lib.hid hb
    have hcl := cntD_le xs ys k
    have hcs : cntD xs ys (k + 1) = cntD xs ys k + (if valOf (k : Int) xs = valOf (k : Int) ys then 0 else 1) := rfl
    obtain ⟨q, hq⟩ : ∃ q, q = cntD xs ys k := ⟨_, rfl⟩
    rw [← hq] at hcl hcs ROW
    rw [← hq]
    by_cases hlt : k < 10
    · have hcx : wr.cell? ⟨w2.heap.size, k, none⟩ = some (.int .i64 (valOf (k : Int) xs)) := by rw [hbx.cell]; exact vArr_get xs k hlt
      have hcy : wr.cell? ⟨w2.heap.size + 1, k, none⟩ = some (.int .i64 (valOf (k : Int) ys)) := by rw [hby.cell]; exact vArr_get ys k hlt
      obtain ⟨x, hx⟩ : ∃ x, x = valOf (k : Int) xs := ⟨_, rfl⟩
      obtain ⟨y, hy⟩ : ∃ y, y = valOf (k : Int) ys := ⟨_, rfl⟩
      rw [← hx] at hcx hcs
      rw [← hy] at hcy hcs
      have HCS := Lib.hid hcs
      have hki : (k : Int) < 10 := by omega
      clear row hbx hby hb hx hy hcs hq
      by_cases hxy : x = y
      · have HC1 := Lib.hid (show cntD xs ys (k + 1) = q by rw [HCS.out, if_pos hxy]; rfl)
        subst hxy
        clear HCS
        go_wp2
        go_quiet (fail)
        go_wp2
        go_roundw
        case rel => exact ⟨k + 1, A2, c2, zs, by omega, by go_num, by rw [HC1.out], by rw [HC1.out]; exact ROW.out.drewN _, HBX.out.drewN _, HBY.out.drewN _, hsz, below_drewN HB.out _⟩
        case measure => simp [intOf]; omega
      · have hd : (x == y) = false := by simpa using hxy
        have hd' : (x != y) = true := by simp [hxy]
        have HXY := Lib.hid hxy
        clear hxy
        go_wp2
        go_quiet (fail)
        go_wp2_with (at_builtin; (refine wpList_append_row _ rfl (.tmp 23) (.tmp 29) 29 rfl (w2.heap.size + 2) 37 i0 (.agg #[.int .i64 0, .int .i64 0]) 2 16 Try.underlying29 i0_i i0_z0 i0_z1 i0_z2 rfl A2 q c2 (sc zs) rfl ((ROW.out.drewN nq).alloc _) (some ⟨wr.heap.size, 0, none⟩) 1 1 [.int .i64 k, .int .i64 y] rfl rfl (Rd.two_ (wr.drewN nq) _ _ _) (two1_ _ _) (by omega) (by unfold maxLen; omega) (by omega) (by simp <;> omega) ?_))
        intro A3 c3 w6 row6 hg6 _
        have hne : ∀ g, g < w2.heap.size + 2 → some g ≠ rb A2 c2 := fun g hg e => by have := (ROW.out.lt g e.symm).1; omega
        have hb6 : Below w.heap.size w w6 := ((below_drewN HB.out nq).alloc (by have := HB.out.size; simp; omega) _).grown hg6 (by have := HB.out.size; simp <;> omega) (fun y hy => by have := (ROW.out.lt y hy).1; omega)
        have row7 : Row w6 (w2.heap.size + 2) 37 2 A3 (q + 1) c3 (sc (zs ++ [((k : Int), y)])) := by rw [sc_append]; exact row6
        have hbx6 := (((HBX.out.drewN nq).alloc _).grown hg6 (hne _ (by omega)))
        have hby6 := (((HBY.out.drewN nq).alloc _).grown hg6 (hne _ (by omega)))
        have hs6 : w2.heap.size + 2 ≤ w6.heap.size := by have := hg6.size; simp at this; omega
        have B6 := Lib.hid hb6; have ROW7 := Lib.hid row7; have HBX6 := Lib.hid hbx6; have HBY6 := Lib.hid hby6
        clear row6 hg6 hb6 row7 hne hbx6 hby6
        go_wp2_with fail
        go_roundw
        case rel => exact ⟨k + 1, A3, c3, _, by omega, by go_num, by rw [HCS.out, if_neg HXY.out], by rw [HCS.out, if_neg HXY.out]; exact ROW7.out, HBX6.out, HBY6.out, hs6, B6.out⟩
        case measure => simp [intOf]; omega
    · obtain rfl : k = 10 := by omega
      have HQ := Lib.hid hq
      have HCL := Lib.hid (fun W => clipS_c A2 q c2 W ROW.out.le ROW.out.max)
      clear row hbx hby hb hcs hq
      go_wp2_with fail
      refine (HCL.out _).mono ?_
      rintro e w5 ⟨rfl, rfl⟩
      go_wp2_with fail
      go_ret
      exact ⟨A2, q, by rw [show planN xs ys = q from HQ.out.symm]; rfl, HB.out⟩
end Go.Proofs.Ytmphjojhfmikeaa
