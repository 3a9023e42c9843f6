/- Contracts of searches in lists of numbers and in what is held. -/
import Derived.Test.YtnmgnhpagnjhlaaGreatDoorPlainP
set_option linter.unusedVariables false
set_option linter.unusedSimpArgs false
set_option linter.unnecessarySimpa false
namespace Go.Proofs.YtnmgnhpagnjhlaaGreatDoor
open Go.RowKit

theorem mem_take_succ {α : Type} {zs : List α} {j : Nat} (hj : j < zs.length) {v : α} (h1 : v ∉ zs.take j) (h2 : zs[j] ≠ v) : v ∉ zs.take (j + 1) := by
  rw [take_snoc zs j hj]
  simp only [List.mem_append, List.mem_singleton]
  rintro (h | h)
  · exact h1 h
  · exact h2 h.symm
set_option maxHeartbeats 1000000 in
theorem sIsIn_c (zs : List Int) (v : Int) (A : Option Addr) (n c : Nat) (w : World) (hN : zs.length = n) (h : Rd w A (zs.map (.int .i64))) (hn : n ≤ 1099511627776) :
    Calls Tryz.prog 72 #[.slice A n c, .int .i64 v] w fun e w' => e = .returned (.bool (decide (v ∈ zs))) ∧ w = w' := by
  have HN := Lib.hid hN; clear hN
  have H := Lib.hid h; clear h
  go_enter Tryz.func72, Tryz.ntmps72
  go_wp2_with fail
  go_loop [5] (fun i => ∃ j : Nat, j ≤ n ∧ i = .int .i64 j ∧ v ∉ zs.take j) (fun i => n - (intOf i).toNat)
  case atStart => exact ⟨0, Nat.zero_le _, rfl, by simp⟩
  case round =>
    obtain ⟨j, hj, rfl, hs⟩ := hrel
    have HS := Lib.hid hs; clear hs
    by_cases hlt : j < n
    · have hjz : j < zs.length := by have := HN.out; omega
      obtain ⟨b, off, hA, hc⟩ := H.out (by simp; omega)
      subst hA
      obtain ⟨x, hX⟩ : ∃ x, x = zs[j] := ⟨_, rfl⟩
      have hx : w.cell? ⟨b, off + j, none⟩ = some (.int .i64 x) := hc j _ (by simp [hX, hjz])
      have HX := Lib.hid hX
      clear hX hc
      by_cases he : x = v
      · have he' : (x == v) = true := beq_iff_eq.2 he
        have hr : decide (v ∈ zs) = true := decide_eq_true (by rw [← he, HX.out]; exact List.getElem_mem hjz)
        have HR := Lib.hid hr.symm
        clear hr he
        go_wp2_with fail
        go_ret
        exact ⟨ret_bool HR.out, rfl⟩
      · have he' : (x == v) = false := beq_eq_false_iff_ne.2 he
        have HS' := Lib.hid (mem_take_succ hjz HS.out (by rw [← HX.out]; exact he))
        clear he
        go_wp2_with fail
        go_round
        case rel => exact ⟨j + 1, by omega, by go_num, HS'.out⟩
        case measure => simp [intOf]; omega
    · obtain rfl : j = n := by omega
      go_wp2_with fail
      go_ret
      refine ⟨ret_bool ?_, rfl⟩
      have h1 := HS.out
      rw [List.take_of_length_le (by rw [HN.out]; omega)] at h1
      exact (decide_eq_false h1).symm
set_option maxHeartbeats 1000000 in
theorem index_c (zs : List Int) (v : Int) (A : Option Addr) (n c : Nat) (w : World) (hN : zs.length = n) (h : Rd w A (zs.map (.int .i64))) (hn : n ≤ 1099511627776) :
    Calls Tryz.prog 86 #[.slice A n c, .int .i64 v] w fun e w' => e = .returned (.int .i64 (fidx (fun x => x == v) zs)) ∧ w = w' := by
  have HN := Lib.hid hN; clear hN
  have H := Lib.hid h; clear h
  go_enter Tryz.func86, Tryz.ntmps86
  go_wp2_with fail
  go_loop [8] (fun i => ∃ j : Nat, j ≤ n ∧ i = .int .i64 j ∧ ∀ q (hq : q < zs.length), q < j → (zs[q] == v) = false) (fun i => n - (intOf i).toNat)
  case atStart => exact ⟨0, Nat.zero_le _, rfl, fun q hq h => absurd h (by omega)⟩
  case round =>
    obtain ⟨j, hj, rfl, hs⟩ := hrel
    have HS := Lib.hid hs; clear hs
    by_cases hlt : j < n
    · have hjz : j < zs.length := by have := HN.out; omega
      obtain ⟨b, off, hA, hc⟩ := H.out (by simp; omega)
      subst hA
      obtain ⟨x, hX⟩ : ∃ x, x = zs[j] := ⟨_, rfl⟩
      have hx : w.cell? ⟨b, off + j, none⟩ = some (.int .i64 x) := hc j _ (by simp [hX, hjz])
      have HX := Lib.hid hX
      clear hX hc
      by_cases he : x = v
      · have he' : (v == x) = true := beq_iff_eq.2 he.symm
        have hr : fidx (fun x => x == v) zs = (j : Nat) := fidx_some _ zs j hjz (by rw [← HX.out]; exact beq_iff_eq.2 he) (fun q hq h => HS.out q hq h)
        have HR := Lib.hid hr.symm
        clear hr he
        go_wp2_with fail
        go_ret
        exact ⟨ret_int HR.out, rfl⟩
      · have he' : (v == x) = false := beq_eq_false_iff_ne.2 (fun e => he e.symm)
        have HE := Lib.hid he
        clear he
        go_wp2_with fail
        go_round
        case rel =>
          refine ⟨j + 1, by omega, by go_num, fun q hq h => ?_⟩
          rcases Nat.lt_or_ge q j with h' | h'
          · exact HS.out q hq h'
          · obtain rfl : q = j := by omega
            rw [← HX.out]; exact beq_eq_false_iff_ne.2 HE.out
        case measure => simp [intOf]; omega
    · obtain rfl : j = n := by omega
      go_wp2_with fail
      go_ret
      refine ⟨ret_int ?_, rfl⟩
      exact (fidx_none _ zs (fun q hq => HS.out q hq (by have := HN.out; omega))).symm
set_option maxHeartbeats 1000000 in
theorem contains_c (zs : List Int) (v : Int) (A : Option Addr) (n c : Nat) (w : World) (hN : zs.length = n) (h : Rd w A (zs.map (.int .i64))) (hn : n ≤ 1099511627776) :
    Calls Tryz.prog 58 #[.slice A n c, .int .i64 v] w fun e w' => e = .returned (.bool (decide (v ∈ zs))) ∧ w = w' := by
  have HI := Lib.hid (index_c zs v A n c w hN h hn)
  have HA := Lib.hid (fidx_any (fun x => x == v) zs)
  clear h hN
  go_enter Tryz.func58, Tryz.ntmps58
  go_wp2_with fail
  refine HI.out.mono ?_
  rintro e w' ⟨rfl, rfl⟩
  go_wp2_with fail
  go_ret
  refine ⟨ret_bool ?_, rfl⟩
  rw [HA.out, Bool.eq_iff_iff]
  simp [List.any_eq_true]
set_option maxHeartbeats 400000 in
theorem held1_c (x y v : Int) (a : Nat) (w : World) (ha : w.cell? ⟨a, 0, none⟩ = some (.int .i64 v)) (hlt : a < w.heap.size) :
    Calls Tryz.prog 88 #[.agg #[.int .i64 x, .int .i64 y], .pointer (some ⟨a, 0, none⟩)] w fun e w' => e = .returned (.bool (x == v)) ∧ Below w.heap.size w w' := by
  have hk := (World.cell?_alloc_lt w (.cells #[.int .i64 x, .int .i64 y] 48) ⟨a, 0, none⟩ hlt).trans ha
  go_enter Tryz.func88, Tryz.ntmps88
  go_wp2_with fail
  go_ret
  exact ⟨rfl, (Below.refl _ _).alloc (Nat.le_refl _) _⟩
set_option maxRecDepth 100000 in
set_option maxHeartbeats 1000000 in
theorem indexHold_c (hs : List Pr) (v : Int) (a : Nat) (A : Option Addr) (n c : Nat) (w : World) (hN : hs.length = n) (h : Rd w A (sc hs)) (hn : n ≤ 1073741824) (ha : w.cell? ⟨a, 0, none⟩ = some (.int .i64 v)) (hlt : a < w.heap.size) :
    Calls Tryz.prog 87 #[.slice A n c, .func (Fn.func 88) #[] #[.pointer (some ⟨a, 0, none⟩)]] w fun e w' => e = .returned (.int .i64 (hfind hs v)) ∧ Below w.heap.size w w' := by
  have HN := Lib.hid hN; clear hN
  have H := Lib.hid h; clear h
  have HAC := Lib.hid ha; have HAL := Lib.hid hlt; clear ha hlt
  go_enter Tryz.func87, Tryz.ntmps87
  go_wp2_with fail
  go_loopw [8] (fun i wr => ∃ j : Nat, j ≤ n ∧ i = .int .i64 j ∧ Below w.heap.size w wr ∧ ∀ q (hq : q < hs.length), q < j → (hs[q].1 == v) = false) (fun i _ => n - (intOf i).toNat)
  case atStart => exact ⟨0, Nat.zero_le _, rfl, Below.refl _ _, fun q hq h => absurd h (by omega)⟩
  case round =>
    obtain ⟨j, hj, rfl, hb, hs'⟩ := hrel
    have HS := Lib.hid hs'; have HB := Lib.hid hb
    clear hs'
    by_cases hlt : j < n
    · have hjz : j < hs.length := by have := HN.out; omega
      obtain ⟨b, off, hA, hbl, hc⟩ := sc_pair (H.out.below hb) (by omega)
      subst hA
      obtain ⟨hc1, hc2⟩ := hc j hjz
      obtain ⟨⟨x, y⟩, hX⟩ : ∃ x, x = hs[j] := ⟨_, rfl⟩
      rw [← hX] at hc1 hc2
      have HX := Lib.hid hX
      have HC := Lib.hid (held1_c x y v a wr ((hb.cell HAL.out).trans HAC.out) (Nat.lt_of_lt_of_le HAL.out hb.size))
      clear hX hc hb
      by_cases he : x = v
      · have he' : (x == v) = true := beq_iff_eq.2 he
        have hr : hfind hs v = (j : Nat) := fidx_some _ hs j hjz (by rw [← HX.out]; exact he') (fun q hq h => HS.out q hq h)
        have HR := Lib.hid hr.symm
        rw [he'] at HC
        clear hr he he'
        go_wp2_with fail
        refine HC.out.mono ?_
        rintro e w' ⟨rfl, b2⟩
        go_wp2_with fail
        go_ret
        exact ⟨ret_int HR.out, HB.out.trans (b2.mono HB.out.size)⟩
      · have he' : (x == v) = false := beq_eq_false_iff_ne.2 he
        have HE := Lib.hid he'
        rw [he'] at HC
        clear he he'
        go_wp2_with fail
        refine HC.out.mono ?_
        rintro e w' ⟨rfl, b2⟩
        go_wp2_with fail
        go_roundw
        case rel =>
          refine ⟨j + 1, by omega, by go_num, HB.out.trans (b2.mono HB.out.size), fun q hq h => ?_⟩
          rcases Nat.lt_or_ge q j with h' | h'
          · exact HS.out q hq h'
          · obtain rfl : q = j := by omega
            rw [← HX.out]; exact HE.out
        case measure => simp [intOf]; omega
    · obtain rfl : j = n := by omega
      clear hb
      go_wp2_with fail
      go_ret
      refine ⟨ret_int ?_, HB.out⟩
      exact (fidx_none _ hs (fun q hq => HS.out q hq (by have := HN.out; omega))).symm
set_option maxHeartbeats 400000 in
theorem held_c (hs : List Pr) (m : Int) (v : Int) (A1 : Option Addr) (n1 c1 : Nat) (A : Option Addr) (n c : Nat) (A3 : Option Addr) (n3 c3 : Nat) (w : World) (hN : hs.length = n) (h : Rd w A (sc hs)) (hn : n ≤ 1073741824) :
    Calls Tryz.prog 59 #[.agg #[.int .i64 m, .slice A1 n1 c1, .slice A n c, .slice A3 n3 c3], .int .i64 v] w fun e w' => e = .returned (.int .i64 (hfind hs v)) ∧ Below w.heap.size w w' := by
  have HN := Lib.hid hN; clear hN
  have H := Lib.hid h; clear h
  go_enter Tryz.func59, Tryz.ntmps59
  go_wp2_with fail
  refine (indexHold_c hs v _ A n c _ HN.out ((H.out.alloc _).alloc _) hn (by go_simp) (by simp)).mono ?_
  rintro e w' ⟨rfl, b1⟩
  go_wp2_with fail
  go_ret
  exact ⟨rfl, (((Below.refl _ _).alloc (Nat.le_refl _) _).alloc (by simp) _).trans (b1.mono (by simp <;> omega))⟩
end Go.Proofs.YtnmgnhpagnjhlaaGreatDoor
