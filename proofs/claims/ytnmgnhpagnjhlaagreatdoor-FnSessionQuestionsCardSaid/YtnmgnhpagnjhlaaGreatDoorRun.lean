/- A session: the reference. -/
import Derived.Test.YtnmgnhpagnjhlaaGreatDoorLine
import Derived.Deep.Cut
set_option linter.unusedVariables false
set_option linter.unusedSimpArgs false
set_option linter.unnecessarySimpa false
namespace Go.Proofs.YtnmgnhpagnjhlaaGreatDoor
open Go.RowKit

theorem runV_step (ls : List (List UInt8)) (j : Nat) (h : j < ls.length) : runV Pl.new (ls.take (j + 1)) = runV Pl.new (ls.take j) ++ ((cmdV (endV Pl.new (ls.take j)) ls[j]).2 ++ [10]) ∧ endV Pl.new (ls.take (j + 1)) = (cmdV (endV Pl.new (ls.take j)) ls[j]).1 := by
  rw [take_snoc ls j h]
  exact ⟨runV_snoc _ _ _, endV_snoc _ _ _⟩
theorem run_full (ls : List (List UInt8)) (j : Nat) (h : j = ls.length ∨ j = 20) (hj : j ≤ 20) (hl : j ≤ ls.length) : runV Pl.new (ls.take j) = sessV ls := by
  unfold sessV
  congr 1
  rcases h with h | h
  · subst h
    rw [List.take_length, List.take_of_length_le hj]
  · subst h; rfl
set_option maxRecDepth 100000 in
set_option maxHeartbeats 8000000 in
theorem sRun_c (ls : List (List UInt8)) (A : Option Addr) (n c : Nat) (w : World) (hN : ls.length = n) (h : Rd w A (strs ls)) (hn : n ≤ 1073741824) (hl : ∀ l ∈ ls, l.length ≤ 1048576) :
    Calls Tryz.prog 23 #[.slice A n c] w fun e w' => e = .returned (.string (bsof (sessV ls))) ∧ Below w.heap.size w w' := by
  have HN := Lib.hid hN; have H := Lib.hid h; have HLS := Lib.hid hl
  obtain ⟨RES, hRES⟩ : ∃ RES, RES = bsof (sessV ls) := ⟨_, rfl⟩
  rw [← hRES]
  have HRES := Lib.hid hRES
  obtain ⟨gd, hgd⟩ : ∃ gd, gd = w.heap.size + 1 + 1 + 1 := ⟨_, rfl⟩
  obtain ⟨w1, hw1⟩ : ∃ w1, w1 = (((w.alloc (.cells #[] 3)).alloc (.cells #[] 48)).alloc (.cells #[] 3)).alloc (.cells #[.int .i64 2, .slice (some ⟨w.heap.size, 0, none⟩) 0 0, .slice (some ⟨w.heap.size + 1, 0, none⟩) 0 0, .slice (some ⟨w.heap.size + 1 + 1, 0, none⟩) 0 0] 78) := ⟨_, rfl⟩
  have FR1 := Lib.hid (show Below w.heap.size w w1 by rw [hw1]; exact ((((Below.refl _ _).alloc (Nat.le_refl _) _).alloc (by simp) _).alloc (by simp <;> omega) _).alloc (by simp <;> omega) _)
  have DK1 : Hid (Desk 78 w1 gd Pl.new) := by
    rw [hw1]
    refine ⟨some ⟨w.heap.size, 0, none⟩, 0, some ⟨w.heap.size + 1, 0, none⟩, 0, some ⟨w.heap.size + 1 + 1, 0, none⟩, 0, Blk.new_at _ (by simp [hgd]) _ _, ⟨Row.nil _ _ _ _ _, Row.nil _ _ _ _ _, Row.nil _ _ _ _ _, ⟨.inl rfl, .inl rfl⟩, ⟨.inl rfl, .inl rfl⟩, ⟨.inl rfl, .inl rfl⟩⟩, ⟨by simp [rb], by simp [rb], by simp [rb]⟩⟩
  have hgw : w.heap.size ≤ gd := by omega
  clear hN h hl hRES
  go_enter Tryz.func23, Tryz.ntmps23
  go_upto_region 2 with fail
  rw [← hw1, ← hgd]
  clear hw1 hgd
  go_wp2_with fail
  go_loopw [4, 5] (fun o i wr => ∃ (j : Nat) (T : ByteArray), j ≤ n ∧ j ≤ 20 ∧ i = .int .i64 j ∧ o = .string T ∧ T = bsof (runV Pl.new (ls.take j)) ∧ Desk 78 wr gd (endV Pl.new (ls.take j)) ∧ Below w.heap.size w wr) (fun _ i _ => n - (intOf i).toNat)
  case atStart => exact ⟨0, ByteArray.empty, Nat.zero_le _, Nat.zero_le _, rfl, rfl, rfl, DK1.out, FR1.out⟩
  case round =>
    obtain ⟨j, T, hj, hj20, rfl, rfl, hT, dk, fr⟩ := hrel
    have HT := Lib.hid hT; have DK := Lib.hid dk; have FR := Lib.hid fr
    have hTl : T.size ≤ j * 50001 := by
      rw [hT, bsof_size]
      have h1 := runV_len new_good (ls.take j)
      have h2 := List.length_take_le j ls
      exact Nat.le_trans h1 (Nat.mul_le_mul_right _ h2)
    have hTs : T.size ≤ 1000020 := by omega
    clear hT dk fr DK1 FR1
    by_cases hlt : j < n
    · have hd1 : decide ((j : Int) < (n : Int)) = true := decide_eq_true (by omega)
      by_cases h20 : j < 20
      · have hd2 : decide ((j : Int) < 20) = true := decide_eq_true (by omega)
        have hjl : j < ls.length := by have := HN.out; omega
        obtain ⟨b, off, hA, hbl, hc⟩ := (H.out.below FR.out).block (by simp [strs]; omega)
        obtain ⟨q, hQ⟩ : ∃ q, q = ls[j] := ⟨_, rfl⟩
        have hcq : wr.cell? ⟨b, off + j, none⟩ = some (.string (bsof q)) := hc j _ (by unfold strs; rw [List.getElem?_map, List.getElem?_eq_getElem hjl, hQ]; rfl)
        have hql : q.length ≤ 1048576 := by rw [hQ]; exact HLS.out _ (List.getElem_mem hjl)
        have hst := runV_step ls j hjl
        rw [← hQ] at hst
        obtain ⟨P, hP⟩ : ∃ P, P = endV Pl.new (ls.take j) := ⟨_, rfl⟩
        have hg : P.Good := by rw [hP]; exact endV_good new_good _
        rw [← hP] at hst DK
        have hl := d_line_c gd P hg (bsof q) wr (by rw [bsof_size]; omega) DK.out
        rw [data_bsof] at hl
        have hol := cmdV_len hg q
        obtain ⟨R, hR⟩ : ∃ R, R = cmdV P q := ⟨_, rfl⟩
        rw [← hR] at hl hst hol
        obtain ⟨TX, hTX⟩ : ∃ TX, TX = bsof R.2 := ⟨_, rfl⟩
        have hTXs : TX.size ≤ 50000 := by rw [hTX, bsof_size]; exact hol
        have HL : Hid (Calls Tryz.prog 62 #[.pointer (some ⟨gd, 0, none⟩), .string (bsof q)] wr (fun e w' => e = .returned (.string TX) ∧ Desk 78 w' gd R.1 ∧ wr.grownBy w' (some gd))) := by rw [hTX]; exact hl
        have HST : Hid (bsof (runV Pl.new (ls.take (j + 1))) = T ++ TX ++ ⟨#[10]⟩) := by
          show _ = _ ++ _ ++ bsof [10]
          rw [hst.1, HT.out, hTX, bsof_append, bsof_append, List.append_assoc]
        have HEN := Lib.hid hst.2
        obtain ⟨BQ, hBQ⟩ : ∃ BQ, BQ = bsof q := ⟨_, rfl⟩
        rw [← hBQ] at hcq HL
        have z1 : ¬ 9223372036854775807 < T.size + TX.size := by omega
        have z2 : ¬ 9223372036854775807 < T.size + TX.size + 1 := by omega
        have z3 : ¬ 9223372036854775807 ≤ T.size + TX.size := by omega
        clear hc hQ hst hP hl hR hTX hBQ hol hg
        subst hA
        go_wp2_with fail
        refine HL.out.mono ?_
        rintro e w4 ⟨rfl, dk4, g4⟩
        have DK4 := Lib.hid dk4
        have FR4 := Lib.hid (FR.out.grown g4 FR.out.size (fun k hk => by injection hk with hk; omega))
        clear dk4 g4
        go_wp2_with fail
        go_roundw
        case rel => exact ⟨j + 1, _, by omega, by omega, by go_num, rfl, HST.out.symm, by rw [HEN.out]; exact DK4.out, FR4.out⟩
        case measure => simp [intOf]; omega
      · have hd2 : decide ((j : Int) < 20) = false := decide_eq_false (by omega)
        have hTR : T = RES := by rw [HT.out, HRES.out, run_full ls j (.inr (by omega)) hj20 (by have := HN.out; omega)]
        have HTR := Lib.hid hTR
        clear hTR
        go_wp2_with fail
        go_ret
        exact ⟨congrArg (fun z => Ending.returned (.string z)) HTR.out, FR.out⟩
    · have hd1 : decide ((j : Int) < (n : Int)) = false := decide_eq_false (by omega)
      have hTR : T = RES := by rw [HT.out, HRES.out, run_full ls j (.inl (by have := HN.out; omega)) hj20 (by have := HN.out; omega)]
      have HTR := Lib.hid hTR
      clear hTR
      go_wp2_with fail
      go_ret
      exact ⟨congrArg (fun z => Ending.returned (.string z)) HTR.out, FR.out⟩
end Go.Proofs.YtnmgnhpagnjhlaaGreatDoor
