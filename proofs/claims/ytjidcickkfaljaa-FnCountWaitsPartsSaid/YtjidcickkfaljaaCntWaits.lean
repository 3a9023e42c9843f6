/- Contracts of CountWaits. -/
import Derived.Test.YtjidcickkfaljaaCntAdd
set_option linter.unusedVariables false
set_option linter.unusedSimpArgs false
set_option linter.unnecessarySimpa false
namespace Go.Proofs.Ytjidcickkfaljaa
open Go.RowKit

theorem tally_zero : tally [] = List.replicate 8 0 := rfl
theorem tally_getb (ws : List Int) (b : Nat) (hb : b < 8) : ∃ v : Int, (tally ws)[b]? = some v ∧ 0 ≤ v ∧ v ≤ ws.length := by
  refine ⟨countIn ws b, tally_get ws b hb, ?_⟩
  have := countIn_le ws b
  omega
theorem tally_bump (ws : List Int) (x : Int) (b : Nat) (v : Int) (hb : (binN x).toNat = b) (hv : (tally ws)[b]? = some v) : tally (ws ++ [x]) = (tally ws).set b (v + 1) := by
  rw [tally_snoc, hb, bump]
  simp [List.getD, hv]
theorem countWaits_yes (ws : List Int) (h1 : ws.length ≤ 16) (h2 : allB 0 1000 ws = true) : countWaits ws = tally ws := if_pos ⟨h1, h2⟩
theorem countWaits_no (ws : List Int) (h : ¬ ws.length ≤ 16 ∨ allB 0 1000 ws = false) : countWaits ws = [] := by
  refine if_neg fun e => ?_
  rcases h with h | h
  · exact h e.1
  · rw [h] at e; exact absurd e.2 (by simp)

set_option maxRecDepth 100000 in
set_option maxHeartbeats 2000000 in
theorem countWaits_c (ws : List Int) (A : Option Addr) (n c : Nat) (w : World) (hN : ws.length = n) (h : Rd w A (ws.map (.int .i64))) (hn : n ≤ 1073741824) :
    Calls Try.prog 21 #[.slice A n c] w (RetInts (countWaits ws) w) := by
  have HN := Lib.hid hN; clear hN
  have H := Lib.hid h; clear h
  have bad : (¬ ws.length ≤ 16 ∨ allB 0 1000 ws = false) → ∀ W, Below w.heap.size w W → RetInts (countWaits ws) w (.returned (.slice none 0 0)) W := by
    intro hk W hW
    rw [countWaits_no ws hk]
    exact ⟨none, 0, rfl, World.ownsRow_nil _ _ _ _, hW⟩
  have BAD := Lib.hid bad; clear bad
  by_cases h16 : n ≤ 16
  · obtain ⟨ka, hka⟩ : ∃ k, k = allB 0 1000 ws := ⟨_, rfl⟩
    have HKA := Lib.hid hka; clear hka
    cases ka
    · go_enter Try.func21, Try.ntmps21
      go_wp2_with fail
      refine (allIn_c ws 0 1000 _ _ _ _ HN.out H.out (by omega)).mono ?_
      rw [← HKA.out]
      rintro e w1 ⟨rfl, b1⟩
      go_wp2_with fail
      go_ret
      exact BAD.out (.inr HKA.out.symm) _ b1
    · have hmk := make8
      have hxb := (allB_iff 0 1000 ws).1 HKA.out.symm
      have HXB := Lib.hid hxb; clear hxb
      go_enter Try.func21, Try.ntmps21
      go_wp2_with fail
      refine (allIn_c ws 0 1000 _ _ _ _ HN.out H.out (by omega)).mono ?_
      rw [← HKA.out]
      rintro e w1 ⟨rfl, b1⟩
      have b1' := b1
      have hs1 := b1'.size
      go_wp2_with fail
      go_loopw [17] (fun i wr => ∃ (k : Nat), k ≤ n ∧ i = .int .i64 k ∧ wr.ownsRow w.heap.size 3 1 (.slice (some ⟨w1.heap.size, 0, none⟩) 8 8) 8 ((tally (ws.take k)).map (.int .i64)) ∧ Below w.heap.size w wr) (fun i _ => n - (intOf i).toNat)
      case atStart => exact ⟨0, by omega, rfl, own8 w1 hs1, b1'.alloc hs1 _⟩
      case round =>
        obtain ⟨k, hk, rfl, own, bb⟩ := hrel
        have hsb := bb.size
        by_cases hlt : k < n
        · have hkx : k < ws.length := by rw [HN.out]; exact hlt
          obtain ⟨b, off, hA, hbw, hc⟩ := H.out.block (by simp; omega)
          subst hA
          obtain ⟨x, hX⟩ : ∃ x, x = ws[k] := ⟨_, rfl⟩
          have hx : wr.cell? ⟨b, off + k, none⟩ = some (.int .i64 x) := (bb.cell (by exact hbw)).trans (hc _ _ (by simp [hX, hkx]))
          have hxr := HXB.out x (by rw [hX]; exact List.getElem_mem hkx)
          obtain ⟨hx0, hx1⟩ := hxr
          have hbr := binN_range x
          have hbc := bin_c x wr hx0 hx1
          obtain ⟨d, hd⟩ : ∃ d : Nat, binN x = d := ⟨(binN x).toNat, by omega⟩
          rw [hd] at hbc
          have hd8 : d < 8 := by omega
          obtain ⟨v, hv, hv0, hv1⟩ := tally_getb (ws.take k) d hd8
          have hv1' : v ≤ 16 := by have := List.length_take_le k ws; omega
          have hbump := tally_bump (ws.take k) x d v (by rw [hd]; rfl) hv
          rw [hX, ← List.take_succ_eq_append_getElem hkx] at hbump
          have HBC := Lib.hid hbc
          have ho : wr.cell? ⟨w1.heap.size, d, none⟩ = some (.int .i64 v) := (own.cellAt d (by omega)).trans (by rw [List.getElem?_map, hv]; rfl)
          have hfr : wr.frozen? ⟨w1.heap.size, d, none⟩ = false := own.frozenAt d
          have fin : (wr.setCell ⟨w1.heap.size, d, none⟩ (.int .i64 (v + 1))).ownsRow w.heap.size 3 1 (.slice (some ⟨w1.heap.size, 0, none⟩) 8 8) 8 ((tally (ws.take (k + 1))).map (.int .i64)) ∧ Below w.heap.size w (wr.setCell ⟨w1.heap.size, d, none⟩ (.int .i64 (v + 1))) := by
            refine ⟨?_, bb.setCell hs1 _⟩
            have h1 := (own.stored d (.int .i64 (v + 1))).1
            rw [← List.map_set, ← hbump] at h1
            exact h1
          have FIN := Lib.hid fin
          clear fin hX hc own bb b1' hbc hd hv hv1 hbump hbr
          go_wp2_with fail
          refine HBC.out.mono ?_
          rintro e w2 ⟨rfl, rfl⟩
          go_wp2_with fail
          go_roundw
          case rel => exact ⟨k + 1, by omega, by go_num, FIN.out⟩
          case measure => simp [intOf]; omega
        · obtain rfl : k = n := by omega
          rw [List.take_of_length_le (by rw [HN.out]; omega), ← countWaits_yes ws (by rw [HN.out]; exact h16) HKA.out.symm] at own
          have hl : (countWaits ws).length = 8 := by rw [countWaits_yes ws (by rw [HN.out]; exact h16) HKA.out.symm, tally_length]
          have fin : RetInts (countWaits ws) w (.returned (.slice (some ⟨w1.heap.size, 0, none⟩) 8 8)) wr := ⟨_, 8, by rw [hl], by rw [hl]; exact own, bb⟩
          have FIN := Lib.hid fin
          clear fin own hl bb
          go_wp2_with fail
          go_ret
          exact FIN.out
  · have h16' : 16 < n := by omega
    have hz := BAD.out (.inl (by rw [HN.out]; omega)) w (Below.refl _ _)
    have HZ := Lib.hid hz; clear hz
    go_enter Try.func21, Try.ntmps21
    go_wp2_with fail
    go_ret
    exact HZ.out

set_option maxRecDepth 100000 in
set_option maxHeartbeats 2000000 in
theorem sCountWaits_c (ws : List Int) (A : Option Addr) (n c : Nat) (w : World) (hN : ws.length = n) (h : Rd w A (ws.map (.int .i64))) (hn : n ≤ 1073741824) :
    Calls Try.prog 20 #[.slice A n c] w (RetInts (countWaits ws) w) := by
  have HN := Lib.hid hN; clear hN
  have H := Lib.hid h; clear h
  have bad : (¬ ws.length ≤ 16 ∨ allB 0 1000 ws = false) → ∀ W, Below w.heap.size w W → RetInts (countWaits ws) w (.returned (.slice none 0 0)) W := by
    intro hk W hW
    rw [countWaits_no ws hk]
    exact ⟨none, 0, rfl, World.ownsRow_nil _ _ _ _, hW⟩
  have BAD := Lib.hid bad; clear bad
  by_cases h16 : n ≤ 16
  · obtain ⟨ka, hka⟩ : ∃ k, k = allB 0 1000 ws := ⟨_, rfl⟩
    have HKA := Lib.hid hka; clear hka
    cases ka
    · go_enter Try.func20, Try.ntmps20
      go_wp2_with fail
      refine (sAllIn_c ws 0 1000 _ _ _ _ HN.out H.out (by omega)).mono ?_
      rw [← HKA.out]
      rintro e w1 ⟨rfl, rfl⟩
      go_wp2_with fail
      go_ret
      exact BAD.out (.inr HKA.out.symm) _ (Below.refl w.heap.size w)
    · have hmk := make8
      have hxb := (allB_iff 0 1000 ws).1 HKA.out.symm
      have HXB := Lib.hid hxb; clear hxb
      go_enter Try.func20, Try.ntmps20
      go_wp2_with fail
      refine (sAllIn_c ws 0 1000 _ _ _ _ HN.out H.out (by omega)).mono ?_
      rw [← HKA.out]
      rintro e w1 ⟨rfl, rfl⟩
      have b1' := (Below.refl w.heap.size w)
      have hs1 := b1'.size
      go_wp2_with fail
      go_loopw [4] (fun i wr => ∃ (k : Nat), k ≤ n ∧ i = .int .i64 k ∧ wr.ownsRow w.heap.size 3 1 (.slice (some ⟨w.heap.size, 0, none⟩) 8 8) 8 ((tally (ws.take k)).map (.int .i64)) ∧ Below w.heap.size w wr) (fun i _ => n - (intOf i).toNat)
      case atStart => exact ⟨0, by omega, rfl, own8 w hs1, b1'.alloc hs1 _⟩
      case round =>
        obtain ⟨k, hk, rfl, own, bb⟩ := hrel
        have hsb := bb.size
        by_cases hlt : k < n
        · have hkx : k < ws.length := by rw [HN.out]; exact hlt
          obtain ⟨b, off, hA, hbw, hc⟩ := H.out.block (by simp; omega)
          subst hA
          obtain ⟨x, hX⟩ : ∃ x, x = ws[k] := ⟨_, rfl⟩
          have hx : wr.cell? ⟨b, off + k, none⟩ = some (.int .i64 x) := (bb.cell (by exact hbw)).trans (hc _ _ (by simp [hX, hkx]))
          have hxr := HXB.out x (by rw [hX]; exact List.getElem_mem hkx)
          obtain ⟨hx0, hx1⟩ := hxr
          have hbr := binN_range x
          have hbc := sbin_c x wr hx0 hx1
          obtain ⟨d, hd⟩ : ∃ d : Nat, binN x = d := ⟨(binN x).toNat, by omega⟩
          rw [hd] at hbc
          have hd8 : d < 8 := by omega
          obtain ⟨v, hv, hv0, hv1⟩ := tally_getb (ws.take k) d hd8
          have hv1' : v ≤ 16 := by have := List.length_take_le k ws; omega
          have hbump := tally_bump (ws.take k) x d v (by rw [hd]; rfl) hv
          rw [hX, ← List.take_succ_eq_append_getElem hkx] at hbump
          have HBC := Lib.hid hbc
          have ho : wr.cell? ⟨w.heap.size, d, none⟩ = some (.int .i64 v) := (own.cellAt d (by omega)).trans (by rw [List.getElem?_map, hv]; rfl)
          have hfr : wr.frozen? ⟨w.heap.size, d, none⟩ = false := own.frozenAt d
          have fin : (wr.setCell ⟨w.heap.size, d, none⟩ (.int .i64 (v + 1))).ownsRow w.heap.size 3 1 (.slice (some ⟨w.heap.size, 0, none⟩) 8 8) 8 ((tally (ws.take (k + 1))).map (.int .i64)) ∧ Below w.heap.size w (wr.setCell ⟨w.heap.size, d, none⟩ (.int .i64 (v + 1))) := by
            refine ⟨?_, bb.setCell hs1 _⟩
            have h1 := (own.stored d (.int .i64 (v + 1))).1
            rw [← List.map_set, ← hbump] at h1
            exact h1
          have FIN := Lib.hid fin
          clear fin hX hc own bb b1' hbc hd hv hv1 hbump hbr
          go_wp2_with fail
          refine HBC.out.mono ?_
          rintro e w2 ⟨rfl, rfl⟩
          go_wp2_with fail
          go_roundw
          case rel => exact ⟨k + 1, by omega, by go_num, FIN.out⟩
          case measure => simp [intOf]; omega
        · obtain rfl : k = n := by omega
          rw [List.take_of_length_le (by rw [HN.out]; omega), ← countWaits_yes ws (by rw [HN.out]; exact h16) HKA.out.symm] at own
          have hl : (countWaits ws).length = 8 := by rw [countWaits_yes ws (by rw [HN.out]; exact h16) HKA.out.symm, tally_length]
          have fin : RetInts (countWaits ws) w (.returned (.slice (some ⟨w.heap.size, 0, none⟩) 8 8)) wr := ⟨_, 8, by rw [hl], by rw [hl]; exact own, bb⟩
          have FIN := Lib.hid fin
          clear fin own hl bb
          go_wp2_with fail
          go_ret
          exact FIN.out
  · have h16' : 16 < n := by omega
    have hz := BAD.out (.inl (by rw [HN.out]; omega)) w (Below.refl _ _)
    have HZ := Lib.hid hz; clear hz
    go_enter Try.func20, Try.ntmps20
    go_wp2_with fail
    go_ret
    exact HZ.out

end Go.Proofs.Ytjidcickkfaljaa
