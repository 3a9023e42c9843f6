/- What the laws on counted waits draw. -/
import Derived.Test.YtjidcickkfaljaaDrawB
set_option linter.unusedVariables false
set_option linter.unusedSimpArgs false
set_option linter.unnecessarySimpa false
namespace Go.Proofs.Ytjidcickkfaljaa
open Go.RowKit

set_option maxRecDepth 100000 in
set_option maxHeartbeats 2000000 in
theorem drawCountWaits_c (zs : List Int) (A : Option Addr) (n c : Nat) (w : World) (hN : zs.length = n) (hc : n ≤ c) (hm : c ≤ maxLen) (h : Rd w A (zs.map (.int .u8))) (hz : ∀ z ∈ zs, 0 ≤ z ∧ z ≤ 255) :
    Calls Try.prog 28 #[.slice A n c] w (RetDrawL 18 w) := by
  obtain ⟨i0, i0_i, i0_z0, i0_z1, i0_z2⟩ := info_parts intInfo
  have HR := Lib.hid (newReader_c zs A n c w hN hc hm h hz)
  clear h hz hN
  go_enter Try.func28, Try.ntmps28
  go_wp2_with fail
  refine HR.out.mono ?_
  rintro e w1 ⟨rfl, hr, hb⟩
  have hs0 := hb.size
  have hs1 := hr.2.1
  clear HR
  go_wp2_with fail
  refine (one_c _ _ _ [6, 8, 3, 16, 1, 0, 17] _ _ _ _ ((hr.alloc _).alloc _) (by omega) rfl (by simp) (by simp) (Rd.lit (Value.int .i64) [6, 8, 3, 16, 1, 0, 17] rfl (by simp) rfl) (fun b off e => by
    injection e with e; injection e with e; omega)).mono ?_
  rintro e w2 ⟨v, hv, rfl, hr2, hg2⟩
  have hv17 : 0 ≤ v ∧ v ≤ 17 := by simp at hv; omega
  obtain ⟨d, rfl⟩ := Int.eq_ofNat_of_zero_le hv17.1
  have hd : d ≤ 17 := by omega
  clear hv hv17
  have g2 : w1.grownBy w2 (some w.heap.size) := only_trans (only_alloc (only_alloc (World.grownBy.refl w1 (some w.heap.size)) _) _) hg2
  have own2 : w2.ownsRow w1.heap.size 3 1 (.slice (some ⟨w1.heap.size, 0, none⟩) 0 0) 0 [] :=
    ((World.ownsRow_lit w1 #[] 0 (Nat.le_refl _) (by simp [maxLen]) rfl).alloc _).kept hg2 (.inr (by simp [Value.ownBlock]; omega))
  clear hr hg2
  go_wp2_with fail
  go_loopw [4, 5] (fun v i wr => ∃ (k : Nat) (A : Option Addr) (c q : Nat) (ys : List Int), k + ys.length ≤ 17 ∧ i = .int .i64 k ∧ v = .slice A ys.length c ∧ wr.ownsRow w1.heap.size 3 1 (.slice A ys.length c) ys.length (ys.map (.int .i64)) ∧ Rdr wr (w.heap.size + 1) w.heap.size q ∧ q + 2 * k ≤ 100 ∧ w1.grownBy wr (some w.heap.size)) (fun _ i _ => (intOf i).toNat)
  case atStart => exact ⟨d, _, _, _, [], by simpa using hd, rfl, rfl, own2, hr2, by omega, g2⟩
  case round =>
    clear own2 hr2 g2
    obtain ⟨k, A2, c2, q, ys, hk, rfl, rfl, own, hr, hq, hg⟩ := hrel
    have hsg := hg.size
    rcases Nat.eq_zero_or_pos k with h0 | h0
    · subst h0
      go_wp2_with fail
      refine (spoil_c _ _ _ ys _ _ _ 1001 wr hr (by omega) rfl (Rd.of_own own) (by omega)).mono ?_
      rintro e w5 ⟨A5, c5, zs5, q5, rfl, h1, h2, h3, h4, h5, h6⟩
      have b5 : Below w.heap.size w w5 := (hb.trans (below_grown hg (Nat.le_refl _) hs0)).trans (below_grown h6 (Nat.le_refl _) (by omega))
      have h3' := h3.mono (show w.heap.size ≤ wr.heap.size by omega)
      clear own hr hg h6 h3
      go_wp2_with fail
      go_ret
      exact ⟨A5, c5, zs5, rfl, by omega, h2, h3', b5⟩
    · go_wp2_with fail
      refine (pick_c _ _ q 250 wr hr (by omega) (by omega) (by omega)).mono ?_
      rintro e w3 ⟨j, hj, rfl, hr3, hg3⟩
      have own3 := own_keep own hg3 (by omega)
      have g3 := only_trans hg hg3
      have hs3 := g3.size
      clear own hr hg hg3
      go_wp2_with fail
      refine (one_c _ _ _ [0, 1, 3, 10, 100, 1000, (j : Int)] _ _ _ _ (hr3.alloc _) (by omega) rfl (by simp) (by simp) (Rd.lit (Value.int .i64) [0, 1, 3, 10, 100, 1000, (j : Int)] rfl (by simp) rfl) (fun b off e => by
        injection e with e; injection e with e; omega)).mono ?_
      rintro e w4 ⟨x, hx, rfl, hr4, hg4⟩
      have own4 := own_keep (own3.alloc _) hg4 (by omega)
      have g4 := only_trans (only_alloc g3 _) hg4
      have hs4 := g4.size
      clear own3 hr3 g3 hg4 hx
      go_wp2_with (at_builtin; (refine wpList_append_any _ rfl (.tmp 16) (.tmp 22) 22 rfl w1.heap.size 3 i0 (.int .i64 0) 8 Try.underlying22 i0_i i0_z0 i0_z1 i0_z2 rfl (.slice A2 ys.length c2) (ys.length) (ys.map (.int .i64)) rfl (own4.alloc _) (some ⟨w4.heap.size, 0, none⟩) (1) (1) ([.int .i64 x]) rfl rfl (Rd.one (cell_new _ _ _ 0)) (one1 _ rfl) (by unfold maxLen; omega) (by omega) (by simp <;> omega) ?_))
      intro A3 c3 w5 own5 hg5 _
      have hr5 := (hr4.alloc _).grown hg5 (fun y hy => by have := (own4.lt y hy).1; omega)
      have g5 : w1.grownBy w5 (some w.heap.size) := only_then (only_alloc g4 _) hg5 (fun y hy => .inr (own4.lt y hy).1)
      clear own4 hg5 hr4 g4
      go_wp2
      go_roundw
      case rel => exact ⟨k - 1, A3, c3, q + 1 + 1, ys ++ [x], by simp; omega, by go_num, by simp, by simpa using own5, hr5, by omega, g5⟩
      case measure => simp [intOf]; omega
end Go.Proofs.Ytjidcickkfaljaa
