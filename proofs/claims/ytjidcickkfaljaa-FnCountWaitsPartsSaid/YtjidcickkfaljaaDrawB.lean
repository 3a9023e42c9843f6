/- What the laws on waits draw. -/
import Derived.Test.YtjidcickkfaljaaInts
set_option linter.unusedVariables false
set_option linter.unusedSimpArgs false
set_option linter.unnecessarySimpa false
namespace Go.Proofs.Ytjidcickkfaljaa
open Go.RowKit

/-- A number; what was there is as it was. -/
def RetDrawI (w : World) (e : Ending) (w' : World) : Prop := ∃ v : Int, e = .returned (.int .i64 v) ∧ -1 ≤ v ∧ v ≤ 1001 ∧ Below w.heap.size w w'
/-- A new list of at most L numbers. -/
def RetDrawL (L : Nat) (w : World) (e : Ending) (w' : World) : Prop :=
  ∃ (A : Option Addr) (c : Nat) (zs : List Int), e = .returned (.slice A zs.length c) ∧ zs.length ≤ L ∧ zs.length ≤ c ∧ Frd w' w.heap.size A (zs.map (.int .i64)) ∧ Below w.heap.size w w'
/-- Two new lists. -/
def RetDrawLL (L : Nat) (w : World) (e : Ending) (w' : World) : Prop :=
  ∃ (A : Option Addr) (c : Nat) (zs : List Int) (A' : Option Addr) (c' : Nat) (ys : List Int), e = .returned (.tuple #[.slice A zs.length c, .slice A' ys.length c']) ∧ zs.length ≤ L ∧ zs.length ≤ c ∧ ys.length ≤ L ∧ ys.length ≤ c' ∧
    Frd w' w.heap.size A (zs.map (.int .i64)) ∧ Frd w' w.heap.size A' (ys.map (.int .i64)) ∧ Below w.heap.size w w'
/-- A new list and a number. -/
def RetDrawLI (L : Nat) (w : World) (e : Ending) (w' : World) : Prop :=
  ∃ (A : Option Addr) (c : Nat) (zs : List Int) (v : Int), e = .returned (.tuple #[.slice A zs.length c, .int .i64 v]) ∧ zs.length ≤ L ∧ zs.length ≤ c ∧ -1 ≤ v ∧ v ≤ 1001 ∧ Frd w' w.heap.size A (zs.map (.int .i64)) ∧ Below w.heap.size w w'

/-- What someCounts answers. -/
def RetSome (B g p L : Nat) (w : World) (e : Ending) (w' : World) : Prop :=
  ∃ (A : Option Addr) (c : Nat) (zs : List Int) (q : Nat), e = .returned (.slice A zs.length c) ∧ zs.length ≤ L ∧ zs.length ≤ c ∧ Frd w' w.heap.size A (zs.map (.int .i64)) ∧ Rdr w' B g q ∧ q ≤ p + 50 ∧ w.grownBy w' (some g)
set_option maxHeartbeats 2000000 in
theorem someCounts_c (B g p : Nat) (w : World) (hr : Rdr w B g p) (hp : p ≤ 900000) :
    Calls Try.prog 41 #[.pointer (some ⟨g, 0, none⟩)] w (RetSome B g p 9 w) := by
  obtain ⟨i0, i0_i, i0_z0, i0_z1, i0_z2⟩ := info_parts intInfo
  have hgB := hr.1
  have hBw := hr.2.1
  go_enter Try.func41, Try.ntmps41
  go_wp2_with fail
  go_loopw [3, 4] (fun v i wr => ∃ (k : Nat) (A : Option Addr) (c : Nat) (zs : List Int), k ≤ 8 ∧ i = .int .i64 k ∧ zs.length = k ∧ v = .slice A k c ∧ wr.ownsRow w.heap.size 3 1 (.slice A k c) k (zs.map (.int .i64)) ∧ Rdr wr B g (p + k) ∧ w.grownBy wr (some g)) (fun _ i _ => 8 - (intOf i).toNat)
  case atStart => exact ⟨0, _, _, [], by omega, rfl, rfl, rfl, World.ownsRow_lit w #[] 0 (Nat.le_refl _) (by simp [maxLen]) rfl, hr.alloc _, only_alloc (World.grownBy.refl w (some g)) _⟩
  case round =>
    clear hr
    obtain ⟨k, A, c, zs, hk, rfl, hl, rfl, own, hr, hg⟩ := hrel
    have HL := Lib.hid hl; clear hl
    have hs := hg.size
    by_cases hlt : k < 8
    · go_wp2_with fail
      refine (one_c _ _ _ [0, 0, 1, 2, 5, 50, 100] _ _ _ _ (hr.alloc _) (by omega) rfl (by simp) (by simp) (Rd.lit (Value.int .i64) [0, 0, 1, 2, 5, 50, 100] rfl (by simp) rfl) (fun b off e => by
        injection e with e; injection e with e; omega)).mono ?_
      rintro e w2 ⟨v, hv, rfl, hr2, hg2⟩
      have own2 := own_keep (own.alloc _) hg2 (by omega)
      have g2 := only_trans (only_alloc hg _) hg2
      have hs2 := g2.size
      clear hv hg2 own hg hr
      go_wp2_with (at_builtin; (refine wpList_append_any _ rfl (.tmp 10) (.tmp 14) 22 rfl w.heap.size 3 i0 (.int .i64 0) 8 Try.underlying22 i0_i i0_z0 i0_z1 i0_z2 rfl (.slice A k c) (k) (zs.map (.int .i64)) rfl (own2.alloc _) (some ⟨w2.heap.size, 0, none⟩) (1) (1) ([.int .i64 v]) rfl rfl (Rd.one (cell_new _ _ _ 0)) (one1 _ rfl) (by unfold maxLen; omega) (by omega) (by simp <;> omega) ?_))
      intro A3 c3 w3 own3 hg3 _
      have hr3 : Rdr w3 B g (p + k + 1) := (hr2.alloc _).grown hg3 (fun y hy => by have := (own2.lt y hy).1; omega)
      have g3 : w.grownBy w3 (some g) := only_then (only_alloc g2 _) hg3 (fun y hy => .inr (own2.lt y hy).1)
      clear own2 hg3 hr2 g2
      go_wp2
      go_roundw
      case rel => exact ⟨k + 1, A3, c3, zs ++ [v], by omega, by go_num, by simp [HL.out], rfl, by simpa using own3, hr3, g3⟩
      case measure => simp [intOf]; omega
    · obtain rfl : k = 8 := by omega
      have hg' := hg
      go_wp2_with fail
      refine (spoil_c B g (p + 8) zs A 8 c 101 wr hr (by omega) HL.out (Rd.of_own own) (by omega)).mono ?_
      rintro e w2 ⟨A2, c2, ys, q, rfl, h1, h2, h3, h4, h5, h6⟩
      have g6 := only_trans hg h6
      have h3' := h3.mono hs
      clear h6 h3 hg own hr
      go_wp2_with fail
      go_ret
      exact ⟨A2, c2, ys, q, rfl, h1, h2, h3', h4, by omega, g6⟩
set_option maxHeartbeats 1000000 in
theorem drawAddCounts_c (zs : List Int) (A : Option Addr) (n c : Nat) (w : World) (hN : zs.length = n) (hc : n ≤ c) (hm : c ≤ maxLen) (h : Rd w A (zs.map (.int .u8))) (hz : ∀ z ∈ zs, 0 ≤ z ∧ z ≤ 255) :
    Calls Try.prog 22 #[.slice A n c] w (RetDrawLL 9 w) := by
  have HR := Lib.hid (newReader_c zs A n c w hN hc hm h hz)
  clear h hz hN
  go_enter Try.func22, Try.ntmps22
  go_wp2_with fail
  refine HR.out.mono ?_
  rintro e w1 ⟨rfl, hr, hb⟩
  have hs0 := hb.size
  have hs1 := hr.2.1
  clear HR
  go_wp2_with fail
  refine (someCounts_c _ _ _ _ hr (by omega)).mono ?_
  rintro e w2 ⟨A2, c2, ys, q, rfl, h1, h2, h3, h4, h5, h6⟩
  have hb2 : Below w.heap.size w w2 := hb.trans (below_grown h6 (Nat.le_refl _) hs0)
  have hs2 := hb2.size
  clear hr hb h6
  go_wp2_with fail
  refine (someCounts_c _ _ _ _ h4 (by omega)).mono ?_
  rintro e w3 ⟨A3, c3, xs, q3, rfl, j1, j2, j3, j4, j5, j6⟩
  have hb3 : Below w.heap.size w w3 := hb2.trans (below_grown j6 (Nat.le_refl _) hs2)
  have h3' := (h3.grown j6 (fun k hk => by injection hk; omega)).mono hs0
  have j3' := j3.mono hs2
  clear h3 j3
  go_wp2_with fail
  go_ret2
  exact ⟨A2, c2, ys, A3, c3, xs, rfl, h1, h2, j1, j2, h3', j3', hb3⟩
set_option maxHeartbeats 1000000 in
theorem drawWaitUnder_c (zs : List Int) (A : Option Addr) (n c : Nat) (w : World) (hN : zs.length = n) (hc : n ≤ c) (hm : c ≤ maxLen) (h : Rd w A (zs.map (.int .u8))) (hz : ∀ z ∈ zs, 0 ≤ z ∧ z ≤ 255) :
    Calls Try.prog 26 #[.slice A n c] w (RetDrawLI 9 w) := by
  have HR := Lib.hid (newReader_c zs A n c w hN hc hm h hz)
  clear h hz hN
  go_enter Try.func26, Try.ntmps26
  go_wp2_with fail
  refine HR.out.mono ?_
  rintro e w1 ⟨rfl, hr, hb⟩
  have hs0 := hb.size
  have hs1 := hr.2.1
  clear HR
  go_wp2_with fail
  refine (someCounts_c _ _ _ _ hr (by omega)).mono ?_
  rintro e w2 ⟨A2, c2, ys, q, rfl, h1, h2, h3, h4, h5, h6⟩
  have hb2 : Below w.heap.size w w2 := hb.trans (below_grown h6 (Nat.le_refl _) hs0)
  have hs2 := hb2.size
  have hs3 := h4.2.1
  have hs4 := h6.size
  clear hr hb h6
  go_wp2_with fail
  refine (one_c _ _ _ [50, 90, 99, 100, 0, 1, 101, -1] _ _ _ _ (h4.alloc _) (by omega) rfl (by simp) (by simp) (Rd.lit (Value.int .i64) [50, 90, 99, 100, 0, 1, 101, -1] rfl (by simp) rfl) (fun b off e => by
    injection e with e; injection e with e; omega)).mono ?_
  rintro e w3 ⟨v, hv, rfl, hr3, hg3⟩
  have hv' : -1 ≤ v ∧ v ≤ 1001 := by simp at hv; omega
  have hb3 : Below w.heap.size w w3 := (hb2.alloc hs2 _).trans (below_grown hg3 (Nat.le_refl _) (by simp <;> omega))
  have h3' := ((h3.alloc _).grown hg3 (fun k hk => by injection hk; omega)).mono hs0
  clear h3 hv
  go_wp2_with fail
  go_ret2
  exact ⟨A2, c2, ys, v, rfl, h1, h2, hv'.1, hv'.2, h3', hb3⟩
end Go.Proofs.Ytjidcickkfaljaa
