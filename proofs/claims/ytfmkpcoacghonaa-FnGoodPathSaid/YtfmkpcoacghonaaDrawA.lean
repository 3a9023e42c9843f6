/- What the laws on checks draw. -/
import Derived.Test.YtfmkpcoacghonaaReader
set_option linter.unusedVariables false
set_option linter.unusedSimpArgs false
namespace Go.Proofs.Ytfmkpcoacghonaa
open Go.RowKit

/-- A new list of at most 13 bools; what was there is as it was. -/
def RetDrawB (w : World) (e : Ending) (w' : World) : Prop :=
  ∃ (A : Option Addr) (c : Nat) (bs : List Bool), e = .returned (.slice A bs.length c) ∧ bs.length ≤ 13 ∧ w'.ownsRow w.heap.size 4 1 (.slice A bs.length c) bs.length (bs.map .bool) ∧ Below w.heap.size w w'
/-- The same, and two numbers. -/
def RetDrawBII (w : World) (e : Ending) (w' : World) : Prop :=
  ∃ (A : Option Addr) (c : Nat) (bs : List Bool) (f g : Int), e = .returned (.tuple #[.slice A bs.length c, .int .i64 f, .int .i64 g]) ∧ bs.length ≤ 13 ∧ 0 ≤ f ∧ f ≤ 13 ∧ 0 ≤ g ∧ g ≤ 13 ∧ w'.ownsRow w.heap.size 4 1 (.slice A bs.length c) bs.length (bs.map .bool) ∧ Below w.heap.size w w'

theorem mem6 {v : Int} (h : v ∈ ([2, 1, 3, 12, 0, 13] : List Int)) : 0 ≤ v ∧ v ≤ 13 := by simp at h; omega

set_option maxHeartbeats 1000000 in
theorem drawLastRun_c (zs : List Int) (A : Option Addr) (n c : Nat) (w : World) (hN : zs.length = n) (hc : n ≤ c) (hm : c ≤ maxLen) (h : Rd w A (zs.map (.int .u8))) (hz : ∀ z ∈ zs, 0 ≤ z ∧ z ≤ 255) :
    Calls Try.prog 19 #[.slice A n c] w (RetDrawB w) := by
  have HR := Lib.hid (newReader_c zs A n c w hN hc hm h hz)
  clear h hz hN
  go_enter Try.func19, Try.ntmps19
  go_wp2_with fail
  refine HR.out.mono ?_
  rintro e w1 ⟨rfl, hr, hb⟩
  go_wp2_with fail
  refine (someChecks_c _ _ _ _ hr (by omega)).mono ?_
  rintro e w2 ⟨A2, c2, bs, q, rfl, hl, own, hr2, hq, hg⟩
  have hb2 : Below w.heap.size w w2 := hb.trans (below_grown hg (Nat.le_refl _) hb.size)
  have own2 := own_mono own hb.size
  go_wp2_with fail
  go_ret
  exact ⟨A2, c2, bs, rfl, hl, own2, hb2⟩

set_option maxHeartbeats 1000000 in
theorem drawIsGood_c (zs : List Int) (A : Option Addr) (n c : Nat) (w : World) (hN : zs.length = n) (hc : n ≤ c) (hm : c ≤ maxLen) (h : Rd w A (zs.map (.int .u8))) (hz : ∀ z ∈ zs, 0 ≤ z ∧ z ≤ 255) :
    Calls Try.prog 22 #[.slice A n c] w (RetDrawBII w) := by
  have HR := Lib.hid (newReader_c zs A n c w hN hc hm h hz)
  clear h hz hN
  go_enter Try.func22, Try.ntmps22
  go_wp2_with fail
  refine HR.out.mono ?_
  rintro e w1 ⟨rfl, hr, hb⟩
  go_wp2_with fail
  refine (someChecks_c _ _ _ _ hr (by omega)).mono ?_
  rintro e w2 ⟨A2, c2, bs, q, rfl, hl, own, hr2, hq, hg⟩
  have hb2 : Below w.heap.size w w2 := hb.trans (below_grown hg (Nat.le_refl _) hb.size)
  have hs0 := hb.size
  have hs1 := hr.2.1
  have hs2 := hg.size
  clear hr hg hb
  go_wp2_with fail
  refine (one_c _ _ _ [2, 1, 3, 12, 0, 13] _ _ _ _ (hr2.alloc _) (by omega) rfl (by simp) (by simp) (Rd.lit (Value.int .i64) [2, 1, 3, 12, 0, 13] rfl (by simp) rfl) (fun b off e => by
    injection e with e; injection e with e; omega)).mono ?_
  rintro e w3 ⟨f, hf, rfl, hr3, hg3⟩
  have hf' := mem6 hf
  have own3 := own_keep (own.alloc _) hg3 (by omega)
  have hb3 : Below w.heap.size w w3 := (hb2.alloc hb2.size _).trans (below_grown hg3 (Nat.le_refl _) (by have := hb2.size; simp; omega))
  clear hf own hb2
  go_wp2_with fail
  refine (one_c _ _ _ [2, 1, 3, 12, 0, 13] _ _ _ _ (hr3.alloc _) (by omega) rfl (by simp) (by simp) (Rd.lit (Value.int .i64) [2, 1, 3, 12, 0, 13] rfl (by simp) rfl) (fun b off e => by
    injection e with e; injection e with e; have := hg3.size; simp at this; omega)).mono ?_
  rintro e w4 ⟨g, hg, rfl, hr4, hg4⟩
  have hg' := mem6 hg
  have own4 := own_keep (own3.alloc _) hg4 (by omega)
  have hb4 : Below w.heap.size w w4 := (hb3.alloc hb3.size _).trans (below_grown hg4 (Nat.le_refl _) (by have := hb3.size; simp; omega))
  clear hg own3 hb3
  go_wp2_with fail
  go_ret3
  exact ⟨A2, c2, bs, f, g, rfl, hl, hf'.1, hf'.2, hg'.1, hg'.2, own_mono own4 hs0, hb4⟩
theorem drawGoodPath_c (zs : List Int) (A : Option Addr) (n c : Nat) (w : World) (hN : zs.length = n) (hc : n ≤ c) (hm : c ≤ maxLen) (h : Rd w A (zs.map (.int .u8))) (hz : ∀ z ∈ zs, 0 ≤ z ∧ z ≤ 255) :
    Calls Try.prog 29 #[.slice A n c] w (RetDrawBII w) := by
  have HR := Lib.hid (drawIsGood_c zs A n c w hN hc hm h hz)
  clear h hz hN
  go_enter Try.func29, Try.ntmps29
  go_wp2_with fail
  refine HR.out.mono ?_
  rintro e w1 ⟨A2, c2, bs, f, g, rfl, hr⟩
  go_wp2_with fail
  go_ret3
  exact ⟨A2, c2, bs, f, g, rfl, hr⟩
end Go.Proofs.Ytfmkpcoacghonaa
