/- Decimal texts: the reference's own function and its bytes. -/
import Derived.Test.YtnmgnhpagnjhlaaGreatDoorProg
import Derived.Test.YtnmgnhpagnjhlaaGreatDoorBase
import Derived.Deep.RegionHeld3
import Derived.Deep.RegionWith
import Derived.IntWalk
import Derived.Lib.ItoaNum
import Derived.Laws.IdiomStrings
set_option linter.unusedVariables false
set_option linter.unusedSimpArgs false
set_option linter.unnecessarySimpa false
namespace Go.Proofs.YtnmgnhpagnjhlaaGreatDoor
open Go.RowKit

theorem bs_append (a b : List UInt8) : (⟨a.toArray⟩ : ByteArray) ++ ⟨b.toArray⟩ = ⟨(a ++ b).toArray⟩ := by
  apply ByteArray.ext
  simp
theorem conv_one (W : World) (g : Nat) (z : Int) (d : UInt8) (hd : (d.toNat : Int) = 48 + z) (h : W.cell? ⟨g, 0, none⟩ = some (.int .u8 (48 + z))) :
    (convert 22 9 (.slice (some ⟨g, 0, none⟩) 1 1)).run Tryz.prog W = .ok (.string ⟨#[d]⟩) W := by
  have := run_convert_bytes_back (P := Tryz.prog) W 22 9 5 ⟨g, 0, none⟩ 1 [d] Tryz.underlying22 Tryz.underlying5 Tryz.underlying9 (fun j hj => by
    obtain rfl : j = 0 := by simpa using hj
    rw [add_none, h]
    simp only [List.getElem_cons_zero]
    rw [hd])
  simpa using this
theorem digit_nat (z : Nat) (h : z < 10) : ((UInt8.ofNat (48 + z)).toNat : Int) = 48 + (z : Int) := by
  rw [UInt8.toNat_ofNat']; omega
/-- The decimal text of a number. -/
def decB (u : Nat) : ByteArray := ⟨(Lib.decDigits u).toArray⟩
theorem decB_size (u : Nat) : (decB u).size = (Lib.decDigits u).length := by simp [decB, ByteArray.size]
theorem decDigits_le : ∀ (k u : Nat), u < 10 ^ k → (Lib.decDigits u).length ≤ max 1 k
  | 0, u, h => by
    obtain rfl : u = 0 := by simpa using h
    rw [Lib.decDigits_one (by omega)]; exact Nat.le_refl _
  | k + 1, u, h => by
    by_cases hu : u < 10
    · rw [Lib.decDigits_one hu]; simp only [List.length_singleton]; omega
    · rw [Lib.decDigits, dif_neg hu]
      have := decDigits_le k (u / 10) (by rw [Nat.pow_succ] at h; omega)
      rw [List.length_append]
      simp only [List.length_singleton]
      rcases Nat.eq_zero_or_pos k with h0 | h0
      · subst h0; simp at h; omega
      · omega
theorem decB_le (u : Nat) (h : u ≤ 1000000) : (decB u).size ≤ 7 := by
  rw [decB_size]
  have := decDigits_le 7 u (by omega)
  omega
theorem decB_snoc (u : Nat) (h : ¬ u < 10) : decB u = decB (u / 10) ++ ⟨#[UInt8.ofNat (48 + u % 10)]⟩ := by
  unfold decB
  rw [Lib.decDigits, dif_neg h]
  exact (bs_append _ [_]).symm
theorem arm_drew {w w1 : World} (b : Below w.drew.heap.size w.drew w1) : Below w.heap.size w w1 ∧ w.heap.size ≤ w1.heap.size :=
  ⟨(Below.refl _ _).drew.trans b, b.size⟩
theorem arm_alloc {w w1 : World} {u : Value} {t : TypeId} (b : Below (w.alloc (.cells #[u] t)).drew.heap.size (w.alloc (.cells #[u] t)).drew w1) : Below w.heap.size w w1 ∧ w.heap.size ≤ w1.heap.size ∧ w1.cell? ⟨w.heap.size, 0, none⟩ = some u := by
  have hs : w.heap.size < (w.alloc (.cells #[u] t)).heap.size := by simp
  have bl : Below w.heap.size w w1 := ((Below.refl w.heap.size w).alloc (Nat.le_refl _) _).drew.trans (b.mono (Nat.le_of_lt hs))
  exact ⟨bl, bl.size, ((Blk.new w t #[u]).drew.below b hs).cell 0⟩
set_option maxRecDepth 100000 in
set_option maxHeartbeats 400000 in
theorem decimal_c : ∀ (u : Nat), u ≤ 1000000 → ∀ (w : World), Calls Tryz.prog 67 #[.int .i64 u] w fun e w' => e = .returned (.string (decB u)) ∧ Below w.heap.size w w' := by
  intro u
  induction u using Nat.strongRecOn with
  | _ u ih =>
  intro hu w
  by_cases h : u < 10
  · obtain ⟨d, hdd⟩ : ∃ d, d = UInt8.ofNat (48 + u) := ⟨_, rfl⟩
    have hres : decB u = ⟨#[d]⟩ := by unfold decB; rw [Lib.decDigits_one h, hdd]
    rw [hres]
    have hd : decide ((u : Int) < 10) = true := decide_eq_true (by omega)
    have kc := fun W g => conv_one W g u d (by rw [hdd]; exact digit_nat u h)
    clear hdd hres ih
    go_enter Tryz.func67, Tryz.ntmps67
    go_wp2_with fail
    go_ret
    exact ⟨rfl, (Below.refl _ _).alloc (Nat.le_refl _) _⟩
  · have hd : decide ((u : Int) < 10) = false := decide_eq_false (by omega)
    obtain ⟨q, hq⟩ : ∃ q, q = u / 10 := ⟨_, rfl⟩
    obtain ⟨m, hm⟩ : ∃ m, m = u % 10 := ⟨_, rfl⟩
    obtain ⟨d, hdd⟩ : ∃ d, d = UInt8.ofNat (48 + m) := ⟨_, rfl⟩
    obtain ⟨D, hD⟩ : ∃ D, D = decB q := ⟨_, rfl⟩
    have hq1 : Int.tdiv (u : Int) 10 = (q : Int) := by rw [hq, Int.tdiv_eq_ediv_of_nonneg (by omega)]; omega
    have hm1 : Int.tmod (u : Int) 10 = (m : Int) := by rw [hm, Int.tmod_eq_emod_of_nonneg (by omega)]; omega
    have hcall := ih q (by omega) (by omega)
    have hres : decB u = D ++ ⟨#[d]⟩ := by rw [decB_snoc u h, hD, hq, hdd, hm]
    have hds : D.size ≤ 7 := by rw [hD]; exact decB_le q (by omega)
    rw [← hD] at hcall
    rw [hres]
    have hm2 : (m : Int) ≤ 9 := by omega
    have hs1 : ¬ (9223372036854775807 < D.size + 1) := by omega
    have hs2 : D.size + 1 ≤ 9223372036854775807 := by omega
    have hs3 : ¬ (9223372036854775807 ≤ D.size) := by omega
    have hs4 : D.size < 9223372036854775807 := by omega
    have HC := Lib.hid hcall
    have hw1 : IntKind.i64.wrap (q : Int) = (q : Int) := IntWalk.i64_in _ ⟨by omega, by omega⟩
    have hw2 : IntKind.i64.wrap (48 + (m : Int)) = 48 + (m : Int) := IntWalk.i64_in _ ⟨by omega, by omega⟩
    have hw3 : IntKind.u8.wrap (48 + (m : Int)) = 48 + (m : Int) := by simp only [IntKind.wrap, IntKind.bits, IntKind.signed]; simp; omega
    have kc := fun W g => conv_one W g m d (by rw [hdd]; exact digit_nat m (by omega))
    have kcA := kc (w.alloc (.cells #[.int .u8 (48 + (m : Int))] 5)).drew w.heap.size (cell_new w _ _ 0)
    have KC := Lib.hid kc
    clear ih hq hm hcall hres hdd hD kc
    go_enter Tryz.func67, Tryz.ntmps67
    go_wp2_with fail
    go_region_with ((go_at_call 67; with_reducible refine (HC.out _).mono ?_; rintro e w91 ⟨rfl, b91⟩; (first | (have hh := arm_alloc (w := w) (u := .int .u8 (48 + (m : Int))) (t := 5) b91; obtain ⟨bel1, hsz, z0⟩ := hh; have kcB := KC.out w91 w.heap.size z0) | (have hh := arm_drew (w := w) b91; obtain ⟨bel1, hsz⟩ := hh; have kcC := KC.out (w91.alloc (.cells #[.int .u8 (48 + (m : Int))] 5)) w91.heap.size (cell_new w91 _ _ 0)))))
    all_goals
      have BEL1 := Lib.hid bel1
      clear bel1 b91
      go_wp2_with fail
      go_ret
      first | exact ⟨rfl, BEL1.out⟩ | exact ⟨rfl, BEL1.out.alloc hsz _⟩
end Go.Proofs.YtnmgnhpagnjhlaaGreatDoor
