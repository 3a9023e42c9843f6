/- The program and the reference read the same numbers up to four digits. No program in sight. -/
import Derived.Test.YtnmgnhpagnjhlaaGreatDoorParseG
import Derived.Lib.AtoiTie
set_option linter.unusedVariables false
set_option linter.unusedSimpArgs false
set_option linter.unnecessarySimpa false
namespace Go.Proofs.YtnmgnhpagnjhlaaGreatDoor
open Go.RowKit

theorem decFrom_append (a b : List UInt8) (acc : Nat) : Lib.decFrom acc (a ++ b) = (Lib.decFrom acc a).bind fun n => Lib.decFrom n b := by
  induction a generalizing acc with
  | nil => rfl
  | cons x a ih =>
    rw [List.cons_append]
    simp only [Lib.decFrom]
    cases hx : Lib.digitVal x with
    | none => rfl
    | some d => simp only; exact ih _
theorem digit_val (z : Nat) (h : z < 10) : Lib.digitVal (UInt8.ofNat (48 + z)) = some z := by
  unfold Lib.digitVal
  have e : (UInt8.ofNat (48 + z)).toNat = 48 + z := by rw [UInt8.toNat_ofNat']; omega
  rw [e, if_pos ⟨by omega, by omega⟩]
  congr 1
  omega
theorem decFrom_dec (u : Nat) : Lib.decFrom 0 (Lib.decDigits u) = some u := by
  induction u using Nat.strongRecOn with
  | _ u ih =>
    by_cases h : u < 10
    · rw [Lib.decDigits_one h]
      simp only [Lib.decFrom, digit_val u h]
      congr 1
      omega
    · rw [Lib.decDigits, dif_neg h, decFrom_append, ih (u / 10) (by omega)]
      simp only [Option.bind_some, Lib.decFrom, digit_val (u % 10) (by omega)]
      congr 1
      omega
theorem dec_byte (u : Nat) : ∀ b ∈ Lib.decDigits u, 48 ≤ b.toNat ∧ b.toNat ≤ 57 := by
  intro b hb
  by_cases h : 48 ≤ b.toNat ∧ b.toNat ≤ 57
  · exact h
  · exact absurd hb (dec_free u b (by omega))
theorem digitsB_dec (u : Nat) : digitsB (Lib.decDigits u) = true := by
  unfold digitsB
  rw [List.all_eq_true]
  intro b hb
  exact decide_eq_true (dec_byte u b hb)
theorem valB_dec (u : Nat) : valB (Lib.decDigits u) = u := by
  induction u using Nat.strongRecOn with
  | _ u ih =>
    by_cases h : u < 10
    · rw [Lib.decDigits_one h]
      simp only [valB, List.foldl_cons, List.foldl_nil]
      rw [UInt8.toNat_ofNat']; omega
    · rw [Lib.decDigits, dif_neg h, valB_snoc, ih (u / 10) (by omega)]
      rw [UInt8.toNat_ofNat']; omega
theorem pI_dec (u : Nat) (h : u ≤ 9999) : pI (Lib.decDigits u) = u := by
  have hl := decDigits_le 4 u (by omega)
  have hp : 1 ≤ (Lib.decDigits u).length := by
    cases hd : Lib.decDigits u with
    | nil => exact absurd hd (by
        by_cases h : u < 10
        · rw [Lib.decDigits_one h]; simp
        · rw [Lib.decDigits, dif_neg h]; simp)
    | cons b r => simp
  unfold pI
  rw [if_pos ⟨hp, by omega, digitsB_dec u, by rw [valB_dec]⟩, valB_dec]
theorem atoi_dec (u : Nat) (h : u ≤ 9999) : Lib.atoiAll (Lib.decDigits u) = .ok (u : Int) := by
  have hl := decDigits_le 4 u (by omega)
  rw [Lib.atoiAll_short _ (by omega)]
  have hf := decFrom_dec u
  have hb := dec_byte u
  cases hd : Lib.decDigits u with
  | nil => rw [hd] at hf; simp only [Lib.decFrom, Option.some.injEq] at hf; subst hf; rw [Lib.decDigits_one (by omega)] at hd; cases hd
  | cons b r =>
    rw [hd] at hf hb
    have h1 := hb b (by simp)
    have h2 : (b == 45) = false := beq_eq_false_iff_ne.2 (fun e => by rw [e] at h1; exact absurd h1 (by decide))
    have h3 : (b == 43) = false := beq_eq_false_iff_ne.2 (fun e => by rw [e] at h1; exact absurd h1 (by decide))
    simp only [Lib.atoi, h2, h3, Bool.false_eq_true, if_false]
    unfold Lib.decNat
    simp only [List.isEmpty_cons, Bool.false_eq_true, if_false, hf]
    rfl
theorem numI_dec (u : Nat) (h : u ≤ 9999) : numI (Lib.decDigits u) = u := by
  unfold numI
  rw [atoi_dec u h]
  simp only
  rw [if_pos ⟨by omega, Lib.itoa_nonneg u⟩]
theorem pI_lt (l : List UInt8) : pI l ≤ 9999 := by
  unfold pI
  split
  · rename_i h
    have h1 := valB_lt _ l h.2.2.1 rfl
    have h2 := Nat.pow_le_pow_right (n := 10) (by omega) h.2.1
    omega
  · omega
theorem pI_ge (l : List UInt8) : -1 ≤ pI l := by
  unfold pI
  split <;> omega
/-- What a command's number is to the program. -/
theorem num_pI (l : List UInt8) : (if 9999 < numI l then -1 else numI l) = pI l := by
  have h0 := numI_ge l
  have h1 := pI_ge l
  have h2 := pI_lt l
  by_cases hp : 0 ≤ pI l
  · have e := pI_some l hp
    have hn := numI_dec (pI l).toNat (by omega)
    rw [← e] at hn
    rw [hn, if_neg (by omega)]
    omega
  · split
    · omega
    · rename_i h9
      by_cases hn : 0 ≤ numI l
      · have e := numI_some l hn
        have hq := pI_dec (numI l).toNat (by omega)
        rw [← e] at hq
        omega
      · omega
end Go.Proofs.YtnmgnhpagnjhlaaGreatDoor
