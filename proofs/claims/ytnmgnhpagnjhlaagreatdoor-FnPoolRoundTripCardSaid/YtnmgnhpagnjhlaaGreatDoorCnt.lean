/- How often a byte is in the text of a pool. No program in sight. -/
import Derived.Test.YtnmgnhpagnjhlaaGreatDoorPoolFmt
import Derived.Lib.ItoaMem
set_option linter.unusedVariables false
set_option linter.unusedSimpArgs false
set_option linter.unnecessarySimpa false
namespace Go.Proofs.YtnmgnhpagnjhlaaGreatDoor
open Go.RowKit

/-- How often a byte is among the first j of a text. -/
def cnt (c : UInt8) (T : ByteArray) (j : Nat) : Nat := (T.data.toList.take j).count c
theorem cnt_succ (c : UInt8) (T : ByteArray) (j : Nat) (h : j < T.size) : cnt c T (j + 1) = cnt c T j + (if T[j] = c then 1 else 0) := by
  unfold cnt
  have hl : j < T.data.toList.length := by simpa using h
  rw [List.take_succ_eq_append_getElem hl, List.count_append]
  congr 1
  have e : T.data.toList[j] = T[j] := rfl
  rw [e, List.count_singleton]
  by_cases hc : T[j] = c
  · simp [hc]
  · simp [hc]
theorem cnt_le (c : UInt8) (T : ByteArray) (j : Nat) : cnt c T j ≤ j := by
  unfold cnt
  have h1 := List.count_le_length (a := c) (l := T.data.toList.take j)
  have h2 := List.length_take_le j T.data.toList
  omega
theorem dec_mem : ∀ (u : Nat), ∀ b ∈ Lib.decDigits u, 48 ≤ b.toNat ∧ b.toNat ≤ 57 := by
  intro u
  induction u using Nat.strongRecOn with
  | _ u ih =>
    intro b hb
    by_cases h : u < 10
    · rw [Lib.decDigits_one h] at hb
      simp only [List.mem_singleton] at hb
      subst hb
      rw [UInt8.toNat_ofNat']; omega
    · rw [Lib.decDigits, dif_neg h] at hb
      rcases List.mem_append.1 hb with hb | hb
      · exact ih (u / 10) (by omega) b hb
      · simp only [List.mem_singleton] at hb
        subst hb
        rw [UInt8.toNat_ofNat']; omega
theorem dec_count (u : Nat) (c : UInt8) (h : c.toNat < 48 ∨ 57 < c.toNat) : (Lib.decDigits u).count c = 0 :=
  List.count_eq_zero.2 fun hm => by have := dec_mem u c hm; omega
theorem comma_count (c : UInt8) (k : Nat) : ∀ (ps : List (List UInt8)), (∀ p ∈ ps, p.count c = k) → (comma ps).count c = ps.length * k + (if c = 44 then ps.length - 1 else 0)
  | [], _ => by simp [comma_nil]
  | [a], h => by rw [comma_one, h a (by simp)]; simp
  | a :: b :: ps, h => by
    rw [comma_cons, List.count_append, List.count_cons, comma_count c k (b :: ps) (fun p hp => h p (List.mem_cons_of_mem _ hp)), h a (by simp)]
    simp only [List.length_cons, Nat.add_mul, Nat.one_mul]
    by_cases hc : c = 44
    · subst hc
      simp only [beq_self_eq_true, if_true]; omega
    · have e : ((44 : UInt8) == c) = false := beq_eq_false_iff_ne.2 (fun e => hc e.symm)
      simp only [e, hc, Bool.false_eq_true, if_false]; omega
theorem bsof_empty : (bsof []).toList.isEmpty = true := by decide +kernel
theorem intL_count (v : Int) (c : UInt8) (h : c.toNat < 48 ∨ 57 < c.toNat) : (intL v).count c = 0 := dec_count _ c h
theorem holdL_count (x : Pr) (c : UInt8) (h : c.toNat < 48 ∨ 57 < c.toNat) : (holdL x).count c = if c = 58 then 1 else 0 := by
  unfold holdL
  rw [List.count_append, List.count_cons, dec_count _ _ h, dec_count _ _ h]
  by_cases hc : c = 58
  · subst hc; rfl
  · have e : ((58 : UInt8) == c) = false := beq_eq_false_iff_ne.2 (fun e => hc e.symm)
    simp [e, hc]
theorem listL_count (vs : List Int) (c : UInt8) (h : c.toNat < 48 ∨ 57 < c.toNat) (h44 : c ≠ 44) : (listL vs).count c = 0 := by
  unfold listL
  rw [comma_count c 0 _ (fun p hp => by obtain ⟨x, _, rfl⟩ := List.mem_map.1 hp; exact intL_count x c h), if_neg h44]
  rfl
theorem holdsL_count (hs : List Pr) (c : UInt8) (h : c.toNat < 48 ∨ 57 < c.toNat) (h44 : c ≠ 44) : (holdsL hs).count c = if c = 58 then hs.length else 0 := by
  unfold holdsL
  rw [comma_count c (if c = 58 then 1 else 0) _ (fun p hp => by obtain ⟨x, _, rfl⟩ := List.mem_map.1 hp; exact holdL_count x c h), if_neg h44]
  by_cases hc : c = 58
  · rw [if_pos hc, if_pos hc]; simp
  · rw [if_neg hc, if_neg hc]; rfl
theorem pool_count (p : Pl) (T : ByteArray) (h : T = bsof p.text) : cnt 124 T T.size = 2 ∧ cnt 58 T T.size = p.hs.length ∧ cnt 32 T T.size = 1 := by
  have e : T.data.toList = p.text := by rw [h]; rfl
  have hz : T.size = T.data.toList.length := by show T.data.size = _; rw [Array.length_toList]
  unfold cnt
  rw [hz, List.take_length, e]
  unfold Pl.text
  refine ⟨?_, ?_, ?_⟩
  all_goals
    rw [List.count_append, List.count_cons, List.count_append, List.count_cons, List.count_append, List.count_cons, intL_count _ _ (by decide), listL_count _ _ (by decide) (by decide), listL_count _ _ (by decide) (by decide), holdsL_count _ _ (by decide) (by decide)]
    simp
theorem pool_size (p : Pl) (g : p.Good) (T : ByteArray) (h : T = bsof p.text) : T.size ≤ 50000 := by
  have h1 := listL_size g.smallIds (by have := g.small; omega)
  have h2 := holdsL_size g.smallHs (by have := g.small; omega)
  have h3 := listL_size g.smallWt (by have := g.small; omega)
  have h4 := dec_len p.mx.toNat (by have := g.2.2.1; omega)
  rw [bsof_size] at h1 h2 h3
  rw [h, bsof_size]
  unfold Pl.text
  simp only [List.length_append, List.length_cons, intL]
  omega
end Go.Proofs.YtnmgnhpagnjhlaaGreatDoor
