/- More plain laws of waits: counts added, counts of parts, places. No program in sight. -/
import Derived.Test.YtjidcickkfaljaaPlainB
set_option linter.unusedVariables false
set_option linter.unusedSimpArgs false
namespace Go.Proofs.Ytjidcickkfaljaa

theorem addL_comm (a b : List Int) : addL a b = addL b a := by
  unfold addL
  rw [List.zipWith_comm]
  congr 1
  funext x y
  exact Int.add_comm _ _
theorem addOk_comm (a b : List Int) : addOk a b = addOk b a := by
  unfold addOk
  rw [addL_comm a b]
  cases validCounts a <;> cases validCounts b <;> rfl
theorem addCounts_comm (a b : List Int) : addCounts a b = addCounts b a := by unfold addCounts; rw [addOk_comm, addL_comm]
theorem sumL_addL : ∀ (a b : List Int), a.length = b.length → sumL (addL a b) = sumL a + sumL b
  | [], [], _ => rfl
  | [], _ :: _, h => by simp at h
  | _ :: _, [], h => by simp at h
  | x :: a, y :: b, h => by
    have ih := sumL_addL a b (by simpa using h)
    simp only [addL, List.zipWith_cons_cons, sumL] at ih ⊢
    omega
theorem addOk_parts (a b : List Int) (h : addOk a b = true) : validCounts a = true ∧ validCounts b = true ∧ validCounts (addL a b) = true ∧ addCounts a b = addL a b := by
  have h' := h
  unfold addOk at h'
  simp only [Bool.and_eq_true] at h'
  exact ⟨h'.1, h'.2.1, h'.2.2, by unfold addCounts; rw [h]; rfl⟩

theorem list8 (l : List Int) (h : l.length = 8) (f : Nat → Int) (hf : ∀ b, b < 8 → l[b]? = some (f b)) : l = [f 0, f 1, f 2, f 3, f 4, f 5, f 6, f 7] := by
  apply List.ext_getElem?
  intro i
  rcases Nat.lt_or_ge i 8 with hi | hi
  · rw [hf i hi]
    have : i = 0 ∨ i = 1 ∨ i = 2 ∨ i = 3 ∨ i = 4 ∨ i = 5 ∨ i = 6 ∨ i = 7 := by omega
    rcases this with rfl | rfl | rfl | rfl | rfl | rfl | rfl | rfl <;> rfl
  · rw [List.getElem?_eq_none (by omega), List.getElem?_eq_none (by simpa using hi)]
theorem tally_list (ws : List Int) : tally ws = [countIn ws 0, countIn ws 1, countIn ws 2, countIn ws 3, countIn ws 4, countIn ws 5, countIn ws 6, countIn ws 7] :=
  list8 _ (tally_length ws) (fun b => countIn ws b) (fun b hb => tally_get ws b hb)
theorem tally_append (a b : List Int) : tally (a ++ b) = addL (tally a) (tally b) := by
  rw [tally_list, tally_list a, tally_list b]
  simp [addL, countIn_append]
theorem tally_valid (ws : List Int) (h : ws.length ≤ 100) : validCounts (tally ws) = true := by
  rw [validCounts_iff]
  refine ⟨tally_length ws, fun x hx => ?_⟩
  rw [tally_list] at hx
  have key : ∀ b, 0 ≤ countIn ws b ∧ countIn ws b ≤ 100 := fun b => by have := countIn_le ws b; omega
  simp only [List.mem_cons, List.not_mem_nil, or_false] at hx
  rcases hx with rfl | rfl | rfl | rfl | rfl | rfl | rfl | rfl <;> exact key _
theorem countIn_snoc (l : List Int) (x b : Int) : countIn (l ++ [x]) b = countIn l b + if binN x = b then 1 else 0 := by
  rw [countIn_append]
  unfold countIn
  by_cases h : binN x = b <;> simp [h]
theorem sumL_tally (ws : List Int) : sumL (tally ws) = ws.length := by
  refine snoc_ind (p := fun ws => sumL (tally ws) = ws.length) ?_ ?_ ws
  · decide
  · intro l x ih
    rw [tally_list] at ih ⊢
    simp only [sumL] at ih ⊢
    simp only [countIn_snoc]
    have hb := binN_range x
    have h8 : binN x = 0 ∨ binN x = 1 ∨ binN x = 2 ∨ binN x = 3 ∨ binN x = 4 ∨ binN x = 5 ∨ binN x = 6 ∨ binN x = 7 := by omega
    simp only [List.length_append, List.length_singleton]
    rcases h8 with e | e | e | e | e | e | e | e <;> rw [e] <;> simp <;> omega

theorem under_mono (l : List Int) (p q : Int) (hl : validCounts l = true) (hp : 0 ≤ p) (hpq : p ≤ q) (hq : q ≤ 100) : under l p ≤ under l q := by
  obtain ⟨a1, a2, a3⟩ := under_spec l p hl ⟨hp, by omega⟩
  obtain ⟨b1, b2, b3⟩ := under_spec l q hl ⟨by omega, hq⟩
  rcases Nat.lt_or_ge (under l q) (under l p) with h | h
  · have h1 := a3 _ h
    obtain ⟨_, hx⟩ := (validCounts_iff l).1 hl
    have hs := sumL_bd 0 100 l hx
    have h2 := Int.mul_le_mul_of_nonneg_right hpq (show 0 ≤ sumL l by omega)
    omega
  · exact h
/-- The last place with a positive number; 0 if there is none. -/
def lastPos (l : List Int) : Nat → Nat
  | 0 => 0
  | k + 1 => if 0 < l.getD k 0 then k else lastPos l k
theorem lastPos_lt (l : List Int) : ∀ k, 0 < k → lastPos l k < k
  | 0, h => by omega
  | k + 1, _ => by
    unfold lastPos
    split
    · omega
    · rcases Nat.eq_zero_or_pos k with h | h
      · subst h; simp [lastPos]
      · have := lastPos_lt l k h; omega
theorem lastPos_spec (l : List Int) (hn : ∀ x ∈ l, 0 ≤ x) : ∀ k, k ≤ l.length → sumL (l.take k) = sumL (l.take (lastPos l k + 1)) ∨ k = 0
  | 0, _ => .inr rfl
  | k + 1, h => by
    left
    unfold lastPos
    have hg : l.getD k 0 = l[k] := by simp [List.getD, show k < l.length by omega]
    split
    · rfl
    · rename_i hp
      rw [hg] at hp
      have h0 := hn l[k] (List.getElem_mem (by omega))
      rw [sumL_take_succ l k (by omega), show l[k] = 0 by omega]
      rcases lastPos_spec l hn k (by omega) with h1 | h1
      · omega
      · subst h1
        simp only [lastPos]
        rw [sumL_take_succ l 0 (by omega)]
        omega
theorem lastPos_pos (l : List Int) : ∀ k, k ≤ l.length → 0 < lastPos l k → 0 < l.getD (lastPos l k) 0
  | 0, _, h => by simp [lastPos] at h
  | k + 1, hk, h => by
    unfold lastPos at h ⊢
    split
    · assumption
    · rename_i hp
      rw [if_neg hp] at h
      exact lastPos_pos l k (by omega) h
theorem under_last (l : List Int) (hl : validCounts l = true) : under l 100 = lastPos l 8 := by
  obtain ⟨h8, hx⟩ := (validCounts_iff l).1 hl
  have hs := lastPos_spec l (fun x hx' => (hx x hx').1) 8 (by omega)
  have hlt := lastPos_lt l 8 (by omega)
  rw [List.take_of_length_le (by omega)] at hs
  refine under_eq l 100 _ hlt ?_ (fun j hj => ?_)
  · rcases hs with hs | hs <;> omega
  · have hp := lastPos_pos l 8 (by omega) (by omega)
    have hg : l.getD (lastPos l 8) 0 = l[lastPos l 8]'(by omega) := by simp [List.getD, show lastPos l 8 < l.length by omega]
    have h1 := sumL_take_succ l (lastPos l 8) (by omega)
    have h2 := sumL_take_mono l (fun x hx' => (hx x hx').1) (j + 1) (lastPos l 8) (by omega)
    rcases hs with hs | hs <;> omega
end Go.Proofs.Ytjidcickkfaljaa
