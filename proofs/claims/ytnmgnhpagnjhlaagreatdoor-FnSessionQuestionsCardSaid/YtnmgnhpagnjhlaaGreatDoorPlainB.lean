/- The plain law of waits: bins, tops, counts, sums. Plain numbers and lists; no program in sight. -/
set_option linter.unusedVariables false
set_option linter.unusedSimpArgs false
namespace Go.Proofs.YtnmgnhpagnjhlaaGreatDoor

/-- The bin of a wait that is not negative. -/
def binN (w : Int) : Int := if w < 1 then 0 else if w < 2 then 1 else if w < 4 then 2 else if w < 8 then 3 else if w < 16 then 4 else if w < 32 then 5 else if w < 64 then 6 else 7
def binOf (w : Int) : Int := if 0 ≤ w ∧ w ≤ 1000 then binN w else -1
def topN (b : Int) : Int := if b = 0 then 0 else if b = 1 then 1 else if b = 2 then 3 else if b = 3 then 7 else if b = 4 then 15 else if b = 5 then 31 else if b = 6 then 63 else 1000
def binTop (b : Int) : Int := if 0 ≤ b ∧ b ≤ 7 then topN b else -1

theorem binN_cases (w : Int) : (w < 1 ∧ binN w = 0) ∨ (1 ≤ w ∧ w < 2 ∧ binN w = 1) ∨ (2 ≤ w ∧ w < 4 ∧ binN w = 2) ∨ (4 ≤ w ∧ w < 8 ∧ binN w = 3) ∨ (8 ≤ w ∧ w < 16 ∧ binN w = 4) ∨ (16 ≤ w ∧ w < 32 ∧ binN w = 5) ∨ (32 ≤ w ∧ w < 64 ∧ binN w = 6) ∨ (64 ≤ w ∧ binN w = 7) := by
  unfold binN; repeat' split
  all_goals omega
theorem binN_range (w : Int) : 0 ≤ binN w ∧ binN w ≤ 7 := by have := binN_cases w; omega
theorem binOf_top (w : Int) (h0 : 0 ≤ w) (h1 : w ≤ 1000) : w ≤ binTop (binOf w) ∧ (binOf w = 0 ∨ binTop (binOf w - 1) < w) ∧ 0 ≤ binOf w ∧ binOf w ≤ 7 := by
  have h : binOf w = binN w := by unfold binOf; rw [if_pos ⟨h0, h1⟩]
  rw [h]
  have c : (w < 1 ∧ binN w = 0) ∨ (1 ≤ w ∧ w < 2 ∧ binN w = 1) ∨ (2 ≤ w ∧ w < 4 ∧ binN w = 2) ∨ (4 ≤ w ∧ w < 8 ∧ binN w = 3) ∨ (8 ≤ w ∧ w < 16 ∧ binN w = 4) ∨ (16 ≤ w ∧ w < 32 ∧ binN w = 5) ∨ (32 ≤ w ∧ w < 64 ∧ binN w = 6) ∨ (64 ≤ w ∧ binN w = 7) := binN_cases w
  rcases c with ⟨a, e⟩ | ⟨a, b, e⟩ | ⟨a, b, e⟩ | ⟨a, b, e⟩ | ⟨a, b, e⟩ | ⟨a, b, e⟩ | ⟨a, b, e⟩ | ⟨a, e⟩ <;> rw [e] <;> simp [binTop, topN] <;> omega
theorem binOf_more (w : Int) (h0 : 0 ≤ w) (h1 : w < 1000) : binOf (w + 1) = binOf w ∨ binOf (w + 1) = binOf w + 1 := by
  have a : binOf w = binN w := by unfold binOf; rw [if_pos ⟨h0, by omega⟩]
  have b : binOf (w + 1) = binN (w + 1) := by unfold binOf; rw [if_pos ⟨by omega, by omega⟩]
  have := binN_cases w
  have := binN_cases (w + 1)
  omega
theorem binOf_of_top (b : Int) (h0 : 0 ≤ b) (h1 : b ≤ 7) : binOf (binTop b) = b ∧ (b = 7 ∧ binTop b = 1000 ∨ b < 7 ∧ binOf (binTop b + 1) = b + 1) := by
  have : b = 0 ∨ b = 1 ∨ b = 2 ∨ b = 3 ∨ b = 4 ∨ b = 5 ∨ b = 6 ∨ b = 7 := by omega
  rcases this with rfl | rfl | rfl | rfl | rfl | rfl | rfl | rfl <;> decide
theorem binTop_mono (a b : Int) (h0 : 0 ≤ a) (h : a ≤ b) (h1 : b ≤ 7) : binTop a ≤ binTop b := by
  have ha : a = 0 ∨ a = 1 ∨ a = 2 ∨ a = 3 ∨ a = 4 ∨ a = 5 ∨ a = 6 ∨ a = 7 := by omega
  have hb : b = 0 ∨ b = 1 ∨ b = 2 ∨ b = 3 ∨ b = 4 ∨ b = 5 ∨ b = 6 ∨ b = 7 := by omega
  rcases ha with rfl | rfl | rfl | rfl | rfl | rfl | rfl | rfl <;> rcases hb with rfl | rfl | rfl | rfl | rfl | rfl | rfl | rfl <;> first | decide | omega

def sumL : List Int → Int
  | [] => 0
  | x :: l => x + sumL l
theorem sumL_append : ∀ a b : List Int, sumL (a ++ b) = sumL a + sumL b
  | [], b => by simp [sumL]
  | x :: a, b => by simp only [List.cons_append, sumL, sumL_append a b]; omega
theorem sumL_snoc (l : List Int) (x : Int) : sumL (l ++ [x]) = sumL l + x := by rw [sumL_append]; simp [sumL]
theorem sumL_take_succ (l : List Int) (k : Nat) (h : k < l.length) : sumL (l.take (k + 1)) = sumL (l.take k) + l[k] := by
  rw [List.take_succ_eq_append_getElem h, sumL_snoc]
def allB (lo hi : Int) (l : List Int) : Bool := l.all fun x => decide (lo ≤ x) && decide (x ≤ hi)
theorem allB_iff (lo hi : Int) (l : List Int) : allB lo hi l = true ↔ ∀ x ∈ l, lo ≤ x ∧ x ≤ hi := by simp [allB]
theorem allB_snoc (lo hi : Int) (l : List Int) (x : Int) : allB lo hi (l ++ [x]) = (allB lo hi l && (decide (lo ≤ x) && decide (x ≤ hi))) := by simp [allB]
theorem sumL_bd (lo hi : Int) : ∀ l : List Int, (∀ x ∈ l, lo ≤ x ∧ x ≤ hi) → lo * l.length ≤ sumL l ∧ sumL l ≤ hi * l.length
  | [], _ => by simp [sumL]
  | x :: l, h => by
    have ih := sumL_bd lo hi l (fun y hy => h y (by simp [hy]))
    have hx := h x (by simp)
    simp only [sumL, List.length_cons, Int.natCast_add, Int.mul_add]
    omega
theorem sumL_take_mono (l : List Int) (h : ∀ x ∈ l, 0 ≤ x) (j k : Nat) (hjk : j ≤ k) : sumL (l.take j) ≤ sumL (l.take k) := by
  have e : l.take j = (l.take k).take j := by rw [List.take_take, Nat.min_eq_left hjk]
  have e2 : l.take k = (l.take k).take j ++ (l.take k).drop j := (List.take_append_drop j _).symm
  have e3 : sumL (l.take k) = sumL (l.take j) + sumL ((l.take k).drop j) := by
    have h1 := congrArg sumL e2
    rw [sumL_append, ← e] at h1
    exact h1
  have : 0 ≤ sumL ((l.take k).drop j) := by
    have hall : ∀ x ∈ (l.take k).drop j, 0 ≤ x := fun x hx => h x (List.mem_of_mem_take (List.mem_of_mem_drop hx))
    clear e e2 e3
    generalize (l.take k).drop j = d at *
    induction d with
    | nil => simp [sumL]
    | cons y d ih => have := hall y (by simp); have := ih (fun x hx => hall x (by simp [hx])); simp only [sumL]; omega
  omega

def validCounts (l : List Int) : Bool := decide (l.length = 8) && allB 0 100 l
theorem validCounts_iff (l : List Int) : validCounts l = true ↔ l.length = 8 ∧ ∀ x ∈ l, 0 ≤ x ∧ x ≤ 100 := by
  simp [validCounts, allB_iff]

/-- One more in bin b. -/
def bump (l : List Int) (b : Nat) : List Int := l.set b (l.getD b 0 + 1)
/-- Waits counted one by one. -/
def tally (ws : List Int) : List Int := ws.foldl (fun l w => bump l (binN w).toNat) (List.replicate 8 0)
theorem bump_length (l : List Int) (b : Nat) : (bump l b).length = l.length := by simp [bump]
theorem tally_snoc (ws : List Int) (w : Int) : tally (ws ++ [w]) = bump (tally ws) (binN w).toNat := by simp [tally]
theorem snoc_ind {α : Type} {p : List α → Prop} (h0 : p []) (h1 : ∀ l x, p l → p (l ++ [x])) (l : List α) : p l := by
  have key : ∀ r : List α, p r.reverse := by
    intro r
    induction r with
    | nil => exact h0
    | cons x r ih => rw [List.reverse_cons]; exact h1 _ _ ih
  have := key l.reverse
  rwa [List.reverse_reverse] at this
theorem tally_length (ws : List Int) : (tally ws).length = 8 := by
  refine snoc_ind (p := fun ws => (tally ws).length = 8) rfl (fun l w ih => ?_) ws
  rw [tally_snoc, bump_length, ih]
def countIn (ws : List Int) (b : Int) : Int := ((ws.filter fun w => binN w == b).length : Nat)
theorem tally_get (ws : List Int) (b : Nat) (hb : b < 8) : (tally ws)[b]? = some (countIn ws b) := by
  refine snoc_ind (p := fun ws => (tally ws)[b]? = some (countIn ws b)) ?_ ?_ ws
  · have : tally [] = [0, 0, 0, 0, 0, 0, 0, 0] := rfl
    rw [this]
    have : b = 0 ∨ b = 1 ∨ b = 2 ∨ b = 3 ∨ b = 4 ∨ b = 5 ∨ b = 6 ∨ b = 7 := by omega
    rcases this with rfl | rfl | rfl | rfl | rfl | rfl | rfl | rfl <;> rfl
  · intro l w ih
    have hl := tally_length l
    have hw := binN_range w
    rw [tally_snoc, bump]
    by_cases hbw : (binN w).toNat = b
    · subst hbw
      rw [List.getElem?_set_self (by omega)]
      have e : ((binN w).toNat : Int) = binN w := by omega
      have h1 : (tally l).getD (binN w).toNat 0 = countIn l (binN w).toNat := by simp [List.getD, ih]
      rw [h1]
      simp only [countIn, List.filter_append, List.length_append, e]
      simp
    · rw [List.getElem?_set_ne hbw, ih]
      simp only [countIn, List.filter_append, List.length_append]
      have : (binN w == (b : Int)) = false := beq_eq_false_iff_ne.2 (by omega)
      simp [this]
theorem countIn_le (ws : List Int) (b : Int) : 0 ≤ countIn ws b ∧ countIn ws b ≤ ws.length := by
  have := List.length_filter_le (fun w => binN w == b) ws
  unfold countIn; omega
theorem countIn_append (a b : List Int) (k : Int) : countIn (a ++ b) k = countIn a k + countIn b k := by simp [countIn]
def countWaits (ws : List Int) : List Int := if ws.length ≤ 16 ∧ allB 0 1000 ws = true then tally ws else []
def addL (a b : List Int) : List Int := List.zipWith (· + ·) a b
def addOk (a b : List Int) : Bool := validCounts a && (validCounts b && validCounts (addL a b))
def addCounts (a b : List Int) : List Int := if addOk a b then addL a b else []

/-- The least bin up to which at least so many per cent are. -/
def under (l : List Int) (p : Int) : Nat := (List.range 8).findIdx fun b => decide (p * sumL l ≤ 100 * sumL (l.take (b + 1)))
theorem under_eq (l : List Int) (p : Int) (b : Nat) (hb : b < 8) (h : p * sumL l ≤ 100 * sumL (l.take (b + 1))) (hn : ∀ j, j < b → 100 * sumL (l.take (j + 1)) < p * sumL l) : under l p = b := by
  unfold under
  have hb' : b < (List.range 8).length := by simpa using hb
  rw [List.findIdx_eq hb']
  refine ⟨by simpa using h, fun j hj => ?_⟩
  have := hn j hj
  simp
  omega
theorem under_spec (l : List Int) (p : Int) (hl : validCounts l = true) (hp : 0 ≤ p ∧ p ≤ 100) : under l p < 8 ∧ p * sumL l ≤ 100 * sumL (l.take (under l p + 1)) ∧ ∀ j, j < under l p → 100 * sumL (l.take (j + 1)) < p * sumL l := by
  obtain ⟨hl8, hx⟩ := (validCounts_iff l).1 hl
  have hs := sumL_bd 0 100 l hx
  have key : ∃ b, b < 8 ∧ p * sumL l ≤ 100 * sumL (l.take (b + 1)) ∧ ∀ j, j < b → 100 * sumL (l.take (j + 1)) < p * sumL l := by
    have h7 : p * sumL l ≤ 100 * sumL (l.take (7 + 1)) := by
      rw [List.take_of_length_le (by omega)]
      exact Int.mul_le_mul_of_nonneg_right hp.2 (by omega)
    have step : ∀ k, k ≤ 8 → (∃ b, b < 8 ∧ p * sumL l ≤ 100 * sumL (l.take (b + 1)) ∧ ∀ j, j < b → 100 * sumL (l.take (j + 1)) < p * sumL l) ∨ ∀ j, j < k → 100 * sumL (l.take (j + 1)) < p * sumL l := by
      intro k
      induction k with
      | zero => intro _; exact .inr (fun j hj => by omega)
      | succ k ih =>
        intro hk
        rcases ih (by omega) with h | h
        · exact .inl h
        · by_cases hc : p * sumL l ≤ 100 * sumL (l.take (k + 1))
          · exact .inl ⟨k, by omega, hc, h⟩
          · refine .inr (fun j hj => ?_)
            rcases Nat.lt_or_ge j k with hj' | hj'
            · exact h j hj'
            · obtain rfl : j = k := by omega
              omega
    rcases step 8 (by omega) with h | h
    · exact h
    · have := h 7 (by omega); omega
  obtain ⟨b, hb, h1, h2⟩ := key
  rw [under_eq l p b hb h1 h2]
  exact ⟨hb, h1, h2⟩
def wuOk (l : List Int) (p : Int) : Bool := validCounts l && (decide (0 ≤ p ∧ p ≤ 100) && !decide (sumL l = 0))
def wuVal (l : List Int) (p : Int) : Int := if wuOk l p then binTop (under l p) else 0
end Go.Proofs.YtnmgnhpagnjhlaaGreatDoor
