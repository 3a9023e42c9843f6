/- The plain law of checks: runs at the end of a list of results, and whether a connection is good after them. Plain lists; no program in sight. -/
set_option linter.unusedVariables false
set_option linter.unusedSimpArgs false
namespace Go.Proofs.Ytfmkpcoacghonaa

/-- The run at the head of a list. -/
def lrunR : List Bool → Nat
  | [] => 0
  | x :: r => if r.head? = some x then lrunR r + 1 else 1

/-- The run at the end of a list. -/
def lrun (l : List Bool) : Nat := lrunR l.reverse

theorem lrunR_le : ∀ r : List Bool, lrunR r ≤ r.length
  | [] => Nat.le_refl _
  | x :: r => by
    have := lrunR_le r
    simp only [lrunR, List.length_cons]
    split <;> omega
theorem lrunR_pos (x : Bool) (r : List Bool) : 0 < lrunR (x :: r) := by
  simp only [lrunR]; split <;> omega
theorem lrun_le (l : List Bool) : lrun l ≤ l.length := by
  have := lrunR_le l.reverse; simpa [lrun] using this
theorem lrun_nil : lrun [] = 0 := rfl
theorem lrun_snoc (l : List Bool) (x : Bool) : lrun (l ++ [x]) = if l.getLast? = some x then lrun l + 1 else 1 := by
  simp [lrun, lrunR, List.head?_reverse]
theorem lrun_pos {l : List Bool} (h : 0 < l.length) : 0 < lrun l := by
  unfold lrun
  cases hr : l.reverse with
  | nil => simp at hr; subst hr; simp at h
  | cons x r => exact lrunR_pos x r

/-- What a search from the end finds. -/
theorem lrunR_eq : ∀ (r : List Bool) (k : Nat), k ≤ r.length → (∀ j, j < k → r[j]? = r[0]?) → (k < r.length → r[k]? ≠ r[0]?) → lrunR r = k
  | [], k, hk, _, _ => by simp at hk; subst hk; rfl
  | [x], k, hk, _, h2 => by
    have : k ≠ 0 := by rintro rfl; exact h2 (by simp) rfl
    simp at hk
    simp [lrunR]; omega
  | x :: y :: r, k, hk, h1, h2 => by
    have hk0 : k ≠ 0 := by rintro rfl; exact h2 (by simp) rfl
    obtain ⟨k, rfl⟩ : ∃ k', k = k' + 1 := ⟨k - 1, by omega⟩
    simp only [List.length_cons] at hk
    by_cases hxy : y = x
    · subst hxy
      have ih := lrunR_eq (y :: r) k (by simp; omega) (fun j hj => by have := h1 (j + 1) (by omega); simpa using this)
        (fun hlt => by have := h2 (by simp at hlt ⊢; omega); simpa using this)
      simp only [lrunR, List.head?_cons, if_true] at ih ⊢
      omega
    · have hk1 : k = 0 := by
        rcases Nat.eq_zero_or_pos k with h | h
        · exact h
        · have := h1 1 (by omega)
          simp at this
          exact absurd this hxy
      subst hk1
      simp only [lrunR, List.head?_cons, Option.some.injEq, if_neg hxy]

theorem lrun_eq (l : List Bool) (k : Nat) (hk : k ≤ l.length) (h1 : ∀ j, j < k → l[l.length - 1 - j]? = l[l.length - 1]?) (h2 : k < l.length → l[l.length - 1 - k]? ≠ l[l.length - 1]?) : lrun l = k := by
  have g : ∀ j, j < l.length → l.reverse[j]? = l[l.length - 1 - j]? := fun j hj => List.getElem?_reverse hj
  refine lrunR_eq l.reverse k (by simpa using hk) (fun j hj => ?_) (fun hlt => ?_)
  · rw [g j (by omega), g 0 (by omega)]; exact h1 j hj
  · have hlt' : k < l.length := by simpa using hlt
    rw [g k hlt', g 0 (by omega)]; exact h2 hlt'

/-- the results of the last run are the same -/
theorem lrunR_same : ∀ (r : List Bool) (j : Nat), j < lrunR r → r[j]? = r[0]?
  | [], j, h => by simp [lrunR] at h
  | x :: r, j, h => by
    cases j with
    | zero => rfl
    | succ j =>
      simp only [lrunR] at h
      split at h
      · rename_i hh
        have := lrunR_same r j (by omega)
        simp only [List.getElem?_cons_succ, List.getElem?_cons_zero, this]
        rw [← hh, List.head?_eq_getElem?]
      · omega
theorem lrunR_next : ∀ (r : List Bool), lrunR r < r.length → r[lrunR r]? ≠ r[0]?
  | [], h => by simp at h
  | x :: r, h => by
    simp only [lrunR] at h ⊢
    split
    · rename_i hh
      rw [if_pos hh] at h
      have h' : lrunR r < r.length := by simpa using h
      have := lrunR_next r h'
      simp only [List.getElem?_cons_succ, List.getElem?_cons_zero]
      rw [← hh, List.head?_eq_getElem?]
      exact this
    · rename_i hh
      simp only [List.getElem?_cons_succ, List.getElem?_cons_zero]
      rw [← List.head?_eq_getElem?]
      exact hh
theorem lrun_same (l : List Bool) (j : Nat) (h1 : l.length - lrun l ≤ j) (h2 : j < l.length) : l[j]? = l[l.length - 1]? := by
  have g : ∀ j, j < l.length → l.reverse[j]? = l[l.length - 1 - j]? := fun j hj => List.getElem?_reverse hj
  have hs := lrunR_same l.reverse (l.length - 1 - j) (by unfold lrun at h1; omega)
  rw [g _ (by omega), g 0 (by omega)] at hs
  rw [show l.length - 1 - (l.length - 1 - j) = j by omega] at hs
  simpa using hs
theorem lrun_next (l : List Bool) (h : lrun l < l.length) : l[l.length - 1 - lrun l]? ≠ l[l.length - 1]? := by
  have g : ∀ j, j < l.length → l.reverse[j]? = l[l.length - 1 - j]? := fun j hj => List.getElem?_reverse hj
  have := lrunR_next l.reverse (by simpa [lrun] using h)
  rw [show lrunR l.reverse = lrun l from rfl, g _ h, g 0 (by omega)] at this
  exact this

/-- The last run alone has the same run. -/
theorem lrun_drop (l : List Bool) : lrun (l.drop (l.length - lrun l)) = lrun l := by
  have hle := lrun_le l
  have hlen : (l.drop (l.length - lrun l)).length = lrun l := by simp; omega
  refine lrun_eq _ _ (by omega) (fun j hj => ?_) (fun h => by omega)
  rw [hlen, List.getElem?_drop, List.getElem?_drop]
  have h1 := lrun_same l (l.length - lrun l + (lrun l - 1 - j)) (by omega) (by omega)
  have h2 := lrun_same l (l.length - lrun l + (lrun l - 1)) (by omega) (by omega)
  rw [h1, h2]

/-- Whether a connection is good after the results (the last one at the head). -/
def goodR (f g : Int) : List Bool → Bool
  | [] => true
  | x :: r => if x = false ∧ f ≤ (lrunR (x :: r) : Int) then false else if x = true ∧ g ≤ (lrunR (x :: r) : Int) then true else goodR f g r
def good (f g : Int) (l : List Bool) : Bool := goodR f g l.reverse

theorem good_nil (f g : Int) : good f g [] = true := rfl
theorem good_snoc (f g : Int) (l : List Bool) (x : Bool) :
    good f g (l ++ [x]) = if x = false ∧ f ≤ (lrun (l ++ [x]) : Int) then false else if x = true ∧ g ≤ (lrun (l ++ [x]) : Int) then true else good f g l := by
  simp [good, goodR, lrun]

theorem good_all (f g : Int) (hf : 1 ≤ f) (l : List Bool) (h : ∀ x ∈ l, x = true) : good f g l = true := by
  unfold good
  have h' : ∀ x ∈ l.reverse, x = true := fun x hx => h x (by simpa using hx)
  generalize l.reverse = r at h'
  induction r with
  | nil => rfl
  | cons x r ih =>
    have hx := h' x (by simp)
    subst hx
    simp only [goodR, Bool.true_eq_false, false_and, if_false]
    split
    · rfl
    · exact ih (fun y hy => h' y (by simp [hy]))

/-- With the last run at least as long as asked. -/
theorem good_last (f g : Int) (l : List Bool) (x : Bool) (hx : l.getLast? = some x) :
    (x = true → g ≤ (lrun l : Int) → good f g l = true) ∧ (x = false → f ≤ (lrun l : Int) → good f g l = false) ∧
    (x = true → ¬ g ≤ (lrun l : Int) → good f g l = good f g l.dropLast) ∧ (x = false → ¬ f ≤ (lrun l : Int) → good f g l = good f g l.dropLast) := by
  have hl : l = l.dropLast ++ [x] := by
    have hne : l ≠ [] := by rintro rfl; simp at hx
    have h1 := List.dropLast_concat_getLast hne
    rw [List.getLast?_eq_some_getLast hne] at hx
    rw [← Option.some.inj hx]; exact h1.symm
  have key := good_snoc f g l.dropLast x
  rw [← hl] at key
  refine ⟨?_, ?_, ?_, ?_⟩ <;> intro h1 h2 <;> subst h1 <;> rw [key] <;> simp [h2]

theorem goodR_one (x : Bool) (r : List Bool) : goodR 1 1 (x :: r) = x := by
  have := lrunR_pos x r
  cases x
  · simp only [goodR]; rw [if_pos ⟨trivial, by omega⟩]
  · simp only [goodR, Bool.true_eq_false, false_and, if_false]; rw [if_pos ⟨trivial, by omega⟩]
theorem good_one (l : List Bool) (x : Bool) : good 1 1 (l ++ [x]) = x := by simp [good, goodR_one]

/-- What LastRun answers. -/
def lastRun (l : List Bool) : Int := if 12 < l.length then -1 else (lrun l : Int)
/-- Whether checks are valid. -/
def chk (l : List Bool) (f g : Int) : Bool := decide (l.length ≤ 12) && (decide (1 ≤ f ∧ f ≤ 12) && decide (1 ≤ g ∧ g ≤ 12))
def isGood (l : List Bool) (f g : Int) : Bool := chk l f g && good f g l
def bit (b : Bool) : Int := if b then 1 else 0
/-- What GoodPath answers, of the first k results. -/
def pathTo (f g : Int) (l : List Bool) (k : Nat) : List Int := (List.range k).map fun i => bit (good f g (l.take (i + 1)))
def goodPath (l : List Bool) (f g : Int) : List Int := if chk l f g then pathTo f g l l.length else []

theorem take_snocB (l : List Bool) (k : Nat) (h : k < l.length) : l.take (k + 1) = l.take k ++ [l[k]] := by
  rw [List.take_succ_eq_append_getElem h]
theorem pathTo_succ (f g : Int) (l : List Bool) (k : Nat) : pathTo f g l (k + 1) = pathTo f g l k ++ [bit (good f g (l.take (k + 1)))] := by
  simp [pathTo, List.range_succ]
theorem pathTo_length (f g : Int) (l : List Bool) (k : Nat) : (pathTo f g l k).length = k := by simp [pathTo]
end Go.Proofs.Ytfmkpcoacghonaa
