/- The plain law of nests: transactions open one in the other. Plain numbers and lists; no program in sight. -/
set_option linter.unusedVariables false
set_option linter.unusedSimpArgs false
namespace Go.Proofs.Ytagmhmhhjkfhgaa

/-- Marks do not fall, from lo on, and are at most hi. -/
def markFit (lo hi : Int) : List Int → Bool
  | [] => true
  | m :: l => decide (lo ≤ m ∧ m ≤ hi) && markFit m hi l
/-- The first mark is 0. -/
def firstZero : List Int → Bool
  | [] => true
  | m :: _ => decide (m = 0)
/-- Whether a state is valid. -/
def validN (d k : Int) (ms : List Int) (b : Bool) : Bool :=
  decide (0 ≤ d ∧ d ≤ 4) && (decide (0 ≤ k ∧ k ≤ 12) && (decide ((ms.length : Int) = d) && (markFit 0 k ms && (firstZero ms && (decide (0 < d) || (decide (k = 0) && !b))))))

/-- A state whose depth is the number of its marks. -/
structure St where
  work : Int
  marks : List Int
  broken : Bool
def St.ok (s : St) : Prop := validN s.marks.length s.work s.marks s.broken = true
def St.zero : St := ⟨0, [], false⟩

/-- A command in a state; none if it is not possible. -/
def St.step (s : St) (kind : Int) : Option St :=
  if s.broken = true ∧ kind ≠ 2 ∧ kind ≠ 4 then none
  else if kind = 0 ∧ s.marks.length < 4 then some ⟨s.work, s.marks ++ [s.work], s.broken⟩
  else if kind = 1 ∧ 0 < s.marks.length ∧ s.work < 12 then some ⟨s.work + 1, s.marks, s.broken⟩
  else if kind = 2 ∧ 0 < s.marks.length then some ⟨s.work, s.marks, true⟩
  else if kind = 3 ∧ 0 < s.marks.length then some ⟨if s.marks.length = 1 then 0 else s.work, s.marks.dropLast, s.broken⟩
  else if kind = 4 ∧ 0 < s.marks.length then some ⟨if s.marks.length = 1 then 0 else s.marks.getLastD 0, s.marks.dropLast, false⟩
  else none
/-- The same; where it is not possible nothing changes. -/
def St.next (s : St) (kind : Int) : St := (s.step kind).getD s

theorem markFit_mem : ∀ (lo hi : Int) (l : List Int), markFit lo hi l = true → ∀ m ∈ l, lo ≤ m ∧ m ≤ hi
  | _, _, [], _ => by simp
  | lo, hi, x :: l, h => by
    simp only [markFit, Bool.and_eq_true, decide_eq_true_eq] at h
    intro m hm
    rcases List.mem_cons.1 hm with rfl | hm
    · exact h.1
    · have := markFit_mem x hi l h.2 m hm; omega
theorem markFit_append : ∀ (lo hi : Int) (l : List Int) (m : Int), markFit lo hi l = true → lo ≤ m → m ≤ hi → (∀ x ∈ l, x ≤ m) → markFit lo hi (l ++ [m]) = true
  | lo, hi, [], m, _, h1, h2, _ => by simp [markFit, h1, h2]
  | lo, hi, x :: l, m, h, h1, h2, h3 => by
    simp only [markFit, Bool.and_eq_true, decide_eq_true_eq, List.cons_append] at h ⊢
    exact ⟨h.1, markFit_append x hi l m h.2 (h3 x (by simp)) h2 (fun y hy => h3 y (by simp [hy]))⟩
theorem markFit_take : ∀ (lo hi : Int) (l : List Int) (k : Nat), markFit lo hi l = true → markFit lo hi (l.take k) = true
  | _, _, _, 0, _ => by simp [markFit]
  | _, _, [], _ + 1, _ => by simp [markFit]
  | lo, hi, x :: l, k + 1, h => by
    simp only [markFit, Bool.and_eq_true, List.take_succ_cons] at h ⊢
    exact ⟨h.1, markFit_take x hi l k h.2⟩
theorem markFit_up : ∀ (lo hi hi' : Int) (l : List Int), hi ≤ hi' → markFit lo hi l = true → markFit lo hi' l = true
  | _, _, _, [], _, _ => rfl
  | lo, hi, hi', x :: l, hh, h => by
    simp only [markFit, Bool.and_eq_true, decide_eq_true_eq] at h ⊢
    exact ⟨⟨h.1.1, by omega⟩, markFit_up x hi hi' l hh h.2⟩
theorem markFit_down : ∀ (lo hi hi' : Int) (l : List Int), (∀ x ∈ l, x ≤ hi') → markFit lo hi l = true → markFit lo hi' l = true
  | _, _, _, [], _, _ => rfl
  | lo, hi, hi', x :: l, hh, h => by
    simp only [markFit, Bool.and_eq_true, decide_eq_true_eq] at h ⊢
    exact ⟨⟨h.1.1, hh x (by simp)⟩, markFit_down x hi hi' l (fun y hy => hh y (by simp [hy])) h.2⟩
theorem markFit_last : ∀ (lo hi : Int) (l : List Int) (m : Int), markFit lo hi (l ++ [m]) = true → ∀ x ∈ l, x ≤ m
  | _, _, [], _, _ => by simp
  | lo, hi, y :: l, m, h => by
    simp only [markFit, Bool.and_eq_true, List.cons_append] at h
    intro x hx
    have hm := markFit_mem y hi (l ++ [m]) h.2 m (by simp)
    rcases List.mem_cons.1 hx with rfl | hx
    · exact hm.1
    · exact markFit_last y hi l m h.2 x hx
theorem firstZero_append (l : List Int) (m : Int) (h : firstZero l = true) (h0 : l = [] → m = 0) : firstZero (l ++ [m]) = true := by
  cases l with
  | nil => simp [firstZero, h0 rfl]
  | cons x l => exact h
theorem firstZero_take (l : List Int) (k : Nat) (h : firstZero l = true) : firstZero (l.take k) = true := by
  cases l with
  | nil => simp [firstZero]
  | cons x l => cases k with
    | zero => rfl
    | succ k => exact h

theorem St.ok_iff (s : St) : s.ok ↔ s.marks.length ≤ 4 ∧ (0 ≤ s.work ∧ s.work ≤ 12) ∧ markFit 0 s.work s.marks = true ∧ firstZero s.marks = true ∧ (0 < s.marks.length ∨ s.work = 0 ∧ s.broken = false) := by
  unfold St.ok validN
  simp only [Bool.and_eq_true, Bool.or_eq_true, decide_eq_true_eq, Bool.not_eq_true']
  constructor
  · rintro ⟨h1, h2, h3, h4, h5, h6⟩
    exact ⟨by omega, h2, h4, h5, h6.imp (by omega) id⟩
  · rintro ⟨h1, h2, h4, h5, h6⟩
    exact ⟨by omega, h2, trivial, h4, h5, h6.imp (by omega) id⟩
theorem St.zero_ok : St.zero.ok := by simp [St.ok_iff, St.zero, markFit, firstZero]
theorem exists_snoc (l : List Int) (h : 0 < l.length) : ∃ a m, l = a ++ [m] := by
  have hne : l ≠ [] := by intro e; simp [e] at h
  exact ⟨l.dropLast, l.getLast hne, (List.dropLast_concat_getLast hne).symm⟩
theorem St.step_ok {s t : St} {kind : Int} (h : s.ok) (ht : s.step kind = some t) : t.ok := by
  rw [St.ok_iff] at h ⊢
  obtain ⟨k, ms, b⟩ := s
  obtain ⟨h1, h2, h3, h4, h5⟩ := h
  simp only at h1 h2 h3 h4 h5
  unfold St.step at ht
  simp only at ht
  split at ht
  · cases ht
  rename_i hb
  split at ht
  · rename_i hk
    injection ht with ht; subst ht
    refine ⟨by simp; omega, h2, markFit_append _ _ _ _ h3 h2.1 (Int.le_refl _) (fun x hx => (markFit_mem _ _ _ h3 x hx).2), firstZero_append _ _ h4 (fun e => ?_), .inl (by simp)⟩
    rcases h5 with h5 | h5
    · simp [e] at h5
    · exact h5.1
  split at ht
  · rename_i hk
    injection ht with ht; subst ht
    exact ⟨h1, by simp only; omega, markFit_up _ _ _ _ (by simp only; omega) h3, h4, .inl hk.2.1⟩
  split at ht
  · rename_i hk
    injection ht with ht; subst ht
    exact ⟨h1, h2, h3, h4, .inl hk.2⟩
  split at ht
  · rename_i hk
    injection ht with ht; subst ht
    obtain ⟨l, m, rfl⟩ := exists_snoc ms hk.2
    have hbf : b = false := by
      cases b with
      | false => rfl
      | true => exact absurd ⟨rfl, by omega, by omega⟩ hb
    have hl := h3
    rw [show l = (l ++ [m]).take l.length by simp]
    simp only [List.length_append, List.length_singleton, List.dropLast_concat, List.take_left'] at *
    by_cases h0 : l.length = 0
    · have : l = [] := List.eq_nil_of_length_eq_zero h0
      subst this
      simp [markFit, firstZero, hbf]
    · rw [if_neg (by omega)]
      have e : (l ++ [m]).take l.length = l := by simp
      refine ⟨by omega, h2, ?_, ?_, .inl (by omega)⟩
      · rw [← e]; exact markFit_take _ _ _ _ h3
      · rw [← e]; exact firstZero_take _ _ h4
  split at ht
  · rename_i hk
    injection ht with ht; subst ht
    obtain ⟨l, m, rfl⟩ := exists_snoc ms hk.2
    simp only [List.length_append, List.length_singleton, List.dropLast_concat, List.getLastD_concat] at *
    by_cases h0 : l.length = 0
    · have : l = [] := List.eq_nil_of_length_eq_zero h0
      subst this
      simp [markFit, firstZero]
    · rw [if_neg (by omega)]
      have e : (l ++ [m]).take l.length = l := by simp
      have hm := markFit_mem _ _ _ h3 m (by simp)
      refine ⟨by omega, by omega, ?_, ?_, .inl (by omega)⟩
      · refine markFit_down 0 k m l (markFit_last _ _ _ _ h3) ?_
        rw [← e]; exact markFit_take _ _ _ _ h3
      · rw [← e]; exact firstZero_take _ _ h4
  cases ht
theorem St.next_ok {s : St} {kind : Int} (h : s.ok) : (s.next kind).ok := by
  unfold St.next
  cases e : s.step kind with
  | none => exact h
  | some t => exact St.step_ok h e

/-- Commands one after the other: the state, how many were not possible, how much work was kept. -/
def St.missed (s : St) (kind : Int) : Int := if (s.step kind).isNone then 1 else 0
def St.keeps (s : St) (kind : Int) : Int := if kind = 3 ∧ (s.step kind).isSome ∧ (s.next kind).marks.length = 0 then s.work else 0
def runS (l : List Int) : St := l.foldl St.next St.zero
theorem runS_snoc (l : List Int) (k : Int) : runS (l ++ [k]) = (runS l).next k := by simp [runS]
theorem runS_ok (l : List Int) : (runS l).ok := by
  unfold runS
  have key : ∀ (l : List Int) (s : St), s.ok → (l.foldl St.next s).ok := by
    intro l
    induction l with
    | nil => intro s h; exact h
    | cons x l ih => intro s h; exact ih _ (St.next_ok h)
  exact key l _ St.zero_ok
def missedFrom (s : St) : List Int → Int
  | [] => 0
  | k :: l => s.missed k + missedFrom (s.next k) l
def keptFrom (s : St) : List Int → Int
  | [] => 0
  | k :: l => s.keeps k + keptFrom (s.next k) l
theorem missedFrom_snoc : ∀ (l : List Int) (s : St) (k : Int), missedFrom s (l ++ [k]) = missedFrom s l + (l.foldl St.next s).missed k
  | [], s, k => by simp [missedFrom]
  | x :: l, s, k => by simp only [List.cons_append, missedFrom, missedFrom_snoc l, List.foldl_cons]; omega
theorem keptFrom_snoc : ∀ (l : List Int) (s : St) (k : Int), keptFrom s (l ++ [k]) = keptFrom s l + (l.foldl St.next s).keeps k
  | [], s, k => by simp [keptFrom]
  | x :: l, s, k => by simp only [List.cons_append, keptFrom, keptFrom_snoc l, List.foldl_cons]; omega
def missed (l : List Int) : Int := missedFrom St.zero l
def kept (l : List Int) : Int := keptFrom St.zero l
theorem missed_snoc (l : List Int) (k : Int) : missed (l ++ [k]) = missed l + (runS l).missed k := missedFrom_snoc l _ k
theorem kept_snoc (l : List Int) (k : Int) : kept (l ++ [k]) = kept l + (runS l).keeps k := keptFrom_snoc l _ k
theorem missed_bd (l : List Int) : 0 ≤ missed l ∧ missed l ≤ l.length := by
  have key : ∀ (l : List Int) (s : St), 0 ≤ missedFrom s l ∧ missedFrom s l ≤ l.length := by
    intro l
    induction l with
    | nil => intro s; simp [missedFrom]
    | cons x l ih =>
      intro s
      have := ih (s.next x)
      have : 0 ≤ s.missed x ∧ s.missed x ≤ 1 := by unfold St.missed; split <;> omega
      simp only [missedFrom, List.length_cons]
      omega
  exact key l _
/-- How many commands are to work. -/
def works (l : List Int) : Int := ((l.filter fun k => k == 1).length : Nat)
theorem works_cons (k : Int) (l : List Int) : works (k :: l) = (if k = 1 then 1 else 0) + works l := by
  unfold works
  by_cases h : k = 1 <;> simp [h] <;> omega
/-- A command adds no more work than it asks for: to what is open and to what is kept. -/
theorem St.step_work {s : St} {kind : Int} (h : s.ok) : (s.next kind).work + s.keeps kind ≤ s.work + (if kind = 1 then 1 else 0) ∧ 0 ≤ s.keeps kind := by
  rw [St.ok_iff] at h
  obtain ⟨k, ms, b⟩ := s
  obtain ⟨h1, h2, h3, h4, h5⟩ := h
  simp only at h1 h2 h3 h4 h5
  unfold St.keeps St.next St.step
  simp only
  by_cases hb : b = true ∧ kind ≠ 2 ∧ kind ≠ 4
  · rw [if_pos hb]; simp; split <;> omega
  rw [if_neg hb]
  by_cases c0 : kind = 0 ∧ ms.length < 4
  · rw [if_pos c0]; simp; split <;> omega
  rw [if_neg c0]
  by_cases c1 : kind = 1 ∧ 0 < ms.length ∧ k < 12
  · rw [if_pos c1]; simp [c1.1]
  rw [if_neg c1]
  by_cases c2 : kind = 2 ∧ 0 < ms.length
  · rw [if_pos c2]; simp [c2.1]
  rw [if_neg c2]
  by_cases c3 : kind = 3 ∧ 0 < ms.length
  · rw [if_pos c3]
    obtain ⟨l, m, rfl⟩ := exists_snoc ms c3.2
    simp [c3.1]
    by_cases h0 : l = [] <;> simp [h0] <;> omega
  rw [if_neg c3]
  by_cases c4 : kind = 4 ∧ 0 < ms.length
  · rw [if_pos c4]
    obtain ⟨l, m, rfl⟩ := exists_snoc ms c4.2
    have hm := markFit_mem _ _ _ h3 m (by simp)
    simp [c4.1]
    by_cases h0 : l = [] <;> simp [h0] <;> omega
  rw [if_neg c4]
  simp
  split <;> omega
theorem run_work (l : List Int) : (runS l).work + kept l ≤ works l ∧ 0 ≤ kept l := by
  have key : ∀ (l : List Int) (s : St), s.ok → (l.foldl St.next s).work + keptFrom s l ≤ s.work + works l ∧ 0 ≤ keptFrom s l := by
    intro l
    induction l with
    | nil => intro s h; simp [keptFrom, works]
    | cons x l ih =>
      intro s h
      have h1 := ih (s.next x) (St.next_ok h)
      have h2 := St.step_work (kind := x) h
      rw [works_cons]
      simp only [keptFrom, List.foldl_cons]
      omega
  have := key l _ St.zero_ok
  simpa [runS, kept, St.zero] using this
theorem kept_none (l : List Int) (h : 3 ∉ l) : kept l = 0 := by
  have key : ∀ (l : List Int) (s : St), 3 ∉ l → keptFrom s l = 0 := by
    intro l
    induction l with
    | nil => intro s h; rfl
    | cons x l ih =>
      intro s h
      simp only [List.mem_cons, not_or] at h
      have : s.keeps x = 0 := by unfold St.keeps; rw [if_neg (by intro e; exact h.1 e.1.symm)]
      simp only [keptFrom, ih _ h.2, this, Int.add_zero]
  exact key l _ h
theorem kept_more (l : List Int) (k : Int) : kept (l ++ [k]) = kept l ∨ kept (l ++ [k]) = kept l + (runS l).work ∧ k = 3 := by
  rw [kept_snoc]
  unfold St.keeps
  by_cases h : k = 3 ∧ ((runS l).step k).isSome ∧ ((runS l).next k).marks.length = 0
  · rw [if_pos h]; exact .inr ⟨rfl, h.1⟩
  · rw [if_neg h]; exact .inl (by omega)
theorem St.ok_zero {s : St} (h : s.ok) (h0 : s.marks.length = 0) : s = St.zero := by
  rw [St.ok_iff] at h
  obtain ⟨k, ms, b⟩ := s
  obtain ⟨h1, h2, h3, h4, h5⟩ := h
  simp only at h0 h5
  have : ms = [] := List.eq_nil_of_length_eq_zero h0
  subst this
  simp at h5
  simp [St.zero, h5]
theorem kept_simple (l : List Int) (h : (runS l).marks.length = 0) : kept (l ++ [0, 1, 1, 3]) = kept l + 2 := by
  have e : l ++ [0, 1, 1, 3] = (((l ++ [0]) ++ [1]) ++ [1]) ++ [3] := by simp
  have hz : runS l = St.zero := St.ok_zero (runS_ok l) h
  simp only [e, kept_snoc, runS_snoc, hz]
  have : (St.zero).keeps 0 = 0 ∧ (St.zero.next 0).keeps 1 = 0 ∧ ((St.zero.next 0).next 1).keeps 1 = 0 ∧ (((St.zero.next 0).next 1).next 1).keeps 3 = 2 := by decide
  omega

/-- What StepNest answers in a state that may be invalid. -/
def stepN (d k : Int) (ms : List Int) (b : Bool) (kind : Int) : Option St := if validN d k ms b = true then St.step ⟨k, ms, b⟩ kind else none
theorem validN_iff (d k : Int) (ms : List Int) (b : Bool) : validN d k ms b = true ↔ d = (ms.length : Int) ∧ St.ok ⟨k, ms, b⟩ := by
  unfold St.ok validN
  simp only [Bool.and_eq_true, Bool.or_eq_true, decide_eq_true_eq, Bool.not_eq_true']
  constructor
  · rintro ⟨h1, h2, h3, h4, h5, h6⟩
    subst h3
    exact ⟨rfl, h1, h2, trivial, h4, h5, h6⟩
  · rintro ⟨rfl, h1, h2, _, h4, h5, h6⟩
    exact ⟨h1, h2, rfl, h4, h5, h6⟩
theorem stepN_ok {s : St} (h : s.ok) (kind : Int) : stepN s.marks.length s.work s.marks s.broken kind = s.step kind := by
  unfold stepN
  exact if_pos h
theorem stepN_some {d k : Int} {ms : List Int} {b : Bool} {kind : Int} {t : St} (h : stepN d k ms b kind = some t) : d = (ms.length : Int) ∧ St.ok ⟨k, ms, b⟩ ∧ St.step ⟨k, ms, b⟩ kind = some t ∧ t.ok := by
  unfold stepN at h
  split at h
  · rename_i hv
    obtain ⟨h1, h2⟩ := (validN_iff d k ms b).1 hv
    exact ⟨h1, h2, h, St.step_ok h2 h⟩
  · cases h
theorem St.step_depth {s t : St} {kind : Int} (ht : s.step kind = some t) : (t.marks.length : Int) = s.marks.length + (if kind = 0 then 1 else if kind = 3 ∨ kind = 4 then -1 else 0) := by
  obtain ⟨k, ms, b⟩ := s
  unfold St.step at ht
  simp only at ht
  split at ht
  · cases ht
  split at ht
  · rename_i hk
    injection ht with ht; subst ht
    simp [hk.1]
  split at ht
  · rename_i hk
    injection ht with ht; subst ht
    simp [hk.1]
  split at ht
  · rename_i hk
    injection ht with ht; subst ht
    simp [hk.1]
  split at ht
  · rename_i hk
    injection ht with ht; subst ht
    obtain ⟨l, m, rfl⟩ := exists_snoc ms hk.2
    simp [hk.1]
    omega
  split at ht
  · rename_i hk
    injection ht with ht; subst ht
    obtain ⟨l, m, rfl⟩ := exists_snoc ms hk.2
    simp [hk.1]
    omega
  cases ht
/-- A broken state only goes back. -/
theorem St.step_broken {s : St} (h : s.ok) (hb : s.broken = true) (kind : Int) : ((s.step kind).isSome = decide (kind = 2 ∨ kind = 4)) ∧ ∃ t, s.step 4 = some t ∧ t.broken = false := by
  rw [St.ok_iff] at h
  obtain ⟨k, ms, b⟩ := s
  obtain ⟨h1, h2, h3, h4, h5⟩ := h
  simp only at h1 h2 h3 h4 h5 hb
  subst hb
  have hp : 0 < ms.length := by rcases h5 with h5 | h5
                                · exact h5
                                · cases h5.2
  unfold St.step
  simp only
  constructor
  · by_cases c2 : kind = 2
    · subst c2; simp [hp]
    · by_cases c4 : kind = 4
      · subst c4; simp [hp]
      · simp [c2, c4]
  · simp [hp]
/-- What is taken back was not done. -/
theorem St.step_back {s : St} (h : s.ok) : (s.step 0 = none ∧ (s.broken = true ∨ s.marks.length = 4)) ∨ ∃ o, s.step 0 = some o ∧ o.step 4 = some s ∧ ∀ w, o.step 1 = some w → w.step 4 = some s := by
  rw [St.ok_iff] at h
  obtain ⟨k, ms, b⟩ := s
  obtain ⟨h1, h2, h3, h4, h5⟩ := h
  simp only at h1 h2 h3 h4 h5
  cases b
  · by_cases hl : ms.length < 4
    · right
      have e0 : (⟨k, ms, false⟩ : St).step 0 = some ⟨k, ms ++ [k], false⟩ := by simp [St.step, hl]
      have back : ∀ k' : Int, (⟨k', ms ++ [k], false⟩ : St).step 4 = some ⟨k, ms, false⟩ := by
        intro k'
        have e : ms.length = 0 → k = 0 := fun e => by rcases h5 with h5 | h5
                                                      · omega
                                                      · exact h5.1
        by_cases h0 : ms.length = 0
        · have : ms = [] := List.eq_nil_of_length_eq_zero h0
          subst this
          simp [St.step, e rfl]
        · have : ms ≠ [] := by rintro rfl; simp at h0
          simp [St.step, this]
      refine ⟨_, e0, back k, fun w hw => ?_⟩
      have : w = ⟨k + 1, ms ++ [k], false⟩ := by
        simp [St.step] at hw
        exact hw.2.symm
      rw [this]
      exact back (k + 1)
    · left
      simp only [St.step]
      exact ⟨by simp [hl], .inr (by omega)⟩
  · left
    simp [St.step]
/-- What is kept inside is kept. -/
theorem St.step_keep {s o w : St} (h : s.ok) (ho : s.step 0 = some o) (hw : o.step 1 = some w) : ∃ t, w.step 3 = some t ∧ (s.marks.length = 0 ∧ t = s ∧ s.step 1 = none ∨ 0 < s.marks.length ∧ s.step 1 = some t) := by
  rw [St.ok_iff] at h
  obtain ⟨k, ms, b⟩ := s
  obtain ⟨h1, h2, h3, h4, h5⟩ := h
  simp only at h1 h2 h3 h4 h5
  simp [St.step] at ho
  obtain ⟨hb, hl, rfl⟩ := ho
  subst hb
  simp [St.step] at hw
  obtain ⟨hk, rfl⟩ := hw
  by_cases h0 : ms.length = 0
  · have : ms = [] := List.eq_nil_of_length_eq_zero h0
    subst this
    simp at h5
    simp [St.step, h5]
  · have : ms ≠ [] := by rintro rfl; simp at h0
    have h0' : 0 < ms.length := by omega
    simp [St.step, this, h0', hk]
/-- The state after so many steps back. -/
def backs (s : St) : Nat → St
  | 0 => s
  | n + 1 => backs (s.next 4) n
theorem St.step4 {s : St} (h : 0 < s.marks.length) : ∃ t, s.step 4 = some t ∧ t.marks.length + 1 = s.marks.length ∧ t.broken = false := by
  obtain ⟨k, ms, b⟩ := s
  simp only at h
  refine ⟨_, by simp [St.step, h]; rfl, by simp; omega, rfl⟩
theorem St.zero_step (kind : Int) (h : kind = 1 ∨ kind = 3) : St.zero.step kind = none := by
  rcases h with rfl | rfl <;> rfl
end Go.Proofs.Ytagmhmhhjkfhgaa
