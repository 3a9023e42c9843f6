/- Pools after requests, in plain Lean. No program in sight. -/
import Derived.Test.YtnmgnhpagnjhlaaGreatDoorPlainP
set_option linter.unusedVariables false
set_option linter.unusedSimpArgs false
set_option linter.unnecessarySimpa false
namespace Go.Proofs.YtnmgnhpagnjhlaaGreatDoor
open Go.RowKit

/-- The least connection that is not open; -1 if there is none. -/
def closedV (M : Nat) (ids : List Int) (hs : List Pr) : Int := fidx (fun c : Nat => decide ((c : Int) ∉ ids ∧ (c : Int) ∉ conns hs)) (List.range M)
theorem hfind_lt (hs : List Pr) (x : Int) : decide (hfind hs x < 0) = decide (x ∉ conns hs) := by
  have h := hfind_ge hs x
  by_cases hx : x ∈ conns hs
  · rw [decide_eq_true hx, decide_eq_true_eq] at h
    rw [decide_eq_false (by omega), decide_eq_false (by simpa using hx)]
  · rw [decide_eq_false hx, decide_eq_false_iff_not] at h
    rw [decide_eq_true (by omega), decide_eq_true hx]
theorem closedV_neg {M : Nat} {ids : List Int} {hs : List Pr} (h : closedV M ids hs < 0) (c : Nat) (hc : c < M) : (c : Int) ∈ ids ++ conns hs := by
  by_cases h1 : (c : Int) ∈ ids
  · exact List.mem_append_left _ h1
  by_cases h2 : (c : Int) ∈ conns hs
  · exact List.mem_append_right _ h2
  exfalso
  have h3 := fidx_any (fun c : Nat => decide ((c : Int) ∉ ids ∧ (c : Int) ∉ conns hs)) (List.range M)
  have ha : (List.range M).any (fun c : Nat => decide ((c : Int) ∉ ids ∧ (c : Int) ∉ conns hs)) = true := List.any_eq_true.2 ⟨c, by simpa using hc, by simp [h1, h2]⟩
  rw [ha, decide_eq_true_eq] at h3
  unfold closedV at h
  omega
theorem closedV_pos {M : Nat} {ids : List Int} {hs : List Pr} (h : ¬ closedV M ids hs < 0) :
    ∃ c : Nat, closedV M ids hs = c ∧ c < M ∧ (c : Int) ∉ ids ++ conns hs ∧ ∀ q : Nat, q < c → (q : Int) ∈ ids ++ conns hs := by
  unfold closedV fidx at h ⊢
  by_cases ha : (List.range M).any (fun c : Nat => decide ((c : Int) ∉ ids ∧ (c : Int) ∉ conns hs)) = true
  · rw [if_pos ha]
    have hlt := List.findIdx_lt_length_of_exists (p := fun c : Nat => decide ((c : Int) ∉ ids ∧ (c : Int) ∉ conns hs)) (xs := List.range M) (by
      obtain ⟨x, hx, hp⟩ := List.any_eq_true.1 ha
      exact ⟨x, hx, hp⟩)
    have hget := List.findIdx_getElem (p := fun c : Nat => decide ((c : Int) ∉ ids ∧ (c : Int) ∉ conns hs)) (xs := List.range M) (w := hlt)
    have hlt' := hlt
    rw [List.length_range] at hlt'
    refine ⟨_, rfl, hlt', ?_, fun q hq => ?_⟩
    · rw [List.getElem_range, decide_eq_true_eq] at hget
      rw [List.mem_append]
      rintro (h | h)
      · exact hget.1 h
      · exact hget.2 h
    · have h4 := List.not_of_lt_findIdx hq
      rw [List.getElem_range] at h4
      rw [List.mem_append]
      by_cases h1 : (q : Int) ∈ ids
      · exact .inl h1
      by_cases h2 : (q : Int) ∈ conns hs
      · exact .inr h2
      simp [h1, h2] at h4
  · rw [if_neg ha] at h
    exact absurd (by omega) h
theorem all_in : ∀ (n : Nat) (l : List Int), (∀ c : Nat, c < n → (c : Int) ∈ l) → n ≤ l.length
  | 0, l, _ => Nat.zero_le _
  | n + 1, l, h => by
    have h0 := h n (by omega)
    have h1 := all_in n (l.erase (n : Int)) (fun c hc => (List.mem_erase_of_ne (by omega)).2 (h c (by omega)))
    have h2 := List.length_erase_of_mem h0
    have := List.length_pos_of_mem h0
    omega
def Pl.zero : Pl := ⟨0, [], [], []⟩
/-- The pool after an owner has asked, and which connection it gets. -/
def acqV (p : Pl) (o : Int) : Pl × Int :=
  if 0 < p.ids.length then (⟨p.mx, p.ids.take (p.ids.length - 1), p.hs ++ [(p.ids.getD (p.ids.length - 1) 0, o)], p.wt⟩, p.ids.getD (p.ids.length - 1) 0)
  else if closedV p.mx.toNat p.ids p.hs < 0 then (⟨p.mx, p.ids, p.hs, p.wt ++ [o]⟩, -1)
  else (⟨p.mx, p.ids, p.hs ++ [(closedV p.mx.toNat p.ids p.hs, o)], p.wt⟩, closedV p.mx.toNat p.ids p.hs)
def acqR (p : Pl) (o : Int) : Pl × Int × Bool :=
  if p.valid = true ∧ (0 ≤ o ∧ o ≤ 4) ∧ (acqV p o).1.valid = true then ((acqV p o).1, (acqV p o).2, true) else (Pl.zero, -1, false)
/-- What is held without its element at a place. -/
def without (hs : List Pr) (j : Nat) : List Pr := hs.take j ++ hs.drop (j + 1)
def relV (p : Pl) (v : Int) : Pl × Int :=
  if p.wt.length = 0 then (⟨p.mx, p.ids ++ [v], without p.hs (hfind p.hs v).toNat, p.wt⟩, -1)
  else (⟨p.mx, p.ids, without p.hs (hfind p.hs v).toNat ++ [(v, p.wt.getD 0 0)], p.wt.drop 1⟩, p.wt.getD 0 0)
def relR (p : Pl) (v : Int) : Pl × Int × Bool :=
  if p.valid = true ∧ 0 ≤ hfind p.hs v then ((relV p v).1, (relV p v).2, true) else (Pl.zero, -1, false)
def closeR (p : Pl) (n : Int) : Pl × Int :=
  if p.valid = true ∧ 0 ≤ n then (⟨p.mx, p.ids.drop (min n.toNat p.ids.length), p.hs, p.wt⟩, (min n.toNat p.ids.length : Nat)) else (Pl.zero, -1)
def heldV (p : Pl) (o : Int) : List Int := if p.valid = true then (p.hs.filter fun h => h.2 == o).map (·.1) else []
theorem valid_good {p : Pl} : p.valid = true ↔ p.Good := decide_eq_true_iff
theorem good_perm {p q : Pl} (g : p.Good) (hm : q.mx = p.mx) (hp : (q.ids ++ conns q.hs).Perm (p.ids ++ conns p.hs)) (ho : ∀ h ∈ q.hs, 0 ≤ h.2 ∧ h.2 ≤ 4) (hl : q.wt.length ≤ 12) (hw : ∀ v ∈ q.wt, 0 ≤ v ∧ v ≤ 4)
    (hx : q.wt.length = 0 ∨ (q.hs.length : Int) = q.mx) : q.Good :=
  ⟨hp.nodup_iff.2 g.1, ho, by rw [hm]; exact g.2.2.1, fun v hv => by rw [hm]; exact g.2.2.2.1 v (hp.mem_iff.1 hv), hl, hw, hx⟩
theorem last_getD (l : List Int) (h : 0 < l.length) : l = l.take (l.length - 1) ++ [l.getD (l.length - 1) 0] := by
  have h1 := take_snoc l (l.length - 1) (by omega)
  rw [show l.length - 1 + 1 = l.length by omega, List.take_length] at h1
  rw [List.getD_eq_getElem?_getD, List.getElem?_eq_getElem (by omega), Option.getD_some]
  exact h1
theorem conns_append (a b : List Pr) : conns (a ++ b) = conns a ++ conns b := by simp [conns]
theorem Pl.Good.acq_idle {p : Pl} (g : p.Good) {o : Int} (ho : 0 ≤ o ∧ o ≤ 4) (h : 0 < p.ids.length) : (acqV p o).1.Good := by
  unfold acqV
  rw [if_pos h]
  have hl := g.len
  have hm := g.2.2.1
  have e := last_getD p.ids h
  obtain ⟨x, hx⟩ : ∃ x, x = p.ids.getD (p.ids.length - 1) 0 := ⟨_, rfl⟩
  rw [← hx] at e ⊢
  refine good_perm g rfl ?_ ?_ g.2.2.2.2.1 g.2.2.2.2.2.1 ?_
  · show (p.ids.take (p.ids.length - 1) ++ conns (p.hs ++ [(x, o)])).Perm _
    rw [conns_append]
    conv => rhs; rw [e]
    rw [List.append_assoc]
    exact List.Perm.append_left _ (List.perm_append_comm)
  · intro y hy
    rcases List.mem_append.1 hy with hy | hy
    · exact g.2.1 y hy
    · simp at hy; subst hy; exact ho
  · left
    rcases g.2.2.2.2.2.2 with h1 | h1
    · exact h1
    · exfalso; omega
theorem Pl.Good.acq_new {p : Pl} (g : p.Good) {o : Int} (ho : 0 ≤ o ∧ o ≤ 4) (h : ¬ 0 < p.ids.length) (hc : ¬ closedV p.mx.toNat p.ids p.hs < 0) : (acqV p o).1.Good ∧ (p.hs.length : Int) < p.mx := by
  unfold acqV
  rw [if_neg h, if_neg hc]
  obtain ⟨c, hc1, hc2, hc3, _⟩ := closedV_pos hc
  rw [hc1]
  have hm := g.2.2.1
  have hn : (p.ids ++ conns p.hs ++ [(c : Int)]).Nodup := (nodup_snoc _ _).2 ⟨g.1, hc3⟩
  have hr : ∀ v ∈ p.ids ++ conns p.hs ++ [(c : Int)], 0 ≤ v ∧ v ≤ p.mx - 1 := by
    intro v hv
    rcases List.mem_append.1 hv with hv | hv
    · exact g.2.2.2.1 v hv
    · simp at hv; subst hv; omega
  have hl := nodup_small p.mx.toNat _ hn (fun v hv => by have := hr v hv; omega)
  rw [List.length_append, List.length_append, conns_len] at hl
  simp only [List.length_singleton] at hl
  have ecn : p.ids ++ conns (p.hs ++ [((c : Int), o)]) = p.ids ++ conns p.hs ++ [(c : Int)] := by rw [conns_append, ← List.append_assoc]; rfl
  refine ⟨⟨?_, ?_, hm, ?_, g.2.2.2.2.1, g.2.2.2.2.2.1, ?_⟩, by omega⟩
  · show (p.ids ++ conns (p.hs ++ [((c : Int), o)])).Nodup
    rw [ecn]; exact hn
  · intro y hy
    rcases List.mem_append.1 hy with hy | hy
    · exact g.2.1 y hy
    · simp at hy; subst hy; exact ho
  · show ∀ v ∈ p.ids ++ conns (p.hs ++ [((c : Int), o)]), _
    rw [ecn]; exact hr
  · left
    rcases g.2.2.2.2.2.2 with h1 | h1
    · exact h1
    · exfalso; omega
theorem Pl.Good.full {p : Pl} (g : p.Good) (h : ¬ 0 < p.ids.length) (hc : closedV p.mx.toNat p.ids p.hs < 0) : (p.hs.length : Int) = p.mx := by
  have hm := g.2.2.1
  have h1 := all_in p.mx.toNat _ (fun c hc' => closedV_neg hc c hc')
  have h2 := g.len
  rw [List.length_append, conns_len] at h1
  omega
theorem Pl.Good.acq_wait {p : Pl} (g : p.Good) {o : Int} (ho : 0 ≤ o ∧ o ≤ 4) (h : ¬ 0 < p.ids.length) (hc : closedV p.mx.toNat p.ids p.hs < 0) : (acqV p o).1.valid = decide (p.wt.length < 12) := by
  unfold acqV
  rw [if_neg h, if_pos hc]
  have hf := g.full h hc
  rw [Bool.eq_iff_iff, valid_good, decide_eq_true_eq]
  constructor
  · intro k
    have := k.2.2.2.2.1
    simp only [List.length_append, List.length_singleton] at this
    omega
  · intro k
    refine ⟨g.1, g.2.1, g.2.2.1, g.2.2.2.1, ?_, ?_, .inr hf⟩
    · simp only [List.length_append, List.length_singleton]; omega
    · intro v hv
      rcases List.mem_append.1 hv with hv | hv
      · exact g.2.2.2.2.2.1 v hv
      · simp at hv; subst hv; exact ho
theorem hfind_place {hs : List Pr} {v : Int} (h : 0 ≤ hfind hs v) : ∃ j : Nat, hfind hs v = j ∧ j < hs.length ∧ ∃ o, hs = hs.take j ++ (v, o) :: hs.drop (j + 1) := by
  unfold hfind fidx at h ⊢
  by_cases ha : hs.any (fun h : Pr => h.1 == v) = true
  · rw [if_pos ha]
    have hlt := List.findIdx_lt_length_of_exists (p := fun h : Pr => h.1 == v) (xs := hs) (by
      obtain ⟨x, hx, hp⟩ := List.any_eq_true.1 ha
      exact ⟨x, hx, hp⟩)
    have hget := List.findIdx_getElem (p := fun h : Pr => h.1 == v) (xs := hs) (w := hlt)
    refine ⟨_, rfl, hlt, (hs[hs.findIdx (fun h : Pr => h.1 == v)]'hlt).2, ?_⟩
    have he : (v, (hs[hs.findIdx (fun h : Pr => h.1 == v)]'hlt).2) = hs[hs.findIdx (fun h : Pr => h.1 == v)]'hlt := Prod.ext (beq_iff_eq.1 hget).symm rfl
    rw [he, ← List.drop_eq_getElem_cons hlt, List.take_append_drop]
  · rw [if_neg ha] at h
    exact absurd h (by omega)
theorem without_len {hs : List Pr} {j : Nat} (h : j < hs.length) : (without hs j).length + 1 = hs.length := by
  unfold without
  rw [List.length_append, List.length_take, List.length_drop]; omega
theorem without_perm {hs : List Pr} {j : Nat} {x : Pr} (h : hs = hs.take j ++ x :: hs.drop (j + 1)) : (conns (without hs j) ++ [x.1]).Perm (conns hs) := by
  conv => rhs; rw [h]
  unfold without
  rw [conns_append, conns_append]
  show (_ ++ [x.1]).Perm (_ ++ (x.1 :: conns (hs.drop (j + 1))))
  rw [List.append_assoc]
  exact List.Perm.append_left _ (List.perm_append_comm)
theorem without_mem {hs : List Pr} {j : Nat} {y : Pr} (h : y ∈ without hs j) : y ∈ hs := by
  rcases List.mem_append.1 h with h | h
  · exact List.mem_of_mem_take h
  · exact List.mem_of_mem_drop h
theorem Pl.Good.rel {p : Pl} (g : p.Good) {v : Int} (h : 0 ≤ hfind p.hs v) : (relV p v).1.Good := by
  obtain ⟨j, hj, hjl, o, hs'⟩ := hfind_place h
  have hw := without_len hjl
  have hp := without_perm hs'
  unfold relV
  rw [hj, Int.toNat_natCast]
  by_cases h0 : p.wt.length = 0
  · rw [if_pos h0]
    refine good_perm g rfl ?_ (fun y hy => g.2.1 y (without_mem hy)) g.2.2.2.2.1 g.2.2.2.2.2.1 (.inl h0)
    show (p.ids ++ [v] ++ conns (without p.hs j)).Perm _
    rw [List.append_assoc]
    exact List.Perm.append_left _ ((List.perm_append_comm).trans hp)
  · rw [if_neg h0]
    have hx : (p.hs.length : Int) = p.mx := by
      rcases g.2.2.2.2.2.2 with h1 | h1
      · exact absurd h1 h0
      · exact h1
    have hl := g.2.2.2.2.1
    have hm0 : p.wt.getD 0 0 ∈ p.wt := by
      rw [List.getD_eq_getElem?_getD, List.getElem?_eq_getElem (by omega), Option.getD_some]
      exact List.getElem_mem _
    refine good_perm g rfl ?_ ?_ ?_ ?_ ?_
    · show (p.ids ++ conns (without p.hs j ++ [(v, p.wt.getD 0 0)])).Perm _
      rw [conns_append]
      exact List.Perm.append_left _ hp
    · intro y hy
      rcases List.mem_append.1 hy with hy | hy
      · exact g.2.1 y (without_mem hy)
      · simp only [List.mem_singleton] at hy
        subst hy
        exact g.2.2.2.2.2.1 _ hm0
    · show (p.wt.drop 1).length ≤ 12
      rw [List.length_drop]; omega
    · exact fun y hy => g.2.2.2.2.2.1 y (List.mem_of_mem_drop hy)
    · right
      show (((without p.hs j ++ [(v, p.wt.getD 0 0)]).length : Nat) : Int) = p.mx
      rw [List.length_append, List.length_singleton]
      omega
theorem Pl.Good.close {p : Pl} (g : p.Good) (k : Nat) : (Pl.mk p.mx (p.ids.drop k) p.hs p.wt).Good := by
  have hs : (p.ids.drop k ++ conns p.hs).Sublist (p.ids ++ conns p.hs) := (List.drop_sublist k p.ids).append_right _
  exact ⟨g.1.sublist hs, g.2.1, g.2.2.1, fun v hv => g.2.2.2.1 v (hs.subset hv), g.2.2.2.2.1, g.2.2.2.2.2.1, g.2.2.2.2.2.2⟩
theorem acqR_good {p : Pl} {o : Int} (h : (acqR p o).2.2 = true) : (acqR p o).1.Good := by
  unfold acqR at h ⊢
  split at h
  · rename_i hh
    rw [if_pos hh]; exact valid_good.1 hh.2.2
  · cases h
theorem relR_good {p : Pl} {v : Int} (h : (relR p v).2.2 = true) : (relR p v).1.Good := by
  unfold relR at h ⊢
  split at h
  · rename_i hh
    rw [if_pos hh]; exact (valid_good.1 hh.1).rel hh.2
  · cases h
/-- Few elements. -/
def Pl.few (p : Pl) : Prop := p.ids.length ≤ 20 ∧ p.hs.length ≤ 20 ∧ p.wt.length ≤ 20
theorem Pl.Good.few {p : Pl} (g : p.Good) : p.few := by
  have := g.small
  exact ⟨by omega, by omega, by omega⟩
theorem acqV_small {p : Pl} (g : p.Good) (o : Int) : (acqV p o).1.few := by
  have := g.small
  unfold acqV
  split
  · refine ⟨?_, ?_, ?_⟩
    · show (p.ids.take _).length ≤ 20
      rw [List.length_take]; omega
    · show (p.hs ++ [_]).length ≤ 20
      rw [List.length_append, List.length_singleton]; omega
    · show p.wt.length ≤ 20
      omega
  · split
    · refine ⟨?_, ?_, ?_⟩
      · show p.ids.length ≤ 20
        omega
      · show p.hs.length ≤ 20
        omega
      · show (p.wt ++ [_]).length ≤ 20
        rw [List.length_append, List.length_singleton]; omega
    · refine ⟨?_, ?_, ?_⟩
      · show p.ids.length ≤ 20
        omega
      · show (p.hs ++ [_]).length ≤ 20
        rw [List.length_append, List.length_singleton]; omega
      · show p.wt.length ≤ 20
        omega
theorem acqR_few {p : Pl} {o : Int} (h : (acqR p o).2.2 = true) : (acqR p o).1.few := (acqR_good h).few
theorem relR_few {p : Pl} {v : Int} (h : (relR p v).2.2 = true) : (relR p v).1.few := (relR_good h).few
end Go.Proofs.YtnmgnhpagnjhlaaGreatDoor
