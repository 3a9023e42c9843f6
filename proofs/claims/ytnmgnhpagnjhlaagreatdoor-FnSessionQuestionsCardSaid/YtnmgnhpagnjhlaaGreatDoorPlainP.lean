/- Pools in plain Lean: what makes one valid. No program in sight. -/
import Derived.Test.YtnmgnhpagnjhlaaGreatDoorHolds
import Derived.Test.YtnmgnhpagnjhlaaGreatDoorAllIn
set_option linter.unusedVariables false
set_option linter.unusedSimpArgs false
set_option linter.unnecessarySimpa false
namespace Go.Proofs.YtnmgnhpagnjhlaaGreatDoor
open Go.RowKit

/-- The connections of what is held. -/
def conns (hs : List Pr) : List Int := hs.map (·.1)
structure Pl where
  mx : Int
  ids : List Int
  hs : List Pr
  wt : List Int
def Pl.Good (p : Pl) : Prop :=
  (p.ids ++ conns p.hs).Nodup ∧ (∀ h ∈ p.hs, 0 ≤ h.2 ∧ h.2 ≤ 4) ∧ (1 ≤ p.mx ∧ p.mx ≤ 6) ∧ (∀ v ∈ p.ids ++ conns p.hs, 0 ≤ v ∧ v ≤ p.mx - 1) ∧
    p.wt.length ≤ 12 ∧ (∀ v ∈ p.wt, 0 ≤ v ∧ v ≤ 4) ∧ (p.wt.length = 0 ∨ (p.hs.length : Int) = p.mx)
instance (p : Pl) : Decidable p.Good := by unfold Pl.Good; infer_instance
def Pl.valid (p : Pl) : Bool := decide p.Good
theorem conns_len (hs : List Pr) : (conns hs).length = hs.length := by simp [conns]
theorem conns_get (hs : List Pr) (j : Nat) (h : j < hs.length) : (conns hs)[j]'(by rw [conns_len]; exact h) = hs[j].1 := by simp [conns]
theorem conns_take (hs : List Pr) (j : Nat) : conns (hs.take j) = (conns hs).take j := by simp [conns, List.map_take]
theorem nodup_snoc (l : List Int) (x : Int) : (l ++ [x]).Nodup ↔ l.Nodup ∧ x ∉ l := by
  rw [List.nodup_append]
  constructor
  · rintro ⟨h1, _, h3⟩
    exact ⟨h1, fun hx => h3 x hx x (by simp) rfl⟩
  · rintro ⟨h1, h2⟩
    exact ⟨h1, by simp, fun a ha b hb => by simp at hb; subst hb; rintro rfl; exact h2 ha⟩
theorem nodup_pre {l : List Int} (k : Nat) (h : l.Nodup) : (l.take k).Nodup := h.sublist (List.take_sublist k l)
/-- A pool is not valid as soon as a connection stands twice. -/
theorem bad_ids {p : Pl} {j : Nat} (hj : j < p.ids.length) (h : p.ids[j] ∈ p.ids.take j) : p.valid = false := by
  refine decide_eq_false fun g => ?_
  have h1 := (List.nodup_append.1 g.1).1
  have h2 := nodup_pre (j + 1) h1
  rw [take_snoc p.ids j hj, nodup_snoc] at h2
  exact h2.2 h
theorem bad_conn {p : Pl} {j : Nat} (hj : j < p.hs.length) (h : p.hs[j].1 ∈ p.ids ++ (conns p.hs).take j) : p.valid = false := by
  refine decide_eq_false fun g => ?_
  have h2 := nodup_pre (p.ids.length + (j + 1)) g.1
  have hjc : j < (conns p.hs).length := by rw [conns_len]; exact hj
  rw [List.take_length_add_append, take_snoc _ j hjc, ← List.append_assoc, nodup_snoc, conns_get p.hs j hj] at h2
  exact h2.2 h
theorem bad_owner {p : Pl} {j : Nat} (hj : j < p.hs.length) (h : ¬ (0 ≤ p.hs[j].2 ∧ p.hs[j].2 ≤ 4)) : p.valid = false :=
  decide_eq_false fun g => h (g.2.1 _ (List.getElem_mem hj))
theorem seen_ids {ids : List Int} {j : Nat} (hj : j < ids.length) (hn : (ids.take j).Nodup) (h : ids[j] ∉ ids.take j) : (ids.take (j + 1)).Nodup := by
  rw [take_snoc ids j hj, nodup_snoc]; exact ⟨hn, h⟩
theorem seen_conns {ids : List Int} {hs : List Pr} {j : Nat} (hj : j < hs.length) (hn : (ids ++ (conns hs).take j).Nodup) (h : hs[j].1 ∉ ids ++ (conns hs).take j) : (ids ++ (conns hs).take (j + 1)).Nodup := by
  have hjc : j < (conns hs).length := by rw [conns_len]; exact hj
  rw [take_snoc _ j hjc, ← List.append_assoc, nodup_snoc, conns_get hs j hj]; exact ⟨hn, h⟩
theorem allB_true {lo hi : Int} {l : List Int} : allB lo hi l = true ↔ ∀ v ∈ l, lo ≤ v ∧ v ≤ hi := allB_iff lo hi l
/-- The last question, once all connections are different and all owners are good. -/
theorem valid_last {p : Pl} (h1 : (p.ids ++ conns p.hs).Nodup) (h2 : ∀ h ∈ p.hs, 0 ≤ h.2 ∧ h.2 ≤ 4) :
    p.valid = (decide (1 ≤ p.mx ∧ p.mx ≤ 6) && (allB 0 (p.mx - 1) (p.ids ++ conns p.hs) && (decide (p.wt.length ≤ 12) && (allB 0 4 p.wt && (decide (p.wt.length = 0) || decide ((p.hs.length : Int) = p.mx)))))) := by
  rw [Bool.eq_iff_iff]
  simp only [Pl.valid, Bool.and_eq_true, Bool.or_eq_true, decide_eq_true_eq, allB_true]
  exact ⟨fun g => ⟨g.2.2.1, g.2.2.2.1, g.2.2.2.2.1, g.2.2.2.2.2.1, g.2.2.2.2.2.2⟩, fun g => ⟨h1, h2, g.1, g.2.1, g.2.2.1, g.2.2.2.1, g.2.2.2.2⟩⟩
/-- The first place of a connection among what is held. -/
def hfind (hs : List Pr) (x : Int) : Int := fidx (fun h : Pr => h.1 == x) hs
theorem hfind_ge (hs : List Pr) (x : Int) : decide (0 ≤ hfind hs x) = decide (x ∈ conns hs) := by
  unfold hfind
  rw [fidx_any, Bool.eq_iff_iff]
  simp only [List.any_eq_true, decide_eq_true_eq, conns, List.mem_map, beq_iff_eq]
theorem hfind_self (hs : List Pr) (j : Nat) (hj : j < hs.length) : hfind hs hs[j].1 = (j : Nat) ↔ hs[j].1 ∉ (conns hs).take j := by
  constructor
  · intro h hm
    obtain ⟨q, hq, he⟩ := List.mem_iff_getElem.1 hm
    rw [List.length_take, conns_len] at hq
    rw [List.getElem_take, conns_get hs q (by omega)] at he
    have ha : hs.any (fun h : Pr => h.1 == hs[j].1) = true := List.any_eq_true.2 ⟨hs[j], List.getElem_mem hj, by simp⟩
    unfold hfind fidx at h
    rw [if_pos ha] at h
    have hf : hs.findIdx (fun h : Pr => h.1 == hs[j].1) = j := by omega
    rw [List.findIdx_eq hj] at hf
    have := hf.2 q (by omega)
    rw [he] at this
    simp at this
  · intro h
    refine fidx_some _ hs j hj (by simp) fun q hq hlt => ?_
    refine beq_eq_false_iff_ne.2 fun e => h ?_
    rw [← e, ← conns_get hs q hq]
    exact List.mem_iff_getElem.2 ⟨q, by rw [List.length_take, conns_len]; omega, by rw [List.getElem_take]⟩
theorem nodup_idx {l : List Int} (h : ∀ j (hj : j < l.length), l[j] ∉ l.take j) : l.Nodup := by
  have key : ∀ k, k ≤ l.length → (l.take k).Nodup := by
    intro k
    induction k with
    | zero => intro _; simp
    | succ k ih => intro hk; rw [take_snoc l k (by omega), nodup_snoc]; exact ⟨ih (by omega), h k (by omega)⟩
  have := key l.length (Nat.le_refl _)
  rwa [List.take_length] at this
/-- What the program's two loops ask; M is Max - 1 at valid pools. -/
def okI (M : Int) (p : Pl) (j : Nat) : Prop := ∀ q (hq : q < p.ids.length), q < j → (0 ≤ p.ids[q] ∧ p.ids[q] ≤ M) ∧ p.ids[q] ∉ p.ids.take q ∧ p.ids[q] ∉ conns p.hs
def okH (M : Int) (p : Pl) (j : Nat) : Prop := ∀ q (hq : q < p.hs.length), q < j → (0 ≤ p.hs[q].1 ∧ p.hs[q].1 ≤ M) ∧ (0 ≤ p.hs[q].2 ∧ p.hs[q].2 ≤ 4) ∧ p.hs[q].1 ∉ (conns p.hs).take q
theorem okI_zero (M : Int) (p : Pl) : okI M p 0 := fun q _ h => absurd h (Nat.not_lt_zero _)
theorem okH_zero (M : Int) (p : Pl) : okH M p 0 := fun q _ h => absurd h (Nat.not_lt_zero _)
theorem okI_succ {M : Int} {p : Pl} {j : Nat} (h : okI M p j) (hj : j < p.ids.length) (h1 : 0 ≤ p.ids[j] ∧ p.ids[j] ≤ M) (h2 : p.ids[j] ∉ p.ids.take j) (h3 : p.ids[j] ∉ conns p.hs) : okI M p (j + 1) := by
  intro q hq hlt
  rcases Nat.lt_or_ge q j with h' | h'
  · exact h q hq h'
  · obtain rfl : q = j := by omega
    exact ⟨h1, h2, h3⟩
theorem okH_succ {M : Int} {p : Pl} {j : Nat} (h : okH M p j) (hj : j < p.hs.length) (h1 : 0 ≤ p.hs[j].1 ∧ p.hs[j].1 ≤ M) (h2 : 0 ≤ p.hs[j].2 ∧ p.hs[j].2 ≤ 4) (h3 : p.hs[j].1 ∉ (conns p.hs).take j) : okH M p (j + 1) := by
  intro q hq hlt
  rcases Nat.lt_or_ge q j with h' | h'
  · exact h q hq h'
  · obtain rfl : q = j := by omega
    exact ⟨h1, h2, h3⟩
theorem bad_both {p : Pl} {j : Nat} (hj : j < p.ids.length) (h : p.ids[j] ∈ conns p.hs) : p.valid = false := by
  refine decide_eq_false fun g => ?_
  exact (List.nodup_append.1 g.1).2.2 _ (List.getElem_mem hj) _ h rfl
theorem bad_mx {p : Pl} (h : ¬ (1 ≤ p.mx ∧ p.mx ≤ 6)) : p.valid = false := decide_eq_false fun g => h g.2.2.1
theorem bad_idr {p : Pl} {M : Int} (hM : (1 ≤ p.mx ∧ p.mx ≤ 6) → M = p.mx - 1) {j : Nat} (hj : j < p.ids.length) (h : ¬ (0 ≤ p.ids[j] ∧ p.ids[j] ≤ M)) : p.valid = false :=
  decide_eq_false fun g => h (by rw [hM g.2.2.1]; exact g.2.2.2.1 _ (List.mem_append_left _ (List.getElem_mem hj)))
theorem bad_hr {p : Pl} {M : Int} (hM : (1 ≤ p.mx ∧ p.mx ≤ 6) → M = p.mx - 1) {j : Nat} (hj : j < p.hs.length) (h : ¬ (0 ≤ p.hs[j].1 ∧ p.hs[j].1 ≤ M)) : p.valid = false :=
  decide_eq_false fun g => h (by rw [hM g.2.2.1]; exact g.2.2.2.1 _ (List.mem_append_right _ (List.mem_map.2 ⟨_, List.getElem_mem hj, rfl⟩)))
theorem bad_again {p : Pl} {j : Nat} (hj : j < p.hs.length) (h : p.hs[j].1 ∈ (conns p.hs).take j) : p.valid = false :=
  bad_conn hj (List.mem_append_right _ h)
theorem valid_impl0 {p : Pl} (h1 : okI (p.mx - 1) p p.ids.length) (h2 : okH (p.mx - 1) p p.hs.length) :
    p.valid = (decide (1 ≤ p.mx ∧ p.mx ≤ 6) && (decide (p.wt.length ≤ 12) && (allB 0 4 p.wt && (decide (p.wt.length = 0) || decide ((p.hs.length : Int) = p.mx))))) := by
  have n1 : p.ids.Nodup := nodup_idx fun j hj => (h1 j hj hj).2.1
  have n2 : (conns p.hs).Nodup := nodup_idx fun j hj => by
    have hj' : j < p.hs.length := by rw [conns_len] at hj; exact hj
    rw [conns_get p.hs j hj']
    exact (h2 j hj' hj').2.2
  have n3 : (p.ids ++ conns p.hs).Nodup := by
    refine List.nodup_append.2 ⟨n1, n2, fun a ha b hb => ?_⟩
    rintro rfl
    obtain ⟨j, hj, rfl⟩ := List.mem_iff_getElem.1 ha
    exact (h1 j hj hj).2.2 hb
  have ho : ∀ h ∈ p.hs, 0 ≤ h.2 ∧ h.2 ≤ 4 := fun h hm => by
    obtain ⟨j, hj, rfl⟩ := List.mem_iff_getElem.1 hm
    exact (h2 j hj hj).2.1
  have ha : allB 0 (p.mx - 1) (p.ids ++ conns p.hs) = true := by
    rw [allB_true]
    intro v hv
    rcases List.mem_append.1 hv with hv | hv
    · obtain ⟨j, hj, rfl⟩ := List.mem_iff_getElem.1 hv
      exact (h1 j hj hj).1
    · obtain ⟨x, hx, rfl⟩ := List.mem_map.1 hv
      obtain ⟨j, hj, rfl⟩ := List.mem_iff_getElem.1 hx
      exact (h2 j hj hj).1
  rw [valid_last n3 ho, ha]
  rfl
theorem valid_impl {p : Pl} {M : Int} (hM : (1 ≤ p.mx ∧ p.mx ≤ 6) → M = p.mx - 1) (h1 : okI M p p.ids.length) (h2 : okH M p p.hs.length) :
    p.valid = (decide (1 ≤ p.mx ∧ p.mx ≤ 6) && (decide (p.wt.length ≤ 12) && (allB 0 4 p.wt && (decide (p.wt.length = 0) || decide ((p.hs.length : Int) = p.mx))))) := by
  by_cases h : 1 ≤ p.mx ∧ p.mx ≤ 6
  · rw [hM h] at h1 h2
    exact valid_impl0 h1 h2
  · rw [bad_mx h, decide_eq_false h]; rfl
/-- Valid pools are small. -/
theorem nodup_small : ∀ (n : Nat) (l : List Int), l.Nodup → (∀ v ∈ l, 0 ≤ v ∧ v < (n : Int)) → l.length ≤ n
  | 0, l, _, h => by
    cases l with
    | nil => simp
    | cons x l => have := h x (by simp); omega
  | n + 1, l, hn, h => by
    have h1 := nodup_small n (l.erase (n : Int)) (hn.erase _) (fun v hv => by
      have h2 := h v (List.mem_of_mem_erase hv)
      have h3 : v ≠ (n : Int) := fun e => by rw [e] at hv; exact (List.Nodup.not_mem_erase hn) hv
      omega)
    have h2 := List.length_erase (a := (n : Int)) (l := l)
    split at h2 <;> omega
theorem Pl.Good.len {p : Pl} (g : p.Good) : p.ids.length + p.hs.length ≤ p.mx.toNat := by
  obtain ⟨h1, _, h3, h4, _⟩ := g
  have := nodup_small p.mx.toNat _ h1 (fun v hv => by have := h4 v hv; omega)
  rw [List.length_append, conns_len] at this
  exact this
theorem Pl.Good.small {p : Pl} (g : p.Good) : p.ids.length + p.hs.length ≤ 6 ∧ p.wt.length ≤ 12 := by
  have h1 := g.len
  have h2 := g.2.2.1
  exact ⟨by omega, g.2.2.2.2.1⟩
end Go.Proofs.YtnmgnhpagnjhlaaGreatDoor
