/- Texts cut at a byte, and numbers read: plain lists of bytes, no program in sight. -/
import Derived.Test.YtnmgnhpagnjhlaaGreatDoorPoolText
import Derived.Lib.Split
import Derived.Lib.SplitLaws
import Derived.Lib.IndexLaws
import Derived.Lib.IndexBytes
import Derived.Lib.AtoiAll
import Derived.Lib.ItoaMem
set_option linter.unusedVariables false
set_option linter.unusedSimpArgs false
set_option linter.unnecessarySimpa false
namespace Go.Proofs.YtnmgnhpagnjhlaaGreatDoor

/-- The pieces of a text between the bytes c. -/
def spl (c : UInt8) : List UInt8 → List (List UInt8)
  | [] => [[]]
  | b :: l => if b = c then [] :: spl c l else match spl c l with
    | [] => [[b]]
    | p :: ps => (b :: p) :: ps
theorem spl_ne (c : UInt8) : ∀ l, spl c l ≠ []
  | [] => by simp [spl]
  | b :: l => by
    unfold spl
    split
    · simp
    · cases h : spl c l <;> simp
theorem spl_free (c : UInt8) : ∀ (p : List UInt8), c ∉ p → spl c p = [p]
  | [], _ => rfl
  | b :: p, h => by
    have h1 : b ≠ c := fun e => h (by rw [e]; simp)
    have h2 : c ∉ p := fun e => h (List.mem_cons_of_mem _ e)
    unfold spl
    rw [if_neg h1, spl_free c p h2]
theorem spl_hit (c : UInt8) (r : List UInt8) : ∀ (p : List UInt8), c ∉ p → spl c (p ++ c :: r) = p :: spl c r
  | [], _ => by simp [spl]
  | b :: p, h => by
    have h1 : b ≠ c := fun e => h (by rw [e]; simp)
    have h2 : c ∉ p := fun e => h (List.mem_cons_of_mem _ e)
    rw [List.cons_append, spl, if_neg h1, spl_hit c r p h2]
theorem spl_len (c : UInt8) : ∀ l, (spl c l).length ≤ l.length + 1
  | [] => by simp [spl]
  | b :: l => by
    have := spl_len c l
    unfold spl
    split
    · simp only [List.length_cons]; omega
    · cases h : spl c l with
      | nil => simp
      | cons p ps => rw [h] at this; simp only [List.length_cons] at this ⊢; omega
theorem spl_piece_len (c : UInt8) : ∀ l, ∀ p ∈ spl c l, p.length ≤ l.length
  | [], p, h => by simp [spl] at h; subst h; simp
  | b :: l, p, h => by
    have ih := spl_piece_len c l
    unfold spl at h
    split at h
    · rcases List.mem_cons.1 h with rfl | h
      · simp
      · have := ih p h; simp only [List.length_cons]; omega
    · cases hs : spl c l with
      | nil => exact absurd hs (spl_ne c l)
      | cons q qs =>
        rw [hs] at h ih
        rcases List.mem_cons.1 h with rfl | h
        · have := ih q (by simp); simp only [List.length_cons]; omega
        · have := ih p (List.mem_cons_of_mem _ h); simp only [List.length_cons]; omega
theorem spl_comma : ∀ (l : List UInt8), comma (spl 44 l) = l
  | [] => by simp [spl, comma_one]
  | b :: l => by
    have ih := spl_comma l
    unfold spl
    split
    · rename_i h
      subst h
      cases hs : spl 44 l with
      | nil => exact absurd hs (spl_ne 44 l)
      | cons q qs => rw [hs] at ih; rw [comma_cons, ih]; rfl
    · cases hs : spl 44 l with
      | nil => exact absurd hs (spl_ne 44 l)
      | cons q qs =>
        rw [hs] at ih
        simp only
        cases qs with
        | nil => rw [comma_one] at ih ⊢; rw [ih]
        | cons r rs => rw [comma_cons] at ih ⊢; rw [List.cons_append, ih]
theorem comma_spl : ∀ (ps : List (List UInt8)), ps ≠ [] → (∀ p ∈ ps, (44 : UInt8) ∉ p) → spl 44 (comma ps) = ps
  | [], h, _ => absurd rfl h
  | [a], _, h => by rw [comma_one]; exact spl_free 44 a (h a (by simp))
  | a :: b :: ps, _, h => by
    rw [comma_cons, spl_hit 44 _ a (h a (by simp)), comma_spl (b :: ps) (by simp) (fun p hp => h p (List.mem_cons_of_mem _ hp))]
theorem idx_none {l : List UInt8} {c : UInt8} (h : Lib.index l [c] = -1) : c ∉ l := fun hm => by
  obtain ⟨k, hk, e⟩ := List.mem_iff_getElem.1 hm
  rw [Lib.index_one] at h
  exact Lib.indexByte_none h k (by rw [List.getElem?_eq_getElem hk, e])
theorem idx_some {l : List UInt8} {c : UInt8} {i : Nat} (h : Lib.index l [c] = i) : l = l.take i ++ c :: l.drop (i + 1) ∧ c ∉ l.take i := by
  rw [Lib.index_one] at h
  obtain ⟨h1, h2⟩ := Lib.indexByte_some h
  obtain ⟨hlt, e⟩ := List.getElem?_eq_some_iff.1 h1
  constructor
  · conv => lhs; rw [← List.take_append_drop i l, List.drop_eq_getElem_cons hlt, e]
  · intro hm
    obtain ⟨k, hk, e2⟩ := List.mem_iff_getElem.1 hm
    rw [List.length_take] at hk
    rw [List.getElem_take] at e2
    exact h2 k (by omega) (by rw [List.getElem?_eq_getElem (by omega), e2])
theorem idx_cases (l : List UInt8) (c : UInt8) : Lib.index l [c] = -1 ∨ ∃ i : Nat, Lib.index l [c] = i := by
  have := Lib.indexByte_ge l c
  rw [← Lib.index_one] at this
  rcases Int.lt_or_le (Lib.index l [c]) 0 with h | h
  · exact .inl (by omega)
  · exact .inr ⟨(Lib.index l [c]).toNat, by omega⟩
theorem splitK_spl (c : UInt8) : ∀ (k : Nat) (l : List UInt8), l.count c = k → Lib.splitK [c] 0 k l = spl c l
  | 0, l, h => (spl_free c l (List.count_eq_zero.1 h)).symm
  | k + 1, l, h => by
    unfold Lib.splitK
    rcases idx_cases l c with hi | ⟨i, hi⟩
    · have := List.count_eq_zero.2 (idx_none hi)
      omega
    · obtain ⟨e, hf⟩ := idx_some hi
      have hm : ¬ (Lib.index l [c] == -1) = true := fun e => by have := beq_iff_eq.1 e; omega
      rw [if_neg hm, hi]
      simp only [Int.toNat_natCast, Nat.add_zero, List.length_singleton]
      have hc : (l.drop (i + 1)).count c = k := by
        rw [e, List.count_append, List.count_cons, List.count_eq_zero.2 hf] at h
        simp at h
        exact h
      rw [splitK_spl c k _ hc]
      conv => rhs; rw [e, spl_hit c _ _ hf]
theorem split_pieces (s : ByteArray) (c : UInt8) : (Lib.splitB ⟨#[c]⟩ 0 (Lib.countB s ⟨#[c]⟩) s) = (spl c s.data.toList).map bsof ∧ Lib.countB s ⟨#[c]⟩ + 1 = (spl c s.data.toList).length := by
  have hn : Lib.countB s ⟨#[c]⟩ = s.data.toList.count c := Lib.count_one c s.data.toList
  have h1 := Lib.splitB_data ⟨#[c]⟩ 0 (Lib.countB s ⟨#[c]⟩) s
  have h2 := splitK_spl c _ s.data.toList hn.symm
  rw [show (⟨#[c]⟩ : ByteArray).data.toList = [c] from rfl, h2] at h1
  have e : (Lib.splitB ⟨#[c]⟩ 0 (Lib.countB s ⟨#[c]⟩) s) = (spl c s.data.toList).map bsof := by
    rw [← h1, List.map_map]
    conv => lhs; rw [← List.map_id (Lib.splitB _ _ _ _)]
    exact List.map_congr_left fun p _ => rfl
  refine ⟨e, ?_⟩
  have h3 := Lib.splitB_all ⟨#[c]⟩ (Nat.le_refl 1) 0 _ s rfl
  rw [e, List.length_map] at h3
  exact h3.symm
/-- A text cut at its first byte c. -/
def cut1 (c : UInt8) (l : List UInt8) : List UInt8 × List UInt8 := ((Lib.cut l [c]).1, (Lib.cut l [c]).2.1)
theorem cut1_hit (c : UInt8) (a b : List UInt8) (h : c ∉ a) : cut1 c (a ++ c :: b) = (a, b) := by
  unfold cut1 Lib.cut
  rcases idx_cases (a ++ c :: b) c with hi | ⟨i, hi⟩
  · exact absurd (by simp) (idx_none hi)
  · obtain ⟨e, hf⟩ := idx_some hi
    have hia : i = a.length := by
      rw [Lib.index_one] at hi
      obtain ⟨h1, h2⟩ := Lib.indexByte_some hi
      rcases Nat.lt_trichotomy i a.length with h3 | h3 | h3
      · rw [List.getElem?_append_left h3] at h1
        exact absurd (List.mem_of_getElem? h1) h
      · exact h3
      · exact absurd (by simp) (h2 a.length h3)
    subst hia
    rw [hi, if_pos (Int.natCast_nonneg _)]
    simp
theorem spl_two (c : UInt8) : ∀ (l a b : List UInt8), spl c l = [a, b] → l = a ++ c :: b ∧ c ∉ a ∧ c ∉ b := by
  intro l a b h
  by_cases hm : c ∈ l
  · rcases idx_cases l c with hi | ⟨i, hi⟩
    · exact absurd hm (idx_none hi)
    · obtain ⟨e, hf⟩ := idx_some hi
      rw [e, spl_hit c _ _ hf] at h
      injection h with h1 h2
      by_cases hm2 : c ∈ l.drop (i + 1)
      · rcases idx_cases (l.drop (i + 1)) c with hi2 | ⟨j, hi2⟩
        · exact absurd hm2 (idx_none hi2)
        · obtain ⟨e2, hf2⟩ := idx_some hi2
          rw [e2, spl_hit c _ _ hf2] at h2
          injection h2 with _ h4
          exact absurd h4 (spl_ne c _)
      · rw [spl_free c _ hm2] at h2
        injection h2 with h3 _
        subst h1
        rw [h3] at e hm2
        exact ⟨e, hf, hm2⟩
  · rw [spl_free c l hm] at h
    injection h with _ h2
    cases h2

/-- The number that the program reads, -1 for none. -/
def numI (l : List UInt8) : Int := match Lib.atoiAll l with
  | .ok v => if 0 ≤ v ∧ Lib.itoa v = l then v else -1
  | _ => -1
theorem numI_ge (l : List UInt8) : -1 ≤ numI l := by
  unfold numI
  split
  · split <;> omega
  · omega
theorem numI_some (l : List UInt8) (h : 0 ≤ numI l) : l = Lib.decDigits (numI l).toNat := by
  unfold numI at h ⊢
  split at h
  · split at h
    · rename_i v hv hc
      rw [if_pos hc]
      have := Lib.itoa_nonneg v.toNat
      rw [Int.toNat_of_nonneg hc.1] at this
      rw [← this, hc.2]
    · omega
  · omega
theorem atoi_small : ∀ i : Fin 21, Lib.atoiAll (Lib.decDigits i.val) = .ok (i.val : Int) := by
  intro i
  have h1 : ∀ i : Fin 10, Lib.atoiAll [UInt8.ofNat (48 + i.val)] = .ok (i.val : Int) := by decide +kernel
  have h2 : ∀ i : Fin 21, 10 ≤ i.val → Lib.atoiAll [UInt8.ofNat (48 + i.val / 10), UInt8.ofNat (48 + i.val % 10)] = .ok (i.val : Int) := by decide +kernel
  by_cases h : i.val < 10
  · rw [Lib.decDigits_one h]; exact h1 ⟨i.val, h⟩
  · rw [Lib.decDigits_two h (by omega)]; exact h2 i (by omega)
theorem numI_small (u : Nat) (h : u ≤ 20) : numI (Lib.decDigits u) = u := by
  unfold numI
  rw [atoi_small ⟨u, by omega⟩]
  simp only
  rw [if_pos ⟨by omega, Lib.itoa_nonneg u⟩]
/-- What digits spell. -/
def valB (l : List UInt8) : Nat := l.foldl (fun n b => 10 * n + (b.toNat - 48)) 0
def digitsB (l : List UInt8) : Bool := l.all fun b => decide (48 ≤ b.toNat ∧ b.toNat ≤ 57)
/-- The number that the reference reads, -1 for none. -/
def pI (l : List UInt8) : Int := if 1 ≤ l.length ∧ l.length ≤ 4 ∧ digitsB l = true ∧ Lib.decDigits (valB l) = l then (valB l : Int) else -1
theorem pI_some (l : List UInt8) (h : 0 ≤ pI l) : l = Lib.decDigits (pI l).toNat := by
  unfold pI at h ⊢
  split at h
  · rename_i hc; rw [if_pos hc]; simp [hc.2.2.2]
  · omega
theorem pI_small (u : Nat) (h : u ≤ 20) : pI (Lib.decDigits u) = u := by
  have h1 : ∀ i : Fin 10, (1 ≤ [UInt8.ofNat (48 + i.val)].length ∧ [UInt8.ofNat (48 + i.val)].length ≤ 4 ∧ digitsB [UInt8.ofNat (48 + i.val)] = true) ∧ valB [UInt8.ofNat (48 + i.val)] = i.val := by decide +kernel
  have h2 : ∀ i : Fin 21, 10 ≤ i.val → (1 ≤ [UInt8.ofNat (48 + i.val / 10), UInt8.ofNat (48 + i.val % 10)].length ∧ [UInt8.ofNat (48 + i.val / 10), UInt8.ofNat (48 + i.val % 10)].length ≤ 4 ∧ digitsB [UInt8.ofNat (48 + i.val / 10), UInt8.ofNat (48 + i.val % 10)] = true) ∧ valB [UInt8.ofNat (48 + i.val / 10), UInt8.ofNat (48 + i.val % 10)] = i.val := by decide +kernel
  have key : (1 ≤ (Lib.decDigits u).length ∧ (Lib.decDigits u).length ≤ 4 ∧ digitsB (Lib.decDigits u) = true) ∧ valB (Lib.decDigits u) = u := by
    by_cases h : u < 10
    · rw [Lib.decDigits_one h]; exact h1 ⟨u, h⟩
    · rw [Lib.decDigits_two h (by omega)]; exact h2 ⟨u, by omega⟩ (by simp only; omega)
  unfold pI
  rw [if_pos ⟨key.1.1, key.1.2.1, key.1.2.2, by rw [key.2]⟩, key.2]
theorem dec_free (u : Nat) (c : UInt8) (h : c.toNat < 48 ∨ 57 < c.toNat) : c ∉ Lib.decDigits u := by
  induction u using Nat.strongRecOn with
  | _ u ih =>
    intro hb
    by_cases hu : u < 10
    · rw [Lib.decDigits_one hu] at hb
      simp only [List.mem_singleton] at hb
      subst hb
      rw [UInt8.toNat_ofNat'] at h; omega
    · rw [Lib.decDigits, dif_neg hu] at hb
      rcases List.mem_append.1 hb with hb | hb
      · exact ih (u / 10) (by omega) hb
      · simp only [List.mem_singleton] at hb
        subst hb
        rw [UInt8.toNat_ofNat'] at h; omega
end Go.Proofs.YtnmgnhpagnjhlaaGreatDoor
