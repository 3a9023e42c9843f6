/- Texts of pools read back: plain lists of bytes, no program in sight. -/
import Derived.Test.YtnmgnhpagnjhlaaGreatDoorSplitG
import Derived.Test.YtnmgnhpagnjhlaaGreatDoorPlainQ
set_option linter.unusedVariables false
set_option linter.unusedSimpArgs false
set_option linter.unnecessarySimpa false
namespace Go.Proofs.YtnmgnhpagnjhlaaGreatDoor
open Go.RowKit

/-- The elements of a text with commas between. -/
def elsOf (l : List UInt8) : List (List UInt8) := if l = [] then [] else spl 44 l
/-- The numbers that the reference reads; none where a piece is no number. -/
def numsS : List (List UInt8) → Option (List Int)
  | [] => some []
  | p :: ps => if 0 ≤ pI p then (numsS ps).map fun r => pI p :: r else none
def listS (l : List UInt8) : Option (List Int) := numsS (elsOf l)
def hold1 (p : List UInt8) : Option Pr := match spl 58 p with
  | [a, b] => if 0 ≤ pI a ∧ 0 ≤ pI b then some (pI a, pI b) else none
  | _ => none
/-- What is held, as the reference reads it. -/
def pairsS : List (List UInt8) → Option (List Pr)
  | [] => some []
  | p :: ps => match hold1 p with
    | some h => (pairsS ps).map fun r => h :: r
    | none => none
def holdsS (l : List UInt8) : Option (List Pr) := pairsS (elsOf l)
/-- What the program reads. -/
def numsI (l : List UInt8) : List Int := (elsOf l).map numI
def prH (p : List UInt8) : Pr := (numI (cut1 58 p).1, numI (cut1 58 p).2)
def holdsI (l : List UInt8) : List Pr := (elsOf l).map prH
/-- The valid pool of a text, as the reference reads it. -/
def poolS (l : List UInt8) : Option Pl := match spl 32 l with
  | [h, r] => match spl 124 r with
    | [x, y, z] => match listS x, holdsS y, listS z with
      | some a, some b, some c => if (Pl.mk (pI h) a b c).valid = true then some ⟨pI h, a, b, c⟩ else none
      | _, _, _ => none
    | _ => none
  | _ => none
/-- The pool that the program reads off the pieces. -/
def poolI (h : List UInt8) (ps : List (List UInt8)) : Pl := ⟨numI h, numsI (ps.getD 0 []), holdsI (ps.getD 1 []), numsI (ps.getD 2 [])⟩
theorem elsOf_ne {l : List UInt8} (h : l ≠ []) : elsOf l = spl 44 l := if_neg h
theorem elsOf_comma (l : List UInt8) : comma (elsOf l) = l := by
  unfold elsOf
  split
  · rename_i h; rw [h]; rfl
  · exact spl_comma l
theorem comma_els (ps : List (List UInt8)) (h : ∀ p ∈ ps, (44 : UInt8) ∉ p ∧ p ≠ []) : elsOf (comma ps) = ps := by
  cases ps with
  | nil => rfl
  | cons p ps =>
    have hs := comma_spl (p :: ps) (by simp) (fun q hq => (h q hq).1)
    unfold elsOf
    rw [if_neg, hs]
    intro e
    rw [e] at hs
    have e2 : spl 44 ([] : List UInt8) = [[]] := rfl
    rw [e2] at hs
    injection hs with h1 _
    exact (h p (by simp)).2 h1.symm
theorem dec_ne (u : Nat) : Lib.decDigits u ≠ [] := by
  by_cases h : u < 10
  · rw [Lib.decDigits_one h]; simp
  · rw [Lib.decDigits, dif_neg h]; simp
theorem intL_free (v : Int) (c : UInt8) (h : c.toNat < 48 ∨ 57 < c.toNat) : c ∉ intL v := dec_free _ c h
theorem holdL_free (x : Pr) (c : UInt8) (h : c.toNat < 48 ∨ 57 < c.toNat) (h58 : c ≠ 58) : c ∉ holdL x := by
  unfold holdL
  simp only [List.mem_append, List.mem_cons, not_or]
  exact ⟨dec_free _ c h, h58, dec_free _ c h⟩
theorem holdL_ne (x : Pr) : holdL x ≠ [] := by unfold holdL; simp
theorem comma_free (c : UInt8) (h44 : c ≠ 44) : ∀ (ps : List (List UInt8)), (∀ p ∈ ps, c ∉ p) → c ∉ comma ps
  | [], _ => by simp [comma_nil]
  | [a], h => by rw [comma_one]; exact h a (by simp)
  | a :: b :: ps, h => by
    rw [comma_cons]
    simp only [List.mem_append, List.mem_cons, not_or]
    exact ⟨h a (by simp), h44, comma_free c h44 (b :: ps) (fun p hp => h p (List.mem_cons_of_mem _ hp))⟩
theorem listL_free (vs : List Int) (c : UInt8) (h : c.toNat < 48 ∨ 57 < c.toNat) (h44 : c ≠ 44) : c ∉ listL vs :=
  comma_free c h44 _ fun p hp => by obtain ⟨v, _, rfl⟩ := List.mem_map.1 hp; exact intL_free v c h
theorem holdsL_free (hs : List Pr) (c : UInt8) (h : c.toNat < 48 ∨ 57 < c.toNat) (h44 : c ≠ 44) (h58 : c ≠ 58) : c ∉ holdsL hs :=
  comma_free c h44 _ fun p hp => by obtain ⟨v, _, rfl⟩ := List.mem_map.1 hp; exact holdL_free v c h h58
theorem els_listL (vs : List Int) : elsOf (listL vs) = vs.map intL := comma_els _ fun p hp => by
  obtain ⟨v, _, rfl⟩ := List.mem_map.1 hp
  exact ⟨intL_free v 44 (by decide), dec_ne _⟩
theorem els_holdsL (hs : List Pr) : elsOf (holdsL hs) = hs.map holdL := comma_els _ fun p hp => by
  obtain ⟨v, _, rfl⟩ := List.mem_map.1 hp
  exact ⟨holdL_free v 44 (by decide) (by decide), holdL_ne v⟩
def okI20 (vs : List Int) : Prop := ∀ v ∈ vs, 0 ≤ v ∧ v ≤ 20
def okH20 (hs : List Pr) : Prop := ∀ h ∈ hs, (0 ≤ h.1 ∧ h.1 ≤ 20) ∧ 0 ≤ h.2 ∧ h.2 ≤ 20
theorem pI_intL {v : Int} (h : 0 ≤ v ∧ v ≤ 20) : pI (intL v) = v := by unfold intL; rw [pI_small _ (by omega)]; omega
theorem numI_intL {v : Int} (h : 0 ≤ v ∧ v ≤ 20) : numI (intL v) = v := by unfold intL; rw [numI_small _ (by omega)]; omega
theorem numsS_of : ∀ (vs : List Int), okI20 vs → numsS (vs.map intL) = some vs
  | [], _ => rfl
  | v :: vs, h => by
    have h1 := h v (by simp)
    rw [List.map_cons]
    unfold numsS
    rw [pI_intL h1, if_pos h1.1, numsS_of vs (fun y hy => h y (List.mem_cons_of_mem _ hy))]
    rfl
theorem numsI_of : ∀ (vs : List Int), okI20 vs → (vs.map intL).map numI = vs
  | [], _ => rfl
  | v :: vs, h => by
    rw [List.map_cons, List.map_cons, numI_intL (h v (by simp)), numsI_of vs (fun y hy => h y (List.mem_cons_of_mem _ hy))]
theorem spl_holdL (x : Pr) : spl 58 (holdL x) = [Lib.decDigits x.1.toNat, Lib.decDigits x.2.toNat] := by
  unfold holdL
  rw [spl_hit 58 _ _ (dec_free _ _ (by decide)), spl_free 58 _ (dec_free _ _ (by decide))]
theorem cut_holdL (x : Pr) : cut1 58 (holdL x) = (Lib.decDigits x.1.toNat, Lib.decDigits x.2.toNat) := by
  unfold holdL
  exact cut1_hit 58 _ _ (dec_free _ _ (by decide))
theorem hold1_of {x : Pr} (h : (0 ≤ x.1 ∧ x.1 ≤ 20) ∧ 0 ≤ x.2 ∧ x.2 ≤ 20) : hold1 (holdL x) = some x := by
  unfold hold1
  rw [spl_holdL]
  simp only
  rw [pI_small _ (by omega), pI_small _ (by omega), if_pos ⟨by omega, by omega⟩, Int.toNat_of_nonneg h.1.1, Int.toNat_of_nonneg h.2.1]
theorem pairsS_of : ∀ (hs : List Pr), okH20 hs → pairsS (hs.map holdL) = some hs
  | [], _ => rfl
  | x :: hs, h => by
    rw [List.map_cons]
    unfold pairsS
    rw [hold1_of (h x (by simp))]
    simp only
    rw [pairsS_of hs (fun y hy => h y (List.mem_cons_of_mem _ hy))]
    rfl
theorem prH_of {x : Pr} (h : (0 ≤ x.1 ∧ x.1 ≤ 20) ∧ 0 ≤ x.2 ∧ x.2 ≤ 20) : prH (holdL x) = x := by
  unfold prH
  rw [cut_holdL]
  simp only
  rw [numI_small _ (by omega), numI_small _ (by omega), Int.toNat_of_nonneg h.1.1, Int.toNat_of_nonneg h.2.1]
theorem holdsI_of : ∀ (hs : List Pr), okH20 hs → (hs.map holdL).map prH = hs
  | [], _ => rfl
  | x :: hs, h => by
    rw [List.map_cons, List.map_cons, prH_of (h x (by simp)), holdsI_of hs (fun y hy => h y (List.mem_cons_of_mem _ hy))]
theorem numsS_back : ∀ (ps : List (List UInt8)) (vs : List Int), numsS ps = some vs → ps = vs.map intL
  | [], vs, h => by simp [numsS] at h; subst h; rfl
  | p :: ps, vs, h => by
    unfold numsS at h
    split at h
    · rename_i h0
      cases hr : numsS ps with
      | none => rw [hr] at h; cases h
      | some r =>
        rw [hr] at h
        simp only [Option.map_some, Option.some.injEq] at h
        subst h
        rw [List.map_cons, ← numsS_back ps r hr]
        congr 1
        exact pI_some p h0
    · cases h
theorem hold1_back {p : List UInt8} {x : Pr} (h : hold1 p = some x) : p = holdL x := by
  unfold hold1 at h
  split at h
  · rename_i a b hs
    split at h
    · rename_i h0
      injection h with h
      subst h
      obtain ⟨e, _, _⟩ := spl_two 58 p a b hs
      rw [e]
      unfold holdL
      rw [← pI_some a h0.1, ← pI_some b h0.2]
    · cases h
  · cases h
theorem pairsS_back : ∀ (ps : List (List UInt8)) (hs : List Pr), pairsS ps = some hs → ps = hs.map holdL
  | [], hs, h => by simp [pairsS] at h; subst h; rfl
  | p :: ps, hs, h => by
    unfold pairsS at h
    split at h
    · rename_i x hx
      cases hr : pairsS ps with
      | none => rw [hr] at h; cases h
      | some r =>
        rw [hr] at h
        simp only [Option.map_some, Option.some.injEq] at h
        subst h
        rw [List.map_cons, ← pairsS_back ps r hr, ← hold1_back hx]
    · cases h
theorem listS_back {l : List UInt8} {vs : List Int} (h : listS l = some vs) : l = listL vs := by
  have := numsS_back _ _ h
  unfold listL
  rw [← this, elsOf_comma]
theorem holdsS_back {l : List UInt8} {hs : List Pr} (h : holdsS l = some hs) : l = holdsL hs := by
  have := pairsS_back _ _ h
  unfold holdsL
  rw [← this, elsOf_comma]
theorem Pl.Good.ok20 {p : Pl} (g : p.Good) : okI20 p.ids ∧ okH20 p.hs ∧ okI20 p.wt ∧ 0 ≤ p.mx ∧ p.mx ≤ 20 := by
  have hm := g.2.2.1
  refine ⟨fun v hv => ?_, fun h hh => ?_, fun v hv => ?_, by omega, by omega⟩
  · have := g.2.2.2.1 v (List.mem_append_left _ hv); omega
  · have h1 := g.2.2.2.1 h.1 (List.mem_append_right _ (List.mem_map.2 ⟨h, hh, rfl⟩))
    have h2 := g.2.1 h hh
    omega
  · have := g.2.2.2.2.2.1 v hv; omega
theorem spl_three (c : UInt8) {l x y z : List UInt8} (h : spl c l = [x, y, z]) : l = x ++ c :: (y ++ c :: z) := by
  by_cases hm : c ∈ l
  · rcases idx_cases l c with hi | ⟨i, hi⟩
    · exact absurd hm (idx_none hi)
    · obtain ⟨e, hf⟩ := idx_some hi
      rw [e, spl_hit c _ _ hf] at h
      injection h with h1 h2
      obtain ⟨e2, _, _⟩ := spl_two c _ _ _ h2
      rw [e, h1, e2]
  · rw [spl_free c l hm] at h
    injection h with _ h2
    cases h2
theorem text_free (p : Pl) : (32 : UInt8) ∉ intL p.mx ∧ (32 : UInt8) ∉ listL p.ids ++ 124 :: (holdsL p.hs ++ 124 :: listL p.wt) := by
  refine ⟨intL_free _ _ (by decide), ?_⟩
  simp only [List.mem_append, List.mem_cons, not_or]
  exact ⟨listL_free _ _ (by decide) (by decide), by decide, holdsL_free _ _ (by decide) (by decide) (by decide), by decide, listL_free _ _ (by decide) (by decide)⟩
theorem text_spl (p : Pl) : spl 32 p.text = [intL p.mx, listL p.ids ++ 124 :: (holdsL p.hs ++ 124 :: listL p.wt)] := by
  unfold Pl.text
  rw [spl_hit 32 _ _ (text_free p).1, spl_free 32 _ (text_free p).2]
theorem text_cut (p : Pl) : cut1 32 p.text = (intL p.mx, listL p.ids ++ 124 :: (holdsL p.hs ++ 124 :: listL p.wt)) := by
  unfold Pl.text
  exact cut1_hit 32 _ _ (text_free p).1
theorem text_bars (p : Pl) : spl 124 (listL p.ids ++ 124 :: (holdsL p.hs ++ 124 :: listL p.wt)) = [listL p.ids, holdsL p.hs, listL p.wt] := by
  rw [spl_hit 124 _ _ (listL_free _ _ (by decide) (by decide)), spl_hit 124 _ _ (holdsL_free _ _ (by decide) (by decide) (by decide)), spl_free 124 _ (listL_free _ _ (by decide) (by decide))]
theorem poolS_text {p : Pl} (g : p.Good) : poolS p.text = some p := by
  obtain ⟨h1, h2, h3, h4⟩ := g.ok20
  unfold poolS
  rw [text_spl]
  simp only
  rw [text_bars]
  simp only
  have e1 : listS (listL p.ids) = some p.ids := by unfold listS; rw [els_listL, numsS_of _ h1]
  have e2 : holdsS (holdsL p.hs) = some p.hs := by unfold holdsS; rw [els_holdsL, pairsS_of _ h2]
  have e3 : listS (listL p.wt) = some p.wt := by unfold listS; rw [els_listL, numsS_of _ h3]
  rw [e1, e2, e3]
  simp only
  rw [pI_intL h4]
  exact if_pos (valid_good.2 g)
theorem poolS_back {l : List UInt8} {p : Pl} (h : poolS l = some p) : p.Good ∧ p.text = l := by
  unfold poolS at h
  split at h
  · rename_i hd r hs
    split at h
    · rename_i x y z hb
      split at h
      · rename_i a b c h1 h2 h3
        split at h
        · rename_i hv
          injection h with h
          subst h
          have g := valid_good.1 hv
          refine ⟨g, ?_⟩
          obtain ⟨e, _, _⟩ := spl_two 32 _ _ _ hs
          have e2 := spl_three 124 hb
          have hp := pI_some hd (by have := g.2.2.1; simp only at this; omega)
          unfold Pl.text
          simp only
          rw [← listS_back h1, ← holdsS_back h2, ← listS_back h3, e, e2]
          unfold intL
          rw [← hp]
        · cases h
      · cases h
    · cases h
  · cases h
theorem poolI_text {p : Pl} (g : p.Good) : poolI (intL p.mx) [listL p.ids, holdsL p.hs, listL p.wt] = p := by
  obtain ⟨h1, h2, h3, h4⟩ := g.ok20
  have e1 : numsI (listL p.ids) = p.ids := by unfold numsI; rw [els_listL, numsI_of _ h1]
  have e2 : holdsI (holdsL p.hs) = p.hs := by unfold holdsI; rw [els_holdsL, holdsI_of _ h2]
  have e3 : numsI (listL p.wt) = p.wt := by unfold numsI; rw [els_listL, numsI_of _ h3]
  show Pl.mk (numI (intL p.mx)) (numsI (listL p.ids)) (holdsI (holdsL p.hs)) (numsI (listL p.wt)) = p
  rw [e1, e2, e3, numI_intL h4]
/-- The program and the reference read the same. -/
theorem pool_same (l : List UInt8) (q : Pl) (ps : List (List UInt8)) (hps : ps = spl 124 (cut1 32 l).2) (hq : q = poolI (cut1 32 l).1 ps) :
    poolS l = if ps.length = 3 ∧ q.valid = true ∧ q.text = l then some q else none := by
  by_cases h : ps.length = 3 ∧ q.valid = true ∧ q.text = l
  · rw [if_pos h, ← h.2.2]
    exact poolS_text (valid_good.1 h.2.1)
  · rw [if_neg h]
    cases hp : poolS l with
    | none => rfl
    | some p =>
      exfalso
      obtain ⟨g, e⟩ := poolS_back hp
      rw [← e, text_cut] at hps hq
      simp only at hps hq
      rw [text_bars] at hps
      rw [hps, poolI_text g] at hq
      exact h ⟨by rw [hps]; rfl, by rw [hq]; exact valid_good.2 g, by rw [hq]; exact e⟩
end Go.Proofs.YtnmgnhpagnjhlaaGreatDoor
