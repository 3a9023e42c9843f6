/- Sessions: what each line does to a pool and prints. No program in sight. -/
import Derived.Test.YtnmgnhpagnjhlaaGreatDoorPlainR
import Derived.Lib.AtoiTie
set_option linter.unusedVariables false
set_option linter.unusedSimpArgs false
set_option linter.unnecessarySimpa false
namespace Go.Proofs.YtnmgnhpagnjhlaaGreatDoor
open Go.RowKit

def acquireT : List UInt8 := [97, 99, 113, 117, 105, 114, 101]
def releaseT : List UInt8 := [114, 101, 108, 101, 97, 115, 101]
def closeT : List UInt8 := [99, 108, 111, 115, 101]
def sizeT : List UInt8 := [115, 105, 122, 101]
def heldT : List UInt8 := [104, 101, 108, 100]
def poolT : List UInt8 := [112, 111, 111, 108]
def noT : List UInt8 := [110, 111]
def waitT : List UInt8 := [119, 97, 105, 116]
def idleT : List UInt8 := [105, 100, 108, 101]
def toT : List UInt8 := [116, 111, 32]
def okT : List UInt8 := [111, 107]
def whatT : List UInt8 := [119, 104, 97, 116]
/-- A number of a command; -1 for none. -/
def acqA (p : Pl) (o : Int) : Pl × List UInt8 := if (acqR p o).2.2 = true then ((acqR p o).1, if (acqR p o).2.1 < 0 then waitT else intL (acqR p o).2.1) else (p, noT)
def relA (p : Pl) (v : Int) : Pl × List UInt8 := if (relR p v).2.2 = true then ((relR p v).1, if (relR p v).2.1 < 0 then idleT else toT ++ intL (relR p v).2.1) else (p, noT)
def closeA (p : Pl) (v : Int) : Pl × List UInt8 := if (closeR p v).2 < 0 then (p, noT) else ((closeR p v).1, intL (closeR p v).2)
def sizeA (p : Pl) (v : Int) : Pl × List UInt8 := if (Pl.mk v p.ids p.hs p.wt).valid = true then (⟨v, p.ids, p.hs, p.wt⟩, okT) else (p, noT)
def heldA (p : Pl) (v : Int) : Pl × List UInt8 := (p, listL (heldV p v))
def cmdV (p : Pl) (l : List UInt8) : Pl × List UInt8 :=
  match spl 32 l with
  | [a, b] => if a = acquireT then acqA p (pI b) else if a = releaseT then relA p (pI b) else if a = closeT then closeA p (pI b) else if a = sizeT then sizeA p (pI b) else if a = heldT then heldA p (pI b) else (p, whatT)
  | _ => if l = poolT then (p, p.text) else (p, whatT)
def runV (p : Pl) : List (List UInt8) → List UInt8
  | [] => []
  | l :: ls => (cmdV p l).2 ++ 10 :: runV (cmdV p l).1 ls
def endV (p : Pl) : List (List UInt8) → Pl
  | [] => p
  | l :: ls => endV (cmdV p l).1 ls
def Pl.new : Pl := ⟨2, [], [], []⟩
def sessV (ls : List (List UInt8)) : List UInt8 := runV Pl.new (ls.take 20)
theorem runV_append (p : Pl) (a b : List (List UInt8)) : runV p (a ++ b) = runV p a ++ runV (endV p a) b := by
  induction a generalizing p with
  | nil => rfl
  | cons l ls ih =>
    rw [List.cons_append]
    simp only [runV, endV, ih, List.append_assoc, List.cons_append]
theorem endV_append (p : Pl) (a b : List (List UInt8)) : endV p (a ++ b) = endV (endV p a) b := by
  induction a generalizing p with
  | nil => rfl
  | cons l ls ih =>
    rw [List.cons_append]
    simp only [endV, ih]
theorem runV_snoc (p : Pl) (a : List (List UInt8)) (l : List UInt8) : runV p (a ++ [l]) = runV p a ++ ((cmdV (endV p a) l).2 ++ [10]) := by
  rw [runV_append]; rfl
theorem endV_snoc (p : Pl) (a : List (List UInt8)) (l : List UInt8) : endV p (a ++ [l]) = (cmdV (endV p a) l).1 := by
  rw [endV_append]; rfl
theorem new_good : Pl.new.Good := by decide +kernel
theorem zero_bad : Pl.zero.valid = false := by decide +kernel
theorem closeR_good {p : Pl} {v : Int} (h : ¬ (closeR p v).2 < 0) : (closeR p v).1.Good := by
  unfold closeR at h ⊢
  split at h
  · rename_i hh
    rw [if_pos hh]
    exact (valid_good.1 hh.1).close _
  · exact absurd (by decide) h
theorem cmdV_good {p : Pl} (g : p.Good) (l : List UInt8) : (cmdV p l).1.Good := by
  unfold cmdV
  split
  · split
    · unfold acqA
      split
      · exact acqR_good (by assumption)
      · exact g
    · split
      · unfold relA
        split
        · exact relR_good (by assumption)
        · exact g
      · split
        · unfold closeA
          split
          · exact g
          · exact closeR_good (by assumption)
        · split
          · unfold sizeA
            split
            · exact valid_good.1 (by assumption)
            · exact g
          · split
            · exact g
            · exact g
  · split
    · exact g
    · exact g
theorem endV_good {p : Pl} (g : p.Good) (ls : List (List UInt8)) : (endV p ls).Good := by
  induction ls generalizing p with
  | nil => exact g
  | cons l ls ih => exact ih (cmdV_good g l)
theorem intL_len {v : Int} (h : v ≤ 99) : (intL v).length ≤ 15 := by have := dec_len v.toNat (by omega); unfold intL; omega
theorem listL_len {vs : List Int} (h : smallI vs) (hn : vs.length ≤ 1000) : (listL vs).length ≤ 16000 := by
  have := comma_le intL vs 1000 hn (fun v hv => intL_le (h v hv)) vs.length
  rw [List.take_length] at this
  unfold listL; omega
theorem holdsL_len {vs : List Pr} (h : smallH vs) (hn : vs.length ≤ 1000) : (holdsL vs).length ≤ 16000 := by
  have := comma_le holdL vs 1000 hn (fun v hv => holdL_le (h v hv)) vs.length
  rw [List.take_length] at this
  unfold holdsL; omega
theorem heldV_small {p : Pl} (o : Int) : smallI (heldV p o) ∧ (heldV p o).length ≤ 6 := by
  unfold heldV
  by_cases hv : p.valid = true
  · rw [if_pos hv]
    have g := valid_good.1 hv
    refine ⟨fun v hv => ?_, ?_⟩
    · obtain ⟨x, hx, rfl⟩ := List.mem_map.1 hv
      have := g.smallHs x (List.mem_filter.1 hx).1
      exact this.1
    · rw [List.length_map]
      have h1 := List.length_filter_le (fun h : Pr => h.2 == o) p.hs
      have := g.small
      omega
  · rw [if_neg hv]
    exact ⟨fun v hv => by simp at hv, by simp⟩
theorem text_len {p : Pl} (g : p.Good) : p.text.length ≤ 50000 := by
  have h1 := listL_len g.smallIds (by have := g.small; omega)
  have h2 := holdsL_len g.smallHs (by have := g.small; omega)
  have h3 := listL_len g.smallWt (by have := g.small; omega)
  have h4 := intL_len (v := p.mx) (by have := g.2.2.1; omega)
  unfold Pl.text
  simp only [List.length_append, List.length_cons]
  omega
theorem acqV_le {p : Pl} (g : p.Good) (o : Int) : (acqV p o).2 ≤ 99 := by
  unfold acqV
  have hm := g.2.2.1
  split
  · rename_i h
    have hx : p.ids.getD (p.ids.length - 1) 0 ∈ p.ids := by
      rw [List.getD_eq_getElem?_getD, List.getElem?_eq_getElem (by omega), Option.getD_some]
      exact List.getElem_mem _
    have := g.smallIds _ hx
    exact this.2
  · split
    · show (-1 : Int) ≤ 99
      decide
    · rename_i h
      obtain ⟨c, hc, hc2, _⟩ := closedV_pos h
      show closedV p.mx.toNat p.ids p.hs ≤ 99
      omega
theorem relV_le {p : Pl} (g : p.Good) (v : Int) : (relV p v).2 ≤ 99 := by
  unfold relV
  split
  · show (-1 : Int) ≤ 99
    decide
  · rename_i h
    have hx : p.wt.getD 0 0 ∈ p.wt := by
      rw [List.getD_eq_getElem?_getD, List.getElem?_eq_getElem (by omega), Option.getD_some]
      exact List.getElem_mem _
    exact (g.smallWt _ hx).2
theorem acqR_le {p : Pl} (g : p.Good) (o : Int) : (acqR p o).2.1 ≤ 99 := by
  unfold acqR
  split
  · exact acqV_le g o
  · show (-1 : Int) ≤ 99
    decide
theorem relR_le {p : Pl} (g : p.Good) (v : Int) : (relR p v).2.1 ≤ 99 := by
  unfold relR
  split
  · exact relV_le g v
  · show (-1 : Int) ≤ 99
    decide
theorem closeR_le {p : Pl} (g : p.Good) (v : Int) : (closeR p v).2 ≤ 99 := by
  unfold closeR
  have := g.small
  split
  · show ((min v.toNat p.ids.length : Nat) : Int) ≤ 99
    omega
  · show (-1 : Int) ≤ 99
    decide
theorem acqA_len {p : Pl} (g : p.Good) (o : Int) : (acqA p o).2.length ≤ 50000 := by
  have h1 := intL_len (acqR_le g o)
  unfold acqA
  split
  · show (if (acqR p o).2.1 < 0 then waitT else intL (acqR p o).2.1).length ≤ 50000
    split
    · decide
    · omega
  · show noT.length ≤ 50000
    decide
theorem relA_len {p : Pl} (g : p.Good) (o : Int) : (relA p o).2.length ≤ 50000 := by
  have h1 := intL_len (relR_le g o)
  unfold relA
  split
  · show (if (relR p o).2.1 < 0 then idleT else toT ++ intL (relR p o).2.1).length ≤ 50000
    split
    · decide
    · rw [List.length_append]
      have e : toT.length = 3 := rfl
      omega
  · show noT.length ≤ 50000
    decide
theorem closeA_len {p : Pl} (g : p.Good) (o : Int) : (closeA p o).2.length ≤ 50000 := by
  have h1 := intL_len (closeR_le g o)
  unfold closeA
  split
  · show noT.length ≤ 50000
    decide
  · show (intL (closeR p o).2).length ≤ 50000
    omega
theorem sizeA_len (p : Pl) (o : Int) : (sizeA p o).2.length ≤ 50000 := by
  unfold sizeA
  split
  · show okT.length ≤ 50000
    decide
  · show noT.length ≤ 50000
    decide
theorem heldA_len (p : Pl) (o : Int) : (heldA p o).2.length ≤ 50000 := by
  have hh := heldV_small (p := p) o
  have := listL_len hh.1 (by omega)
  show (listL (heldV p o)).length ≤ 50000
  omega
theorem cmdV_len {p : Pl} (g : p.Good) (l : List UInt8) : (cmdV p l).2.length ≤ 50000 := by
  unfold cmdV
  split
  · split
    · exact acqA_len g _
    · split
      · exact relA_len g _
      · split
        · exact closeA_len g _
        · split
          · exact sizeA_len p _
          · split
            · exact heldA_len p _
            · show whatT.length ≤ 50000
              decide
  · split
    · have := text_len g
      show p.text.length ≤ 50000
      omega
    · show whatT.length ≤ 50000
      decide
theorem runV_len {p : Pl} (g : p.Good) (ls : List (List UInt8)) : (runV p ls).length ≤ ls.length * 50001 := by
  induction ls generalizing p with
  | nil => simp [runV]
  | cons l ls ih =>
    have h1 := cmdV_len g l
    have h2 := ih (cmdV_good g l)
    simp only [runV, List.length_append, List.length_cons]
    omega
theorem sess_pre (ls : List (List UInt8)) (n : Nat) : ∃ r, sessV ls = sessV (ls.take n) ++ r := by
  unfold sessV
  have e : ls.take 20 = (ls.take n).take 20 ++ (ls.take 20).drop n := by
    rw [List.take_take, Nat.min_comm, ← List.take_take, List.take_append_drop]
  refine ⟨runV (endV Pl.new ((ls.take n).take 20)) ((ls.take 20).drop n), ?_⟩
  conv => lhs; rw [e]
  exact runV_append _ _ _
end Go.Proofs.YtnmgnhpagnjhlaaGreatDoor
