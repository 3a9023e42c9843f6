/- Texts with commas: the library's Join and plain bytes. -/
import Derived.Test.YtnmgnhpagnjhlaaGreatDoorHolds
import Derived.Test.YtnmgnhpagnjhlaaGreatDoorDec
import Derived.Test.YtnmgnhpagnjhlaaGreatDoorShelf
import Derived.Lib.Join
set_option linter.unusedVariables false
set_option linter.unusedSimpArgs false
set_option linter.unnecessarySimpa false
namespace Go.Proofs.YtnmgnhpagnjhlaaGreatDoor
open Go.RowKit

/-- The pieces with commas between. -/
def comma (ps : List (List UInt8)) : List UInt8 := Lib.join ps [44]
theorem comma_nil : comma [] = [] := rfl
theorem comma_one (p : List UInt8) : comma [p] = p := by simp [comma, Lib.join, List.intercalate]
theorem comma_cons (p q : List UInt8) (ps : List (List UInt8)) : comma (p :: q :: ps) = p ++ 44 :: comma (q :: ps) := by
  simp [comma, Lib.join, List.intercalate]
theorem comma_snoc : ∀ (ps : List (List UInt8)) (p : List UInt8), ps ≠ [] → comma (ps ++ [p]) = comma ps ++ 44 :: p
  | [], p, h => absurd rfl h
  | [a], p, _ => by rw [List.singleton_append, comma_cons, comma_one, comma_one]
  | a :: b :: ps, p, _ => by
    have := comma_snoc (b :: ps) p (by simp)
    rw [List.cons_append, List.cons_append, comma_cons, ← List.cons_append, this, comma_cons]
    simp
theorem comma_len : ∀ (ps : List (List UInt8)) (m : Nat), (∀ p ∈ ps, p.length ≤ m) → (comma ps).length ≤ ps.length * (m + 1)
  | [], m, h => by simp [comma_nil]
  | [a], m, h => by rw [comma_one]; have := h a (by simp); simp; omega
  | a :: b :: ps, m, h => by
    have h1 := comma_len (b :: ps) m (fun p hp => h p (by simp only [List.mem_cons] at hp ⊢; exact .inr hp))
    have h2 := h a (by simp)
    rw [comma_cons]
    simp only [List.length_append, List.length_cons, Nat.add_mul, Nat.one_mul] at h1 ⊢
    omega
def bsof (l : List UInt8) : ByteArray := ⟨l.toArray⟩
theorem bsof_size (l : List UInt8) : (bsof l).size = l.length := by simp [bsof, ByteArray.size]
theorem bsof_append (a b : List UInt8) : bsof a ++ bsof b = bsof (a ++ b) := bs_append a b
theorem dec_len (u : Nat) (h : u ≤ 1000000) : (Lib.decDigits u).length ≤ 7 := by rw [← decB_size]; exact decB_le u h
theorem cell_new2 (w : World) (o : Obj) (cs : Array Value) (t : TypeId) (j : Nat) : ((w.alloc o).alloc (.cells cs t)).cell? ⟨w.heap.size + 1, j, none⟩ = cs[j]? := by
  have := cell_new (w.alloc o) cs t j
  simpa using this
/-- The cells of pieces. -/
def strs (ps : List (List UInt8)) : List Value := ps.map fun p => .string (bsof p)
theorem strs_one (ps : List (List UInt8)) : ∀ u ∈ strs ps, u.oneCell' = true := fun u hu => by
  obtain ⟨_, _, rfl⟩ := List.mem_map.1 hu
  rfl
theorem strInfo : (Tryz.prog.info? 9).map (fun i => (i.zero, i.size, i.bytes)) = some (some (.string ByteArray.empty), 1, 16) := by kernel_rfl
/-- strings.Join with commas, whatever the slice. -/
theorem join_c (ps : List (List UInt8)) (A : Option Addr) (n c : Nat) (w : World) (hN : ps.length = n) (hc : n ≤ c) (h : Rd w A (strs ps)) (hn : n ≤ 1073741824) (hl : (comma ps).length ≤ 1073741824) :
    Calls Tryz.prog 32 #[.slice A n c, .string ⟨#[44]⟩] w fun e w' => e = .returned (.string (bsof (comma ps))) ∧ Below w.heap.size w w' := by
  have e1 : (ps.map bsof).map (·.data.toList) = ps := by
    rw [List.map_map]
    conv => rhs; rw [← List.map_id ps]
    exact List.map_congr_left fun p _ => rfl
  rcases Nat.eq_zero_or_pos n with h0 | h0
  · subst h0
    have hps : ps = [] := List.eq_nil_of_length_eq_zero hN
    subst hps
    exact (Tryz.strings_Join_none A c ⟨#[44]⟩ w).mono fun e w' ⟨he, hw⟩ => ⟨he, hw ▸ Below.refl _ _⟩
  · obtain ⟨b, off, rfl, hlt, hcell⟩ := h.block (by simp [strs]; omega)
    have := Tryz.strings_Join b off c (ps.map bsof) ⟨#[44]⟩ w (fun j x hx => by
      refine hcell j _ ?_
      rw [List.getElem?_map] at hx
      unfold strs
      rw [List.getElem?_map]
      cases hp : ps[j]? with
      | none => rw [hp] at hx; cases hx
      | some p => rw [hp] at hx; simp at hx; rw [← hx]; rfl) hlt (by rw [List.length_map]; omega) (by rw [List.length_map]; omega) (by
        rw [e1]
        exact Nat.le_trans hl (by omega))
    rw [e1, List.length_map, hN] at this
    exact this
end Go.Proofs.YtnmgnhpagnjhlaaGreatDoor
