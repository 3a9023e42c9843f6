/- Contracts of the laws' marks, over rows. -/
import Derived.Test.YtnmgnhpagnjhlaaGreatDoorLists
import Derived.Test.YtnmgnhpagnjhlaaGreatDoorRow
set_option linter.unusedVariables false
set_option linter.unusedSimpArgs false
set_option linter.unnecessarySimpa false
namespace Go.Proofs.YtnmgnhpagnjhlaaGreatDoor
open Go.RowKit

/-- The row that is marked holds k0, k0 + 1, ..; nothing else has turned. -/
def RetMarkR (T : TypeId) (B : Nat) (k0 : Nat) (A : Option Addr) (n c : Nat) (w : World) (e : Ending) (w' : World) : Prop :=
  e = .returned (.int .i64 (k0 + n : Nat)) ∧ Row w' B T 1 A n c ((runFrom k0 n).map (Value.int .i64)) ∧ w.grownBy w' (rb A c)
theorem row_mark (k0 k n : Nat) (zs : List Int) (hz : zs.length = n) (hk : k < n) :
    ((runFrom k0 k ++ zs.drop k).map (Value.int .i64)).set k (.int .i64 ((k0 + k : Nat) : Int)) = (runFrom k0 (k + 1) ++ zs.drop (k + 1)).map (Value.int .i64) := by
  obtain ⟨x, hx⟩ : ∃ x, zs.drop k = x :: zs.drop (k + 1) := ⟨_, List.drop_eq_getElem_cons (show k < zs.length by omega)⟩
  have hl := runFrom_length k0 k
  rw [runFrom_succ, hx]
  generalize zs.drop (k + 1) = r
  simp [hl]
set_option maxHeartbeats 1000000 in
theorem markR_c (B : Nat) (zs : List Int) (k0 : Nat) (A : Option Addr) (n c : Nat) (w : World) (hN : zs.length = n) (h : Row w B 3 1 A n c (zs.map (Value.int .i64))) (hn : n ≤ 1099511627776) (hk0 : k0 ≤ 1099511627776) :
    Calls Tryz.prog 50 #[.slice A n c, .int .i64 k0] w (RetMarkR 3 B k0 A n c w) := by
  have HN := Lib.hid hN; clear hN
  rcases Nat.eq_zero_or_pos n with h0 | h0
  · subst h0
    have hz : zs = [] := List.eq_nil_of_length_eq_zero HN.out
    subst hz
    have fin : RetMarkR 3 B k0 A 0 c w (.returned (.int .i64 (k0 : Nat))) w := ⟨by simp, h, World.grownBy.refl _ _⟩
    have FIN := Lib.hid fin; clear fin h
    go_enter Tryz.func50, Tryz.ntmps50
    go_wp2_with fail
    go_loop [1, 5] (fun q i => q = .int .i64 (k0 : Nat) ∧ i = .int .i64 0) (fun _ i => 0)
    case atStart => exact ⟨rfl, rfl⟩
    case round =>
      obtain ⟨rfl, rfl⟩ := hrel
      go_wp2
      go_ret
      exact FIN.out
  · obtain ⟨g, off, hA, hB, hlt, hrb⟩ := h.form h0
    subst hA
    have H := Lib.hid h; clear h
    have HRB := Lib.hid hrb; clear hrb
    go_enter Tryz.func50, Tryz.ntmps50
    go_wp2_with fail
    go_loopw [1, 5] (fun q i wr => ∃ k : Nat, k ≤ n ∧ i = .int .i64 k ∧ q = .int .i64 (k0 + k : Nat) ∧ Row wr B 3 1 (some ⟨g, off, none⟩) n c ((runFrom k0 k ++ zs.drop k).map (Value.int .i64)) ∧ w.grownBy wr (some g)) (fun _ i _ => n - (intOf i).toNat)
    case atStart => exact ⟨0, Nat.zero_le _, rfl, rfl, H.out, World.grownBy.refl _ _⟩
    case round =>
      obtain ⟨k, hk, rfl, rfl, hown, hg⟩ := hrel
      by_cases hlt' : k < n
      · have ho : ∃ u, wr.cell? ⟨g, off + k, none⟩ = some u := ⟨_, hown.cell (List.getElem?_eq_getElem (by have := HN.out; simp [runFrom_length]; omega))⟩
        obtain ⟨u, ho⟩ := ho
        have hfr : wr.frozen? ⟨g, off + k, none⟩ = false := hown.frozen h0 _
        have fin : Row (wr.setCell ⟨g, off + k, none⟩ (.int .i64 ((k0 + k : Nat) : Int))) B 3 1 (some ⟨g, off, none⟩) n c ((runFrom k0 (k + 1) ++ zs.drop (k + 1)).map (Value.int .i64)) ∧ w.grownBy (wr.setCell ⟨g, off + k, none⟩ (.int .i64 ((k0 + k : Nat) : Int))) (some g) := by
          have h1 := hown.store k (.int .i64 ((k0 + k : Nat) : Int)) (by omega)
          rw [row_mark k0 k n zs HN.out hlt'] at h1
          exact ⟨h1, only_setCell hg (.inl rfl) _⟩
        have FIN := Lib.hid fin; clear fin hown hg
        go_wp2
        go_roundw
        case rel => exact ⟨k + 1, by omega, by go_num, by go_num, FIN.out⟩
        case measure => simp [intOf]; omega
      · obtain rfl : k = n := by omega
        have fin : RetMarkR 3 B k0 (some ⟨g, off, none⟩) k c w (.returned (.int .i64 (k0 + k : Nat))) wr := by
          refine ⟨rfl, ?_, by rw [HRB.out]; exact hg⟩
          rw [List.drop_of_length_le (by rw [HN.out]; omega)] at hown
          simpa using hown
        have FIN := Lib.hid fin; clear fin hown hg
        go_wp2
        go_ret
        exact FIN.out
end Go.Proofs.YtnmgnhpagnjhlaaGreatDoor
