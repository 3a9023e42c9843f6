/- Holds: pairs of numbers in slices. Contracts of the laws' own functions on them. -/
import Derived.Test.YtnmgnhpagnjhlaaGreatDoorRow
import Derived.Test.YtnmgnhpagnjhlaaGreatDoorNum
import Derived.Deep.RegionHeld3
import Derived.IntWalk
set_option linter.unusedVariables false
set_option linter.unusedSimpArgs false
set_option linter.unnecessarySimpa false
namespace Go.Proofs.YtnmgnhpagnjhlaaGreatDoor
open Go.RowKit

abbrev Pr := Int × Int
/-- The cells of pairs. -/
def sc : List Pr → List Value
  | [] => []
  | x :: xs => .int .i64 x.1 :: .int .i64 x.2 :: sc xs
theorem sc_len : ∀ xs : List Pr, (sc xs).length = xs.length * 2
  | [] => rfl
  | x :: xs => by simp only [sc, List.length_cons, sc_len xs]; omega
theorem sc_append : ∀ xs ys : List Pr, sc (xs ++ ys) = sc xs ++ sc ys
  | [], ys => rfl
  | x :: xs, ys => by simp only [List.cons_append, sc, sc_append xs ys]
theorem sc_get : ∀ (xs : List Pr) (j : Nat) (h : j < xs.length), (sc xs)[j * 2]? = some (.int .i64 xs[j].1) ∧ (sc xs)[j * 2 + 1]? = some (.int .i64 xs[j].2)
  | x :: xs, 0, h => by simp [sc]
  | x :: xs, j + 1, h => by
    have := sc_get xs j (by simpa using h)
    rw [show (j + 1) * 2 = j * 2 + 1 + 1 by omega]
    simp only [sc, List.getElem?_cons_succ, List.getElem_cons_succ]
    exact this
theorem sc_one : ∀ (xs : List Pr), ∀ u ∈ sc xs, u.oneCell' = true
  | [], u, h => by simp [sc] at h
  | x :: xs, u, h => by
    simp only [sc, List.mem_cons] at h
    rcases h with rfl | rfl | h
    · rfl
    · rfl
    · exact sc_one xs u h
theorem sc_take : ∀ (xs : List Pr) (k : Nat), (sc xs).take (k * 2) = sc (xs.take k)
  | [], k => by simp [sc]
  | x :: xs, 0 => by simp [sc]
  | x :: xs, k + 1 => by
    rw [show (k + 1) * 2 = k * 2 + 1 + 1 by omega]
    simp only [sc, List.take_succ_cons, sc_take xs k]
theorem sc_pair {w : World} {A : Option Addr} {xs : List Pr} (h : Rd w A (sc xs)) (hn : 0 < xs.length) :
    ∃ b off, A = some ⟨b, off, none⟩ ∧ b < w.heap.size ∧ ∀ j (hj : j < xs.length), w.cell? ⟨b, off + j * 2, none⟩ = some (.int .i64 xs[j].1) ∧ w.cell? ⟨b, off + j * 2 + 1, none⟩ = some (.int .i64 xs[j].2) := by
  obtain ⟨b, off, e, hlt, hc⟩ := h.block (by rw [sc_len]; omega)
  refine ⟨b, off, e, hlt, fun j hj => ⟨hc _ _ (sc_get xs j hj).1, ?_⟩⟩
  rw [Nat.add_assoc]
  exact hc _ _ (sc_get xs j hj).2
theorem take_snoc {α : Type} (xs : List α) (j : Nat) (h : j < xs.length) : xs.take (j + 1) = xs.take j ++ [xs[j]] := List.take_succ_eq_append_getElem h
theorem quiet_l {P : Program} {f : FuncId} {args : Array Value} {w : World} {n : Nat} {v : Value}
    (h : Calls P f args (w.drewN n) fun e w' => e = .returned v ∧ w.drewN n = w') : Calls P f args (w.drewN n) fun e w'' => e = .returned v ∧ ∃ m, w'' = w.drewN m :=
  h.mono fun _ _ ⟨he, hm⟩ => ⟨he, n, hm.symm⟩
theorem quiet_add_l {P : Program} {f : FuncId} {args : Array Value} {w : World} {a n : Nat} {v : Value}
    (h : Calls P f args (w.drewN (a + n)) fun e w' => e = .returned v ∧ w.drewN (a + n) = w') :
    Calls P f args (w.drewN (a + n)) fun e w'' => e = .returned v ∧ ∃ m, w'' = w.drewN (a + m) :=
  h.mono fun _ _ ⟨he, hm⟩ => ⟨he, n, hm.symm⟩

set_option maxHeartbeats 1000000 in
theorem eqSetting_c (a b : Int) (w : World) :
    Calls Tryz.prog 83 #[.agg #[.int .i64 a, .int .i64 b], .agg #[.int .i64 a, .int .i64 b]] w fun e w' => e = .returned (.bool true) ∧ Below w.heap.size w w' := by
  go_enter Tryz.func83, Tryz.ntmps83
  go_wp2_with fail
  go_ret
  refine ⟨rfl, ?_⟩
  repeat (first | (with_reducible refine Below.setCell ?_ (by simp <;> omega) _) | (with_reducible refine Below.alloc ?_ (by simp <;> omega) _))
  exact Below.refl _ _
theorem setInfo : (Tryz.prog.info? 48).map (fun i => (i.zero, i.size, i.bytes)) = some (some (.agg #[.int .i64 0, .int .i64 0]), 2, 16) := by kernel_rfl
/-- New memory that reads as these pairs is handed back; what was there is as it was. -/
def RetSets (xs : List Pr) (w : World) (e : Ending) (w' : World) : Prop :=
  ∃ A c, e = .returned (.slice A xs.length c) ∧ Row w' w.heap.size 48 2 A xs.length c (sc xs) ∧ Below w.heap.size w w'
theorem set_two {α : Type} : ∀ (a : List α) (z0 z1 u v : α) (r : List α), ((a ++ z0 :: z1 :: r).set a.length u).set (a.length + 1) v = (a ++ [u, v]) ++ r
  | [], z0, z1, u, v, r => by simp
  | x :: a, z0, z1, u, v, r => by
    have := set_two a z0 z1 u v r
    simp only [List.cons_append, List.length_cons, List.set_cons_succ]
    rw [this]
theorem drop_two {α : Type} (Z : List α) (k n : Nat) (hz : Z.length = n * 2) (hk : k < n) : ∃ z0 z1, Z.drop (k * 2) = z0 :: z1 :: Z.drop ((k + 1) * 2) := by
  refine ⟨Z[k * 2]'(by omega), Z[k * 2 + 1]'(by omega), ?_⟩
  rw [List.drop_eq_getElem_cons (by omega), List.drop_eq_getElem_cons (by omega)]
  rw [show (k + 1) * 2 = k * 2 + 1 + 1 by omega]
set_option maxRecDepth 100000 in
set_option maxHeartbeats 1000000 in
theorem eqSets_c (xs : List Pr) (A B : Option Addr) (n c d : Nat) (w : World) (hN : xs.length = n) (h : Rd w A (sc xs)) (h' : Rd w B (sc xs)) (hn : n ≤ 1073741824) :
    Calls Tryz.prog 49 #[.slice A n c, .slice B n d] w fun e w' => e = .returned (.bool true) ∧ Below w.heap.size w w' := by
  have HN := Lib.hid hN; clear hN
  have H := Lib.hid h; have H' := Lib.hid h'; clear h h'
  go_enter Tryz.func49, Tryz.ntmps49
  go_wp2_with fail
  go_loopw [5] (fun i wr => ∃ k : Nat, k ≤ n ∧ i = .int .i64 k ∧ Below w.heap.size w wr) (fun i _ => n - (intOf i).toNat)
  case atStart => exact ⟨0, Nat.zero_le _, rfl, Below.refl _ _⟩
  case round =>
    obtain ⟨k, hk, rfl, hb⟩ := hrel
    have HB := Lib.hid hb
    by_cases hlt : k < n
    · have hkx : k < xs.length := by have := HN.out; omega
      obtain ⟨b, off, hA, hbl, hc⟩ := sc_pair (H.out.below hb) (by omega)
      obtain ⟨b', off', hA', hbl', hc'⟩ := sc_pair (H'.out.below hb) (by omega)
      subst hA hA'
      obtain ⟨hc1, hc2⟩ := hc k hkx
      obtain ⟨hd1, hd2⟩ := hc' k hkx
      obtain ⟨⟨x, y⟩, hX⟩ : ∃ x, x = xs[k] := ⟨_, rfl⟩
      rw [← hX] at hc1 hc2 hd1 hd2
      clear hc hc' hb hX
      go_wp2_with fail
      go_region_held3 (fun w' => w'.cell? ⟨b, off + k * 2, none⟩ = some (.int .i64 x) ∧ w'.cell? ⟨b, off + k * 2 + 1, none⟩ = some (.int .i64 y) ∧ w'.cell? ⟨b', off' + k * 2, none⟩ = some (.int .i64 x) ∧ w'.cell? ⟨b', off' + k * 2 + 1, none⟩ = some (.int .i64 y)) (go_keep) ((go_at_call 83; refine (eqSetting_c x y _).mono ?_; rintro e w91 ⟨rfl, b91⟩; have k1 := (b91.cell (p := ⟨b, off + k * 2, none⟩) hbl).trans hc1; have k2 := (b91.cell (p := ⟨b, off + k * 2 + 1, none⟩) hbl).trans hc2; have k3 := (b91.cell (p := ⟨b', off' + k * 2, none⟩) hbl').trans hd1; have k4 := (b91.cell (p := ⟨b', off' + k * 2 + 1, none⟩) hbl').trans hd2))
      all_goals
        have bel : Below w.heap.size w w91 := HB.out.trans ((Below.refl _ _).drew.trans (b91.mono (Nat.le_refl _)) |>.mono HB.out.size)
        have BEL := Lib.hid bel
        clear bel b91
        go_wp2_with fail
        go_roundw
        case rel => exact ⟨k + 1, by omega, by go_num, BEL.out⟩
        case measure => simp [intOf]; omega
    · obtain rfl : k = n := by omega
      clear hb
      go_wp2_with fail
      go_ret
      exact ⟨rfl, HB.out⟩
end Go.Proofs.YtnmgnhpagnjhlaaGreatDoor
