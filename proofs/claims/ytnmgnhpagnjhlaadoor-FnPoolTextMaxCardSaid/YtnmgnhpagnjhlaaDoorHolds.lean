/- Holds: pairs of numbers in slices. Contracts of the laws' own functions on them. -/
import Derived.Test.YtnmgnhpagnjhlaaDoorRow
import Derived.Test.YtnmgnhpagnjhlaaDoorNum
import Derived.Deep.RegionHeld3
import Derived.IntWalk
set_option linter.unusedVariables false
set_option linter.unusedSimpArgs false
set_option linter.unnecessarySimpa false
namespace Go.Proofs.YtnmgnhpagnjhlaaDoor
open Go.RowKit

abbrev Pr := Int × Int
/-- The cells of pairs. -/
def sc : List Pr → List Value
  | [] => []
  | x :: xs => .int .i64 x.1 :: .int .i64 x.2 :: sc xs
theorem sc_len : ∀ xs : List Pr, (sc xs).length = xs.length * 2
  | [] => rfl
  | x :: xs => by simp only [sc, List.length_cons, sc_len xs]; omega
theorem sc_append : ∀ xs ys : List Pr, sc (xs ++ ys) = sc xs ++ sc ys
  | [], ys => rfl
  | x :: xs, ys => by simp only [List.cons_append, sc, sc_append xs ys]
theorem sc_get : ∀ (xs : List Pr) (j : Nat) (h : j < xs.length), (sc xs)[j * 2]? = some (.int .i64 xs[j].1) ∧ (sc xs)[j * 2 + 1]? = some (.int .i64 xs[j].2)
  | x :: xs, 0, h => by simp [sc]
  | x :: xs, j + 1, h => by
    have := sc_get xs j (by simpa using h)
    rw [show (j + 1) * 2 = j * 2 + 1 + 1 by omega]
    simp only [sc, List.getElem?_cons_succ, List.getElem_cons_succ]
    exact this
theorem sc_one : ∀ (xs : List Pr), ∀ u ∈ sc xs, u.oneCell' = true
  | [], u, h => by simp [sc] at h
  | x :: xs, u, h => by
    simp only [sc, List.mem_cons] at h
    rcases h with rfl | rfl | h
    · rfl
    · rfl
    · exact sc_one xs u h
theorem sc_take : ∀ (xs : List Pr) (k : Nat), (sc xs).take (k * 2) = sc (xs.take k)
  | [], k => by simp [sc]
  | x :: xs, 0 => by simp [sc]
  | x :: xs, k + 1 => by
    rw [show (k + 1) * 2 = k * 2 + 1 + 1 by omega]
    simp only [sc, List.take_succ_cons, sc_take xs k]
theorem sc_pair {w : World} {A : Option Addr} {xs : List Pr} (h : Rd w A (sc xs)) (hn : 0 < xs.length) :
    ∃ b off, A = some ⟨b, off, none⟩ ∧ b < w.heap.size ∧ ∀ j (hj : j < xs.length), w.cell? ⟨b, off + j * 2, none⟩ = some (.int .i64 xs[j].1) ∧ w.cell? ⟨b, off + j * 2 + 1, none⟩ = some (.int .i64 xs[j].2) := by
  obtain ⟨b, off, e, hlt, hc⟩ := h.block (by rw [sc_len]; omega)
  refine ⟨b, off, e, hlt, fun j hj => ⟨hc _ _ (sc_get xs j hj).1, ?_⟩⟩
  rw [Nat.add_assoc]
  exact hc _ _ (sc_get xs j hj).2
theorem take_snoc {α : Type} (xs : List α) (j : Nat) (h : j < xs.length) : xs.take (j + 1) = xs.take j ++ [xs[j]] := List.take_succ_eq_append_getElem h
theorem quiet_l {P : Program} {f : FuncId} {args : Array Value} {w : World} {n : Nat} {v : Value}
    (h : Calls P f args (w.drewN n) fun e w' => e = .returned v ∧ w.drewN n = w') : Calls P f args (w.drewN n) fun e w'' => e = .returned v ∧ ∃ m, w'' = w.drewN m :=
  h.mono fun _ _ ⟨he, hm⟩ => ⟨he, n, hm.symm⟩
theorem quiet_add_l {P : Program} {f : FuncId} {args : Array Value} {w : World} {a n : Nat} {v : Value}
    (h : Calls P f args (w.drewN (a + n)) fun e w' => e = .returned v ∧ w.drewN (a + n) = w') :
    Calls P f args (w.drewN (a + n)) fun e w'' => e = .returned v ∧ ∃ m, w'' = w.drewN (a + m) :=
  h.mono fun _ _ ⟨he, hm⟩ => ⟨he, n, hm.symm⟩

set_option maxHeartbeats 400000 in
theorem szS_c (A : Option Addr) (n c : Nat) (l : Int) (w : World) (hn : n ≤ 9223372036854775807) (h0 : 0 ≤ l) (h1 : l ≤ 1048576) :
    Calls Tryd.prog 13 #[.slice A n c, .int .i64 l] w fun e w' => e = .returned (.int .i64 (if l < (n : Int) then -1 else l - (n : Int))) ∧ w = w' := by
  by_cases h : l < (n : Int)
  · rw [if_pos h]
    have hd : decide (l - (n : Int) < 0) = true := decide_eq_true (by omega)
    go_enter Tryd.func13, Tryd.ntmps13
    go_wp2_with fail
    go_ret
    exact ⟨rfl, rfl⟩
  · rw [if_neg h]
    have hd : decide (l - (n : Int) < 0) = false := decide_eq_false (by omega)
    go_enter Tryd.func13, Tryd.ntmps13
    go_wp2_with fail
    go_ret
    exact ⟨rfl, rfl⟩
set_option maxHeartbeats 1000000 in
theorem toSetting_c (a b : Int) (w : World) :
    Calls Tryd.prog 32 #[.agg #[.int .i64 a, .int .i64 b]] w fun e w' => e = .returned (.agg #[.int .i64 a, .int .i64 b]) ∧ Below w.heap.size w w' := by
  go_enter Tryd.func32, Tryd.ntmps32
  go_wp2_with fail
  refine bodyPost_ret (v := .agg #[.int .i64 a, .int .i64 b]) (by simp [results, Tryd.results32, go_sem]) rfl ?_
  refine ⟨rfl, ?_⟩
  repeat (first | (with_reducible refine Below.setCell ?_ (by simp <;> omega) _) | (with_reducible refine Below.alloc ?_ (by simp <;> omega) _))
  exact Below.refl _ _
set_option maxHeartbeats 1000000 in
theorem eqSetting_c (a b : Int) (w : World) :
    Calls Tryd.prog 42 #[.agg #[.int .i64 a, .int .i64 b], .agg #[.int .i64 a, .int .i64 b]] w fun e w' => e = .returned (.bool true) ∧ Below w.heap.size w w' := by
  go_enter Tryd.func42, Tryd.ntmps42
  go_wp2_with fail
  go_ret
  refine ⟨rfl, ?_⟩
  repeat (first | (with_reducible refine Below.setCell ?_ (by simp <;> omega) _) | (with_reducible refine Below.alloc ?_ (by simp <;> omega) _))
  exact Below.refl _ _
theorem setInfo : (Tryd.prog.info? 44).map (fun i => (i.zero, i.size, i.bytes)) = some (some (.agg #[.int .i64 0, .int .i64 0]), 2, 16) := by kernel_rfl
/-- New memory that reads as these pairs is handed back; what was there is as it was. -/
def RetSets (xs : List Pr) (w : World) (e : Ending) (w' : World) : Prop :=
  ∃ A c, e = .returned (.slice A xs.length c) ∧ Row w' w.heap.size 44 2 A xs.length c (sc xs) ∧ Below w.heap.size w w'
theorem set_two {α : Type} : ∀ (a : List α) (z0 z1 u v : α) (r : List α), ((a ++ z0 :: z1 :: r).set a.length u).set (a.length + 1) v = (a ++ [u, v]) ++ r
  | [], z0, z1, u, v, r => by simp
  | x :: a, z0, z1, u, v, r => by
    have := set_two a z0 z1 u v r
    simp only [List.cons_append, List.length_cons, List.set_cons_succ]
    rw [this]
theorem drop_two {α : Type} (Z : List α) (k n : Nat) (hz : Z.length = n * 2) (hk : k < n) : ∃ z0 z1, Z.drop (k * 2) = z0 :: z1 :: Z.drop ((k + 1) * 2) := by
  refine ⟨Z[k * 2]'(by omega), Z[k * 2 + 1]'(by omega), ?_⟩
  rw [List.drop_eq_getElem_cons (by omega), List.drop_eq_getElem_cons (by omega)]
  rw [show (k + 1) * 2 = k * 2 + 1 + 1 by omega]
set_option maxRecDepth 100000 in
set_option maxHeartbeats 1000000 in
theorem toSets_c (xs : List Pr) (A : Option Addr) (n c : Nat) (w : World) (hN : xs.length = n) (h : Rd w A (sc xs)) (hn : n ≤ 1073741824) :
    Calls Tryd.prog 17 #[.slice A n c] w (RetSets xs w) := by
  have HN := Lib.hid hN; clear hN
  have H := Lib.hid h; clear h
  obtain ⟨i0, hi, hz0, hz1, hz2⟩ := info_parts setInfo
  go_enter Tryd.func17, Tryd.ntmps17
  go_wp2_with (at_make; refine wpList_make_full _ rfl (.tmp 6) (.tmp 6) 28 rfl w.heap.size 44 i0 (.agg #[.int .i64 0, .int .i64 0]) 2 Tryd.underlying28 hi hz0 hz1 .i64 .i64 n n n rfl rfl rfl rfl ?b2 ?b3 ?b4 ?_)
  case b2 => rw [hz2]; omega
  case b3 => unfold maxLen; omega
  case b4 => exact Nat.le_refl _
  intro w1 hown1 hg1
  obtain ⟨Z, hZ⟩ : ∃ Z, Z = (madeCells #[.int .i64 0, .int .i64 0] (n * 2)).toList := ⟨_, rfl⟩
  rw [← hZ] at hown1
  have row1 := Row.of_own hown1
  have hzl : Z.length = n * 2 := row1.len
  have ROW1 := Lib.hid row1
  have hb1 : Below w.heap.size w w1 := (Below.refl _ _).grown hg1 (Nat.le_refl _) (fun k hk => by cases hk)
  have HB1 := Lib.hid hb1
  have HZL := Lib.hid hzl
  clear hown1 hg1 hZ row1 hb1 hzl
  go_wp2_with fail
  go_loopw [4] (fun i wr => ∃ k : Nat, k ≤ n ∧ i = .int .i64 k ∧ Row wr w.heap.size 44 2 (some ⟨w.heap.size, 0, none⟩) n n (sc (xs.take k) ++ Z.drop (k * 2)) ∧ Below w.heap.size w wr) (fun i _ => n - (intOf i).toNat)
  case atStart => exact ⟨0, Nat.zero_le _, rfl, by simpa [sc] using ROW1.out, HB1.out⟩
  case round =>
    clear ROW1 HB1
    obtain ⟨k, hk, rfl, row, hb⟩ := hrel
    by_cases hlt : k < n
    · have hkx : k < xs.length := by have := HN.out; omega
      obtain ⟨b, off, hA, hbl, hc⟩ := sc_pair (H.out.below hb) (by omega)
      subst hA
      obtain ⟨x, hX⟩ : ∃ x, x = xs[k] := ⟨_, rfl⟩
      obtain ⟨hc1, hc2⟩ := hc k hkx
      rw [← hX] at hc1 hc2
      have HX := Lib.hid hX
      have ROW := Lib.hid row; have HB := Lib.hid hb
      clear hc row hb hX
      go_wp2_with fail
      refine (toSetting_c x.1 x.2 _).mono ?_
      rintro e w2 ⟨rfl, b2⟩
      have row2 := ROW.out.below b2
      have hb2 : Below w.heap.size w w2 := HB.out.trans (b2.mono HB.out.size)
      obtain ⟨z0, z1, hz⟩ := drop_two Z k n HZL.out hlt
      have hsl : (sc (xs.take k)).length = k * 2 := by rw [sc_len, List.length_take]; omega
      have ho1 : w2.cell? ⟨w.heap.size, k * 2, none⟩ = some z0 := by
        have := row2.cell (j := k * 2) (u := z0) (by rw [List.getElem?_append_right (by omega), hsl, hz]; simp)
        simpa using this
      have ho2 : w2.cell? ⟨w.heap.size, k * 2 + 1, none⟩ = some z1 := by
        have := row2.cell (j := k * 2 + 1) (u := z1) (by rw [List.getElem?_append_right (by omega), hsl, hz]; simp [show k * 2 + 1 - k * 2 = 1 by omega])
        simpa using this
      have hf1 : w2.frozen? ⟨w.heap.size, k * 2, none⟩ = false := row2.frozen (by omega) _
      have hf2 : w2.frozen? ⟨w.heap.size, k * 2 + 1, none⟩ = false := row2.frozen (by omega) _
      have fin : Row ((w2.setCell ⟨w.heap.size, k * 2, none⟩ (.int .i64 x.1)).setCell ⟨w.heap.size, k * 2 + 1, none⟩ (.int .i64 x.2)) w.heap.size 44 2 (some ⟨w.heap.size, 0, none⟩) n n (sc (xs.take (k + 1)) ++ Z.drop ((k + 1) * 2)) ∧ Below w.heap.size w ((w2.setCell ⟨w.heap.size, k * 2, none⟩ (.int .i64 x.1)).setCell ⟨w.heap.size, k * 2 + 1, none⟩ (.int .i64 x.2)) := by
        refine ⟨?_, (hb2.setCell (Nat.le_refl _) _).setCell (Nat.le_refl _) _⟩
        have h1 := (row2.store (k * 2) (.int .i64 x.1) (by omega)).store (k * 2 + 1) (.int .i64 x.2) (by omega)
        have h2 := set_two (sc (xs.take k)) z0 z1 (.int .i64 x.1) (.int .i64 x.2) (Z.drop ((k + 1) * 2))
        rw [hsl] at h2
        rw [hz, h2] at h1
        rw [take_snoc xs k hkx, sc_append, ← HX.out]
        simpa [sc] using h1
      have FIN := Lib.hid fin; clear fin row2 hb2 b2 ROW HB hsl hz
      go_wp2_with fail
      go_roundw
      case rel => exact ⟨k + 1, by omega, by go_num, FIN.out⟩
      case measure => simp [intOf]; omega
    · obtain rfl : k = n := by omega
      have fin : RetSets xs w (.returned (.slice (some ⟨w.heap.size, 0, none⟩) k k)) wr := by
        refine ⟨some ⟨w.heap.size, 0, none⟩, k, by rw [HN.out], ?_, hb⟩
        rw [List.take_of_length_le (by rw [HN.out]; omega), List.drop_of_length_le (by rw [HZL.out]; omega), List.append_nil] at row
        rw [HN.out]
        exact row
      have FIN := Lib.hid fin; clear fin row hb
      go_wp2_with fail
      go_ret
      exact FIN.out
set_option maxRecDepth 100000 in
set_option maxHeartbeats 1000000 in
theorem eqSets_c (xs : List Pr) (A B : Option Addr) (n c d : Nat) (w : World) (hN : xs.length = n) (h : Rd w A (sc xs)) (h' : Rd w B (sc xs)) (hn : n ≤ 1073741824) :
    Calls Tryd.prog 23 #[.slice A n c, .slice B n d] w fun e w' => e = .returned (.bool true) ∧ Below w.heap.size w w' := by
  have HN := Lib.hid hN; clear hN
  have H := Lib.hid h; have H' := Lib.hid h'; clear h h'
  go_enter Tryd.func23, Tryd.ntmps23
  go_wp2_with fail
  go_loopw [5] (fun i wr => ∃ k : Nat, k ≤ n ∧ i = .int .i64 k ∧ Below w.heap.size w wr) (fun i _ => n - (intOf i).toNat)
  case atStart => exact ⟨0, Nat.zero_le _, rfl, Below.refl _ _⟩
  case round =>
    obtain ⟨k, hk, rfl, hb⟩ := hrel
    have HB := Lib.hid hb
    by_cases hlt : k < n
    · have hkx : k < xs.length := by have := HN.out; omega
      obtain ⟨b, off, hA, hbl, hc⟩ := sc_pair (H.out.below hb) (by omega)
      obtain ⟨b', off', hA', hbl', hc'⟩ := sc_pair (H'.out.below hb) (by omega)
      subst hA hA'
      obtain ⟨hc1, hc2⟩ := hc k hkx
      obtain ⟨hd1, hd2⟩ := hc' k hkx
      obtain ⟨⟨x, y⟩, hX⟩ : ∃ x, x = xs[k] := ⟨_, rfl⟩
      rw [← hX] at hc1 hc2 hd1 hd2
      clear hc hc' hb hX
      go_wp2_with fail
      go_region_held3 (fun w' => w'.cell? ⟨b, off + k * 2, none⟩ = some (.int .i64 x) ∧ w'.cell? ⟨b, off + k * 2 + 1, none⟩ = some (.int .i64 y) ∧ w'.cell? ⟨b', off' + k * 2, none⟩ = some (.int .i64 x) ∧ w'.cell? ⟨b', off' + k * 2 + 1, none⟩ = some (.int .i64 y)) (go_keep) ((go_at_call 42; refine (eqSetting_c x y _).mono ?_; rintro e w91 ⟨rfl, b91⟩; have k1 := (b91.cell (p := ⟨b, off + k * 2, none⟩) hbl).trans hc1; have k2 := (b91.cell (p := ⟨b, off + k * 2 + 1, none⟩) hbl).trans hc2; have k3 := (b91.cell (p := ⟨b', off' + k * 2, none⟩) hbl').trans hd1; have k4 := (b91.cell (p := ⟨b', off' + k * 2 + 1, none⟩) hbl').trans hd2))
      all_goals
        have bel : Below w.heap.size w w91 := HB.out.trans ((Below.refl _ _).drew.trans (b91.mono (Nat.le_refl _)) |>.mono HB.out.size)
        have BEL := Lib.hid bel
        clear bel b91
        go_wp2_with fail
        go_roundw
        case rel => exact ⟨k + 1, by omega, by go_num, BEL.out⟩
        case measure => simp [intOf]; omega
    · obtain rfl : k = n := by omega
      clear hb
      go_wp2_with fail
      go_ret
      exact ⟨rfl, HB.out⟩
end Go.Proofs.YtnmgnhpagnjhlaaDoor
