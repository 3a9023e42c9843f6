/- Settings: pairs of numbers in slices. Contracts of the laws' own functions on them, and of their validity. -/
import Derived.Test.YtmphjojhfmikeaaRow
import Derived.Test.YtmphjojhfmikeaaNum
import Derived.Deep.RegionHeld3
import Derived.IntWalk
set_option linter.unusedVariables false
set_option linter.unusedSimpArgs false
set_option linter.unnecessarySimpa false
namespace Go.Proofs.Ytmphjojhfmikeaa
open Go.RowKit

abbrev Pr := Int × Int
/-- The cells of pairs. -/
def sc : List Pr → List Value
  | [] => []
  | x :: xs => .int .i64 x.1 :: .int .i64 x.2 :: sc xs
theorem sc_len : ∀ xs : List Pr, (sc xs).length = xs.length * 2
  | [] => rfl
  | x :: xs => by simp only [sc, List.length_cons, sc_len xs]; omega
theorem sc_append : ∀ xs ys : List Pr, sc (xs ++ ys) = sc xs ++ sc ys
  | [], ys => rfl
  | x :: xs, ys => by simp only [List.cons_append, sc, sc_append xs ys]
theorem sc_get : ∀ (xs : List Pr) (j : Nat) (h : j < xs.length), (sc xs)[j * 2]? = some (.int .i64 xs[j].1) ∧ (sc xs)[j * 2 + 1]? = some (.int .i64 xs[j].2)
  | x :: xs, 0, h => by simp [sc]
  | x :: xs, j + 1, h => by
    have := sc_get xs j (by simpa using h)
    rw [show (j + 1) * 2 = j * 2 + 1 + 1 by omega]
    simp only [sc, List.getElem?_cons_succ, List.getElem_cons_succ]
    exact this
theorem sc_one : ∀ (xs : List Pr), ∀ u ∈ sc xs, u.oneCell' = true
  | [], u, h => by simp [sc] at h
  | x :: xs, u, h => by
    simp only [sc, List.mem_cons] at h
    rcases h with rfl | rfl | h
    · rfl
    · rfl
    · exact sc_one xs u h
theorem sc_take : ∀ (xs : List Pr) (k : Nat), (sc xs).take (k * 2) = sc (xs.take k)
  | [], k => by simp [sc]
  | x :: xs, 0 => by simp [sc]
  | x :: xs, k + 1 => by
    rw [show (k + 1) * 2 = k * 2 + 1 + 1 by omega]
    simp only [sc, List.take_succ_cons, sc_take xs k]
theorem sc_pair {w : World} {A : Option Addr} {xs : List Pr} (h : Rd w A (sc xs)) (hn : 0 < xs.length) :
    ∃ b off, A = some ⟨b, off, none⟩ ∧ b < w.heap.size ∧ ∀ j (hj : j < xs.length), w.cell? ⟨b, off + j * 2, none⟩ = some (.int .i64 xs[j].1) ∧ w.cell? ⟨b, off + j * 2 + 1, none⟩ = some (.int .i64 xs[j].2) := by
  obtain ⟨b, off, e, hlt, hc⟩ := h.block (by rw [sc_len]; omega)
  refine ⟨b, off, e, hlt, fun j hj => ⟨hc _ _ (sc_get xs j hj).1, ?_⟩⟩
  rw [Nat.add_assoc]
  exact hc _ _ (sc_get xs j hj).2
def okP (l : Int) (x : Pr) : Bool := decide (l + 1 ≤ x.1 ∧ x.1 ≤ 9) && decide (0 ≤ x.2 ∧ x.2 ≤ 20)
/-- Valid settings, the names greater than l. -/
def validS (l : Int) : List Pr → Bool
  | [] => true
  | x :: xs => okP l x && validS x.1 xs
def lastD (l : Int) : List Pr → Int
  | [] => l
  | x :: xs => lastD x.1 xs
theorem validS_append : ∀ (l : Int) (a b : List Pr), validS l (a ++ b) = (validS l a && validS (lastD l a) b)
  | l, [], b => by simp [validS, lastD]
  | l, x :: a, b => by simp only [List.cons_append, validS, lastD, validS_append x.1 a b, Bool.and_assoc]
theorem lastD_append : ∀ (l : Int) (a : List Pr) (x : Pr), lastD l (a ++ [x]) = x.1
  | l, [], x => rfl
  | l, y :: a, x => by simp only [List.cons_append, lastD, lastD_append y.1 a x]
theorem take_snoc {α : Type} (xs : List α) (j : Nat) (h : j < xs.length) : xs.take (j + 1) = xs.take j ++ [xs[j]] := List.take_succ_eq_append_getElem h
theorem validS_succ (xs : List Pr) (j : Nat) (h : j < xs.length) (hv : validS (-1) (xs.take j) = true) : validS (-1) (xs.take (j + 1)) = okP (lastD (-1) (xs.take j)) xs[j] := by
  rw [take_snoc xs j h, validS_append, hv]
  simp [validS]
theorem lastD_succ (xs : List Pr) (j : Nat) (h : j < xs.length) : lastD (-1) (xs.take (j + 1)) = xs[j].1 := by
  rw [take_snoc xs j h, lastD_append]
theorem validS_false (xs : List Pr) (j : Nat) (h : validS (-1) (xs.take j) = false) : validS (-1) xs = false := by
  rw [← List.take_append_drop j xs, validS_append, h]; rfl
theorem validS_bd : ∀ (l : Int) (xs : List Pr), l ≤ 9 → validS l xs = true → l + xs.length ≤ lastD l xs ∧ lastD l xs ≤ 9
  | l, [], hl, h => by simp [lastD]; exact hl
  | l, x :: xs, hl, h => by
    simp only [validS, okP, Bool.and_eq_true, decide_eq_true_eq] at h
    have := validS_bd x.1 xs h.1.1.2 h.2
    simp only [lastD, List.length_cons]
    omega
theorem validS_mem : ∀ (l : Int) (xs : List Pr), -1 ≤ l → validS l xs = true → ∀ x ∈ xs, (0 ≤ x.1 ∧ x.1 ≤ 9) ∧ 0 ≤ x.2 ∧ x.2 ≤ 20
  | l, [], _, _, x, hx => by simp at hx
  | l, y :: xs, hl, h, x, hx => by
    simp only [validS, okP, Bool.and_eq_true, decide_eq_true_eq] at h
    rcases List.mem_cons.1 hx with rfl | hx
    · omega
    · exact validS_mem y.1 xs (by omega) h.2 x hx
theorem validS_len (xs : List Pr) (h : validS (-1) xs = true) : xs.length ≤ 10 := by
  have := validS_bd (-1) xs (by omega) h
  omega
theorem quiet_l {P : Program} {f : FuncId} {args : Array Value} {w : World} {n : Nat} {v : Value}
    (h : Calls P f args (w.drewN n) fun e w' => e = .returned v ∧ w.drewN n = w') : Calls P f args (w.drewN n) fun e w'' => e = .returned v ∧ ∃ m, w'' = w.drewN m :=
  h.mono fun _ _ ⟨he, hm⟩ => ⟨he, n, hm.symm⟩
theorem quiet_add_l {P : Program} {f : FuncId} {args : Array Value} {w : World} {a n : Nat} {v : Value}
    (h : Calls P f args (w.drewN (a + n)) fun e w' => e = .returned v ∧ w.drewN (a + n) = w') :
    Calls P f args (w.drewN (a + n)) fun e w'' => e = .returned v ∧ ∃ m, w'' = w.drewN (a + m) :=
  h.mono fun _ _ ⟨he, hm⟩ => ⟨he, n, hm.symm⟩

set_option maxHeartbeats 400000 in
theorem szS_c (A : Option Addr) (n c : Nat) (l : Int) (w : World) (hn : n ≤ 9223372036854775807) (h0 : 0 ≤ l) (h1 : l ≤ 1048576) :
    Calls Try.prog 5 #[.slice A n c, .int .i64 l] w fun e w' => e = .returned (.int .i64 (if l < (n : Int) then -1 else l - (n : Int))) ∧ w = w' := by
  by_cases h : l < (n : Int)
  · rw [if_pos h]
    have hd : decide (l - (n : Int) < 0) = true := decide_eq_true (by omega)
    go_enter Try.func5, Try.ntmps5
    go_wp2_with fail
    go_ret
    exact ⟨rfl, rfl⟩
  · rw [if_neg h]
    have hd : decide (l - (n : Int) < 0) = false := decide_eq_false (by omega)
    go_enter Try.func5, Try.ntmps5
    go_wp2_with fail
    go_ret
    exact ⟨rfl, rfl⟩
set_option maxHeartbeats 1000000 in
theorem toSetting_c (a b : Int) (w : World) :
    Calls Try.prog 14 #[.agg #[.int .i64 a, .int .i64 b]] w fun e w' => e = .returned (.agg #[.int .i64 a, .int .i64 b]) ∧ Below w.heap.size w w' := by
  go_enter Try.func14, Try.ntmps14
  go_wp2_with fail
  refine bodyPost_ret (v := .agg #[.int .i64 a, .int .i64 b]) (by simp [results, Try.results14, go_sem]) rfl ?_
  refine ⟨rfl, ?_⟩
  repeat (first | (with_reducible refine Below.setCell ?_ (by simp <;> omega) _) | (with_reducible refine Below.alloc ?_ (by simp <;> omega) _))
  exact Below.refl _ _
set_option maxHeartbeats 1000000 in
theorem eqSetting_c (a b : Int) (w : World) :
    Calls Try.prog 17 #[.agg #[.int .i64 a, .int .i64 b], .agg #[.int .i64 a, .int .i64 b]] w fun e w' => e = .returned (.bool true) ∧ Below w.heap.size w w' := by
  go_enter Try.func17, Try.ntmps17
  go_wp2_with fail
  go_ret
  refine ⟨rfl, ?_⟩
  repeat (first | (with_reducible refine Below.setCell ?_ (by simp <;> omega) _) | (with_reducible refine Below.alloc ?_ (by simp <;> omega) _))
  exact Below.refl _ _
theorem setInfo : (Try.prog.info? 37).map (fun i => (i.zero, i.size, i.bytes)) = some (some (.agg #[.int .i64 0, .int .i64 0]), 2, 16) := by kernel_rfl
/-- New memory that reads as these pairs is handed back; what was there is as it was. -/
def RetSets (xs : List Pr) (w : World) (e : Ending) (w' : World) : Prop :=
  ∃ A c, e = .returned (.slice A xs.length c) ∧ Row w' w.heap.size 37 2 A xs.length c (sc xs) ∧ Below w.heap.size w w'
theorem set_two {α : Type} : ∀ (a : List α) (z0 z1 u v : α) (r : List α), ((a ++ z0 :: z1 :: r).set a.length u).set (a.length + 1) v = (a ++ [u, v]) ++ r
  | [], z0, z1, u, v, r => by simp
  | x :: a, z0, z1, u, v, r => by
    have := set_two a z0 z1 u v r
    simp only [List.cons_append, List.length_cons, List.set_cons_succ]
    rw [this]
theorem drop_two {α : Type} (Z : List α) (k n : Nat) (hz : Z.length = n * 2) (hk : k < n) : ∃ z0 z1, Z.drop (k * 2) = z0 :: z1 :: Z.drop ((k + 1) * 2) := by
  refine ⟨Z[k * 2]'(by omega), Z[k * 2 + 1]'(by omega), ?_⟩
  rw [List.drop_eq_getElem_cons (by omega), List.drop_eq_getElem_cons (by omega)]
  rw [show (k + 1) * 2 = k * 2 + 1 + 1 by omega]
set_option maxRecDepth 100000 in
set_option maxHeartbeats 1000000 in
theorem toSets_c (xs : List Pr) (A : Option Addr) (n c : Nat) (w : World) (hN : xs.length = n) (h : Rd w A (sc xs)) (hn : n ≤ 1073741824) :
    Calls Try.prog 8 #[.slice A n c] w (RetSets xs w) := by
  have HN := Lib.hid hN; clear hN
  have H := Lib.hid h; clear h
  obtain ⟨i0, hi, hz0, hz1, hz2⟩ := info_parts setInfo
  go_enter Try.func8, Try.ntmps8
  go_wp2_with (at_make; refine wpList_make_full _ rfl (.tmp 6) (.tmp 6) 29 rfl w.heap.size 37 i0 (.agg #[.int .i64 0, .int .i64 0]) 2 Try.underlying29 hi hz0 hz1 .i64 .i64 n n n rfl rfl rfl rfl ?b2 ?b3 ?b4 ?_)
  case b2 => rw [hz2]; omega
  case b3 => unfold maxLen; omega
  case b4 => exact Nat.le_refl _
  intro w1 hown1 hg1
  obtain ⟨Z, hZ⟩ : ∃ Z, Z = (madeCells #[.int .i64 0, .int .i64 0] (n * 2)).toList := ⟨_, rfl⟩
  rw [← hZ] at hown1
  have row1 := Row.of_own hown1
  have hzl : Z.length = n * 2 := row1.len
  have ROW1 := Lib.hid row1
  have hb1 : Below w.heap.size w w1 := (Below.refl _ _).grown hg1 (Nat.le_refl _) (fun k hk => by cases hk)
  have HB1 := Lib.hid hb1
  have HZL := Lib.hid hzl
  clear hown1 hg1 hZ row1 hb1 hzl
  go_wp2_with fail
  go_loopw [4] (fun i wr => ∃ k : Nat, k ≤ n ∧ i = .int .i64 k ∧ Row wr w.heap.size 37 2 (some ⟨w.heap.size, 0, none⟩) n n (sc (xs.take k) ++ Z.drop (k * 2)) ∧ Below w.heap.size w wr) (fun i _ => n - (intOf i).toNat)
  case atStart => exact ⟨0, Nat.zero_le _, rfl, by simpa [sc] using ROW1.out, HB1.out⟩
  case round =>
    clear ROW1 HB1
    obtain ⟨k, hk, rfl, row, hb⟩ := hrel
    by_cases hlt : k < n
    · have hkx : k < xs.length := by have := HN.out; omega
      obtain ⟨b, off, hA, hbl, hc⟩ := sc_pair (H.out.below hb) (by omega)
      subst hA
      obtain ⟨x, hX⟩ : ∃ x, x = xs[k] := ⟨_, rfl⟩
      obtain ⟨hc1, hc2⟩ := hc k hkx
      rw [← hX] at hc1 hc2
      have HX := Lib.hid hX
      have ROW := Lib.hid row; have HB := Lib.hid hb
      clear hc row hb hX
      go_wp2_with fail
      refine (toSetting_c x.1 x.2 _).mono ?_
      rintro e w2 ⟨rfl, b2⟩
      have row2 := ROW.out.below b2
      have hb2 : Below w.heap.size w w2 := HB.out.trans (b2.mono HB.out.size)
      obtain ⟨z0, z1, hz⟩ := drop_two Z k n HZL.out hlt
      have hsl : (sc (xs.take k)).length = k * 2 := by rw [sc_len, List.length_take]; omega
      have ho1 : w2.cell? ⟨w.heap.size, k * 2, none⟩ = some z0 := by
        have := row2.cell (j := k * 2) (u := z0) (by rw [List.getElem?_append_right (by omega), hsl, hz]; simp)
        simpa using this
      have ho2 : w2.cell? ⟨w.heap.size, k * 2 + 1, none⟩ = some z1 := by
        have := row2.cell (j := k * 2 + 1) (u := z1) (by rw [List.getElem?_append_right (by omega), hsl, hz]; simp [show k * 2 + 1 - k * 2 = 1 by omega])
        simpa using this
      have hf1 : w2.frozen? ⟨w.heap.size, k * 2, none⟩ = false := row2.frozen (by omega) _
      have hf2 : w2.frozen? ⟨w.heap.size, k * 2 + 1, none⟩ = false := row2.frozen (by omega) _
      have fin : Row ((w2.setCell ⟨w.heap.size, k * 2, none⟩ (.int .i64 x.1)).setCell ⟨w.heap.size, k * 2 + 1, none⟩ (.int .i64 x.2)) w.heap.size 37 2 (some ⟨w.heap.size, 0, none⟩) n n (sc (xs.take (k + 1)) ++ Z.drop ((k + 1) * 2)) ∧ Below w.heap.size w ((w2.setCell ⟨w.heap.size, k * 2, none⟩ (.int .i64 x.1)).setCell ⟨w.heap.size, k * 2 + 1, none⟩ (.int .i64 x.2)) := by
        refine ⟨?_, (hb2.setCell (Nat.le_refl _) _).setCell (Nat.le_refl _) _⟩
        have h1 := (row2.store (k * 2) (.int .i64 x.1) (by omega)).store (k * 2 + 1) (.int .i64 x.2) (by omega)
        have h2 := set_two (sc (xs.take k)) z0 z1 (.int .i64 x.1) (.int .i64 x.2) (Z.drop ((k + 1) * 2))
        rw [hsl] at h2
        rw [hz, h2] at h1
        rw [take_snoc xs k hkx, sc_append, ← HX.out]
        simpa [sc] using h1
      have FIN := Lib.hid fin; clear fin row2 hb2 b2 ROW HB hsl hz
      go_wp2_with fail
      go_roundw
      case rel => exact ⟨k + 1, by omega, by go_num, FIN.out⟩
      case measure => simp [intOf]; omega
    · obtain rfl : k = n := by omega
      have fin : RetSets xs w (.returned (.slice (some ⟨w.heap.size, 0, none⟩) k k)) wr := by
        refine ⟨some ⟨w.heap.size, 0, none⟩, k, by rw [HN.out], ?_, hb⟩
        rw [List.take_of_length_le (by rw [HN.out]; omega), List.drop_of_length_le (by rw [HZL.out]; omega), List.append_nil] at row
        rw [HN.out]
        exact row
      have FIN := Lib.hid fin; clear fin row hb
      go_wp2_with fail
      go_ret
      exact FIN.out
set_option maxRecDepth 100000 in
set_option maxHeartbeats 1000000 in
theorem eqSets_c (xs : List Pr) (A B : Option Addr) (n c d : Nat) (w : World) (hN : xs.length = n) (h : Rd w A (sc xs)) (h' : Rd w B (sc xs)) (hn : n ≤ 1073741824) :
    Calls Try.prog 11 #[.slice A n c, .slice B n d] w fun e w' => e = .returned (.bool true) ∧ Below w.heap.size w w' := by
  have HN := Lib.hid hN; clear hN
  have H := Lib.hid h; have H' := Lib.hid h'; clear h h'
  go_enter Try.func11, Try.ntmps11
  go_wp2_with fail
  go_loopw [5] (fun i wr => ∃ k : Nat, k ≤ n ∧ i = .int .i64 k ∧ Below w.heap.size w wr) (fun i _ => n - (intOf i).toNat)
  case atStart => exact ⟨0, Nat.zero_le _, rfl, Below.refl _ _⟩
  case round =>
    obtain ⟨k, hk, rfl, hb⟩ := hrel
    have HB := Lib.hid hb
    by_cases hlt : k < n
    · have hkx : k < xs.length := by have := HN.out; omega
      obtain ⟨b, off, hA, hbl, hc⟩ := sc_pair (H.out.below hb) (by omega)
      obtain ⟨b', off', hA', hbl', hc'⟩ := sc_pair (H'.out.below hb) (by omega)
      subst hA hA'
      obtain ⟨hc1, hc2⟩ := hc k hkx
      obtain ⟨hd1, hd2⟩ := hc' k hkx
      obtain ⟨⟨x, y⟩, hX⟩ : ∃ x, x = xs[k] := ⟨_, rfl⟩
      rw [← hX] at hc1 hc2 hd1 hd2
      clear hc hc' hb hX
      go_wp2_with fail
      go_region_held3 (fun w' => w'.cell? ⟨b, off + k * 2, none⟩ = some (.int .i64 x) ∧ w'.cell? ⟨b, off + k * 2 + 1, none⟩ = some (.int .i64 y) ∧ w'.cell? ⟨b', off' + k * 2, none⟩ = some (.int .i64 x) ∧ w'.cell? ⟨b', off' + k * 2 + 1, none⟩ = some (.int .i64 y)) (go_keep) ((go_at_call 17; refine (eqSetting_c x y _).mono ?_; rintro e w91 ⟨rfl, b91⟩; have k1 := (b91.cell (p := ⟨b, off + k * 2, none⟩) hbl).trans hc1; have k2 := (b91.cell (p := ⟨b, off + k * 2 + 1, none⟩) hbl).trans hc2; have k3 := (b91.cell (p := ⟨b', off' + k * 2, none⟩) hbl').trans hd1; have k4 := (b91.cell (p := ⟨b', off' + k * 2 + 1, none⟩) hbl').trans hd2))
      all_goals
        have bel : Below w.heap.size w w91 := HB.out.trans ((Below.refl _ _).drew.trans (b91.mono (Nat.le_refl _)) |>.mono HB.out.size)
        have BEL := Lib.hid bel
        clear bel b91
        go_wp2_with fail
        go_roundw
        case rel => exact ⟨k + 1, by omega, by go_num, BEL.out⟩
        case measure => simp [intOf]; omega
    · obtain rfl : k = n := by omega
      clear hb
      go_wp2_with fail
      go_ret
      exact ⟨rfl, HB.out⟩
set_option maxRecDepth 100000 in
set_option maxHeartbeats 4000000 in
theorem sValidSets_c (xs : List Pr) (A : Option Addr) (n c : Nat) (w : World) (hN : xs.length = n) (h : Rd w A (sc xs)) (hn : n ≤ 1073741824) :
    Calls Try.prog 12 #[.slice A n c] w fun e w' => e = .returned (.bool (validS (-1) xs)) ∧ ∃ q, w' = w.drewN q := by
  have HN := Lib.hid hN; clear hN
  have H := Lib.hid h; clear h
  obtain ⟨r, hr⟩ : ∃ r, r = validS (-1) xs := ⟨_, rfl⟩
  rw [← hr]
  have HR := Lib.hid hr; clear hr
  go_enter Try.func12, Try.ntmps12
  go_wp2_with fail
  go_loopw [3] (fun i wr => ∃ j q : Nat, j ≤ n ∧ i = .int .i64 j ∧ wr = w.drewN q ∧ validS (-1) (xs.take j) = true) (fun i _ => n - (intOf i).toNat)
  case atStart => exact ⟨0, 0, Nat.zero_le _, rfl, rfl, rfl⟩
  case round =>
    obtain ⟨j, q, hj, rfl, rfl, hv⟩ := hrel
    have HV := Lib.hid hv; clear hv
    by_cases hlt : j < n
    · have hjx : j < xs.length := by have := HN.out; omega
      obtain ⟨b, off, hA, hbl, hc⟩ := sc_pair H.out (by omega)
      subst hA
      obtain ⟨hc1, hc2⟩ := hc j hjx
      obtain ⟨⟨x, y⟩, hX⟩ : ∃ x, x = xs[j] := ⟨_, rfl⟩
      have hst := validS_succ xs j hjx HV.out
      rw [← hX] at hc1 hc2 hst
      have hcA : ∀ W : World, Calls Try.prog 18 #[.int .i64 x, .int .i64 0, .int .i64 9] W fun e w' => e = .returned (.bool (decide (0 ≤ x ∧ x ≤ 9))) ∧ W = w' := fun W => inRange_c x 0 9 W
      have hcB : ∀ W : World, Calls Try.prog 18 #[.int .i64 y, .int .i64 0, .int .i64 20] W fun e w' => e = .returned (.bool (decide (0 ≤ y ∧ y ≤ 20))) ∧ W = w' := fun W => inRange_c y 0 20 W
      have HST := Lib.hid hst; clear hst hX
      have bad : ∀ v, validS (-1) (xs.take (j + 1)) = v → v = false → r = false := fun v h1 h2 => by rw [HR.out]; exact validS_false xs (j + 1) (h1.trans h2)
      have BAD := Lib.hid bad; clear bad
      rcases Nat.eq_zero_or_pos j with h0 | h0
      · subst h0
        have hst0 : validS (-1) (xs.take (0 + 1)) = okP (-1) (x, y) := HST.out
        have HST0 := Lib.hid hst0; clear hst0 HST hc
        rw [Nat.zero_mul, Nat.add_zero] at hc1 hc2
        by_cases h1 : 0 ≤ x ∧ x ≤ 9
        · rw [decide_eq_true h1] at hcA
          have HCA := Lib.hid hcA; have H1 := Lib.hid h1; clear hcA h1
          by_cases h2 : 0 ≤ y ∧ y ≤ 20
          · rw [decide_eq_true h2] at hcB
            have HCB := Lib.hid hcB
            have hok : okP (-1) (x, y) = true := by unfold okP; simp only; rw [decide_eq_true h2, decide_eq_true (by have := H1.out; omega)]; rfl
            have HOK := Lib.hid hok
            clear hcB h2 hok
            go_wp2
            (go_quiet ((first | (go_at_call 18; first | with_reducible exact quiet_add_l (HCA.out _) | with_reducible exact quiet_l (HCA.out _) | with_reducible exact quiet_add_l (HCB.out _) | with_reducible exact quiet_l (HCB.out _)))))
            go_wp2
            go_roundw
            case rel => exact ⟨1, _, by omega, by go_num, rfl, HST0.out.trans HOK.out⟩
            case measure => simp [intOf]; omega
          · rw [decide_eq_false h2] at hcB
            have HCB := Lib.hid hcB
            have hok : okP (-1) (x, y) = false := by unfold okP; simp only; rw [decide_eq_false h2]; simp
            have HR' := Lib.hid (BAD.out _ HST0.out hok)
            clear hcB h2 hok
            go_wp2
            (go_quiet ((first | (go_at_call 18; first | with_reducible exact quiet_add_l (HCA.out _) | with_reducible exact quiet_l (HCA.out _) | with_reducible exact quiet_add_l (HCB.out _) | with_reducible exact quiet_l (HCB.out _)))))
            go_wp2
            go_ret
            rw [HR'.out]
            exact ⟨rfl, q + nq, World.drewN_drewN _ _ _⟩
        · rw [decide_eq_false h1] at hcA
          have HCA := Lib.hid hcA; have HCB := HCA
          have hok : okP (-1) (x, y) = false := by unfold okP; simp only; rw [decide_eq_false (by omega)]; rfl
          have HR' := Lib.hid (BAD.out _ HST0.out hok)
          clear hcA hcB h1 hok
          go_wp2
          (go_quiet ((first | (go_at_call 18; first | with_reducible exact quiet_add_l (HCA.out _) | with_reducible exact quiet_l (HCA.out _) | with_reducible exact quiet_add_l (HCB.out _) | with_reducible exact quiet_l (HCB.out _)))))
          go_wp2
          go_ret
          rw [HR'.out]
          exact ⟨rfl, q + nq, World.drewN_drewN _ _ _⟩
      · have hj0 : ((j : Int) == 0) = false := beq_eq_false_iff_ne.2 (by omega)
        have hj1 : decide ((0 : Int) < (j : Int)) = true := decide_eq_true (by omega)
        have hj2 : decide (0 < j) = true := decide_eq_true h0
        have hw : IntKind.i64.wrap ((j : Int) - 1) = (j : Int) - 1 := IntWalk.i64_in _ ⟨by omega, by omega⟩
        have hw1 : (0 : Int) ≤ (j : Int) - 1 := by omega
        have hw2 : ((j : Int) - 1).toNat = j - 1 := by omega
        have hw3 : (1 : Int) ≤ (j : Int) := by omega
        obtain ⟨p, hP⟩ : ∃ p, p = (xs[j - 1]'(by omega)).1 := ⟨_, rfl⟩
        have hp1 := (hc (j - 1) (by omega)).1
        rw [← hP] at hp1
        have hla : lastD (-1) (xs.take j) = p := by
          have := lastD_succ xs (j - 1) (by omega)
          rw [show j - 1 + 1 = j by omega] at this
          rw [this, hP]
        have hpb := validS_bd (-1) (xs.take j) (by omega) HV.out
        rw [hla, List.length_take] at hpb
        have hp0 : 0 ≤ p := by omega
        have hst1 : validS (-1) (xs.take (j + 1)) = okP p (x, y) := by rw [HST.out, hla]
        have HST0 := Lib.hid hst1; clear hst1 HST hc hP hla hpb
        by_cases h1 : 0 ≤ x ∧ x ≤ 9
        · rw [decide_eq_true h1] at hcA
          have HCA := Lib.hid hcA; have H1 := Lib.hid h1; clear hcA h1
          by_cases h2 : 0 ≤ y ∧ y ≤ 20
          · rw [decide_eq_true h2] at hcB
            have HCB := Lib.hid hcB
            by_cases h3 : x ≤ p
            · have hd : decide (x ≤ p) = true := decide_eq_true h3
              have hok : okP p (x, y) = false := by unfold okP; simp only; rw [decide_eq_false (by omega)]; rfl
              have HR' := Lib.hid (BAD.out _ HST0.out hok)
              clear hcB h2 hok
              go_wp2
              (go_quiet ((first | (go_at_call 18; first | with_reducible exact quiet_add_l (HCA.out _) | with_reducible exact quiet_l (HCA.out _) | with_reducible exact quiet_add_l (HCB.out _) | with_reducible exact quiet_l (HCB.out _)))))
              go_wp2
              go_ret
              rw [HR'.out]
              exact ⟨rfl, q + nq, World.drewN_drewN _ _ _⟩
            · have hd : decide (x ≤ p) = false := decide_eq_false h3
              have hok : okP p (x, y) = true := by unfold okP; simp only; rw [decide_eq_true h2, decide_eq_true (by have := H1.out; omega)]; rfl
              have HOK := Lib.hid hok
              clear hcB h2 hok
              go_wp2
              (go_quiet ((first | (go_at_call 18; first | with_reducible exact quiet_add_l (HCA.out _) | with_reducible exact quiet_l (HCA.out _) | with_reducible exact quiet_add_l (HCB.out _) | with_reducible exact quiet_l (HCB.out _)))))
              clear hw hw2
              go_wp2
              go_roundw
              case rel => exact ⟨j + 1, _, by omega, by go_num, rfl, HST0.out.trans HOK.out⟩
              case measure => simp [intOf]; omega
          · rw [decide_eq_false h2] at hcB
            have HCB := Lib.hid hcB
            have hok : okP p (x, y) = false := by unfold okP; simp only; rw [decide_eq_false h2]; simp
            have HR' := Lib.hid (BAD.out _ HST0.out hok)
            clear hcB h2 hok
            go_wp2
            (go_quiet ((first | (go_at_call 18; first | with_reducible exact quiet_add_l (HCA.out _) | with_reducible exact quiet_l (HCA.out _) | with_reducible exact quiet_add_l (HCB.out _) | with_reducible exact quiet_l (HCB.out _)))))
            go_wp2
            go_ret
            rw [HR'.out]
            exact ⟨rfl, q + nq, World.drewN_drewN _ _ _⟩
        · rw [decide_eq_false h1] at hcA
          have HCA := Lib.hid hcA; have HCB := HCA
          have hok : okP p (x, y) = false := by unfold okP; simp only; rw [decide_eq_false (by omega)]; rfl
          have HR' := Lib.hid (BAD.out _ HST0.out hok)
          clear hcA hcB h1 hok
          go_wp2
          (go_quiet ((first | (go_at_call 18; first | with_reducible exact quiet_add_l (HCA.out _) | with_reducible exact quiet_l (HCA.out _) | with_reducible exact quiet_add_l (HCB.out _) | with_reducible exact quiet_l (HCB.out _)))))
          go_wp2
          go_ret
          rw [HR'.out]
          exact ⟨rfl, q + nq, World.drewN_drewN _ _ _⟩
    · obtain rfl : j = n := by omega
      have hv := HV.out
      rw [List.take_of_length_le (by rw [HN.out]; exact Nat.le_refl _)] at hv
      have HR' := Lib.hid (HR.out.trans hv)
      clear hv
      go_wp2
      go_ret
      rw [HR'.out]
      exact ⟨rfl, _, rfl⟩
set_option maxRecDepth 100000 in
set_option maxHeartbeats 4000000 in
theorem validSets_c (xs : List Pr) (A : Option Addr) (n c : Nat) (w : World) (hN : xs.length = n) (h : Rd w A (sc xs)) (hn : n ≤ 1073741824) :
    Calls Try.prog 15 #[.slice A n c] w fun e w' => e = .returned (.bool (validS (-1) xs)) ∧ Below w.heap.size w w' := by
  have HN := Lib.hid hN; clear hN
  have H := Lib.hid h; clear h
  obtain ⟨r, hr⟩ : ∃ r, r = validS (-1) xs := ⟨_, rfl⟩
  rw [← hr]
  have HR := Lib.hid hr; clear hr
  go_enter Try.func15, Try.ntmps15
  go_wp2_with fail
  go_loopw [3, 8] (fun l i wr => ∃ j : Nat, j ≤ n ∧ i = .int .i64 j ∧ l = .int .i64 (lastD (-1) (xs.take j)) ∧ validS (-1) (xs.take j) = true ∧ Below w.heap.size w wr) (fun _ i _ => n - (intOf i).toNat)
  case atStart => exact ⟨0, Nat.zero_le _, rfl, rfl, rfl, Below.refl _ _⟩
  case round =>
    obtain ⟨j, hj, rfl, rfl, hv, hb⟩ := hrel
    have HV := Lib.hid hv; clear hv
    have HB := Lib.hid hb
    obtain ⟨p, hp⟩ : ∃ p, p = lastD (-1) (xs.take j) := ⟨_, rfl⟩
    by_cases hlt : j < n
    · have hjx : j < xs.length := by have := HN.out; omega
      obtain ⟨b, off, hA, hbl, hc⟩ := sc_pair (H.out.below hb) (by omega)
      subst hA
      obtain ⟨hc1, hc2⟩ := hc j hjx
      obtain ⟨⟨x, y⟩, hX⟩ : ∃ x, x = xs[j] := ⟨_, rfl⟩
      have hst := validS_succ xs j hjx HV.out
      have hla := lastD_succ xs j hjx
      have hpb := validS_bd (-1) (xs.take j) (by omega) HV.out
      rw [List.length_take] at hpb
      rw [← hX] at hc1 hc2 hst hla
      rw [← hp] at hpb hst
      rw [← hp]
      simp only at hla
      have hp0 : -1 ≤ p := by omega
      have hp1 : p ≤ 9 := by omega
      have hcA : ∀ W : World, Calls Try.prog 20 #[.int .i64 x, .int .i64 (p + 1), .int .i64 9] W fun e w' => e = .returned (.bool (decide (p + 1 ≤ x ∧ x ≤ 9))) ∧ W = w' := fun W => in_c x (p + 1) 9 W
      have hcB : ∀ W : World, Calls Try.prog 20 #[.int .i64 y, .int .i64 0, .int .i64 20] W fun e w' => e = .returned (.bool (decide (0 ≤ y ∧ y ≤ 20))) ∧ W = w' := fun W => in_c y 0 20 W
      have hbel : ∀ v t, Below w.heap.size w (wr.alloc (.cells v t)) := fun v t => hb.alloc hb.size _
      have BEL := Lib.hid hbel
      have hst' : validS (-1) (xs.take (j + 1)) = (decide (p + 1 ≤ x ∧ x ≤ 9) && decide (0 ≤ y ∧ y ≤ 20)) := hst
      have HST := Lib.hid hst'; have HLA := Lib.hid hla
      clear hst hst' hla hX hpb hp hb hbel hc
      by_cases h1 : p + 1 ≤ x ∧ x ≤ 9
      · rw [decide_eq_true h1] at hcA
        have HCA := Lib.hid hcA; have H1 := Lib.hid h1; clear hcA h1
        by_cases h2 : 0 ≤ y ∧ y ≤ 20
        · rw [decide_eq_true h2] at hcB
          have HCB := Lib.hid hcB
          have hok : validS (-1) (xs.take (j + 1)) = true := by rw [HST.out, decide_eq_true h2, decide_eq_true H1.out]; rfl
          have HOK := Lib.hid hok
          clear hcB h2 hok
          go_wp2_with fail
          refine (HCA.out _).mono ?_
          rintro e w1 ⟨rfl, rfl⟩
          go_wp2_with fail
          refine (HCB.out _).mono ?_
          rintro e w1 ⟨rfl, rfl⟩
          go_wp2_with fail
          go_roundw
          case rel => exact ⟨j + 1, by omega, by go_num, by rw [HLA.out], HOK.out, BEL.out _ _⟩
          case measure => simp [intOf]; omega
        · rw [decide_eq_false h2] at hcB
          have HCB := Lib.hid hcB
          have hok : validS (-1) (xs.take (j + 1)) = false := by rw [HST.out, decide_eq_false h2]; simp
          have HR' := Lib.hid (HR.out.trans (validS_false xs (j + 1) hok))
          clear hcB h2 hok
          go_wp2_with fail
          refine (HCA.out _).mono ?_
          rintro e w1 ⟨rfl, rfl⟩
          go_wp2_with fail
          refine (HCB.out _).mono ?_
          rintro e w1 ⟨rfl, rfl⟩
          go_wp2_with fail
          go_ret
          rw [HR'.out]
          exact ⟨rfl, BEL.out _ _⟩
      · rw [decide_eq_false h1] at hcA
        have HCA := Lib.hid hcA
        have hok : validS (-1) (xs.take (j + 1)) = false := by rw [HST.out, decide_eq_false h1]; rfl
        have HR' := Lib.hid (HR.out.trans (validS_false xs (j + 1) hok))
        clear hcA hcB h1 hok
        go_wp2_with fail
        refine (HCA.out _).mono ?_
        rintro e w1 ⟨rfl, rfl⟩
        go_wp2_with fail
        go_ret
        rw [HR'.out]
        exact ⟨rfl, BEL.out _ _⟩
    · obtain rfl : j = n := by omega
      have hv := HV.out
      rw [List.take_of_length_le (by rw [HN.out]; exact Nat.le_refl _)] at hv
      have HR' := Lib.hid (HR.out.trans hv)
      clear hv hb hp
      go_wp2_with fail
      go_ret
      rw [HR'.out]
      exact ⟨rfl, HB.out⟩
end Go.Proofs.Ytmphjojhfmikeaa
