/- Plans of changes by the reference, and the cheapest one. -/
import Derived.Test.YtmphjojhfmikeaaResA
set_option linter.unusedVariables false
set_option linter.unusedSimpArgs false
set_option linter.unnecessarySimpa false
namespace Go.Proofs.Ytmphjojhfmikeaa
open Go.RowKit

/-- The value of a name, -1 for none. -/
def valOf (m : Int) : List Pr → Int
  | [] => -1
  | x :: xs => if x.1 = m then x.2 else valOf m xs
/-- How many of the first k names differ. -/
def cntD (xs ys : List Pr) : Nat → Nat
  | 0 => 0
  | k + 1 => cntD xs ys k + (if valOf (k : Int) xs = valOf (k : Int) ys then 0 else 1)
theorem cntD_le (xs ys : List Pr) : ∀ k, cntD xs ys k ≤ k
  | 0 => Nat.le_refl _
  | k + 1 => by
    have := cntD_le xs ys k
    unfold cntD
    split <;> omega
def planN (xs ys : List Pr) : Nat := cntD xs ys 10
/-- How many lists were seen, the best one, the fewest changes. -/
def stp (want : List Pr) (s : Int × Int × Int) (xs : List Pr) : Int × Int × Int := if (planN xs want : Int) < s.2.2 then (s.1 + 1, s.1, planN xs want) else (s.1 + 1, s.2.1, s.2.2)
def stF (want : List Pr) (l : List (List Pr)) : Int × Int × Int := l.foldl (stp want) (0, -1, 11)
theorem stF_snoc (want : List Pr) (l : List (List Pr)) (x : List Pr) : stF want (l ++ [x]) = stp want (stF want l) x := by simp [stF]
theorem stF_inv (want : List Pr) : ∀ (k : Nat) (l : List (List Pr)), l.length = k → (stF want l).1 = (l.length : Int) ∧ ((stF want l).2.1 = -1 ∧ (stF want l).2.2 = 11 ∨ 0 ≤ (stF want l).2.1 ∧ (stF want l).2.1 < l.length ∧ 0 ≤ (stF want l).2.2 ∧ (stF want l).2.2 ≤ 10)
  | 0, l, h => by
    have : l = [] := List.eq_nil_of_length_eq_zero h
    subst this
    exact ⟨rfl, .inl ⟨rfl, rfl⟩⟩
  | k + 1, l, h => by
    have hne : l ≠ [] := by intro e; rw [e] at h; simp at h
    have e := (List.dropLast_concat_getLast hne).symm
    obtain ⟨i1, i2⟩ := stF_inv want k l.dropLast (by rw [List.length_dropLast]; omega)
    rw [e, stF_snoc]
    have hp := cntD_le (l.getLast hne) want 10
    unfold stp
    rw [List.length_append, List.length_singleton]
    split
    · refine ⟨by simp only [i1]; omega, .inr ⟨by simp only [i1]; omega, by simp only [i1]; omega, by simp only; omega, by simp only [planN]; omega⟩⟩
    · rename_i hlt
      refine ⟨by simp only [i1]; omega, ?_⟩
      rcases i2 with ⟨h1, h2⟩ | ⟨h1, h2, h3, h4⟩
      · exfalso; apply hlt; rw [h2]; unfold planN; omega
      · exact .inr ⟨h1, by simp only; omega, h3, h4⟩
def allV (l : List (List Pr)) : Bool := l.all fun x => validS (-1) x
/-- What CheapestReset returns. -/
def chV (l : List (List Pr)) (want : List Pr) : Int := if l.length ≤ 6 ∧ validS (-1) want = true ∧ allV l = true then (stF want l).2.1 else -1
theorem allV_snoc (l : List (List Pr)) (x : List Pr) : allV (l ++ [x]) = (allV l && validS (-1) x) := by simp [allV]
theorem allV_false (l : List (List Pr)) (j : Nat) (h : allV (l.take j) = false) : allV l = false := by
  rw [← List.take_append_drop j l]
  unfold allV at h ⊢
  rw [List.all_append, h]; rfl
set_option maxRecDepth 100000 in
set_option maxHeartbeats 2000000 in
theorem eqSS_c (es fs : List El) (A B : Option Addr) (n c d : Nat) (w : World) (hN : es.length = n) (hEq : es.map (·.2.2) = fs.map (·.2.2)) (h : RdN w A es) (h' : RdN w B fs) (hn : n ≤ 1073741824) (hes : ∀ e ∈ es, e.2.2.length ≤ 1073741824) :
    Calls Try.prog 10 #[.slice A n c, .slice B n d] w fun e w' => e = .returned (.bool true) ∧ Below w.heap.size w w' := by
  have hM : fs.length = n := by have := congrArg List.length hEq; rw [List.length_map, List.length_map] at this; omega
  have HN := Lib.hid hN; have HM := Lib.hid hM; have HEQ := Lib.hid hEq; have HES := Lib.hid hes
  have H := Lib.hid h; have H' := Lib.hid h'; clear h h' hN hM hEq hes
  go_enter Try.func10, Try.ntmps10
  go_wp2_with fail
  go_loopw [5] (fun i wr => ∃ k : Nat, k ≤ n ∧ i = .int .i64 k ∧ Below w.heap.size w wr) (fun i _ => n - (intOf i).toNat)
  case atStart => exact ⟨0, Nat.zero_le _, rfl, Below.refl _ _⟩
  case round =>
    obtain ⟨k, hk, rfl, hb⟩ := hrel
    have HB := Lib.hid hb
    by_cases hlt : k < n
    · have hkx : k < es.length := by have := HN.out; omega
      have hky : k < fs.length := by have := HM.out; omega
      obtain ⟨b, off, hA, hbl, hc⟩ := (H.out.below hb).at_ (by omega)
      obtain ⟨b', off', hA', hbl', hc'⟩ := (H'.out.below hb).at_ (by omega)
      subst hA hA'
      obtain ⟨x, hX⟩ : ∃ x, x = es[k] := ⟨_, rfl⟩
      obtain ⟨y, hY⟩ : ∃ y, y = fs[k] := ⟨_, rfl⟩
      have hcx := hc k hkx
      have hcy := hc' k hky
      rw [← hX] at hcx
      rw [← hY] at hcy
      have hxy : x.2.2 = y.2.2 := by
        have := congrArg (·[k]?) HEQ.out
        simp only [List.getElem?_map, List.getElem?_eq_getElem hkx, List.getElem?_eq_getElem hky, Option.map_some, Option.some.injEq] at this
        rw [hX, hY]; exact this
      have hxl : x.2.2.length ≤ 1073741824 := by rw [hX]; exact HES.out _ (List.getElem_mem hkx)
      have hrx : Rd wr x.1 (sc x.2.2) := by rw [hX]; exact (H.out.below hb).2 _ (List.getElem_mem hkx)
      have hry : Rd wr y.1 (sc x.2.2) := by rw [hxy, hY]; exact (H'.out.below hb).2 _ (List.getElem_mem hky)
      rw [← hxy] at hcy
      have HCALL := Lib.hid (fun W (h1 : Rd W x.1 (sc x.2.2)) (h2 : Rd W y.1 (sc x.2.2)) => eqSets_c x.2.2 x.1 y.1 x.2.2.length x.2.1 y.2.1 W rfl h1 h2 hxl)
      have HRX := Lib.hid hrx; have HRY := Lib.hid hry
      obtain ⟨m, hm⟩ : ∃ m, m = x.2.2.length := ⟨_, rfl⟩
      rw [← hm] at hcx hcy HCALL
      clear hc hc' hb hX hY hxy hrx hry hm hxl
      go_wp2_with fail
      go_region_held3 (fun w' => w'.cell? ⟨b, off + k, none⟩ = some (.slice x.1 m x.2.1) ∧ w'.cell? ⟨b', off' + k, none⟩ = some (.slice y.1 m y.2.1)) (go_keep) ((go_at_call 11; (with_reducible refine (HCALL.out _ ?_ ?_).mono ?_); exact HRX.out; exact HRY.out; rintro e w91 ⟨rfl, b91⟩; have k1 := (b91.cell (p := ⟨b, off + k, none⟩) hbl).trans hcx; have k2 := (b91.cell (p := ⟨b', off' + k, none⟩) hbl').trans hcy))
      all_goals
        have bel : Below w.heap.size w w91 := HB.out.trans ((Below.refl _ _).drew.trans (b91.mono (Nat.le_refl _)) |>.mono HB.out.size)
        have BEL := Lib.hid bel
        clear bel b91
        go_wp2_with fail
        go_roundw
        case rel => exact ⟨k + 1, by omega, by go_num, BEL.out⟩
        case measure => simp [intOf]; omega
    · obtain rfl : k = n := by omega
      clear hb
      go_wp2_with fail
      go_ret
      exact ⟨rfl, HB.out⟩
theorem valOf_drop (m : Int) (xs : List Pr) (j : Nat) (h : j < xs.length) : valOf m (xs.drop j) = if xs[j].1 = m then xs[j].2 else valOf m (xs.drop (j + 1)) := by
  rw [List.drop_eq_getElem_cons h]; rfl
set_option maxRecDepth 100000 in
set_option maxHeartbeats 2000000 in
theorem valueOf_c (xs : List Pr) (m : Int) (A : Option Addr) (n c : Nat) (w : World) (hN : xs.length = n) (h : Rd w A (sc xs)) (hn : n ≤ 1073741824) :
    Calls Try.prog 19 #[.slice A n c, .int .i64 m] w fun e w' => e = .returned (.int .i64 (valOf m xs)) ∧ w' = w := by
  have HN := Lib.hid hN; clear hN
  have H := Lib.hid h; clear h
  obtain ⟨r, hr⟩ : ∃ r, r = valOf m xs := ⟨_, rfl⟩
  rw [← hr]
  have HR := Lib.hid hr; clear hr
  go_enter Try.func19, Try.ntmps19
  go_wp2_with fail
  go_loopw [5] (fun i wr => ∃ j : Nat, j ≤ n ∧ i = .int .i64 j ∧ wr = w ∧ r = valOf m (xs.drop j)) (fun i _ => n - (intOf i).toNat)
  case atStart => exact ⟨0, Nat.zero_le _, rfl, rfl, HR.out⟩
  case round =>
    obtain ⟨j, hj, rfl, hw, hv⟩ := hrel
    subst hw
    have HV := Lib.hid hv; clear hv
    by_cases hlt : j < n
    · have hjx : j < xs.length := by have := HN.out; omega
      obtain ⟨b, off, hA, hbl, hc⟩ := sc_pair H.out (by omega)
      subst hA
      obtain ⟨hc1, hc2⟩ := hc j hjx
      obtain ⟨⟨x, y⟩, hX⟩ : ∃ x, x = xs[j] := ⟨_, rfl⟩
      have hst := valOf_drop m xs j hjx
      rw [← hX] at hc1 hc2 hst
      have HST := Lib.hid hst
      clear hc hst hX
      by_cases hx : x = m
      · have hd : (x == m) = true := by simpa using hx
        have hry : r = y := by rw [HV.out, HST.out, if_pos hx]
        subst hry
        clear hx
        go_wp2_with fail
        go_ret
        exact ⟨rfl, by first | rfl | trivial⟩
      · have hd : (x == m) = false := by simpa using hx
        have hnx : r = valOf m (xs.drop (j + 1)) := by rw [HV.out, HST.out, if_neg hx]
        have HNX := Lib.hid hnx
        clear hx hnx
        go_wp2_with fail
        go_roundw
        case rel => exact ⟨j + 1, by omega, by go_num, by first | rfl | trivial, HNX.out⟩
        case measure => simp [intOf]; omega
    · obtain rfl : j = n := by omega
      have hr1 : r = -1 := by rw [HV.out, List.drop_of_length_le (by rw [HN.out]; exact Nat.le_refl _)]; rfl
      have HR1 := Lib.hid hr1; clear hr1
      go_wp2_with fail
      go_ret
      rw [HR1.out]
      exact ⟨rfl, by first | rfl | trivial⟩
theorem Rd.two_ (w : World) (a b : Value) (t : TypeId) : Rd (w.alloc (.cells #[a, b] t)) (some ⟨w.heap.size, 0, none⟩) [a, b] := fun _ => ⟨w.heap.size, 0, rfl, fun j u hu => by
  rw [Nat.zero_add, cell_new]
  match j, hu with
  | 0, hu => simpa using hu
  | 1, hu => simpa using hu
  | (n + 2), hu => simp at hu⟩
theorem two1_ (a b : Int) : ∀ u ∈ [Value.int .i64 a, .int .i64 b], u.oneCell' = true := fun u hu => by
  simp at hu
  rcases hu with rfl | rfl <;> rfl
/-- A plan: some changes, of which the number counts. -/
def RetPlan (k : Nat) (w : World) (e : Ending) (w' : World) : Prop := ∃ A c, e = .returned (.slice A k c) ∧ Below w.heap.size w w'
set_option maxRecDepth 100000 in
set_option maxHeartbeats 4000000 in
theorem resetPlan_c (xs ys : List Pr) (A B : Option Addr) (n c m d : Nat) (w : World) (hN : xs.length = n) (hM : ys.length = m) (h : Rd w A (sc xs)) (h' : Rd w B (sc ys)) (hx : validS (-1) xs = true) (hy : validS (-1) ys = true) (hn : n ≤ 10) (hm : m ≤ 10) :
    Calls Try.prog 13 #[.slice A n c, .slice B m d] w (RetPlan (planN xs ys) w) := by
  obtain ⟨i0, i0_i, i0_z0, i0_z1, i0_z2⟩ := info_parts setInfo
  have hvx : ∀ W, Rd W A (sc xs) → Calls Try.prog 12 #[.slice A n c] W fun e w' => e = .returned (.bool true) ∧ Below W.heap.size W w' := fun W hW => (sValidSets_c xs A n c W hN hW (by omega)).mono fun e w' ⟨he, q, hw⟩ => ⟨by rw [he, hx], by rw [hw]; exact below_drewN (Below.refl _ _) _⟩
  have hvy : ∀ W, Rd W B (sc ys) → Calls Try.prog 12 #[.slice B m d] W fun e w' => e = .returned (.bool true) ∧ Below W.heap.size W w' := fun W hW => (sValidSets_c ys B m d W hM hW (by omega)).mono fun e w' ⟨he, q, hw⟩ => ⟨by rw [he, hy], by rw [hw]; exact below_drewN (Below.refl _ _) _⟩
  have hox : ∀ (k : Int) W, Rd W A (sc xs) → Calls Try.prog 19 #[.slice A n c, .int .i64 k] W fun e w' => e = .returned (.int .i64 (valOf k xs)) ∧ w' = W := fun k W hW => valueOf_c xs k A n c W hN hW (by omega)
  have hoy : ∀ (k : Int) W, Rd W B (sc ys) → Calls Try.prog 19 #[.slice B m d, .int .i64 k] W fun e w' => e = .returned (.int .i64 (valOf k ys)) ∧ w' = W := fun k W hW => valueOf_c ys k B m d W hM hW (by omega)
  have VX := Lib.hid hvx; have VY := Lib.hid hvy; have OX := Lib.hid hox; have OY := Lib.hid hoy
  have H := Lib.hid h; have H' := Lib.hid h'
  clear hvx hvy hox hoy h h' hN hM hx hy
  go_enter Try.func13, Try.ntmps13
  go_wp2_with fail
  refine (VX.out _ (H.out.alloc _)).mono ?_
  rintro e w1 ⟨rfl, b1⟩
  have B1 := Lib.hid (((Below.refl w.heap.size w).alloc (Nat.le_refl _) _).trans (b1.mono (by simp)))
  clear b1
  go_wp2_with fail
  refine (VY.out _ (H'.out.below B1.out)).mono ?_
  rintro e w2 ⟨rfl, b2⟩
  have B2 := Lib.hid (B1.out.trans (b2.mono B1.out.size))
  clear b2
  go_wp2_with fail
  go_loopw [5, 6] (fun o i wr => ∃ (k : Nat) (A2 : Option Addr) (c2 : Nat) (zs : List Pr), k ≤ 10 ∧ i = .int .i64 k ∧ o = .slice A2 (cntD xs ys k) c2 ∧ Row wr w.heap.size 37 2 A2 (cntD xs ys k) c2 (sc zs) ∧ Below w.heap.size w wr) (fun _ i _ => 10 - (intOf i).toNat)
  case atStart => exact ⟨0, _, _, [], Nat.zero_le _, rfl, rfl, Row.nil _ _ _ _ _, B2.out⟩
  case round =>
    obtain ⟨k, A2, c2, zs, hk, rfl, rfl, row, hb⟩ := hrel
    have ROW := Lib.hid row; have HB := Lib.hid hb
    have hcl := cntD_le xs ys k
    have hcs : cntD xs ys (k + 1) = cntD xs ys k + (if valOf (k : Int) xs = valOf (k : Int) ys then 0 else 1) := rfl
    obtain ⟨q, hq⟩ : ∃ q, q = cntD xs ys k := ⟨_, rfl⟩
    rw [← hq] at hcl hcs ROW
    rw [← hq]
    have hsz := hb.size
    by_cases hlt : k < 10
    · have hRX := H.out.below hb
      have hRY := H'.out.below hb
      have OXK := Lib.hid (fun W (b : W = wr) => OX.out (k : Int) W (by rw [b]; exact hRX))
      have OYK := Lib.hid (fun W (b : W = wr) => OY.out (k : Int) W (by rw [b]; exact hRY))
      obtain ⟨x, hx⟩ : ∃ x, x = valOf (k : Int) xs := ⟨_, rfl⟩
      obtain ⟨y, hy⟩ : ∃ y, y = valOf (k : Int) ys := ⟨_, rfl⟩
      rw [← hx] at OXK hcs
      rw [← hy] at OYK hcs
      have HCS := Lib.hid hcs
      clear row hb hRX hRY hx hy hcs hq
      by_cases hxy : x = y
      · have hd : (x == y) = true := by simpa using hxy
        have hd' : (x != y) = false := by simp [hxy]
        have HXY := Lib.hid hxy
        clear hxy
        go_wp2_with fail
        refine (OXK.out _ rfl).mono ?_
        rintro e w3 ⟨rfl, rfl⟩
        go_wp2_with fail
        refine (OYK.out _ rfl).mono ?_
        rintro e w4 ⟨rfl, rfl⟩
        go_wp2_with fail
        go_roundw
        case rel => exact ⟨k + 1, A2, c2, zs, by omega, by go_num, by rw [HCS.out, if_pos HXY.out]; rfl, by rw [HCS.out, if_pos HXY.out]; exact ROW.out, HB.out⟩
        case measure => simp [intOf]; omega
      · have hd : (x == y) = false := by simpa using hxy
        have hd' : (x != y) = true := by simp [hxy]
        have HXY := Lib.hid hxy
        clear hxy
        go_wp2_with fail
        refine (OXK.out _ rfl).mono ?_
        rintro e w3 ⟨rfl, rfl⟩
        go_wp2_with fail
        refine (OYK.out _ rfl).mono ?_
        rintro e w4 ⟨rfl, rfl⟩
        go_wp2_with fail
        refine (OYK.out _ rfl).mono ?_
        rintro e w5 ⟨rfl, rfl⟩
        go_wp2_with (at_builtin; (refine wpList_append_row _ rfl (.tmp 27) (.tmp 33) 29 rfl w.heap.size 37 i0 (.agg #[.int .i64 0, .int .i64 0]) 2 16 Try.underlying29 i0_i i0_z0 i0_z1 i0_z2 rfl A2 q c2 (sc zs) rfl (ROW.out.alloc _) (some ⟨w5.heap.size, 0, none⟩) 1 1 [.int .i64 k, .int .i64 y] rfl rfl (Rd.two_ _ _ _ _) (two1_ _ _) (by omega) (by unfold maxLen; omega) (by omega) (by simp <;> omega) ?_))
        intro A3 c3 w6 row6 hg6 _
        have hb6 : Below w.heap.size w w6 := (HB.out.alloc hsz _).grown hg6 (by simp <;> omega) (fun y hy => (ROW.out.lt y hy).1)
        have row7 : Row w6 w.heap.size 37 2 A3 (q + 1) c3 (sc (zs ++ [((k : Int), y)])) := by rw [sc_append]; exact row6
        have B6 := Lib.hid hb6; have ROW7 := Lib.hid row7
        clear row6 hg6 hb6 row7
        go_wp2_with fail
        go_roundw
        case rel => exact ⟨k + 1, A3, c3, _, by omega, by go_num, by rw [HCS.out, if_neg HXY.out], by rw [HCS.out, if_neg HXY.out]; exact ROW7.out, B6.out⟩
        case measure => simp [intOf]; omega
    · obtain rfl : k = 10 := by omega
      have HQ := Lib.hid hq
      clear row hb hcs hq
      go_wp2_with fail
      go_ret
      exact ⟨A2, c2, by rw [HQ.out]; rfl, HB.out⟩
end Go.Proofs.Ytmphjojhfmikeaa
