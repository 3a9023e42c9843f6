/- Texts of settings: the two FormatSettings. -/
import Derived.Test.YtmphjojhfmikeaaDoorSets
import Derived.Test.YtmphjojhfmikeaaDoorDec
import Derived.Test.YtmphjojhfmikeaaDoorShelf
import Derived.Lib.Join
set_option linter.unusedVariables false
set_option linter.unusedSimpArgs false
set_option linter.unnecessarySimpa false
namespace Go.Proofs.YtmphjojhfmikeaaDoor
open Go.RowKit

/-- The pieces with commas between. -/
def comma (ps : List (List UInt8)) : List UInt8 := Lib.join ps [44]
theorem comma_nil : comma [] = [] := rfl
theorem comma_one (p : List UInt8) : comma [p] = p := by simp [comma, Lib.join, List.intercalate]
theorem comma_cons (p q : List UInt8) (ps : List (List UInt8)) : comma (p :: q :: ps) = p ++ 44 :: comma (q :: ps) := by
  simp [comma, Lib.join, List.intercalate]
theorem comma_snoc : ∀ (ps : List (List UInt8)) (p : List UInt8), ps ≠ [] → comma (ps ++ [p]) = comma ps ++ 44 :: p
  | [], p, h => absurd rfl h
  | [a], p, _ => by rw [List.singleton_append, comma_cons, comma_one, comma_one]
  | a :: b :: ps, p, _ => by
    have := comma_snoc (b :: ps) p (by simp)
    rw [List.cons_append, List.cons_append, comma_cons, ← List.cons_append, this, comma_cons]
    simp
theorem comma_len : ∀ (ps : List (List UInt8)) (m : Nat), (∀ p ∈ ps, p.length ≤ m) → (comma ps).length ≤ ps.length * (m + 1)
  | [], m, h => by simp [comma_nil]
  | [a], m, h => by rw [comma_one]; have := h a (by simp); simp; omega
  | a :: b :: ps, m, h => by
    have h1 := comma_len (b :: ps) m (fun p hp => h p (by simp only [List.mem_cons] at hp ⊢; exact .inr hp))
    have h2 := h a (by simp)
    rw [comma_cons]
    simp only [List.length_append, List.length_cons, Nat.add_mul, Nat.one_mul] at h1 ⊢
    omega
/-- The piece of one setting. -/
def setL (x : Pr) : List UInt8 := Lib.decDigits x.1.toNat ++ 61 :: Lib.decDigits x.2.toNat
def bsof (l : List UInt8) : ByteArray := ⟨l.toArray⟩
theorem bsof_size (l : List UInt8) : (bsof l).size = l.length := by simp [bsof, ByteArray.size]
theorem bsof_append (a b : List UInt8) : bsof a ++ bsof b = bsof (a ++ b) := bs_append a b
theorem dec_len (u : Nat) (h : u ≤ 1000000) : (Lib.decDigits u).length ≤ 7 := by rw [← decB_size]; exact decB_le u h
theorem setL_len (x : Pr) (h1 : x.1.toNat ≤ 1000000) (h2 : x.2.toNat ≤ 1000000) : (setL x).length ≤ 15 := by
  have := dec_len _ h1; have := dec_len _ h2
  simp only [setL, List.length_append, List.length_cons]; omega
def setsL (xs : List Pr) : List UInt8 := comma (xs.map setL)
/-- What FormatSettings returns. -/
def fmtS (xs : List Pr) : ByteArray := if validS (-1) xs then bsof (setsL xs) else bsof []
theorem setsL_snoc (xs : List Pr) (j : Nat) (h : j < xs.length) : setsL (xs.take (j + 1)) = (if j = 0 then [] else setsL (xs.take j) ++ [44]) ++ setL xs[j] := by
  unfold setsL
  rw [take_snoc xs j h, List.map_append]
  split
  · rename_i h0; subst h0; simp [comma_one]
  · rename_i h0
    have hne : (xs.take j).map setL ≠ [] := by
      intro e
      have h1 := congrArg List.length e
      rw [List.length_map, List.length_take, List.length_nil] at h1
      omega
    rw [List.map_singleton, comma_snoc _ _ hne]
    simp
theorem setsL_len (xs : List Pr) (h : validS (-1) xs = true) (j : Nat) : (setsL (xs.take j)).length ≤ 160 := by
  have h0 := validS_len xs h
  have h1 := comma_len ((xs.take j).map setL) 15 (fun p hp => by
    obtain ⟨x, hx, rfl⟩ := List.mem_map.1 hp
    have := validS_mem (-1) xs (by omega) h x (List.mem_of_mem_take hx)
    exact setL_len x (by omega) (by omega))
  rw [List.length_map, List.length_take] at h1
  unfold setsL
  have : min j xs.length ≤ 10 := by omega
  have h2 := Nat.mul_le_mul_right (15 + 1) this
  omega
set_option maxRecDepth 100000 in
set_option maxHeartbeats 2000000 in
theorem sFormat_c (xs : List Pr) (A : Option Addr) (n c : Nat) (w : World) (hN : xs.length = n) (h : Rd w A (sc xs)) (hn : n ≤ 1073741824) :
    Calls Tryd.prog 9 #[.slice A n c] w fun e w' => e = .returned (.string (fmtS xs)) ∧ Below w.heap.size w w' := by
  have HCV := Lib.hid (sValidSets_c xs A n c w hN h hn)
  have HN := Lib.hid hN; clear hN
  have H := Lib.hid h; clear h
  obtain ⟨r, hr⟩ : ∃ r, r = fmtS xs := ⟨_, rfl⟩
  rw [← hr]
  obtain ⟨v, hv⟩ : ∃ v, v = validS (-1) xs := ⟨_, rfl⟩
  rw [← hv] at HCV
  cases v
  · have hr' : r = ⟨#[]⟩ := by rw [hr]; unfold fmtS; rw [← hv]; rfl
    subst hr'
    clear hr hv
    go_enter Tryd.func9, Tryd.ntmps9
    go_wp2_with fail
    refine HCV.out.mono ?_
    rintro e w1 ⟨rfl, q, rfl⟩
    go_wp2_with fail
    go_ret
    exact ⟨rfl, below_drewN (Below.refl _ _) _⟩
  · have hr' : r = bsof (setsL xs) := by rw [hr]; unfold fmtS; rw [← hv]; rfl
    have HR := Lib.hid hr'
    have HV := Lib.hid hv.symm
    clear hr hv hr'
    go_enter Tryd.func9, Tryd.ntmps9
    go_wp2_with fail
    refine HCV.out.mono ?_
    rintro e w1 ⟨rfl, q, hq⟩
    have hb1 : Below w.heap.size w w1 := by rw [hq]; exact below_drewN (Below.refl _ _) _
    have HB1 := Lib.hid hb1
    clear hb1 hq HCV
    go_wp2_with fail
    go_loopw [3, 4] (fun o i wr => ∃ j : Nat, j ≤ n ∧ i = .int .i64 j ∧ o = .string (bsof (setsL (xs.take j))) ∧ Below w.heap.size w wr) (fun _ i _ => n - (intOf i).toNat)
    case atStart => exact ⟨0, Nat.zero_le _, rfl, rfl, HB1.out⟩
    case round =>
      clear HB1
      obtain ⟨j, hj, rfl, rfl, hb⟩ := hrel
      have HB := Lib.hid hb
      by_cases hlt : j < n
      · have hjx : j < xs.length := by have := HN.out; omega
        obtain ⟨b, off, hA, hbl, hc⟩ := sc_pair (H.out.below hb) (by omega)
        subst hA
        obtain ⟨hc1, hc2⟩ := hc j hjx
        obtain ⟨⟨x, y⟩, hX⟩ : ∃ x, x = xs[j] := ⟨_, rfl⟩
        have hmem := validS_mem (-1) xs (by omega) HV.out _ (List.getElem_mem hjx)
        have hst := setsL_snoc xs j hjx
        rw [← hX] at hc1 hc2 hmem hst
        obtain ⟨⟨hx0, hx1⟩, hy0, hy1⟩ := hmem
        simp only at hx0 hx1 hy0 hy1
        obtain ⟨x, rfl⟩ := Int.eq_ofNat_of_zero_le hx0
        obtain ⟨y, rfl⟩ := Int.eq_ofNat_of_zero_le hy0
        simp only at hc1 hc2
        obtain ⟨O, hO⟩ : ∃ O, O = bsof (setsL (xs.take j)) := ⟨_, rfl⟩
        obtain ⟨DA, hDA⟩ : ∃ D, D = decB x := ⟨_, rfl⟩
        obtain ⟨DB, hDB⟩ : ∃ D, D = decB y := ⟨_, rfl⟩
        have hos : O.size ≤ 160 := by rw [hO, bsof_size]; exact setsL_len xs HV.out j
        have hda : DA.size ≤ 7 := by rw [hDA]; exact decB_le x (by omega)
        have hdb : DB.size ≤ 7 := by rw [hDB]; exact decB_le y (by omega)
        have hcA := decimal_c x (by omega)
        have hcB := decimal_c y (by omega)
        rw [← hDA] at hcA
        rw [← hDB] at hcB
        have HCA := Lib.hid hcA; have HCB := Lib.hid hcB
        have hnext : ∀ P, P = (if j = 0 then O else O ++ ⟨#[44]⟩) → bsof (setsL (xs.take (j + 1))) = P ++ DA ++ (⟨#[61]⟩ : ByteArray) ++ DB := by
          intro P hP
          rw [hst, hP, hO, hDA, hDB]
          show bsof _ = _ ++ bsof _ ++ bsof [61] ++ bsof _
          split
          · rename_i h0
            subst h0
            simp [bsof_append, setsL, comma_nil, setL]
          · show bsof _ = bsof _ ++ bsof [44] ++ bsof _ ++ bsof [61] ++ bsof _
            simp [bsof_append, setL]
        have HNX0 := Lib.hid hnext
        rw [← hO]
        clear hnext hst hX hcA hcB hDA hDB hb hc hO
        rcases Nat.eq_zero_or_pos j with h0 | h0
        · subst h0
          obtain ⟨P, hP⟩ : ∃ P, P = O := ⟨_, rfl⟩
          have HNX := Lib.hid (HNX0.out P hP)
          have hps : P.size ≤ 161 := by rw [hP]; omega
          rw [← hP]
          clear hP HNX0 hos
          rw [Nat.zero_mul, Nat.add_zero] at hc1 hc2
          go_wp2_with fail
          have hz1 : ¬ 9223372036854775807 < P.size + DA.size := by omega
          have hz2 : ¬ 9223372036854775807 < P.size + DA.size + 1 := by omega
          have hz2' : ¬ 9223372036854775807 ≤ P.size + DA.size := by omega
          have hz3 : ¬ 9223372036854775807 < P.size + DA.size + 1 + DB.size := by omega
          go_region_held3 (fun w' => w'.cell? ⟨b, off, none⟩ = some (.int .i64 x) ∧ w'.cell? ⟨b, off + 1, none⟩ = some (.int .i64 y)) (go_keep) ((first
            | (go_at_call 22; (with_reducible refine (HCA.out _).mono ?_); rintro e wA ⟨rfl, bA⟩; have k1 := (bA.cell (p := ⟨b, off, none⟩) hbl).trans hc1; have k2 := (bA.cell (p := ⟨b, off + 1, none⟩) hbl).trans hc2)
            | (go_at_call 22; (with_reducible refine (HCB.out _).mono ?_); rintro e wB ⟨rfl, bB⟩; have k3 := (bB.cell (p := ⟨b, off, none⟩) (Nat.lt_of_lt_of_le hbl bA.size)).trans k1; have k4 := (bB.cell (p := ⟨b, off + 1, none⟩) (Nat.lt_of_lt_of_le hbl bA.size)).trans k2)))
          all_goals
            have bel : Below w.heap.size w wB := HB.out.trans (((arm_drew bA).1.trans (bB.mono (arm_drew bA).2)).mono HB.out.size)
            have BEL := Lib.hid bel
            clear bel bA bB
            go_wp2_with fail
            go_roundw
            case rel => exact ⟨0 + 1, by omega, by go_num, by rw [HNX.out], BEL.out⟩
            case measure => simp [intOf]; omega
        · have hj1 : decide ((0 : Int) < (j : Int)) = true := decide_eq_true (by omega)
          have hj2 : decide (0 < j) = true := decide_eq_true h0
          have hz0 : ¬ 9223372036854775807 < O.size + 1 := by omega
          have hz0' : ¬ 9223372036854775807 ≤ O.size := by omega
          obtain ⟨P, hP⟩ : ∃ P, P = O ++ ⟨#[44]⟩ := ⟨_, rfl⟩
          have HNX := Lib.hid (HNX0.out P (by rw [hP, if_neg (by omega)]))
          have hps : P.size ≤ 161 := by rw [hP, ByteArray.size_append]; show _ + 1 ≤ _; omega
          go_wp2_with fail
          rw [← hP]
          clear hP HNX0 hos hz0 hz0'
          have hz1 : ¬ 9223372036854775807 < P.size + DA.size := by omega
          have hz2 : ¬ 9223372036854775807 < P.size + DA.size + 1 := by omega
          have hz2' : ¬ 9223372036854775807 ≤ P.size + DA.size := by omega
          have hz3 : ¬ 9223372036854775807 < P.size + DA.size + 1 + DB.size := by omega
          go_region_held3 (fun w' => w'.cell? ⟨b, off + j * 2, none⟩ = some (.int .i64 x) ∧ w'.cell? ⟨b, off + j * 2 + 1, none⟩ = some (.int .i64 y)) (go_keep) ((first
            | (go_at_call 22; (with_reducible refine (HCA.out _).mono ?_); rintro e wA ⟨rfl, bA⟩; have k1 := (bA.cell (p := ⟨b, off + j * 2, none⟩) hbl).trans hc1; have k2 := (bA.cell (p := ⟨b, off + j * 2 + 1, none⟩) hbl).trans hc2)
            | (go_at_call 22; (with_reducible refine (HCB.out _).mono ?_); rintro e wB ⟨rfl, bB⟩; have k3 := (bB.cell (p := ⟨b, off + j * 2, none⟩) (Nat.lt_of_lt_of_le hbl bA.size)).trans k1; have k4 := (bB.cell (p := ⟨b, off + j * 2 + 1, none⟩) (Nat.lt_of_lt_of_le hbl bA.size)).trans k2)))
          all_goals
            have bel : Below w.heap.size w wB := HB.out.trans (((arm_drew bA).1.trans (bB.mono (arm_drew bA).2)).mono HB.out.size)
            have BEL := Lib.hid bel
            clear bel bA bB
            go_wp2_with fail
            go_roundw
            case rel => exact ⟨j + 1, by omega, by go_num, by rw [HNX.out], BEL.out⟩
            case measure => simp [intOf]; omega
      · obtain rfl : j = n := by omega
        have hr2 : r = bsof (setsL (xs.take j)) := by rw [HR.out, List.take_of_length_le (by rw [HN.out]; exact Nat.le_refl _)]
        rw [← hr2]
        clear hr2 hb
        go_wp2_with fail
        go_ret
        exact ⟨rfl, HB.out⟩
theorem cell_new2 (w : World) (o : Obj) (cs : Array Value) (t : TypeId) (j : Nat) : ((w.alloc o).alloc (.cells cs t)).cell? ⟨w.heap.size + 1, j, none⟩ = cs[j]? := by
  have := cell_new (w.alloc o) cs t j
  simpa using this
/-- The cells of pieces. -/
def strs (ps : List (List UInt8)) : List Value := ps.map fun p => .string (bsof p)
theorem strs_one (ps : List (List UInt8)) : ∀ u ∈ strs ps, u.oneCell' = true := fun u hu => by
  obtain ⟨_, _, rfl⟩ := List.mem_map.1 hu
  rfl
theorem strInfo : (Tryd.prog.info? 9).map (fun i => (i.zero, i.size, i.bytes)) = some (some (.string ByteArray.empty), 1, 16) := by kernel_rfl
/-- strings.Join with commas, whatever the slice. -/
theorem join_c (ps : List (List UInt8)) (A : Option Addr) (n c : Nat) (w : World) (hN : ps.length = n) (hc : n ≤ c) (h : Rd w A (strs ps)) (hn : n ≤ 1073741824) (hl : (comma ps).length ≤ 1073741824) :
    Calls Tryd.prog 25 #[.slice A n c, .string ⟨#[44]⟩] w fun e w' => e = .returned (.string (bsof (comma ps))) ∧ Below w.heap.size w w' := by
  have e1 : (ps.map bsof).map (·.data.toList) = ps := by
    rw [List.map_map]
    conv => rhs; rw [← List.map_id ps]
    exact List.map_congr_left fun p _ => rfl
  rcases Nat.eq_zero_or_pos n with h0 | h0
  · subst h0
    have hps : ps = [] := List.eq_nil_of_length_eq_zero hN
    subst hps
    exact (Tryd.strings_Join_none A c ⟨#[44]⟩ w).mono fun e w' ⟨he, hw⟩ => ⟨he, hw ▸ Below.refl _ _⟩
  · obtain ⟨b, off, rfl, hlt, hcell⟩ := h.block (by simp [strs]; omega)
    have := Tryd.strings_Join b off c (ps.map bsof) ⟨#[44]⟩ w (fun j x hx => by
      refine hcell j _ ?_
      rw [List.getElem?_map] at hx
      unfold strs
      rw [List.getElem?_map]
      cases hp : ps[j]? with
      | none => rw [hp] at hx; cases hx
      | some p => rw [hp] at hx; simp at hx; rw [← hx]; rfl) hlt (by rw [List.length_map]; omega) (by rw [List.length_map]; omega) (by
        rw [e1]
        exact Nat.le_trans hl (by omega))
    rw [e1, List.length_map, hN] at this
    exact this
set_option maxRecDepth 100000 in
set_option maxHeartbeats 4000000 in
theorem format_c (xs : List Pr) (A : Option Addr) (n c : Nat) (w : World) (hN : xs.length = n) (h : Rd w A (sc xs)) (hn : n ≤ 1073741824) :
    Calls Tryd.prog 11 #[.slice A n c] w fun e w' => e = .returned (.string (fmtS xs)) ∧ Below w.heap.size w w' := by
  obtain ⟨i0, i0_i, i0_z0, i0_z1, i0_z2⟩ := info_parts strInfo
  have HCV := Lib.hid (validSets_c xs A n c w hN h hn)
  have HN := Lib.hid hN; clear hN
  have H := Lib.hid h; clear h
  obtain ⟨r, hr⟩ : ∃ r, r = fmtS xs := ⟨_, rfl⟩
  rw [← hr]
  obtain ⟨v, hv⟩ : ∃ v, v = validS (-1) xs := ⟨_, rfl⟩
  rw [← hv] at HCV
  cases v
  · have hr' : r = ⟨#[]⟩ := by rw [hr]; unfold fmtS; rw [← hv]; rfl
    subst hr'
    clear hr hv
    go_enter Tryd.func11, Tryd.ntmps11
    go_wp2_with fail
    refine HCV.out.mono ?_
    rintro e w1 ⟨rfl, b1⟩
    go_wp2_with fail
    go_ret
    exact ⟨rfl, b1⟩
  · have hr' : r = bsof (setsL xs) := by rw [hr]; unfold fmtS; rw [← hv]; rfl
    have HR := Lib.hid hr'
    have HV := Lib.hid hv.symm
    clear hr hv hr'
    have hn10 : n ≤ 10 := by rw [← HN.out]; exact validS_len xs HV.out
    go_enter Tryd.func11, Tryd.ntmps11
    go_wp2_with fail
    refine HCV.out.mono ?_
    rintro e w1 ⟨rfl, b1⟩
    have HB1 := Lib.hid b1
    clear b1 HCV
    go_wp2_with fail
    go_loopw [3, 11] (fun p i wr => ∃ (j : Nat) (A2 : Option Addr) (c2 : Nat), j ≤ n ∧ i = .int .i64 j ∧ p = .slice A2 j c2 ∧ Row wr w.heap.size 9 1 A2 j c2 (strs ((xs.take j).map setL)) ∧ Below w.heap.size w wr) (fun _ i _ => n - (intOf i).toNat)
    case atStart => exact ⟨0, none, 0, Nat.zero_le _, rfl, rfl, Row.nil _ _ _ _ _, HB1.out⟩
    case round =>
      clear HB1
      obtain ⟨j, A2, c2, hj, rfl, rfl, row, hb⟩ := hrel
      have HB := Lib.hid hb; have ROW := Lib.hid row
      have hsz := hb.size
      by_cases hlt : j < n
      · have hjx : j < xs.length := by have := HN.out; omega
        obtain ⟨b, off, hA, hbl, hc⟩ := sc_pair (H.out.below hb) (by omega)
        subst hA
        obtain ⟨hc1, hc2⟩ := hc j hjx
        obtain ⟨⟨x, y⟩, hX⟩ : ∃ x, x = xs[j] := ⟨_, rfl⟩
        have hmem := validS_mem (-1) xs (by omega) HV.out _ (List.getElem_mem hjx)
        rw [← hX] at hc1 hc2 hmem
        obtain ⟨⟨hx0, hx1⟩, hy0, hy1⟩ := hmem
        simp only at hx0 hx1 hy0 hy1
        obtain ⟨x, rfl⟩ := Int.eq_ofNat_of_zero_le hx0
        obtain ⟨y, rfl⟩ := Int.eq_ofNat_of_zero_le hy0
        simp only at hc1 hc2
        obtain ⟨DA, hDA⟩ : ∃ D, D = decB x := ⟨_, rfl⟩
        obtain ⟨DB, hDB⟩ : ∃ D, D = decB y := ⟨_, rfl⟩
        have hda : DA.size ≤ 7 := by rw [hDA]; exact decB_le x (by omega)
        have hdb : DB.size ≤ 7 := by rw [hDB]; exact decB_le y (by omega)
        have hcA : ∀ W : World, Calls Tryd.prog 24 #[.int .i64 x] W fun e w' => e = .returned (.string DA) ∧ w' = W := fun W => by rw [hDA]; exact Tryd.strconv_Itoa_small x (by omega) W
        have hcB : ∀ W : World, Calls Tryd.prog 24 #[.int .i64 y] W fun e w' => e = .returned (.string DB) ∧ w' = W := fun W => by rw [hDB]; exact Tryd.strconv_Itoa_small y (by omega) W
        have HCA := Lib.hid hcA; have HCB := Lib.hid hcB
        have hnext : DA ++ (⟨#[61]⟩ : ByteArray) ++ DB = bsof (setL xs[j]) := by
          rw [hDA, hDB, ← hX]
          show bsof _ ++ bsof [61] ++ bsof _ = _
          simp [bsof_append, setL]
        have HNX := Lib.hid hnext
        have hz1 : ¬ 9223372036854775807 < DA.size + 1 := by omega
        have hz1' : ¬ 9223372036854775807 ≤ DA.size := by omega
        have hz2 : ¬ 9223372036854775807 < DA.size + 1 + DB.size := by omega
        have hlt2 : ∀ k, rb A2 c2 = some k → k < wr.heap.size := fun k hk => (row.lt k hk).2
        have HLT2 := Lib.hid hlt2
        clear hnext hX hcA hcB hDA hDB hb hc row hlt2
        go_wp2_with fail
        go_region_held3 (fun w' => w'.cell? ⟨wr.heap.size, 0, none⟩ = some (.int .i64 x) ∧ w'.cell? ⟨wr.heap.size, 1, none⟩ = some (.int .i64 y)) (first | go_keep | exact ⟨hg3.cell (by go_simp) (fun e => absurd (HLT2.out _ e.symm) (Nat.lt_irrefl _)), hg3.cell (by go_simp) (fun e => absurd (HLT2.out _ e.symm) (Nat.lt_irrefl _))⟩) ((first
          | (go_at_call 24; (with_reducible refine (HCA.out _).mono ?_); rintro e wA ⟨rfl, rfl⟩)
          | (go_at_call 24; (with_reducible refine (HCB.out _).mono ?_); rintro e wB ⟨rfl, rfl⟩)
          | (refine step_append_row _ (by rfl) (.tmp 15) (.tmp 24) 43 (by rfl) w.heap.size 9 i0 (.string ByteArray.empty) 1 16 Tryd.underlying43 i0_i i0_z0 i0_z1 i0_z2 rfl A2 j c2 (strs ((xs.take j).map setL)) (by rfl) ((ROW.out.alloc _).alloc _).drew (some ⟨wr.heap.size + 1, 0, none⟩) 1 1 [.string (DA ++ (⟨#[61]⟩ : ByteArray) ++ DB)] (by rfl) rfl (Rd.one (cell_new2 wr (.cells #[.int .i64 x, .int .i64 y] 40) #[.string (DA ++ (⟨#[61]⟩ : ByteArray) ++ DB)] 9 0)) (one1 _ rfl) (by omega) (by unfold maxLen; omega) (by omega) (by simp <;> omega) ?_; intro A3 c3 w3 row3 hg3 hat3)
          | fail))
        all_goals
          have b3 : Below w.heap.size w w3 := (((HB.out.alloc hsz _).alloc (by simp <;> omega) _).drew).grown hg3 (by simp <;> omega) (fun y hy => (ROW.out.lt y hy).1)
          have hst : strs ((xs.take j).map setL) ++ [.string (DA ++ (⟨#[61]⟩ : ByteArray) ++ DB)] = strs ((xs.take (j + 1)).map setL) := by
            rw [HNX.out, take_snoc xs j hjx, List.map_append]; unfold strs; rw [List.map_append]; rfl
          rw [hst] at row3
          have B3 := Lib.hid b3; have ROW3 := Lib.hid row3
          clear hst hg3 hat3 b3 row3
          go_wp2_with fail
          go_roundw
          case rel => exact ⟨j + 1, A3, c3, by omega, by go_num, rfl, ROW3.out, B3.out⟩
          case measure => simp [intOf]; omega
      · obtain rfl : j = n := by omega
        have hxe : xs.take j = xs := List.take_of_length_le (by rw [HN.out]; exact Nat.le_refl _)
        rw [hxe] at row
        have hle := setsL_len xs HV.out j
        rw [hxe] at hle
        have hr2 : r = bsof (comma (xs.map setL)) := HR.out
        have HJ := Lib.hid (join_c (xs.map setL) A2 j c2 wr (by rw [List.length_map, HN.out]) row.le row.rd (by omega) (by unfold setsL at hle; omega))
        rw [← hr2] at HJ
        clear hr2 hb hxe row hle ROW
        go_wp2_with fail
        refine HJ.out.mono ?_
        rintro e w2 ⟨rfl, b2⟩
        go_wp2_with fail
        go_ret
        exact ⟨rfl, HB.out.trans (b2.mono hsz)⟩
end Go.Proofs.YtmphjojhfmikeaaDoor
