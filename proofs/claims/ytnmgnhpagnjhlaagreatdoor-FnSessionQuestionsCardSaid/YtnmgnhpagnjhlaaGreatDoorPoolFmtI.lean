/- Texts of pools: the program's FormatPool. -/
import Derived.Test.YtnmgnhpagnjhlaaGreatDoorPoolFmt
set_option linter.unusedVariables false
set_option linter.unusedSimpArgs false
set_option linter.unnecessarySimpa false
namespace Go.Proofs.YtnmgnhpagnjhlaaGreatDoor
open Go.RowKit

set_option maxRecDepth 100000 in
set_option maxHeartbeats 8000000 in
theorem formatPool_c (mx : Int) (ids : List Int) (hs : List Pr) (wt : List Int) (A : Option Addr) (n c : Nat) (B : Option Addr) (m d : Nat) (C : Option Addr) (k f : Nat) (w : World) (hA : ids.length = n) (hB : hs.length = m) (hC : wt.length = k)
    (h1 : Rd w A (ids.map (.int .i64))) (h2 : Rd w B (sc hs)) (h3 : Rd w C (wt.map (.int .i64))) (l1 : n ≤ 1073741824) (l2 : m ≤ 1073741824) (l3 : k ≤ 1073741824) (hcA : n ≤ c) :
    Calls Tryz.prog 12 #[.agg #[.int .i64 mx, .slice A n c, .slice B m d, .slice C k f]] w fun e w' => e = .returned (.string (Pl.fmt ⟨mx, ids, hs, wt⟩)) ∧ Below w.heap.size w w' := by
  obtain ⟨i0, i0_i, i0_z0, i0_z1, i0_z2⟩ := info_parts strInfo
  have HV := Lib.hid (fun W q1 q2 q3 => validPool_c mx ids hs wt A n c B m d C k f W hA hB hC q1 q2 q3 l1 l2 l3 hcA)
  obtain ⟨r, hr⟩ : ∃ r, r = Pl.fmt ⟨mx, ids, hs, wt⟩ := ⟨_, rfl⟩
  rw [← hr]
  obtain ⟨v, hv⟩ : ∃ v, v = Pl.valid ⟨mx, ids, hs, wt⟩ := ⟨_, rfl⟩
  rw [← hv] at HV
  cases v
  · have hr' : r = ⟨#[]⟩ := by rw [hr]; unfold Pl.fmt; rw [← hv]; rfl
    subst hr'
    clear hr hv
    obtain ⟨w1, hw1⟩ : ∃ w1, w1 = w.alloc (.cells #[.int .i64 mx, .slice A n c, .slice B m d, .slice C k f] 26) := ⟨_, rfl⟩
    have hg : w1.heap.size = w.heap.size + 1 := by rw [hw1]; simp
    have H1 := Lib.hid (show Rd w1 A _ by rw [hw1]; exact h1.alloc _)
    have H2 := Lib.hid (show Rd w1 B _ by rw [hw1]; exact h2.alloc _)
    have H3 := Lib.hid (show Rd w1 C _ by rw [hw1]; exact h3.alloc _)
    have BX := Lib.hid (show Blk w1 w.heap.size 26 #[.int .i64 mx, .slice A n c, .slice B m d, .slice C k f] by rw [hw1]; exact Blk.new w _ _)
    have B01 := Lib.hid (show Below w.heap.size w w1 by rw [hw1]; exact (Below.refl _ _).alloc (Nat.le_refl _) _)
    have FIN := Lib.hid (fun (W : World) (hW : Below (w.heap.size + 1) w1 W) => (B01.out.trans (hW.mono (Nat.le_succ _)) : Below w.heap.size w W))
    clear h1 h2 h3
    go_enter Tryz.func12, Tryz.ntmps12
    go_wp2_with fail
    rw [← hw1]
    clear hw1
    refine (HV.out _ H1.out H2.out H3.out).mono ?_
    rintro e w2 ⟨rfl, b2⟩
    go_wp2_with fail
    go_ret
    exact ⟨rfl, FIN.out _ (b2.mono (by omega))⟩
  · have hgood := of_decide_eq_true (p := Pl.Good ⟨mx, ids, hs, wt⟩) hv.symm
    have hr' : r = bsof (Pl.text ⟨mx, ids, hs, wt⟩) := by rw [hr]; unfold Pl.fmt; rw [← hv]; rfl
    clear hr hv
    obtain ⟨e1, e2⟩ := hgood.small
    simp only at e1 e2
    rw [hA, hB] at e1
    rw [hC] at e2
    have n1 : n ≤ 1000 := by omega
    have n2 : m ≤ 1000 := by omega
    have n3 : k ≤ 1000 := by omega
    have s1 : smallI ids := hgood.smallIds
    have s2 : smallH hs := hgood.smallHs
    have s3 : smallI wt := hgood.smallWt
    have hmx := hgood.2.2.1
    simp only at hmx
    obtain ⟨u, rfl⟩ := Int.eq_ofNat_of_zero_le (show 0 ≤ mx by omega)
    obtain ⟨DM, hDM⟩ : ∃ D, D = decB u := ⟨_, rfl⟩
    obtain ⟨LA, hLA⟩ : ∃ D, D = bsof (listL ids) := ⟨_, rfl⟩
    obtain ⟨LB, hLB⟩ : ∃ D, D = bsof (holdsL hs) := ⟨_, rfl⟩
    obtain ⟨LC, hLC⟩ : ∃ D, D = bsof (listL wt) := ⟨_, rfl⟩
    have t0 : DM.size ≤ 7 := by rw [hDM]; exact decB_le u (by omega)
    have t1 : LA.size ≤ 16000 := by rw [hLA]; exact listL_size s1 (by omega)
    have t2 : LB.size ≤ 16000 := by rw [hLB]; exact holdsL_size s2 (by omega)
    have t3 : LC.size ≤ 16000 := by rw [hLC]; exact listL_size s3 (by omega)
    have hres := hr'
    rw [text_parts, Int.toNat_natCast, ← hDM, ← hLA, ← hLB, ← hLC] at hres
    have HRES := Lib.hid hres
    have HCM : Hid (∀ W : World, Calls Tryz.prog 30 #[.int .i64 u] W fun e w' => e = .returned (.string DM) ∧ w' = W) := fun W => by rw [hDM]; exact Tryz.strconv_Itoa_small u (by omega) W
    have HCA := Lib.hid (fun W hW => commas_c ids A n c W hA hW n1 s1)
    have HCC := Lib.hid (fun W hW => commas_c wt C k f W hC hW n3 s3)
    rw [← hLA] at HCA
    rw [← hLC] at HCC
    have S2 := Lib.hid s2
    have HLB := Lib.hid hLB
    have hn10 : m ≤ 10 := by omega
    have HB := Lib.hid hB
    have HJL := Lib.hid (comma_le holdL hs m (by omega) (fun x hx => holdL_le (s2 x hx)) m)
    clear hr' hres hDM hLA hLB hLC s1 s2 s3 e1 e2 hgood
    obtain ⟨w1, hw1⟩ : ∃ w1, w1 = w.alloc (.cells #[.int .i64 u, .slice A n c, .slice B m d, .slice C k f] 26) := ⟨_, rfl⟩
    have hg : w1.heap.size = w.heap.size + 1 := by rw [hw1]; simp
    have H1 := Lib.hid (show Rd w1 A _ by rw [hw1]; exact h1.alloc _)
    have H2 := Lib.hid (show Rd w1 B _ by rw [hw1]; exact h2.alloc _)
    have H3 := Lib.hid (show Rd w1 C _ by rw [hw1]; exact h3.alloc _)
    have BX := Lib.hid (show Blk w1 w.heap.size 26 #[.int .i64 u, .slice A n c, .slice B m d, .slice C k f] by rw [hw1]; exact Blk.new w _ _)
    have B01 := Lib.hid (show Below w.heap.size w w1 by rw [hw1]; exact (Below.refl _ _).alloc (Nat.le_refl _) _)
    have FIN := Lib.hid (fun (W : World) (hW : Below (w.heap.size + 1) w1 W) => (B01.out.trans (hW.mono (Nat.le_succ _)) : Below w.heap.size w W))
    clear h1 h2 h3
    have hgl : w.heap.size < w1.heap.size := by omega
    go_enter Tryz.func12, Tryz.ntmps12
    go_wp2_with fail
    rw [← hw1]
    clear hw1
    refine (HV.out _ H1.out H2.out H3.out).mono ?_
    rintro e w2 ⟨rfl, b2⟩
    obtain ⟨k0, k1, k2, k3, _⟩ := blk4 (BX.out.below b2 hgl)
    have HB1 := Lib.hid b2
    clear b2 HV
    go_wp2_with fail
    clear k0 k1 k2 k3
    go_loopw [3, 12] (fun p i wr => ∃ (j : Nat) (A4 : Option Addr) (c4 : Nat), j ≤ m ∧ i = .int .i64 j ∧ p = .slice A4 j c4 ∧ Row wr w1.heap.size 9 1 A4 j c4 (strs ((hs.take j).map holdL)) ∧ Below w1.heap.size w1 wr) (fun _ i _ => m - (intOf i).toNat)
    case atStart => exact ⟨0, none, 0, Nat.zero_le _, rfl, rfl, Row.nil _ _ _ _ _, HB1.out⟩
    case round =>
      clear HB1
      obtain ⟨j, A4, c4, hj, rfl, rfl, row, hb⟩ := hrel
      have HBB := Lib.hid hb; have ROW := Lib.hid row
      have hsz := hb.size
      by_cases hlt : j < m
      · have hjx : j < hs.length := by have := HB.out; omega
        obtain ⟨b, off, hA, hbl, hc⟩ := sc_pair (H2.out.below hb) (by omega)
        subst hA
        obtain ⟨hc1, hc2⟩ := hc j hjx
        obtain ⟨⟨x, y⟩, hX⟩ : ∃ x, x = hs[j] := ⟨_, rfl⟩
        have hmem := S2.out _ (List.getElem_mem hjx)
        rw [← hX] at hc1 hc2 hmem
        obtain ⟨⟨hx0, hx1⟩, hy0, hy1⟩ := hmem
        simp only at hx0 hx1 hy0 hy1
        obtain ⟨x, rfl⟩ := Int.eq_ofNat_of_zero_le hx0
        obtain ⟨y, rfl⟩ := Int.eq_ofNat_of_zero_le hy0
        simp only at hc1 hc2
        obtain ⟨DA, hDA⟩ : ∃ D, D = decB x := ⟨_, rfl⟩
        obtain ⟨DB, hDB⟩ : ∃ D, D = decB y := ⟨_, rfl⟩
        have hda : DA.size ≤ 7 := by rw [hDA]; exact decB_le x (by omega)
        have hdb : DB.size ≤ 7 := by rw [hDB]; exact decB_le y (by omega)
        have hcA : ∀ W : World, Calls Tryz.prog 30 #[.int .i64 x] W fun e w' => e = .returned (.string DA) ∧ w' = W := fun W => by rw [hDA]; exact Tryz.strconv_Itoa_small x (by omega) W
        have hcB : ∀ W : World, Calls Tryz.prog 30 #[.int .i64 y] W fun e w' => e = .returned (.string DB) ∧ w' = W := fun W => by rw [hDB]; exact Tryz.strconv_Itoa_small y (by omega) W
        have HCA := Lib.hid hcA; have HCB := Lib.hid hcB
        have hnext : DA ++ (⟨#[58]⟩ : ByteArray) ++ DB = bsof (holdL hs[j]) := by
          rw [hDA, hDB, ← hX]
          show bsof _ ++ bsof [58] ++ bsof _ = _
          simp [bsof_append, holdL]
        have HNX := Lib.hid hnext
        have hz1 : ¬ 9223372036854775807 < DA.size + 1 := by omega
        have hz1' : ¬ 9223372036854775807 ≤ DA.size := by omega
        have hz2 : ¬ 9223372036854775807 < DA.size + 1 + DB.size := by omega
        have hlt2 : ∀ k, rb A4 c4 = some k → k < wr.heap.size := fun k hk => (row.lt k hk).2
        have HLT2 := Lib.hid hlt2
        clear hnext hX hcA hcB hDA hDB hb hc row hlt2
        go_wp2_with fail
        go_region_held3 (fun w' => w'.cell? ⟨wr.heap.size, 0, none⟩ = some (.int .i64 x) ∧ w'.cell? ⟨wr.heap.size, 1, none⟩ = some (.int .i64 y)) (first | go_keep | exact ⟨hg3.cell (by go_simp) (fun e => absurd (HLT2.out _ e.symm) (Nat.lt_irrefl _)), hg3.cell (by go_simp) (fun e => absurd (HLT2.out _ e.symm) (Nat.lt_irrefl _))⟩) ((first
          | (go_at_call 30; (with_reducible refine (HCA.out _).mono ?_); rintro e wA ⟨rfl, rfl⟩)
          | (go_at_call 30; (with_reducible refine (HCB.out _).mono ?_); rintro e wB ⟨rfl, rfl⟩)
          | (refine step_append_row _ (by rfl) (.tmp 16) (.tmp 25) 37 (by rfl) w1.heap.size 9 i0 (.string ByteArray.empty) 1 16 Tryz.underlying37 i0_i i0_z0 i0_z1 i0_z2 rfl A4 j c4 (strs ((hs.take j).map holdL)) (by rfl) ((ROW.out.alloc _).alloc _).drew (some ⟨wr.heap.size + 1, 0, none⟩) 1 1 [.string (DA ++ (⟨#[58]⟩ : ByteArray) ++ DB)] (by rfl) rfl (Rd.one (cell_new2 wr (.cells #[.int .i64 x, .int .i64 y] 48) #[.string (DA ++ (⟨#[58]⟩ : ByteArray) ++ DB)] 9 0)) (one1 _ rfl) (by omega) (by unfold maxLen; omega) (by omega) (by simp <;> omega) ?_; intro A3 c3 w3 row3 hg3 hat3)
          | fail))
        all_goals
          have b3 : Below w1.heap.size w1 w3 := (((HBB.out.alloc hsz _).alloc (by simp <;> omega) _).drew).grown hg3 (by simp <;> omega) (fun y hy => (ROW.out.lt y hy).1)
          have hst : strs ((hs.take j).map holdL) ++ [.string (DA ++ (⟨#[58]⟩ : ByteArray) ++ DB)] = strs ((hs.take (j + 1)).map holdL) := by
            rw [HNX.out, take_snoc hs j hjx, List.map_append]; unfold strs; rw [List.map_append]; rfl
          rw [hst] at row3
          have B3 := Lib.hid b3; have ROW3 := Lib.hid row3
          clear hst hg3 hat3 b3 row3
          go_wp2_with fail
          go_roundw
          case rel => exact ⟨j + 1, A3, c3, by omega, by go_num, rfl, ROW3.out, B3.out⟩
          case measure => simp [intOf]; omega
      · obtain rfl : j = m := by omega
        have hxe : hs.take j = hs := List.take_of_length_le (by rw [HB.out]; exact Nat.le_refl _)
        rw [hxe] at row
        have hle := HJL.out
        rw [hxe] at hle
        have HJ := Lib.hid (fun W (hW : Rd W A4 (strs (hs.map holdL))) => join_c (hs.map holdL) A4 j c4 W (by rw [List.length_map, HB.out]) row.le hW (by omega) (by omega))
        have HLB' : bsof (comma (hs.map holdL)) = LB := HLB.out.symm
        rw [HLB'] at HJ
        have HRS := Lib.hid row.rd
        have HIA := Lib.hid (H1.out.below hb); have HIC := Lib.hid (H3.out.below hb)
        obtain ⟨k0, k1, k2, k3, _⟩ := blk4 (BX.out.below hb hgl)
        have z1 : ¬ 9223372036854775807 < DM.size + 1 := by omega
        have z1' : ¬ 9223372036854775807 ≤ DM.size := by omega
        have z2 : ¬ 9223372036854775807 < DM.size + 1 + LA.size := by omega
        have z3 : ¬ 9223372036854775807 < DM.size + 1 + LA.size + 1 := by omega
        have z3' : ¬ 9223372036854775807 ≤ DM.size + 1 + LA.size := by omega
        have z4 : ¬ 9223372036854775807 < DM.size + 1 + LA.size + 1 + LB.size := by omega
        have z5 : ¬ 9223372036854775807 < DM.size + 1 + LA.size + 1 + LB.size + 1 := by omega
        have z5' : ¬ 9223372036854775807 ≤ DM.size + 1 + LA.size + 1 + LB.size := by omega
        have z6 : ¬ 9223372036854775807 < DM.size + 1 + LA.size + 1 + LB.size + 1 + LC.size := by omega
        clear hb hxe row hle ROW HLB'
        have hgl : w.heap.size < wr.heap.size := Nat.lt_of_lt_of_le hgl HBB.out.size
        go_wp2_with fail
        go_region_held3 (fun w' => w'.cell? ⟨w.heap.size, 0, none⟩ = some (.int .i64 u) ∧ w'.cell? ⟨w.heap.size, 1, none⟩ = some (.slice A n c) ∧ w'.cell? ⟨w.heap.size, 2, none⟩ = some (.slice B j d) ∧ w'.cell? ⟨w.heap.size, 3, none⟩ = some (.slice C k f)) (go_keep) ((first
          | (go_at_call 30; (with_reducible refine (HCM.out _).mono ?_); rintro e wA ⟨rfl, rfl⟩)
          | (go_at_call 31; (with_reducible refine (HCA.out _ (HIA.out.drew)).mono ?_); rintro e wB ⟨rfl, bB⟩; have BB := Lib.hid (arm_drew bB).1; have kb0 := (BB.out.cell (p := ⟨w.heap.size, 0, none⟩) hgl).trans k0; have kb1 := (BB.out.cell (p := ⟨w.heap.size, 1, none⟩) hgl).trans k1; have kb2 := (BB.out.cell (p := ⟨w.heap.size, 2, none⟩) hgl).trans k2; have kb3 := (BB.out.cell (p := ⟨w.heap.size, 3, none⟩) hgl).trans k3)
          | (go_at_call 32; (with_reducible refine (HJ.out _ (HRS.out.below BB.out)).mono ?_); rintro e wC ⟨rfl, bC⟩; have BC := Lib.hid (BB.out.trans (bC.mono BB.out.size)); have kc0 := (BC.out.cell (p := ⟨w.heap.size, 0, none⟩) hgl).trans k0; have kc1 := (BC.out.cell (p := ⟨w.heap.size, 1, none⟩) hgl).trans k1; have kc2 := (BC.out.cell (p := ⟨w.heap.size, 2, none⟩) hgl).trans k2; have kc3 := (BC.out.cell (p := ⟨w.heap.size, 3, none⟩) hgl).trans k3)
          | (go_at_call 31; (with_reducible refine (HCC.out _ (HIC.out.below BC.out)).mono ?_); rintro e wD ⟨rfl, bD⟩; have BD := Lib.hid (BC.out.trans (bD.mono BC.out.size)); have kd0 := (BD.out.cell (p := ⟨w.heap.size, 0, none⟩) hgl).trans k0; have kd1 := (BD.out.cell (p := ⟨w.heap.size, 1, none⟩) hgl).trans k1; have kd2 := (BD.out.cell (p := ⟨w.heap.size, 2, none⟩) hgl).trans k2; have kd3 := (BD.out.cell (p := ⟨w.heap.size, 3, none⟩) hgl).trans k3)
          | fail))
        all_goals
          clear bB bC bD
          go_wp2_with fail
          go_ret
          rw [HRES.out]
          exact ⟨rfl, FIN.out _ ((HBB.out.trans (BD.out.mono HBB.out.size)).mono (by omega))⟩
end Go.Proofs.YtnmgnhpagnjhlaaGreatDoor
