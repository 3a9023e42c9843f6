/- Texts of pools: formatPool and the two FormatPool. -/
import Derived.Test.YtnmgnhpagnjhlaaGreatDoorPoolText
set_option linter.unusedVariables false
set_option linter.unusedSimpArgs false
set_option linter.unnecessarySimpa false
namespace Go.Proofs.YtnmgnhpagnjhlaaGreatDoor
open Go.RowKit

theorem text_parts (mx : Int) (ids : List Int) (hs : List Pr) (wt : List Int) : bsof (Pl.text ⟨mx, ids, hs, wt⟩) = decB mx.toNat ++ (⟨#[32]⟩ : ByteArray) ++ bsof (listL ids) ++ (⟨#[124]⟩ : ByteArray) ++ bsof (holdsL hs) ++ (⟨#[124]⟩ : ByteArray) ++ bsof (listL wt) := by
  show bsof _ = bsof _ ++ bsof [32] ++ bsof _ ++ bsof [124] ++ bsof _ ++ bsof [124] ++ bsof _
  simp [bsof_append, Pl.text, intL]
theorem listL_size {vs : List Int} (h : smallI vs) (hn : vs.length ≤ 1000) : (bsof (listL vs)).size ≤ 16000 := by
  rw [bsof_size]
  have := comma_le intL vs 1000 hn (fun v hv => intL_le (h v hv)) vs.length
  rw [List.take_length] at this
  unfold listL; omega
theorem holdsL_size {vs : List Pr} (h : smallH vs) (hn : vs.length ≤ 1000) : (bsof (holdsL vs)).size ≤ 16000 := by
  rw [bsof_size]
  have := comma_le holdL vs 1000 hn (fun v hv => holdL_le (h v hv)) vs.length
  rw [List.take_length] at this
  unfold holdsL; omega
set_option maxRecDepth 100000 in
set_option maxHeartbeats 8000000 in
theorem formatPoolR_c (mx : Int) (ids : List Int) (hs : List Pr) (wt : List Int) (A : Option Addr) (n c : Nat) (B : Option Addr) (m d : Nat) (C : Option Addr) (k f : Nat) (w : World) (hA : ids.length = n) (hB : hs.length = m) (hC : wt.length = k)
    (h1 : Rd w A (ids.map (.int .i64))) (h2 : Rd w B (sc hs)) (h3 : Rd w C (wt.map (.int .i64))) (l1 : n ≤ 1073741824) (l2 : m ≤ 1073741824) (l3 : k ≤ 1073741824) (hgood : Pl.Good ⟨mx, ids, hs, wt⟩) :
    Calls Tryz.prog 34 #[.agg #[.int .i64 mx, .slice A n c, .slice B m d, .slice C k f]] w fun e w' => e = .returned (.string (bsof (Pl.text ⟨mx, ids, hs, wt⟩))) ∧ Below w.heap.size w w' := by
  obtain ⟨e1, e2⟩ := hgood.small
  simp only at e1 e2
  rw [hA, hB] at e1
  rw [hC] at e2
  have n1 : n ≤ 1000 := by omega
  have n2 : m ≤ 1000 := by omega
  have n3 : k ≤ 1000 := by omega
  have s1 : smallI ids := hgood.smallIds
  have s2 : smallH hs := hgood.smallHs
  have s3 : smallI wt := hgood.smallWt
  have hmx := hgood.2.2.1
  simp only at hmx
  obtain ⟨u, rfl⟩ := Int.eq_ofNat_of_zero_le (show 0 ≤ mx by omega)
  obtain ⟨DM, hDM⟩ : ∃ D, D = decB u := ⟨_, rfl⟩
  obtain ⟨LA, hLA⟩ : ∃ D, D = bsof (listL ids) := ⟨_, rfl⟩
  obtain ⟨LB, hLB⟩ : ∃ D, D = bsof (holdsL hs) := ⟨_, rfl⟩
  obtain ⟨LC, hLC⟩ : ∃ D, D = bsof (listL wt) := ⟨_, rfl⟩
  have t0 : DM.size ≤ 7 := by rw [hDM]; exact decB_le u (by omega)
  have t1 : LA.size ≤ 16000 := by rw [hLA]; exact listL_size s1 (by omega)
  have t2 : LB.size ≤ 16000 := by rw [hLB]; exact holdsL_size s2 (by omega)
  have t3 : LC.size ≤ 16000 := by rw [hLC]; exact listL_size s3 (by omega)
  obtain ⟨r, hr⟩ : ∃ r, r = bsof (Pl.text ⟨u, ids, hs, wt⟩) := ⟨_, rfl⟩
  rw [← hr]
  have hres := hr
  rw [text_parts, Int.toNat_natCast, ← hDM, ← hLA, ← hLB, ← hLC] at hres
  have HRES := Lib.hid hres
  have HCM := Lib.hid (fun W => decimal_c u (by omega) W)
  have HCA := Lib.hid (fun W hW => listText_c ids A n c W hA hW n1 s1)
  have HCB := Lib.hid (fun W hW => holdsText_c hs B m d W hB hW n2 s2)
  have HCC := Lib.hid (fun W hW => listText_c wt C k f W hC hW n3 s3)
  rw [← hDM] at HCM
  rw [← hLA] at HCA
  rw [← hLB] at HCB
  rw [← hLC] at HCC
  clear hr hres hDM hLA hLB hLC s1 s2 s3 e1 e2 hgood
  obtain ⟨w1, hw1⟩ : ∃ w1, w1 = w.alloc (.cells #[.int .i64 u, .slice A n c, .slice B m d, .slice C k f] 26) := ⟨_, rfl⟩
  have hg : w1.heap.size = w.heap.size + 1 := by rw [hw1]; simp
  have H1 := Lib.hid (show Rd w1 A _ by rw [hw1]; exact h1.alloc _)
  have H2 := Lib.hid (show Rd w1 B _ by rw [hw1]; exact h2.alloc _)
  have H3 := Lib.hid (show Rd w1 C _ by rw [hw1]; exact h3.alloc _)
  have BX := Lib.hid (show Blk w1 w.heap.size 26 #[.int .i64 u, .slice A n c, .slice B m d, .slice C k f] by rw [hw1]; exact Blk.new w _ _)
  have B01 := Lib.hid (show Below w.heap.size w w1 by rw [hw1]; exact (Below.refl _ _).alloc (Nat.le_refl _) _)
  have FIN := Lib.hid (fun (W : World) (hW : Below (w.heap.size + 1) w1 W) => (B01.out.trans (hW.mono (Nat.le_succ _)) : Below w.heap.size w W))
  clear h1 h2 h3
  go_enter Tryz.func34, Tryz.ntmps34
  go_wp2_with fail
  rw [← hw1]
  clear hw1
  have hgl : w.heap.size < w1.heap.size := by omega
  obtain ⟨k0, k1, k2, k3, _⟩ := blk4 BX.out
  have z1 : ¬ 9223372036854775807 < DM.size + 1 := by omega
  have z1' : ¬ 9223372036854775807 ≤ DM.size := by omega
  have z2 : ¬ 9223372036854775807 < DM.size + 1 + LA.size := by omega
  have z3 : ¬ 9223372036854775807 < DM.size + 1 + LA.size + 1 := by omega
  have z3' : ¬ 9223372036854775807 ≤ DM.size + 1 + LA.size := by omega
  have z4 : ¬ 9223372036854775807 < DM.size + 1 + LA.size + 1 + LB.size := by omega
  have z5 : ¬ 9223372036854775807 < DM.size + 1 + LA.size + 1 + LB.size + 1 := by omega
  have z5' : ¬ 9223372036854775807 ≤ DM.size + 1 + LA.size + 1 + LB.size := by omega
  have z6 : ¬ 9223372036854775807 < DM.size + 1 + LA.size + 1 + LB.size + 1 + LC.size := by omega
  go_region_held3 (fun w' => w'.cell? ⟨w.heap.size, 0, none⟩ = some (.int .i64 u) ∧ w'.cell? ⟨w.heap.size, 1, none⟩ = some (.slice A n c) ∧ w'.cell? ⟨w.heap.size, 2, none⟩ = some (.slice B m d) ∧ w'.cell? ⟨w.heap.size, 3, none⟩ = some (.slice C k f)) (go_keep) ((first
    | (go_at_call 67; (with_reducible refine (HCM.out _).mono ?_); rintro e wA ⟨rfl, bA⟩; have BA := Lib.hid (arm_drew bA).1; have ka0 := (BA.out.cell (p := ⟨w.heap.size, 0, none⟩) hgl).trans k0; have ka1 := (BA.out.cell (p := ⟨w.heap.size, 1, none⟩) hgl).trans k1; have ka2 := (BA.out.cell (p := ⟨w.heap.size, 2, none⟩) hgl).trans k2; have ka3 := (BA.out.cell (p := ⟨w.heap.size, 3, none⟩) hgl).trans k3)
    | (go_at_call 75; (with_reducible refine (HCA.out _ (H1.out.below BA.out)).mono ?_); rintro e wB ⟨rfl, bB⟩; have BB := Lib.hid (BA.out.trans (bB.mono BA.out.size)); have kb0 := (BB.out.cell (p := ⟨w.heap.size, 0, none⟩) hgl).trans k0; have kb1 := (BB.out.cell (p := ⟨w.heap.size, 1, none⟩) hgl).trans k1; have kb2 := (BB.out.cell (p := ⟨w.heap.size, 2, none⟩) hgl).trans k2; have kb3 := (BB.out.cell (p := ⟨w.heap.size, 3, none⟩) hgl).trans k3)
    | (go_at_call 76; (with_reducible refine (HCB.out _ (H2.out.below BB.out)).mono ?_); rintro e wC ⟨rfl, bC⟩; have BC := Lib.hid (BB.out.trans (bC.mono BB.out.size)); have kc0 := (BC.out.cell (p := ⟨w.heap.size, 0, none⟩) hgl).trans k0; have kc1 := (BC.out.cell (p := ⟨w.heap.size, 1, none⟩) hgl).trans k1; have kc2 := (BC.out.cell (p := ⟨w.heap.size, 2, none⟩) hgl).trans k2; have kc3 := (BC.out.cell (p := ⟨w.heap.size, 3, none⟩) hgl).trans k3)
    | (go_at_call 75; (with_reducible refine (HCC.out _ (H3.out.below BC.out)).mono ?_); rintro e wD ⟨rfl, bD⟩; have BD := Lib.hid (BC.out.trans (bD.mono BC.out.size)); have kd0 := (BD.out.cell (p := ⟨w.heap.size, 0, none⟩) hgl).trans k0; have kd1 := (BD.out.cell (p := ⟨w.heap.size, 1, none⟩) hgl).trans k1; have kd2 := (BD.out.cell (p := ⟨w.heap.size, 2, none⟩) hgl).trans k2; have kd3 := (BD.out.cell (p := ⟨w.heap.size, 3, none⟩) hgl).trans k3)
    | fail))
  all_goals
    clear bA bB bC bD
    go_wp2_with fail
    go_ret
    rw [HRES.out]
    exact ⟨rfl, FIN.out _ (BD.out.mono (by omega))⟩
set_option maxRecDepth 100000 in
set_option maxHeartbeats 2000000 in
theorem sFormatPool_c (mx : Int) (ids : List Int) (hs : List Pr) (wt : List Int) (A : Option Addr) (n c : Nat) (B : Option Addr) (m d : Nat) (C : Option Addr) (k f : Nat) (w : World) (hA : ids.length = n) (hB : hs.length = m) (hC : wt.length = k)
    (h1 : Rd w A (ids.map (.int .i64))) (h2 : Rd w B (sc hs)) (h3 : Rd w C (wt.map (.int .i64))) (l1 : n ≤ 1073741824) (l2 : m ≤ 1073741824) (l3 : k ≤ 1073741824) :
    Calls Tryz.prog 13 #[.agg #[.int .i64 mx, .slice A n c, .slice B m d, .slice C k f]] w fun e w' => e = .returned (.string (Pl.fmt ⟨mx, ids, hs, wt⟩)) ∧ Below w.heap.size w w' := by
  have HV := Lib.hid (fun W q1 q2 q3 => sValidPool_c mx ids hs wt A n c B m d C k f W hA hB hC q1 q2 q3 l1 l2 l3)
  have HF := Lib.hid (fun W q1 q2 q3 => formatPoolR_c mx ids hs wt A n c B m d C k f W hA hB hC q1 q2 q3 l1 l2 l3)
  obtain ⟨r, hr⟩ : ∃ r, r = Pl.fmt ⟨mx, ids, hs, wt⟩ := ⟨_, rfl⟩
  rw [← hr]
  obtain ⟨v, hv⟩ : ∃ v, v = Pl.valid ⟨mx, ids, hs, wt⟩ := ⟨_, rfl⟩
  rw [← hv] at HV
  obtain ⟨w1, hw1⟩ : ∃ w1, w1 = w.alloc (.cells #[.int .i64 mx, .slice A n c, .slice B m d, .slice C k f] 26) := ⟨_, rfl⟩
  have hg : w1.heap.size = w.heap.size + 1 := by rw [hw1]; simp
  have H1 := Lib.hid (show Rd w1 A _ by rw [hw1]; exact h1.alloc _)
  have H2 := Lib.hid (show Rd w1 B _ by rw [hw1]; exact h2.alloc _)
  have H3 := Lib.hid (show Rd w1 C _ by rw [hw1]; exact h3.alloc _)
  have BX := Lib.hid (show Blk w1 w.heap.size 26 #[.int .i64 mx, .slice A n c, .slice B m d, .slice C k f] by rw [hw1]; exact Blk.new w _ _)
  have B01 := Lib.hid (show Below w.heap.size w w1 by rw [hw1]; exact (Below.refl _ _).alloc (Nat.le_refl _) _)
  have hgl : w.heap.size < w1.heap.size := by omega
  have FIN := Lib.hid (fun (W : World) (hW : Below (w.heap.size + 1) w1 W) => (B01.out.trans (hW.mono (Nat.le_succ _)) : Below w.heap.size w W))
  clear h1 h2 h3
  cases v
  · have hr' : r = ⟨#[]⟩ := by rw [hr]; unfold Pl.fmt; rw [← hv]; rfl
    subst hr'
    clear hr hv
    go_enter Tryz.func13, Tryz.ntmps13
    go_wp2_with fail
    rw [← hw1]
    clear hw1
    refine (HV.out _ H1.out H2.out H3.out).mono ?_
    rintro e w2 ⟨rfl, b2⟩
    go_wp2_with fail
    go_ret
    exact ⟨rfl, FIN.out _ (b2.mono (by omega))⟩
  · have hr' : r = bsof (Pl.text ⟨mx, ids, hs, wt⟩) := by rw [hr]; unfold Pl.fmt; rw [← hv]; rfl
    have HG := Lib.hid (of_decide_eq_true (p := Pl.Good ⟨mx, ids, hs, wt⟩) hv.symm)
    rw [← hr'] at HF
    clear hr hv hr'
    go_enter Tryz.func13, Tryz.ntmps13
    go_wp2_with fail
    rw [← hw1]
    clear hw1
    refine (HV.out _ H1.out H2.out H3.out).mono ?_
    rintro e w2 ⟨rfl, b2⟩
    obtain ⟨k0, k1, k2, k3, _⟩ := blk4 (BX.out.below b2 hgl)
    have B2 := Lib.hid b2
    clear b2
    go_wp2_with fail
    refine (HF.out _ (H1.out.below B2.out) (H2.out.below B2.out) (H3.out.below B2.out) HG.out).mono ?_
    rintro e w3 ⟨rfl, b3⟩
    go_wp2_with fail
    go_ret
    exact ⟨rfl, FIN.out _ ((B2.out.trans (b3.mono B2.out.size)).mono (by omega))⟩
end Go.Proofs.YtnmgnhpagnjhlaaGreatDoor
