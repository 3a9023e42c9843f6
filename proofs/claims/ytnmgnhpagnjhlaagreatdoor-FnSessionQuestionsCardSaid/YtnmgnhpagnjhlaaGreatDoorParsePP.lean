/- The reference reads pools. -/
import Derived.Test.YtnmgnhpagnjhlaaGreatDoorParseP
import Derived.Deep.Cut
set_option linter.unusedVariables false
set_option linter.unusedSimpArgs false
set_option linter.unnecessarySimpa false
namespace Go.Proofs.YtnmgnhpagnjhlaaGreatDoor
open Go.RowKit

theorem elsOf_len (l : List UInt8) : (elsOf l).length ≤ l.length + 1 := by
  unfold elsOf
  split
  · simp
  · exact spl_len 44 l
theorem listS_len (l : List UInt8) : ((listS l).getD []).length ≤ l.length + 1 := by
  cases h : listS l with
  | none => simp
  | some vs =>
    have := congrArg List.length (numsS_back _ _ h)
    have h2 := elsOf_len l
    simp at this ⊢
    omega
theorem holdsS_len (l : List UInt8) : ((holdsS l).getD []).length ≤ l.length + 1 := by
  cases h : holdsS l with
  | none => simp
  | some vs =>
    have := congrArg List.length (pairsS_back _ _ h)
    have h2 := elsOf_len l
    simp at this ⊢
    omega
/-- A pool that was read, or none. -/
def RetPS (o : Option Pl) (w : World) (e : Ending) (w' : World) : Prop :=
  ∃ A a B b C c, e = .returned (.tuple #[.agg #[.int .i64 (o.getD Pl.zero).mx, .slice A (o.getD Pl.zero).ids.length a, .slice B (o.getD Pl.zero).hs.length b, .slice C (o.getD Pl.zero).wt.length c], .bool o.isSome]) ∧ PRow w' w.heap.size (o.getD Pl.zero) A a B b C c ∧ Below w.heap.size w w'
theorem poolS_n1 {L : List UInt8} {ps : List (List UInt8)} (h : ps = spl 32 L) (hn : ps.length ≠ 2) : poolS L = none := by
  unfold poolS
  rw [← h]
  rcases ps with _ | ⟨a, _ | ⟨b, _ | ⟨c, r⟩⟩⟩
  · rfl
  · rfl
  · exact absurd rfl hn
  · rfl
theorem poolS_n2 {L hd r : List UInt8} {ps : List (List UInt8)} (h : spl 32 L = [hd, r]) (h2 : ps = spl 124 r) (hn : ps.length ≠ 3) : poolS L = none := by
  unfold poolS
  rw [h]
  simp only
  rw [← h2]
  rcases ps with _ | ⟨a, _ | ⟨b, _ | ⟨c, _ | ⟨d, q⟩⟩⟩⟩
  · rfl
  · rfl
  · rfl
  · exact absurd rfl hn
  · rfl
theorem poolS_eq {L hd r x y z : List UInt8} (h : spl 32 L = [hd, r]) (h2 : spl 124 r = [x, y, z]) :
    poolS L = if (listS x).isSome = true ∧ (holdsS y).isSome = true ∧ (listS z).isSome = true ∧ (Pl.mk (pI hd) ((listS x).getD []) ((holdsS y).getD []) ((listS z).getD [])).valid = true then some ⟨pI hd, (listS x).getD [], (holdsS y).getD [], (listS z).getD []⟩ else none := by
  unfold poolS
  rw [h]
  simp only
  rw [h2]
  simp only
  cases listS x with
  | none => simp
  | some a =>
    cases holdsS y with
    | none => simp
    | some b =>
      cases listS z with
      | none => simp
      | some c => simp
set_option maxRecDepth 100000 in
set_option maxHeartbeats 16000000 in
theorem sParsePool_c (s : ByteArray) (w : World) (hs : s.size ≤ 1048576) :
    Calls Tryz.prog 16 #[.string s] w (RetPS (poolS s.data.toList) w) := by
  have hlen : s.data.toList.length = s.size := by rw [Array.length_toList]; rfl
  have HS1 := Lib.hid (splitAt_c s 32 32 rfl)
  obtain ⟨L, hL⟩ : ∃ L, L = s.data.toList := ⟨_, rfl⟩
  rw [← hL] at hlen HS1
  rw [← hL]
  obtain ⟨ps, hps⟩ : ∃ ps, ps = spl 32 L := ⟨_, rfl⟩
  rw [← hps] at HS1
  have hpl := spl_piece_len 32 L
  rw [← hps, hlen] at hpl
  have BR0 := Lib.hid (Blk.new w 26 #[.int .i64 0, .slice none 0 0, .slice none 0 0, .slice none 0 0])
  have FR0 := Lib.hid ((Below.refl w.heap.size w).alloc (Nat.le_refl _) (.cells #[.int .i64 0, .slice none 0 0, .slice none 0 0, .slice none 0 0] 26))
  have HP := Lib.hid hpl
  by_cases h2 : ps.length = 2
  · obtain ⟨hd, r, rfl⟩ : ∃ hd r, ps = [hd, r] := by
      rcases ps with _ | ⟨a, _ | ⟨b, _ | ⟨d, q⟩⟩⟩ <;> simp at h2
      exact ⟨a, b, rfl⟩
    have hrl : r.length ≤ 1048576 := by have := hpl r (by simp); omega
    have hhl : hd.length ≤ 1048576 := by have := hpl hd (by simp); omega
    obtain ⟨qs, hqs⟩ : ∃ qs, qs = spl 124 r := ⟨_, rfl⟩
    have HS2 := Lib.hid (splitAt_c (bsof r) 124 124 rfl)
    rw [data_bsof, ← hqs] at HS2
    have hql := spl_piece_len 124 r
    rw [← hqs] at hql
    have hl2 : (((([hd, r] : List (List UInt8)).length : Nat) : Int) == 2) = true := rfl
    by_cases h3 : qs.length = 3
    · obtain ⟨x, y, z, rfl⟩ : ∃ x y z, qs = [x, y, z] := by
        rcases qs with _ | ⟨a, _ | ⟨b, _ | ⟨d, _ | ⟨e, q⟩⟩⟩⟩ <;> simp at h3
        exact ⟨a, b, d, rfl⟩
      have hpe := poolS_eq hps.symm hqs.symm
      have hxl : x.length ≤ 1048576 := by have := hql x (by simp); omega
      have hyl : y.length ≤ 1048576 := by have := hql y (by simp); omega
      have hzl : z.length ≤ 1048576 := by have := hql z (by simp); omega
      have n1 := listS_len x
      have n2 := holdsS_len y
      have n3 := listS_len z
      have HC1 := Lib.hid (fun W => parseList_c (bsof x) W (by rw [bsof_size]; exact hxl))
      have HC2 := Lib.hid (fun W => parseHolds_c (bsof y) W (by rw [bsof_size]; exact hyl))
      have HC3 := Lib.hid (fun W => parseList_c (bsof z) W (by rw [bsof_size]; exact hzl))
      have HC4 := Lib.hid (fun W => parseInt_c (bsof hd) W (by rw [bsof_size]; omega))
      rw [data_bsof] at HC1 HC2 HC3 HC4
      unfold RetNL at HC1 HC3
      unfold RetHL at HC2
      obtain ⟨L1, hL1⟩ : ∃ L1, L1 = (listS x).getD [] := ⟨_, rfl⟩
      obtain ⟨L2, hL2⟩ : ∃ L2, L2 = (holdsS y).getD [] := ⟨_, rfl⟩
      obtain ⟨L3, hL3⟩ : ∃ L3, L3 = (listS z).getD [] := ⟨_, rfl⟩
      obtain ⟨f1, hf1⟩ : ∃ f1, f1 = (listS x).isSome := ⟨_, rfl⟩
      obtain ⟨f2, hf2⟩ : ∃ f2, f2 = (holdsS y).isSome := ⟨_, rfl⟩
      obtain ⟨f3, hf3⟩ : ∃ f3, f3 = (listS z).isSome := ⟨_, rfl⟩
      obtain ⟨x0, hx0⟩ : ∃ x0, x0 = pI hd := ⟨_, rfl⟩
      rw [← hL1, ← hL2, ← hL3, ← hf1, ← hf2, ← hf3, ← hx0] at hpe
      rw [← hL1, ← hf1] at HC1
      rw [← hL2, ← hf2] at HC2
      rw [← hL3, ← hf3] at HC3
      rw [← hx0] at HC4
      rw [← hL1] at n1
      rw [← hL2] at n2
      rw [← hL3] at n3
      have HV := Lib.hid (fun A1 a1 A2 a2 A3 a3 W q1 q2 q3 => sValidPool_c x0 L1 L2 L3 A1 _ a1 A2 _ a2 A3 _ a3 W rfl rfl rfl q1 q2 q3 (by omega) (by omega) (by omega))
      obtain ⟨v, hv⟩ : ∃ v, v = Pl.valid ⟨x0, L1, L2, L3⟩ := ⟨_, rfl⟩
      rw [← hv] at HV hpe
      have HPE : Hid (poolS L = if f1 = true ∧ f2 = true ∧ f3 = true ∧ v = true then some ⟨x0, L1, L2, L3⟩ else none) := hpe
      obtain ⟨BX, hBX⟩ : ∃ BX, BX = bsof x := ⟨_, rfl⟩
      obtain ⟨BY, hBY⟩ : ∃ BY, BY = bsof y := ⟨_, rfl⟩
      obtain ⟨BZ, hBZ⟩ : ∃ BZ, BZ = bsof z := ⟨_, rfl⟩
      obtain ⟨BH, hBH⟩ : ∃ BH, BH = bsof hd := ⟨_, rfl⟩
      obtain ⟨BQ, hBQ⟩ : ∃ BQ, BQ = bsof r := ⟨_, rfl⟩
      have hbr : (bsof r).size ≤ 1073741824 := by rw [bsof_size]; omega
      have st1 : strs [hd, r] = [.string BH, .string BQ] := by rw [hBH, hBQ]; rfl
      have st2 : strs [x, y, z] = [.string BX, .string BY, .string BZ] := by rw [hBX, hBY, hBZ]; rfl
      rw [← hBX] at HC1
      rw [← hBY] at HC2
      rw [← hBZ] at HC3
      rw [← hBH] at HC4
      rw [← hBQ] at HS2 hbr
      have ST1 := Lib.hid st1; have ST2 := Lib.hid st2
      have hl3 : (((([x, y, z] : List (List UInt8)).length : Nat) : Int) == 3) = true := rfl
      clear hpe hL1 hL2 hL3 hf1 hf2 hf3 hx0 hv hBX hBY hBZ hBH hBQ st1 st2 hps hqs hpl hql HP h2 h3 hL hlen
      cases f1
      · have HN : Hid (poolS L = none) := HPE.out.trans (if_neg (fun h => by cases h.1))
        rw [HN.out]
        go_enter Tryz.func16, Tryz.ntmps16
        go_wp2_with fail
        refine (HS1.out _ (by omega)).mono ?_
        rintro e w1 ⟨AS, cS, rfl, rowS, b1⟩
        have FR1 := Lib.hid (FR0.out.trans (b1.mono (by simp)))
        have hs1 : w.heap.size + 1 ≤ w1.heap.size := by have := b1.size; simpa using this
        have BR1 := Lib.hid (BR0.out.below b1 (by simp))
        rw [ST1.out] at rowS
        obtain ⟨bp, op, hAP, hBp, hlp, hrb⟩ := rowS.form (by simp)
        subst hAP
        have p0 : w1.cell? ⟨bp, op, none⟩ = some (.string BH) := by have := rowS.cell (j := 0) (u := .string BH) rfl; simpa using this
        have p1 : w1.cell? ⟨bp, op + 1, none⟩ = some (.string BQ) := rowS.cell (j := 1) (u := .string BQ) rfl
        clear rowS b1 hrb hBp
        go_wp2_with fail
        refine (HS2.out _ hbr).mono ?_
        rintro e w2 ⟨AQ, cQ, rfl, rowQ, b2⟩
        have FR2 := Lib.hid (FR1.out.trans (b2.mono FR1.out.size))
        have hs2 : w1.heap.size ≤ w2.heap.size := b2.size
        have BR2 := Lib.hid (BR1.out.below b2 BR1.out.lt)
        rw [ST2.out] at rowQ
        obtain ⟨bq, oq, hAQ, hBq, hlq, hrq⟩ := rowQ.form (by simp)
        subst hAQ
        have q0 : w2.cell? ⟨bq, oq, none⟩ = some (.string BX) := by have := rowQ.cell (j := 0) (u := .string BX) rfl; simpa using this
        have q1 : w2.cell? ⟨bq, oq + 1, none⟩ = some (.string BY) := rowQ.cell (j := 1) (u := .string BY) rfl
        have q2 : w2.cell? ⟨bq, oq + 2, none⟩ = some (.string BZ) := rowQ.cell (j := 2) (u := .string BZ) rfl
        have p0' := (b2.cell (p := ⟨bp, op, none⟩) hlp).trans p0
        have hlp2 : bp < w2.heap.size := by omega
        clear rowQ b2 hrq hBq p0 p1
        go_wp2_with fail
        refine (HC1.out _).mono ?_
        rintro e w3 ⟨A1, a1, rfl, r1, b3⟩
        have FR3 := Lib.hid (FR2.out.trans (b3.mono FR2.out.size))
        have hs3 : w2.heap.size ≤ w3.heap.size := b3.size
        have BR3 := Lib.hid (BR2.out.below b3 BR2.out.lt)
        have y1 := (b3.cell (p := ⟨bq, oq + 1, none⟩) hlq).trans q1
        have y2 := (b3.cell (p := ⟨bq, oq + 2, none⟩) hlq).trans q2
        have yp := (b3.cell (p := ⟨bp, op, none⟩) hlp2).trans p0'
        have hlq3 : bq < w3.heap.size := by omega
        have hlp3 : bp < w3.heap.size := by omega
        have R1 := Lib.hid r1
        clear r1 b3 q0 q1 q2 p0'
        go_wp2_with fail
        refine (HC2.out _).mono ?_
        rintro e w4 ⟨A2, a2, rfl, r2, b4⟩
        have FR4 := Lib.hid (FR3.out.trans (b4.mono FR3.out.size))
        have hs4 : w3.heap.size ≤ w4.heap.size := b4.size
        have BR4 := Lib.hid (BR3.out.below b4 BR3.out.lt)
        have z2 := (b4.cell (p := ⟨bq, oq + 2, none⟩) hlq3).trans y2
        have zp := (b4.cell (p := ⟨bp, op, none⟩) hlp3).trans yp
        have hlp4 : bp < w4.heap.size := by omega
        have AP12 := row_apart R1.out r2 (Nat.le_refl _)
        have R14 := Lib.hid (R1.out.below b4)
        have R2 := Lib.hid r2
        clear r2 b4 y1 y2 yp
        go_wp2_with fail
        refine (HC3.out _).mono ?_
        rintro e w5 ⟨A3, a3, rfl, r3, b5⟩
        have FR5 := Lib.hid (FR4.out.trans (b5.mono FR4.out.size))
        have hs5 : w4.heap.size ≤ w5.heap.size := b5.size
        have BR5 := Lib.hid (BR4.out.below b5 BR4.out.lt)
        have vp := (b5.cell (p := ⟨bp, op, none⟩) hlp4).trans zp
        have PR5 := Lib.hid (show PRow w5 (w.heap.size + 1) ⟨x0, L1, L2, L3⟩ A1 a1 A2 a2 A3 a3 from ⟨(R14.out.below b5).mono (by omega), (R2.out.below b5).mono (by omega), r3.mono (by omega), AP12, row_apart R14.out r3 (Nat.le_refl _), row_apart R2.out r3 (Nat.le_refl _)⟩)
        clear r3 b5 z2 zp AP12 R14 R2 R1
        go_wp2_with fail
        refine (HC4.out _).mono ?_
        rintro e w6 ⟨rfl, b6⟩
        have FR6 := Lib.hid (FR5.out.trans (b6.mono FR5.out.size))
        have hs6 : w5.heap.size ≤ w6.heap.size := b6.size
        have BR6 := Lib.hid (BR5.out.below b6 BR5.out.lt)
        have PR6 := Lib.hid (PR5.out.below b6)
        clear b6 vp PR5
        obtain ⟨w7, hw7⟩ : ∃ w7, w7 = w6.alloc (.cells #[.int .i64 x0, .slice A1 L1.length a1, .slice A2 L2.length a2, .slice A3 L3.length a3] 26) := ⟨_, rfl⟩
        have FR7 := Lib.hid (show Below w.heap.size w w7 by rw [hw7]; exact FR6.out.alloc FR6.out.size _)
        have BR7 := Lib.hid (show Blk w7 w.heap.size 26 #[.int .i64 0, .slice none 0 0, .slice none 0 0, .slice none 0 0] by rw [hw7]; exact BR6.out.alloc _)
        have PR7 := Lib.hid (show PRow w7 (w.heap.size + 1) ⟨x0, L1, L2, L3⟩ A1 a1 A2 a2 A3 a3 by rw [hw7]; exact PR6.out.alloc _)
        have BP7 := Lib.hid (show Blk w7 w6.heap.size 26 #[.int .i64 x0, .slice A1 L1.length a1, .slice A2 L2.length a2, .slice A3 L3.length a3] by rw [hw7]; exact Blk.new w6 _ _)
        have hg7 : w6.heap.size < w7.heap.size := by rw [hw7]; simp
        have hgw7 : w.heap.size < w7.heap.size := by omega
        go_upto_region 11 with fail
        rw [← hw7]
        clear hw7
        have FRX := FR7
        obtain ⟨r0, r1, r2, r3, rfz⟩ := blk4 BR7.out
        go_wp2_with fail
        refine bodyPost_ret (v := .tuple #[.agg #[.int .i64 0, .slice none 0 0, .slice none 0 0, .slice none 0 0], .bool false]) (by simp [results, Tryz.results16, go_sem, r0, r1, r2, r3, rfz]) rfl ?_
        refine ⟨none, 0, none, 0, none, 0, rfl, PRow.zero _ _, ?_⟩
        iterate 4 (with_reducible refine Below.setCell ?_ (by simp) _)
        exact FRX.out
      · cases f2
        · have HN : Hid (poolS L = none) := HPE.out.trans (if_neg (fun h => by cases h.2.1))
          rw [HN.out]
          go_enter Tryz.func16, Tryz.ntmps16
          go_wp2_with fail
          refine (HS1.out _ (by omega)).mono ?_
          rintro e w1 ⟨AS, cS, rfl, rowS, b1⟩
          have FR1 := Lib.hid (FR0.out.trans (b1.mono (by simp)))
          have hs1 : w.heap.size + 1 ≤ w1.heap.size := by have := b1.size; simpa using this
          have BR1 := Lib.hid (BR0.out.below b1 (by simp))
          rw [ST1.out] at rowS
          obtain ⟨bp, op, hAP, hBp, hlp, hrb⟩ := rowS.form (by simp)
          subst hAP
          have p0 : w1.cell? ⟨bp, op, none⟩ = some (.string BH) := by have := rowS.cell (j := 0) (u := .string BH) rfl; simpa using this
          have p1 : w1.cell? ⟨bp, op + 1, none⟩ = some (.string BQ) := rowS.cell (j := 1) (u := .string BQ) rfl
          clear rowS b1 hrb hBp
          go_wp2_with fail
          refine (HS2.out _ hbr).mono ?_
          rintro e w2 ⟨AQ, cQ, rfl, rowQ, b2⟩
          have FR2 := Lib.hid (FR1.out.trans (b2.mono FR1.out.size))
          have hs2 : w1.heap.size ≤ w2.heap.size := b2.size
          have BR2 := Lib.hid (BR1.out.below b2 BR1.out.lt)
          rw [ST2.out] at rowQ
          obtain ⟨bq, oq, hAQ, hBq, hlq, hrq⟩ := rowQ.form (by simp)
          subst hAQ
          have q0 : w2.cell? ⟨bq, oq, none⟩ = some (.string BX) := by have := rowQ.cell (j := 0) (u := .string BX) rfl; simpa using this
          have q1 : w2.cell? ⟨bq, oq + 1, none⟩ = some (.string BY) := rowQ.cell (j := 1) (u := .string BY) rfl
          have q2 : w2.cell? ⟨bq, oq + 2, none⟩ = some (.string BZ) := rowQ.cell (j := 2) (u := .string BZ) rfl
          have p0' := (b2.cell (p := ⟨bp, op, none⟩) hlp).trans p0
          have hlp2 : bp < w2.heap.size := by omega
          clear rowQ b2 hrq hBq p0 p1
          go_wp2_with fail
          refine (HC1.out _).mono ?_
          rintro e w3 ⟨A1, a1, rfl, r1, b3⟩
          have FR3 := Lib.hid (FR2.out.trans (b3.mono FR2.out.size))
          have hs3 : w2.heap.size ≤ w3.heap.size := b3.size
          have BR3 := Lib.hid (BR2.out.below b3 BR2.out.lt)
          have y1 := (b3.cell (p := ⟨bq, oq + 1, none⟩) hlq).trans q1
          have y2 := (b3.cell (p := ⟨bq, oq + 2, none⟩) hlq).trans q2
          have yp := (b3.cell (p := ⟨bp, op, none⟩) hlp2).trans p0'
          have hlq3 : bq < w3.heap.size := by omega
          have hlp3 : bp < w3.heap.size := by omega
          have R1 := Lib.hid r1
          clear r1 b3 q0 q1 q2 p0'
          go_wp2_with fail
          refine (HC2.out _).mono ?_
          rintro e w4 ⟨A2, a2, rfl, r2, b4⟩
          have FR4 := Lib.hid (FR3.out.trans (b4.mono FR3.out.size))
          have hs4 : w3.heap.size ≤ w4.heap.size := b4.size
          have BR4 := Lib.hid (BR3.out.below b4 BR3.out.lt)
          have z2 := (b4.cell (p := ⟨bq, oq + 2, none⟩) hlq3).trans y2
          have zp := (b4.cell (p := ⟨bp, op, none⟩) hlp3).trans yp
          have hlp4 : bp < w4.heap.size := by omega
          have AP12 := row_apart R1.out r2 (Nat.le_refl _)
          have R14 := Lib.hid (R1.out.below b4)
          have R2 := Lib.hid r2
          clear r2 b4 y1 y2 yp
          go_wp2_with fail
          refine (HC3.out _).mono ?_
          rintro e w5 ⟨A3, a3, rfl, r3, b5⟩
          have FR5 := Lib.hid (FR4.out.trans (b5.mono FR4.out.size))
          have hs5 : w4.heap.size ≤ w5.heap.size := b5.size
          have BR5 := Lib.hid (BR4.out.below b5 BR4.out.lt)
          have vp := (b5.cell (p := ⟨bp, op, none⟩) hlp4).trans zp
          have PR5 := Lib.hid (show PRow w5 (w.heap.size + 1) ⟨x0, L1, L2, L3⟩ A1 a1 A2 a2 A3 a3 from ⟨(R14.out.below b5).mono (by omega), (R2.out.below b5).mono (by omega), r3.mono (by omega), AP12, row_apart R14.out r3 (Nat.le_refl _), row_apart R2.out r3 (Nat.le_refl _)⟩)
          clear r3 b5 z2 zp AP12 R14 R2 R1
          go_wp2_with fail
          refine (HC4.out _).mono ?_
          rintro e w6 ⟨rfl, b6⟩
          have FR6 := Lib.hid (FR5.out.trans (b6.mono FR5.out.size))
          have hs6 : w5.heap.size ≤ w6.heap.size := b6.size
          have BR6 := Lib.hid (BR5.out.below b6 BR5.out.lt)
          have PR6 := Lib.hid (PR5.out.below b6)
          clear b6 vp PR5
          obtain ⟨w7, hw7⟩ : ∃ w7, w7 = w6.alloc (.cells #[.int .i64 x0, .slice A1 L1.length a1, .slice A2 L2.length a2, .slice A3 L3.length a3] 26) := ⟨_, rfl⟩
          have FR7 := Lib.hid (show Below w.heap.size w w7 by rw [hw7]; exact FR6.out.alloc FR6.out.size _)
          have BR7 := Lib.hid (show Blk w7 w.heap.size 26 #[.int .i64 0, .slice none 0 0, .slice none 0 0, .slice none 0 0] by rw [hw7]; exact BR6.out.alloc _)
          have PR7 := Lib.hid (show PRow w7 (w.heap.size + 1) ⟨x0, L1, L2, L3⟩ A1 a1 A2 a2 A3 a3 by rw [hw7]; exact PR6.out.alloc _)
          have BP7 := Lib.hid (show Blk w7 w6.heap.size 26 #[.int .i64 x0, .slice A1 L1.length a1, .slice A2 L2.length a2, .slice A3 L3.length a3] by rw [hw7]; exact Blk.new w6 _ _)
          have hg7 : w6.heap.size < w7.heap.size := by rw [hw7]; simp
          have hgw7 : w.heap.size < w7.heap.size := by omega
          go_upto_region 11 with fail
          rw [← hw7]
          clear hw7
          have FRX := FR7
          obtain ⟨r0, r1, r2, r3, rfz⟩ := blk4 BR7.out
          go_wp2_with fail
          refine bodyPost_ret (v := .tuple #[.agg #[.int .i64 0, .slice none 0 0, .slice none 0 0, .slice none 0 0], .bool false]) (by simp [results, Tryz.results16, go_sem, r0, r1, r2, r3, rfz]) rfl ?_
          refine ⟨none, 0, none, 0, none, 0, rfl, PRow.zero _ _, ?_⟩
          iterate 4 (with_reducible refine Below.setCell ?_ (by simp) _)
          exact FRX.out
        · cases f3
          · have HN : Hid (poolS L = none) := HPE.out.trans (if_neg (fun h => by cases h.2.2.1))
            rw [HN.out]
            go_enter Tryz.func16, Tryz.ntmps16
            go_wp2_with fail
            refine (HS1.out _ (by omega)).mono ?_
            rintro e w1 ⟨AS, cS, rfl, rowS, b1⟩
            have FR1 := Lib.hid (FR0.out.trans (b1.mono (by simp)))
            have hs1 : w.heap.size + 1 ≤ w1.heap.size := by have := b1.size; simpa using this
            have BR1 := Lib.hid (BR0.out.below b1 (by simp))
            rw [ST1.out] at rowS
            obtain ⟨bp, op, hAP, hBp, hlp, hrb⟩ := rowS.form (by simp)
            subst hAP
            have p0 : w1.cell? ⟨bp, op, none⟩ = some (.string BH) := by have := rowS.cell (j := 0) (u := .string BH) rfl; simpa using this
            have p1 : w1.cell? ⟨bp, op + 1, none⟩ = some (.string BQ) := rowS.cell (j := 1) (u := .string BQ) rfl
            clear rowS b1 hrb hBp
            go_wp2_with fail
            refine (HS2.out _ hbr).mono ?_
            rintro e w2 ⟨AQ, cQ, rfl, rowQ, b2⟩
            have FR2 := Lib.hid (FR1.out.trans (b2.mono FR1.out.size))
            have hs2 : w1.heap.size ≤ w2.heap.size := b2.size
            have BR2 := Lib.hid (BR1.out.below b2 BR1.out.lt)
            rw [ST2.out] at rowQ
            obtain ⟨bq, oq, hAQ, hBq, hlq, hrq⟩ := rowQ.form (by simp)
            subst hAQ
            have q0 : w2.cell? ⟨bq, oq, none⟩ = some (.string BX) := by have := rowQ.cell (j := 0) (u := .string BX) rfl; simpa using this
            have q1 : w2.cell? ⟨bq, oq + 1, none⟩ = some (.string BY) := rowQ.cell (j := 1) (u := .string BY) rfl
            have q2 : w2.cell? ⟨bq, oq + 2, none⟩ = some (.string BZ) := rowQ.cell (j := 2) (u := .string BZ) rfl
            have p0' := (b2.cell (p := ⟨bp, op, none⟩) hlp).trans p0
            have hlp2 : bp < w2.heap.size := by omega
            clear rowQ b2 hrq hBq p0 p1
            go_wp2_with fail
            refine (HC1.out _).mono ?_
            rintro e w3 ⟨A1, a1, rfl, r1, b3⟩
            have FR3 := Lib.hid (FR2.out.trans (b3.mono FR2.out.size))
            have hs3 : w2.heap.size ≤ w3.heap.size := b3.size
            have BR3 := Lib.hid (BR2.out.below b3 BR2.out.lt)
            have y1 := (b3.cell (p := ⟨bq, oq + 1, none⟩) hlq).trans q1
            have y2 := (b3.cell (p := ⟨bq, oq + 2, none⟩) hlq).trans q2
            have yp := (b3.cell (p := ⟨bp, op, none⟩) hlp2).trans p0'
            have hlq3 : bq < w3.heap.size := by omega
            have hlp3 : bp < w3.heap.size := by omega
            have R1 := Lib.hid r1
            clear r1 b3 q0 q1 q2 p0'
            go_wp2_with fail
            refine (HC2.out _).mono ?_
            rintro e w4 ⟨A2, a2, rfl, r2, b4⟩
            have FR4 := Lib.hid (FR3.out.trans (b4.mono FR3.out.size))
            have hs4 : w3.heap.size ≤ w4.heap.size := b4.size
            have BR4 := Lib.hid (BR3.out.below b4 BR3.out.lt)
            have z2 := (b4.cell (p := ⟨bq, oq + 2, none⟩) hlq3).trans y2
            have zp := (b4.cell (p := ⟨bp, op, none⟩) hlp3).trans yp
            have hlp4 : bp < w4.heap.size := by omega
            have AP12 := row_apart R1.out r2 (Nat.le_refl _)
            have R14 := Lib.hid (R1.out.below b4)
            have R2 := Lib.hid r2
            clear r2 b4 y1 y2 yp
            go_wp2_with fail
            refine (HC3.out _).mono ?_
            rintro e w5 ⟨A3, a3, rfl, r3, b5⟩
            have FR5 := Lib.hid (FR4.out.trans (b5.mono FR4.out.size))
            have hs5 : w4.heap.size ≤ w5.heap.size := b5.size
            have BR5 := Lib.hid (BR4.out.below b5 BR4.out.lt)
            have vp := (b5.cell (p := ⟨bp, op, none⟩) hlp4).trans zp
            have PR5 := Lib.hid (show PRow w5 (w.heap.size + 1) ⟨x0, L1, L2, L3⟩ A1 a1 A2 a2 A3 a3 from ⟨(R14.out.below b5).mono (by omega), (R2.out.below b5).mono (by omega), r3.mono (by omega), AP12, row_apart R14.out r3 (Nat.le_refl _), row_apart R2.out r3 (Nat.le_refl _)⟩)
            clear r3 b5 z2 zp AP12 R14 R2 R1
            go_wp2_with fail
            refine (HC4.out _).mono ?_
            rintro e w6 ⟨rfl, b6⟩
            have FR6 := Lib.hid (FR5.out.trans (b6.mono FR5.out.size))
            have hs6 : w5.heap.size ≤ w6.heap.size := b6.size
            have BR6 := Lib.hid (BR5.out.below b6 BR5.out.lt)
            have PR6 := Lib.hid (PR5.out.below b6)
            clear b6 vp PR5
            obtain ⟨w7, hw7⟩ : ∃ w7, w7 = w6.alloc (.cells #[.int .i64 x0, .slice A1 L1.length a1, .slice A2 L2.length a2, .slice A3 L3.length a3] 26) := ⟨_, rfl⟩
            have FR7 := Lib.hid (show Below w.heap.size w w7 by rw [hw7]; exact FR6.out.alloc FR6.out.size _)
            have BR7 := Lib.hid (show Blk w7 w.heap.size 26 #[.int .i64 0, .slice none 0 0, .slice none 0 0, .slice none 0 0] by rw [hw7]; exact BR6.out.alloc _)
            have PR7 := Lib.hid (show PRow w7 (w.heap.size + 1) ⟨x0, L1, L2, L3⟩ A1 a1 A2 a2 A3 a3 by rw [hw7]; exact PR6.out.alloc _)
            have BP7 := Lib.hid (show Blk w7 w6.heap.size 26 #[.int .i64 x0, .slice A1 L1.length a1, .slice A2 L2.length a2, .slice A3 L3.length a3] by rw [hw7]; exact Blk.new w6 _ _)
            have hg7 : w6.heap.size < w7.heap.size := by rw [hw7]; simp
            have hgw7 : w.heap.size < w7.heap.size := by omega
            go_upto_region 11 with fail
            rw [← hw7]
            clear hw7
            have FRX := FR7
            obtain ⟨r0, r1, r2, r3, rfz⟩ := blk4 BR7.out
            go_wp2_with fail
            refine bodyPost_ret (v := .tuple #[.agg #[.int .i64 0, .slice none 0 0, .slice none 0 0, .slice none 0 0], .bool false]) (by simp [results, Tryz.results16, go_sem, r0, r1, r2, r3, rfz]) rfl ?_
            refine ⟨none, 0, none, 0, none, 0, rfl, PRow.zero _ _, ?_⟩
            iterate 4 (with_reducible refine Below.setCell ?_ (by simp) _)
            exact FRX.out
          · cases v
            · have HN : Hid (poolS L = none) := HPE.out.trans (if_neg (fun h => by cases h.2.2.2))
              rw [HN.out]
              go_enter Tryz.func16, Tryz.ntmps16
              go_wp2_with fail
              refine (HS1.out _ (by omega)).mono ?_
              rintro e w1 ⟨AS, cS, rfl, rowS, b1⟩
              have FR1 := Lib.hid (FR0.out.trans (b1.mono (by simp)))
              have hs1 : w.heap.size + 1 ≤ w1.heap.size := by have := b1.size; simpa using this
              have BR1 := Lib.hid (BR0.out.below b1 (by simp))
              rw [ST1.out] at rowS
              obtain ⟨bp, op, hAP, hBp, hlp, hrb⟩ := rowS.form (by simp)
              subst hAP
              have p0 : w1.cell? ⟨bp, op, none⟩ = some (.string BH) := by have := rowS.cell (j := 0) (u := .string BH) rfl; simpa using this
              have p1 : w1.cell? ⟨bp, op + 1, none⟩ = some (.string BQ) := rowS.cell (j := 1) (u := .string BQ) rfl
              clear rowS b1 hrb hBp
              go_wp2_with fail
              refine (HS2.out _ hbr).mono ?_
              rintro e w2 ⟨AQ, cQ, rfl, rowQ, b2⟩
              have FR2 := Lib.hid (FR1.out.trans (b2.mono FR1.out.size))
              have hs2 : w1.heap.size ≤ w2.heap.size := b2.size
              have BR2 := Lib.hid (BR1.out.below b2 BR1.out.lt)
              rw [ST2.out] at rowQ
              obtain ⟨bq, oq, hAQ, hBq, hlq, hrq⟩ := rowQ.form (by simp)
              subst hAQ
              have q0 : w2.cell? ⟨bq, oq, none⟩ = some (.string BX) := by have := rowQ.cell (j := 0) (u := .string BX) rfl; simpa using this
              have q1 : w2.cell? ⟨bq, oq + 1, none⟩ = some (.string BY) := rowQ.cell (j := 1) (u := .string BY) rfl
              have q2 : w2.cell? ⟨bq, oq + 2, none⟩ = some (.string BZ) := rowQ.cell (j := 2) (u := .string BZ) rfl
              have p0' := (b2.cell (p := ⟨bp, op, none⟩) hlp).trans p0
              have hlp2 : bp < w2.heap.size := by omega
              clear rowQ b2 hrq hBq p0 p1
              go_wp2_with fail
              refine (HC1.out _).mono ?_
              rintro e w3 ⟨A1, a1, rfl, r1, b3⟩
              have FR3 := Lib.hid (FR2.out.trans (b3.mono FR2.out.size))
              have hs3 : w2.heap.size ≤ w3.heap.size := b3.size
              have BR3 := Lib.hid (BR2.out.below b3 BR2.out.lt)
              have y1 := (b3.cell (p := ⟨bq, oq + 1, none⟩) hlq).trans q1
              have y2 := (b3.cell (p := ⟨bq, oq + 2, none⟩) hlq).trans q2
              have yp := (b3.cell (p := ⟨bp, op, none⟩) hlp2).trans p0'
              have hlq3 : bq < w3.heap.size := by omega
              have hlp3 : bp < w3.heap.size := by omega
              have R1 := Lib.hid r1
              clear r1 b3 q0 q1 q2 p0'
              go_wp2_with fail
              refine (HC2.out _).mono ?_
              rintro e w4 ⟨A2, a2, rfl, r2, b4⟩
              have FR4 := Lib.hid (FR3.out.trans (b4.mono FR3.out.size))
              have hs4 : w3.heap.size ≤ w4.heap.size := b4.size
              have BR4 := Lib.hid (BR3.out.below b4 BR3.out.lt)
              have z2 := (b4.cell (p := ⟨bq, oq + 2, none⟩) hlq3).trans y2
              have zp := (b4.cell (p := ⟨bp, op, none⟩) hlp3).trans yp
              have hlp4 : bp < w4.heap.size := by omega
              have AP12 := row_apart R1.out r2 (Nat.le_refl _)
              have R14 := Lib.hid (R1.out.below b4)
              have R2 := Lib.hid r2
              clear r2 b4 y1 y2 yp
              go_wp2_with fail
              refine (HC3.out _).mono ?_
              rintro e w5 ⟨A3, a3, rfl, r3, b5⟩
              have FR5 := Lib.hid (FR4.out.trans (b5.mono FR4.out.size))
              have hs5 : w4.heap.size ≤ w5.heap.size := b5.size
              have BR5 := Lib.hid (BR4.out.below b5 BR4.out.lt)
              have vp := (b5.cell (p := ⟨bp, op, none⟩) hlp4).trans zp
              have PR5 := Lib.hid (show PRow w5 (w.heap.size + 1) ⟨x0, L1, L2, L3⟩ A1 a1 A2 a2 A3 a3 from ⟨(R14.out.below b5).mono (by omega), (R2.out.below b5).mono (by omega), r3.mono (by omega), AP12, row_apart R14.out r3 (Nat.le_refl _), row_apart R2.out r3 (Nat.le_refl _)⟩)
              clear r3 b5 z2 zp AP12 R14 R2 R1
              go_wp2_with fail
              refine (HC4.out _).mono ?_
              rintro e w6 ⟨rfl, b6⟩
              have FR6 := Lib.hid (FR5.out.trans (b6.mono FR5.out.size))
              have hs6 : w5.heap.size ≤ w6.heap.size := b6.size
              have BR6 := Lib.hid (BR5.out.below b6 BR5.out.lt)
              have PR6 := Lib.hid (PR5.out.below b6)
              clear b6 vp PR5
              obtain ⟨w7, hw7⟩ : ∃ w7, w7 = w6.alloc (.cells #[.int .i64 x0, .slice A1 L1.length a1, .slice A2 L2.length a2, .slice A3 L3.length a3] 26) := ⟨_, rfl⟩
              have FR7 := Lib.hid (show Below w.heap.size w w7 by rw [hw7]; exact FR6.out.alloc FR6.out.size _)
              have BR7 := Lib.hid (show Blk w7 w.heap.size 26 #[.int .i64 0, .slice none 0 0, .slice none 0 0, .slice none 0 0] by rw [hw7]; exact BR6.out.alloc _)
              have PR7 := Lib.hid (show PRow w7 (w.heap.size + 1) ⟨x0, L1, L2, L3⟩ A1 a1 A2 a2 A3 a3 by rw [hw7]; exact PR6.out.alloc _)
              have BP7 := Lib.hid (show Blk w7 w6.heap.size 26 #[.int .i64 x0, .slice A1 L1.length a1, .slice A2 L2.length a2, .slice A3 L3.length a3] by rw [hw7]; exact Blk.new w6 _ _)
              have hg7 : w6.heap.size < w7.heap.size := by rw [hw7]; simp
              have hgw7 : w.heap.size < w7.heap.size := by omega
              go_upto_region 11 with fail
              rw [← hw7]
              clear hw7
              obtain ⟨k0, k1, k2, k3, kfz⟩ := blk4 BP7.out
              go_wp2_with fail
              refine (HV.out _ _ _ _ _ _ _ PR7.out.1.rd PR7.out.2.1.rd PR7.out.2.2.1.rd).mono ?_
              rintro e w8 ⟨rfl, b8⟩
              have FRX := Lib.hid (FR7.out.trans (b8.mono FR7.out.size))
              obtain ⟨r0, r1, r2, r3, rfz⟩ := blk4 (BR7.out.below b8 hgw7)
              clear k0 k1 k2 k3 kfz
              go_wp2_with fail
              refine bodyPost_ret (v := .tuple #[.agg #[.int .i64 0, .slice none 0 0, .slice none 0 0, .slice none 0 0], .bool false]) (by simp [results, Tryz.results16, go_sem, r0, r1, r2, r3, rfz]) rfl ?_
              refine ⟨none, 0, none, 0, none, 0, rfl, PRow.zero _ _, ?_⟩
              iterate 4 (with_reducible refine Below.setCell ?_ (by simp) _)
              exact FRX.out
            · have HN : Hid (poolS L = some ⟨x0, L1, L2, L3⟩) := HPE.out.trans (if_pos ⟨rfl, rfl, rfl, rfl⟩)
              rw [HN.out]
              go_enter Tryz.func16, Tryz.ntmps16
              go_wp2_with fail
              refine (HS1.out _ (by omega)).mono ?_
              rintro e w1 ⟨AS, cS, rfl, rowS, b1⟩
              have FR1 := Lib.hid (FR0.out.trans (b1.mono (by simp)))
              have hs1 : w.heap.size + 1 ≤ w1.heap.size := by have := b1.size; simpa using this
              have BR1 := Lib.hid (BR0.out.below b1 (by simp))
              rw [ST1.out] at rowS
              obtain ⟨bp, op, hAP, hBp, hlp, hrb⟩ := rowS.form (by simp)
              subst hAP
              have p0 : w1.cell? ⟨bp, op, none⟩ = some (.string BH) := by have := rowS.cell (j := 0) (u := .string BH) rfl; simpa using this
              have p1 : w1.cell? ⟨bp, op + 1, none⟩ = some (.string BQ) := rowS.cell (j := 1) (u := .string BQ) rfl
              clear rowS b1 hrb hBp
              go_wp2_with fail
              refine (HS2.out _ hbr).mono ?_
              rintro e w2 ⟨AQ, cQ, rfl, rowQ, b2⟩
              have FR2 := Lib.hid (FR1.out.trans (b2.mono FR1.out.size))
              have hs2 : w1.heap.size ≤ w2.heap.size := b2.size
              have BR2 := Lib.hid (BR1.out.below b2 BR1.out.lt)
              rw [ST2.out] at rowQ
              obtain ⟨bq, oq, hAQ, hBq, hlq, hrq⟩ := rowQ.form (by simp)
              subst hAQ
              have q0 : w2.cell? ⟨bq, oq, none⟩ = some (.string BX) := by have := rowQ.cell (j := 0) (u := .string BX) rfl; simpa using this
              have q1 : w2.cell? ⟨bq, oq + 1, none⟩ = some (.string BY) := rowQ.cell (j := 1) (u := .string BY) rfl
              have q2 : w2.cell? ⟨bq, oq + 2, none⟩ = some (.string BZ) := rowQ.cell (j := 2) (u := .string BZ) rfl
              have p0' := (b2.cell (p := ⟨bp, op, none⟩) hlp).trans p0
              have hlp2 : bp < w2.heap.size := by omega
              clear rowQ b2 hrq hBq p0 p1
              go_wp2_with fail
              refine (HC1.out _).mono ?_
              rintro e w3 ⟨A1, a1, rfl, r1, b3⟩
              have FR3 := Lib.hid (FR2.out.trans (b3.mono FR2.out.size))
              have hs3 : w2.heap.size ≤ w3.heap.size := b3.size
              have BR3 := Lib.hid (BR2.out.below b3 BR2.out.lt)
              have y1 := (b3.cell (p := ⟨bq, oq + 1, none⟩) hlq).trans q1
              have y2 := (b3.cell (p := ⟨bq, oq + 2, none⟩) hlq).trans q2
              have yp := (b3.cell (p := ⟨bp, op, none⟩) hlp2).trans p0'
              have hlq3 : bq < w3.heap.size := by omega
              have hlp3 : bp < w3.heap.size := by omega
              have R1 := Lib.hid r1
              clear r1 b3 q0 q1 q2 p0'
              go_wp2_with fail
              refine (HC2.out _).mono ?_
              rintro e w4 ⟨A2, a2, rfl, r2, b4⟩
              have FR4 := Lib.hid (FR3.out.trans (b4.mono FR3.out.size))
              have hs4 : w3.heap.size ≤ w4.heap.size := b4.size
              have BR4 := Lib.hid (BR3.out.below b4 BR3.out.lt)
              have z2 := (b4.cell (p := ⟨bq, oq + 2, none⟩) hlq3).trans y2
              have zp := (b4.cell (p := ⟨bp, op, none⟩) hlp3).trans yp
              have hlp4 : bp < w4.heap.size := by omega
              have AP12 := row_apart R1.out r2 (Nat.le_refl _)
              have R14 := Lib.hid (R1.out.below b4)
              have R2 := Lib.hid r2
              clear r2 b4 y1 y2 yp
              go_wp2_with fail
              refine (HC3.out _).mono ?_
              rintro e w5 ⟨A3, a3, rfl, r3, b5⟩
              have FR5 := Lib.hid (FR4.out.trans (b5.mono FR4.out.size))
              have hs5 : w4.heap.size ≤ w5.heap.size := b5.size
              have BR5 := Lib.hid (BR4.out.below b5 BR4.out.lt)
              have vp := (b5.cell (p := ⟨bp, op, none⟩) hlp4).trans zp
              have PR5 := Lib.hid (show PRow w5 (w.heap.size + 1) ⟨x0, L1, L2, L3⟩ A1 a1 A2 a2 A3 a3 from ⟨(R14.out.below b5).mono (by omega), (R2.out.below b5).mono (by omega), r3.mono (by omega), AP12, row_apart R14.out r3 (Nat.le_refl _), row_apart R2.out r3 (Nat.le_refl _)⟩)
              clear r3 b5 z2 zp AP12 R14 R2 R1
              go_wp2_with fail
              refine (HC4.out _).mono ?_
              rintro e w6 ⟨rfl, b6⟩
              have FR6 := Lib.hid (FR5.out.trans (b6.mono FR5.out.size))
              have hs6 : w5.heap.size ≤ w6.heap.size := b6.size
              have BR6 := Lib.hid (BR5.out.below b6 BR5.out.lt)
              have PR6 := Lib.hid (PR5.out.below b6)
              clear b6 vp PR5
              obtain ⟨w7, hw7⟩ : ∃ w7, w7 = w6.alloc (.cells #[.int .i64 x0, .slice A1 L1.length a1, .slice A2 L2.length a2, .slice A3 L3.length a3] 26) := ⟨_, rfl⟩
              have FR7 := Lib.hid (show Below w.heap.size w w7 by rw [hw7]; exact FR6.out.alloc FR6.out.size _)
              have BR7 := Lib.hid (show Blk w7 w.heap.size 26 #[.int .i64 0, .slice none 0 0, .slice none 0 0, .slice none 0 0] by rw [hw7]; exact BR6.out.alloc _)
              have PR7 := Lib.hid (show PRow w7 (w.heap.size + 1) ⟨x0, L1, L2, L3⟩ A1 a1 A2 a2 A3 a3 by rw [hw7]; exact PR6.out.alloc _)
              have BP7 := Lib.hid (show Blk w7 w6.heap.size 26 #[.int .i64 x0, .slice A1 L1.length a1, .slice A2 L2.length a2, .slice A3 L3.length a3] by rw [hw7]; exact Blk.new w6 _ _)
              have hg7 : w6.heap.size < w7.heap.size := by rw [hw7]; simp
              have hgw7 : w.heap.size < w7.heap.size := by omega
              go_upto_region 11 with fail
              rw [← hw7]
              clear hw7
              obtain ⟨k0, k1, k2, k3, kfz⟩ := blk4 BP7.out
              go_wp2_with fail
              refine (HV.out _ _ _ _ _ _ _ PR7.out.1.rd PR7.out.2.1.rd PR7.out.2.2.1.rd).mono ?_
              rintro e w8 ⟨rfl, b8⟩
              have FRX := Lib.hid (FR7.out.trans (b8.mono FR7.out.size))
              have PR8 := Lib.hid (PR7.out.below b8)
              clear k0 k1 k2 k3 kfz
              obtain ⟨r0, r1, r2, r3, rfz⟩ := blk4 (BR7.out.below b8 hgw7)
              obtain ⟨k0, k1, k2, k3, kfz⟩ := blk4 (BP7.out.below b8 hg7)
              go_wp2_with fail
              refine bodyPost_ret (v := .tuple #[.agg #[.int .i64 x0, .slice A1 L1.length a1, .slice A2 L2.length a2, .slice A3 L3.length a3], .bool true]) (by simp [results, Tryz.results16, go_sem, r0, r1, r2, r3, rfz]) rfl ?_
              refine ⟨A1, a1, A2, a2, A3, a3, rfl, ?_, ?_⟩
              · refine PRow.mono (base := w.heap.size + 1) ?_ (by omega)
                iterate 4 (with_reducible refine PRow.setFar ?_ (by simp) _)
                exact PR8.out
              · iterate 4 (with_reducible refine Below.setCell ?_ (by simp) _)
                exact FRX.out
    · have HN : Hid (poolS L = none) := poolS_n2 hps.symm hqs h3
      rw [HN.out]
      have hl3 : ((qs.length : Int) == 3) = false := beq_eq_false_iff_ne.2 (by omega)
      have hbr : (bsof r).size ≤ 1073741824 := by rw [bsof_size]; omega
      obtain ⟨BH, hBH⟩ : ∃ BH, BH = bsof hd := ⟨_, rfl⟩
      obtain ⟨BQ, hBQ⟩ : ∃ BQ, BQ = bsof r := ⟨_, rfl⟩
      have st1 : strs [hd, r] = [.string BH, .string BQ] := by rw [hBH, hBQ]; rfl
      have ST1 := Lib.hid st1
      rw [← hBQ] at HS2 hbr
      clear hBH hBQ st1 hps hqs hpl hql HP h2 hL hlen
      go_enter Tryz.func16, Tryz.ntmps16
      go_wp2_with fail
      refine (HS1.out _ (by omega)).mono ?_
      rintro e w1 ⟨AS, cS, rfl, rowS, b1⟩
      have FR1 := Lib.hid (FR0.out.trans (b1.mono (by simp)))
      have hs1 : w.heap.size + 1 ≤ w1.heap.size := by have := b1.size; simpa using this
      have BR1 := Lib.hid (BR0.out.below b1 (by simp))
      rw [ST1.out] at rowS
      obtain ⟨bp, op, hAP, hBp, hlp, hrb⟩ := rowS.form (by simp)
      subst hAP
      have p0 : w1.cell? ⟨bp, op, none⟩ = some (.string BH) := by have := rowS.cell (j := 0) (u := .string BH) rfl; simpa using this
      have p1 : w1.cell? ⟨bp, op + 1, none⟩ = some (.string BQ) := rowS.cell (j := 1) (u := .string BQ) rfl
      clear rowS b1 hrb hBp
      go_wp2_with fail
      refine (HS2.out _ hbr).mono ?_
      rintro e w2 ⟨AQ, cQ, rfl, rowQ, b2⟩
      have FR2 := Lib.hid (FR1.out.trans (b2.mono FR1.out.size))
      have hs2 : w1.heap.size ≤ w2.heap.size := b2.size
      have BR2 := Lib.hid (BR1.out.below b2 BR1.out.lt)
      have FRX := FR2
      obtain ⟨r0, r1, r2, r3, rfz⟩ := blk4 BR2.out
      clear rowQ b2 p0 p1
      have hl3' : ¬ qs.length = 3 := h3
      clear h3
      go_wp2_with fail
      refine bodyPost_ret (v := .tuple #[.agg #[.int .i64 0, .slice none 0 0, .slice none 0 0, .slice none 0 0], .bool false]) (by simp [results, Tryz.results16, go_sem, r0, r1, r2, r3, rfz]) rfl ?_
      refine ⟨none, 0, none, 0, none, 0, rfl, PRow.zero _ _, ?_⟩
      iterate 4 (with_reducible refine Below.setCell ?_ (by simp) _)
      exact FRX.out
  · have HN : Hid (poolS L = none) := poolS_n1 hps h2
    rw [HN.out]
    have hl2 : ((ps.length : Int) == 2) = false := beq_eq_false_iff_ne.2 (by omega)
    clear hps hpl HP hL hlen
    go_enter Tryz.func16, Tryz.ntmps16
    go_wp2_with fail
    refine (HS1.out _ (by omega)).mono ?_
    rintro e w1 ⟨AS, cS, rfl, rowS, b1⟩
    have FR1 := Lib.hid (FR0.out.trans (b1.mono (by simp)))
    have hs1 : w.heap.size + 1 ≤ w1.heap.size := by have := b1.size; simpa using this
    have BR1 := Lib.hid (BR0.out.below b1 (by simp))
    have FRX := FR1
    obtain ⟨r0, r1, r2, r3, rfz⟩ := blk4 BR1.out
    clear rowS b1
    go_wp2_with fail
    refine bodyPost_ret (v := .tuple #[.agg #[.int .i64 0, .slice none 0 0, .slice none 0 0, .slice none 0 0], .bool false]) (by simp [results, Tryz.results16, go_sem, r0, r1, r2, r3, rfz]) rfl ?_
    refine ⟨none, 0, none, 0, none, 0, rfl, PRow.zero _ _, ?_⟩
    iterate 4 (with_reducible refine Below.setCell ?_ (by simp) _)
    exact FRX.out
end Go.Proofs.YtnmgnhpagnjhlaaGreatDoor
