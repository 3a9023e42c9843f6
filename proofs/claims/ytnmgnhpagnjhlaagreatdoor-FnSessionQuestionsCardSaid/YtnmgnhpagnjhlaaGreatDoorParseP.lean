/- The reference reads lists of numbers, what is held, and pools. -/
import Derived.Test.YtnmgnhpagnjhlaaGreatDoorPlainR
import Derived.Test.YtnmgnhpagnjhlaaGreatDoorParseG
import Derived.Test.YtnmgnhpagnjhlaaGreatDoorAcq
import Derived.Test.YtnmgnhpagnjhlaaGreatDoorPoolV
set_option linter.unusedVariables false
set_option linter.unusedSimpArgs false
set_option linter.unnecessarySimpa false
namespace Go.Proofs.YtnmgnhpagnjhlaaGreatDoor
open Go.RowKit

theorem numsS_snoc : ∀ (us : List (List UInt8)) (xs : List Int) (p : List UInt8), numsS us = some xs → numsS (us ++ [p]) = if 0 ≤ pI p then some (xs ++ [pI p]) else none
  | [], xs, p, h => by
    simp only [numsS, Option.some.injEq] at h
    subst h
    simp only [List.nil_append, numsS, Option.map_some]
  | q :: us, xs, p, h => by
    unfold numsS at h
    split at h
    · rename_i h0
      cases hr : numsS us with
      | none => rw [hr] at h; cases h
      | some r =>
        rw [hr] at h
        simp only [Option.map_some, Option.some.injEq] at h
        subst h
        rw [List.cons_append]
        unfold numsS
        rw [if_pos h0, numsS_snoc us r p hr]
        split <;> simp
    · cases h
theorem numsS_none : ∀ (us bs : List (List UInt8)), numsS us = none → numsS (us ++ bs) = none
  | [], bs, h => by simp [numsS] at h
  | q :: us, bs, h => by
    rw [List.cons_append]
    unfold numsS at h ⊢
    split
    · rename_i h0
      rw [if_pos h0] at h
      cases hr : numsS us with
      | none => rw [numsS_none us bs hr]; rfl
      | some r => rw [hr] at h; cases h
    · rfl
theorem pairsS_snoc : ∀ (us : List (List UInt8)) (xs : List Pr) (p : List UInt8), pairsS us = some xs → pairsS (us ++ [p]) = (hold1 p).map fun h => xs ++ [h]
  | [], xs, p, h => by
    simp only [pairsS, Option.some.injEq] at h
    subst h
    simp only [List.nil_append, pairsS]
    cases hold1 p <;> rfl
  | q :: us, xs, p, h => by
    unfold pairsS at h
    cases h1 : hold1 q with
    | none => rw [h1] at h; cases h
    | some x =>
      rw [h1] at h
      simp only at h
      cases hr : pairsS us with
      | none => rw [hr] at h; cases h
      | some r =>
        rw [hr] at h
        simp only [Option.map_some, Option.some.injEq] at h
        subst h
        rw [List.cons_append]
        unfold pairsS
        rw [h1, pairsS_snoc us r p hr]
        simp only
        cases hold1 p <;> simp
theorem pairsS_none : ∀ (us bs : List (List UInt8)), pairsS us = none → pairsS (us ++ bs) = none
  | [], bs, h => by simp [pairsS] at h
  | q :: us, bs, h => by
    rw [List.cons_append]
    unfold pairsS at h ⊢
    cases h1 : hold1 q with
    | none => rfl
    | some x =>
      rw [h1] at h
      simp only at h ⊢
      cases hr : pairsS us with
      | none => rw [pairsS_none us bs hr]; rfl
      | some r => rw [hr] at h; cases h
/-- Numbers that were read, or none. -/
def RetNL (o : Option (List Int)) (w : World) (e : Ending) (w' : World) : Prop :=
  ∃ A c, e = .returned (.tuple #[.slice A (o.getD []).length c, .bool o.isSome]) ∧ Row w' w.heap.size 3 1 A (o.getD []).length c ((o.getD []).map (.int .i64)) ∧ Below w.heap.size w w'
def RetHL (o : Option (List Pr)) (w : World) (e : Ending) (w' : World) : Prop :=
  ∃ A c, e = .returned (.tuple #[.slice A (o.getD []).length c, .bool o.isSome]) ∧ Row w' w.heap.size 48 2 A (o.getD []).length c (sc (o.getD [])) ∧ Below w.heap.size w w'
set_option maxRecDepth 100000 in
set_option maxHeartbeats 8000000 in
theorem parseList_c (s : ByteArray) (w : World) (hs : s.size ≤ 1048576) :
    Calls Tryz.prog 45 #[.string s] w (RetNL (listS s.data.toList) w) := by
  obtain ⟨i0, i0_i, i0_z0, i0_z1, i0_z2⟩ := info_parts poolIntInfo
  have hlen : s.data.toList.length = s.size := by rw [Array.length_toList]; rfl
  obtain ⟨L, hL⟩ : ∃ L, L = s.data.toList := ⟨_, rfl⟩
  rw [← hL] at hlen
  rw [← hL]
  have bad : ∀ W, (listS L = none) → Below w.heap.size w W → RetNL (listS L) w (.returned (.tuple #[.slice none 0 0, .bool false])) W := by
    intro W h hW
    rw [h]
    exact ⟨none, 0, rfl, Row.nil _ _ _ _ _, hW⟩
  have good : ∀ (xs : List Int) (A : Option Addr) (c : Nat) (W : World), listS L = some xs → Row W w.heap.size 3 1 A xs.length c (xs.map (.int .i64)) → Below w.heap.size w W → RetNL (listS L) w (.returned (.tuple #[.slice A xs.length c, .bool true])) W := by
    intro xs A c W h hr hW
    rw [h]
    exact ⟨A, c, rfl, hr, hW⟩
  have BAD := Lib.hid bad; have GOOD := Lib.hid good
  have HLEN := Lib.hid hlen; have HL := Lib.hid hL
  obtain ⟨em, hem⟩ : ∃ em, em = s.toList.isEmpty := ⟨_, rfl⟩
  have hem' := hem.symm
  have hemL : em = L.isEmpty := by rw [hem, hL, ByteArray.toList_eq]
  obtain ⟨RES, hRES⟩ : ∃ RES, RES = listS L := ⟨_, rfl⟩
  rw [← hRES]
  rw [← hRES] at BAD GOOD
  have HRES := Lib.hid hRES
  clear bad good hlen hem hL hRES
  cases em
  · have hne : L ≠ [] := by intro e; rw [e] at hemL; cases hemL
    have hls : RES = numsS (spl 44 L) := by rw [HRES.out]; unfold listS; rw [elsOf_ne hne]
    have HLS := Lib.hid hls
    have hpl := spl_len 44 L
    have hpp := spl_piece_len 44 L
    obtain ⟨ps, hps⟩ : ∃ ps, ps = spl 44 L := ⟨_, rfl⟩
    rw [← hps] at hpl hpp
    have HSP := Lib.hid (splitAt_c s 44 44 rfl)
    have hsp : spl 44 s.data.toList = ps := by rw [hps, HL.out]
    rw [hsp] at HSP
    have HPS := Lib.hid hps; have HPP := Lib.hid hpp
    have hpn : ps.length ≤ 1048577 := by have := HLEN.out; omega
    clear hne hls hps hpp hsp hemL hpl
    go_enter Tryz.func45, Tryz.ntmps45
    go_wp2_with fail
    refine (HSP.out _ (by omega)).mono ?_
    rintro e w2 ⟨AS, cS, rfl, rowS, b2⟩
    have hb2 : Below w.heap.size w w2 := ((Below.refl _ _).alloc (Nat.le_refl _) _).trans (b2.mono (by simp))
    have B2 := Lib.hid hb2; have RS := Lib.hid rowS.rd
    have hs2 := hb2.size
    clear rowS b2 hb2 HSP
    go_wp2_with fail
    go_loopw [4, 6] (fun o i wr => ∃ (A2 : Option Addr) (c2 : Nat) (xs : List Int), xs.length ≤ ps.length ∧ i = .int .i64 xs.length ∧ o = .slice A2 xs.length c2 ∧ Row wr w2.heap.size 3 1 A2 xs.length c2 (xs.map (.int .i64)) ∧ numsS (ps.take xs.length) = some xs ∧ Below w2.heap.size w2 wr) (fun _ i _ => ps.length - (intOf i).toNat)
    case atStart => exact ⟨_, _, [], Nat.zero_le _, rfl, rfl, Row.nil _ _ _ _ _, rfl, Below.refl _ _⟩
    case round =>
      obtain ⟨A2, c2, xs, hj, rfl, rfl, row, hpt, hb⟩ := hrel
      have HPT := Lib.hid hpt; have HB := Lib.hid hb
      have hsz := hb.size
      obtain ⟨j, hjj⟩ : ∃ j, j = xs.length := ⟨_, rfl⟩
      have HJ := Lib.hid hjj
      rw [← hjj] at hj row
      rw [← hjj]
      have ROW := Lib.hid row
      clear hpt hb row hjj
      by_cases hlt : j < ps.length
      · obtain ⟨b, off, hA, hbl, hc⟩ := (RS.out.below HB.out).block (by simp [strs]; omega)
        subst hA
        obtain ⟨q, hQ⟩ : ∃ q, q = ps[j] := ⟨_, rfl⟩
        have hcq : wr.cell? ⟨b, off + j, none⟩ = some (.string (bsof q)) := hc j _ (by unfold strs; rw [List.getElem?_map, List.getElem?_eq_getElem hlt, hQ]; rfl)
        have hql : q.length ≤ 1048576 := by
          have := HPP.out ps[j] (List.getElem_mem hlt)
          rw [← hQ] at this
          have := HLEN.out
          omega
        have htk : ps.take (j + 1) = ps.take j ++ [q] := by rw [take_snoc ps j hlt, hQ]
        have hsn := numsS_snoc (ps.take j) xs q (by rw [HJ.out]; exact HPT.out)
        rw [← htk] at hsn
        have HSN := Lib.hid hsn
        obtain ⟨x, hx⟩ : ∃ x, x = pI q := ⟨_, rfl⟩
        have HCQ : Hid (∀ W : World, Calls Tryz.prog 47 #[.string (bsof q)] W fun e w' => e = .returned (.int .i64 x) ∧ Below W.heap.size W w') := fun W => by rw [hx]; exact parseInt_c (bsof q) W (by rw [bsof_size]; omega)
        obtain ⟨BQ, hBQ⟩ : ∃ BQ, BQ = bsof q := ⟨_, rfl⟩
        rw [← hBQ] at hcq HCQ
        have HX := Lib.hid hx
        clear hc hQ htk hsn hx hBQ
        by_cases hx0 : x < 0
        · have hxd : decide (x < 0) = true := decide_eq_true hx0
          have hno : RES = none := by
            have h1 := HSN.out
            rw [if_neg (by rw [← HX.out]; omega)] at h1
            have h2 := numsS_none _ (ps.drop (j + 1)) h1
            rw [List.take_append_drop] at h2
            rw [HLS.out, ← HPS.out, h2]
          have HNO := Lib.hid hno
          clear hno hx0
          go_wp2_with fail
          refine (HCQ.out _).mono ?_
          rintro e w4 ⟨rfl, b4⟩
          have FIN := Lib.hid (BAD.out w4 HNO.out ((B2.out.trans (HB.out.mono hs2)).trans (b4.mono (Nat.le_trans hs2 hsz))))
          clear b4
          go_wp2_with fail
          first | go_ret2 | go_ret
          exact FIN.out
        · have hxd : decide (x < 0) = false := decide_eq_false hx0
          have hnx : numsS (ps.take (j + 1)) = some (xs ++ [x]) := by
            have h1 := HSN.out
            rw [if_pos (by rw [← HX.out]; omega), ← HX.out] at h1
            exact h1
          have HNX := Lib.hid hnx
          clear hnx hx0
          go_wp2_with fail
          refine (HCQ.out _).mono ?_
          rintro e w4 ⟨rfl, b4⟩
          have hcq4 := (b4.cell (p := ⟨b, off + j, none⟩) hbl).trans hcq
          have hs4 : wr.heap.size ≤ w4.heap.size := b4.size
          have ROW4 := Lib.hid (ROW.out.below b4); have B4 := Lib.hid (HB.out.trans (b4.mono hsz))
          clear b4 hcq
          go_wp2_with fail
          refine (HCQ.out _).mono ?_
          rintro e w5 ⟨rfl, b5⟩
          have hs5 : w4.heap.size ≤ w5.heap.size := b5.size
          have ROW5 := Lib.hid (ROW4.out.below b5); have B5 := Lib.hid (B4.out.trans (b5.mono (by omega)))
          clear b5 hcq4
          go_wp2_with (at_builtin; (refine wpList_append_row _ rfl (.tmp 25) (.tmp 31) 23 rfl w2.heap.size 3 i0 (.int .i64 0) 1 8 Tryz.underlying23 i0_i i0_z0 i0_z1 i0_z2 rfl A2 j c2 (xs.map (.int .i64)) (by first | rfl | simp) (ROW5.out.alloc _) (some ⟨w5.heap.size, 0, none⟩) 1 1 [.int .i64 x] rfl rfl (Rd.one (cell_new _ _ _ 0)) (one1 _ rfl) (by omega) (by unfold maxLen; omega) (by omega) (by simp <;> omega) ?_))
          intro A3 c3 w6 row6 hg6 _
          have b6 : Below w2.heap.size w2 w6 := (B5.out.alloc (by omega) _).grown hg6 (by simp <;> omega) (fun y hy => (ROW5.out.lt y hy).1)
          have row7 : Row w6 w2.heap.size 3 1 A3 (xs ++ [x]).length c3 ((xs ++ [x]).map (.int .i64)) := by rw [← snocI xs x _ rfl, List.length_append, ← HJ.out]; exact row6
          have hl7 : (xs ++ [x]).length = j + 1 := by rw [List.length_append, ← HJ.out]; rfl
          have B6 := Lib.hid b6; have ROW7 := Lib.hid row7; have HL7 := Lib.hid hl7
          clear row6 hg6 b6 row7 hl7
          go_wp2_with fail
          go_roundw
          case rel => exact ⟨A3, c3, xs ++ [x], by rw [HL7.out]; omega, by rw [HL7.out]; go_num, by rw [HL7.out], ROW7.out, by rw [HL7.out]; exact HNX.out, B6.out⟩
          case measure => simp [intOf]; omega
      · obtain rfl : j = ps.length := by omega
        have hall : RES = some xs := by
          have := HPT.out
          rw [← HJ.out, List.take_length] at this
          rw [HLS.out, ← HPS.out]
          exact this
        have fin := GOOD.out xs A2 c2 wr hall (by rw [← HJ.out]; exact ROW.out.mono hs2) (B2.out.trans (HB.out.mono hs2))
        rw [← HJ.out] at fin
        have FIN := Lib.hid fin
        clear hall fin
        go_wp2_with fail
        first | go_ret2 | go_ret
        exact FIN.out
  · have he : L = [] := by
      cases hh : L with
      | nil => rfl
      | cons a b => rw [hh] at hemL; cases hemL
    have fin := GOOD.out [] (some ⟨w.heap.size, 0, none⟩) 0 _ (by rw [HRES.out, he]; rfl) (Row.nil _ _ _ _ _) ((Below.refl w.heap.size w).alloc (Nat.le_refl _) (.cells #[] 3))
    have FIN := Lib.hid fin
    clear fin hemL he
    go_enter Tryz.func45, Tryz.ntmps45
    go_wp2_with fail
    first | go_ret2 | go_ret
    exact FIN.out
set_option maxRecDepth 100000 in
set_option maxHeartbeats 8000000 in
theorem parseHolds_c (s : ByteArray) (w : World) (hs : s.size ≤ 1048576) :
    Calls Tryz.prog 46 #[.string s] w (RetHL (holdsS s.data.toList) w) := by
  obtain ⟨i0, i0_i, i0_z0, i0_z1, i0_z2⟩ := info_parts poolHoldInfo
  have hlen : s.data.toList.length = s.size := by rw [Array.length_toList]; rfl
  obtain ⟨L, hL⟩ : ∃ L, L = s.data.toList := ⟨_, rfl⟩
  rw [← hL] at hlen
  rw [← hL]
  have bad : ∀ W, (holdsS L = none) → Below w.heap.size w W → RetHL (holdsS L) w (.returned (.tuple #[.slice none 0 0, .bool false])) W := by
    intro W h hW
    rw [h]
    exact ⟨none, 0, rfl, Row.nil _ _ _ _ _, hW⟩
  have good : ∀ (xs : List Pr) (A : Option Addr) (c : Nat) (W : World), holdsS L = some xs → Row W w.heap.size 48 2 A xs.length c (sc xs) → Below w.heap.size w W → RetHL (holdsS L) w (.returned (.tuple #[.slice A xs.length c, .bool true])) W := by
    intro xs A c W h hr hW
    rw [h]
    exact ⟨A, c, rfl, hr, hW⟩
  have BAD := Lib.hid bad; have GOOD := Lib.hid good
  have HLEN := Lib.hid hlen; have HL := Lib.hid hL
  obtain ⟨em, hem⟩ : ∃ em, em = s.toList.isEmpty := ⟨_, rfl⟩
  have hem' := hem.symm
  have hemL : em = L.isEmpty := by rw [hem, hL, ByteArray.toList_eq]
  obtain ⟨RES, hRES⟩ : ∃ RES, RES = holdsS L := ⟨_, rfl⟩
  rw [← hRES]
  rw [← hRES] at BAD GOOD
  have HRES := Lib.hid hRES
  clear bad good hlen hem hL hRES
  cases em
  · have hne : L ≠ [] := by intro e; rw [e] at hemL; cases hemL
    have hls : RES = pairsS (spl 44 L) := by rw [HRES.out]; unfold holdsS; rw [elsOf_ne hne]
    have HLS := Lib.hid hls
    have hpl := spl_len 44 L
    have hpp := spl_piece_len 44 L
    obtain ⟨ps, hps⟩ : ∃ ps, ps = spl 44 L := ⟨_, rfl⟩
    rw [← hps] at hpl hpp
    have HSP := Lib.hid (splitAt_c s 44 44 rfl)
    have hsp : spl 44 s.data.toList = ps := by rw [hps, HL.out]
    rw [hsp] at HSP
    have HPS := Lib.hid hps; have HPP := Lib.hid hpp
    have hpn : ps.length ≤ 1048577 := by have := HLEN.out; omega
    clear hne hls hps hpp hsp hemL hpl
    go_enter Tryz.func46, Tryz.ntmps46
    go_wp2_with fail
    refine (HSP.out _ (by omega)).mono ?_
    rintro e w2 ⟨AS, cS, rfl, rowS, b2⟩
    have hb2 : Below w.heap.size w w2 := ((Below.refl _ _).alloc (Nat.le_refl _) _).trans (b2.mono (by simp))
    have B2 := Lib.hid hb2; have RS := Lib.hid rowS.rd
    have hs2 := hb2.size
    clear rowS b2 hb2 HSP
    go_wp2_with fail
    go_loopw [4, 6] (fun o i wr => ∃ (A2 : Option Addr) (c2 : Nat) (xs : List Pr), xs.length ≤ ps.length ∧ i = .int .i64 xs.length ∧ o = .slice A2 xs.length c2 ∧ Row wr w2.heap.size 48 2 A2 xs.length c2 (sc xs) ∧ pairsS (ps.take xs.length) = some xs ∧ Below w2.heap.size w2 wr) (fun _ i _ => ps.length - (intOf i).toNat)
    case atStart => exact ⟨_, _, [], Nat.zero_le _, rfl, rfl, Row.nil _ _ _ _ _, rfl, Below.refl _ _⟩
    case round =>
      obtain ⟨A2, c2, xs, hj, rfl, rfl, row, hpt, hb⟩ := hrel
      have HPT := Lib.hid hpt; have HB := Lib.hid hb
      have hsz := hb.size
      obtain ⟨j, hjj⟩ : ∃ j, j = xs.length := ⟨_, rfl⟩
      have HJ := Lib.hid hjj
      rw [← hjj] at hj row
      rw [← hjj]
      have ROW := Lib.hid row
      clear hpt hb row hjj
      by_cases hlt : j < ps.length
      · obtain ⟨b, off, hA, hbl, hc⟩ := (RS.out.below HB.out).block (by simp [strs]; omega)
        subst hA
        obtain ⟨q, hQ⟩ : ∃ q, q = ps[j] := ⟨_, rfl⟩
        have hcq : wr.cell? ⟨b, off + j, none⟩ = some (.string (bsof q)) := hc j _ (by unfold strs; rw [List.getElem?_map, List.getElem?_eq_getElem hlt, hQ]; rfl)
        have hql : q.length ≤ 1048576 := by
          have := HPP.out ps[j] (List.getElem_mem hlt)
          rw [← hQ] at this
          have := HLEN.out
          omega
        have htk : ps.take (j + 1) = ps.take j ++ [q] := by rw [take_snoc ps j hlt, hQ]
        have hsn := pairsS_snoc (ps.take j) xs q (by rw [HJ.out]; exact HPT.out)
        rw [← htk] at hsn
        have HSN := Lib.hid hsn
        have HSQ := Lib.hid (splitAt_c (bsof q) 58 58 rfl)
        have HH1 : Hid (hold1 q = match spl 58 q with | [a, b] => if 0 ≤ pI a ∧ 0 ≤ pI b then some (pI a, pI b) else none | _ => none) := by show _ = _; rfl
        clear hc hQ htk hsn
        go_wp2_with fail
        refine (HSQ.out _ (by rw [bsof_size]; omega)).mono ?_
        rw [data_bsof]
        rintro e w4 ⟨AP, cP, rfl, rowP, b4⟩
        have hb4 : Below w2.heap.size w2 w4 := HB.out.trans (b4.mono HB.out.size)
        have row4 := ROW.out.below b4
        have B4 := Lib.hid hb4; have ROW4 := Lib.hid row4
        have hs4 := b4.size
        clear hb4 row4 HSQ
        obtain ⟨pq, hpq⟩ : ∃ pq, pq = spl 58 q := ⟨_, rfl⟩
        rw [← hpq] at rowP HH1
        rw [← hpq]
        have hpc := spl_piece_len 58 q
        rw [← hpq] at hpc
        clear hpq
        have two : (∃ a b, pq = [a, b]) ∨ (pq.length ≠ 2 ∧ hold1 q = none) := by
          rcases pq with _ | ⟨a, _ | ⟨b, _ | ⟨d, r⟩⟩⟩
          · exact .inr ⟨by simp, HH1.out⟩
          · exact .inr ⟨by simp, HH1.out⟩
          · exact .inl ⟨a, b, rfl⟩
          · exact .inr ⟨by simp, HH1.out⟩
        rcases two with ⟨a, b', rfl⟩ | ⟨hn2, hno2⟩
        · have hlA : a.length ≤ 1048576 := by have := hpc a (by simp); omega
          have hlB : b'.length ≤ 1048576 := by have := hpc b' (by simp); omega
          obtain ⟨x, hx⟩ : ∃ x, x = pI a := ⟨_, rfl⟩
          obtain ⟨y, hy⟩ : ∃ y, y = pI b' := ⟨_, rfl⟩
          obtain ⟨bp, op, hAP, hBp, hlp, hrb⟩ := rowP.form (by simp)
          subst hAP
          have hp0 : w4.cell? ⟨bp, op, none⟩ = some (.string (bsof a)) := by have := rowP.cell (j := 0) (u := .string (bsof a)) rfl; simpa using this
          have hp1 : w4.cell? ⟨bp, op + 1, none⟩ = some (.string (bsof b')) := rowP.cell (j := 1) (u := .string (bsof b')) rfl
          have HCA : Hid (∀ W : World, Calls Tryz.prog 47 #[.string (bsof a)] W fun e w' => e = .returned (.int .i64 x) ∧ Below W.heap.size W w') := fun W => by rw [hx]; exact parseInt_c (bsof a) W (by rw [bsof_size]; omega)
          have HCB : Hid (∀ W : World, Calls Tryz.prog 47 #[.string (bsof b')] W fun e w' => e = .returned (.int .i64 y) ∧ Below W.heap.size W w') := fun W => by rw [hy]; exact parseInt_c (bsof b') W (by rw [bsof_size]; omega)
          have HX := Lib.hid hx; have HY := Lib.hid hy
          have hne4 : ∀ k, rb A2 c2 = some k → k ≠ bp := fun k hk => by
            have := (ROW.out.lt k hk).2
            omega
          have HNE := Lib.hid hne4
          have h1v : hold1 q = if 0 ≤ x ∧ 0 ≤ y then some (x, y) else none := by rw [HH1.out, hx, hy]
          have H1V := Lib.hid h1v
          obtain ⟨BA, hBA⟩ : ∃ BA, BA = bsof a := ⟨_, rfl⟩
          obtain ⟨BB, hBB⟩ : ∃ BB, BB = bsof b' := ⟨_, rfl⟩
          rw [← hBA] at hp0 HCA
          rw [← hBB] at hp1 HCB
          have hl2 : (((([a, b'] : List (List UInt8)).length : Nat) : Int) == 2) = true := rfl
          clear hpc hx hy hne4 rowP hBA hBB hrb b4 h1v
          by_cases hx0 : x < 0
          · have hxd : decide (x < 0) = true := decide_eq_true hx0
            have hno : RES = none := by
              have h1 := HSN.out
              rw [H1V.out, if_neg (by omega), Option.map_none] at h1
              have h2 := pairsS_none _ (ps.drop (j + 1)) h1
              rw [List.take_append_drop] at h2
              rw [HLS.out, ← HPS.out, h2]
            have HNO := Lib.hid hno
            clear hno
            clear hx0
            go_wp2_with fail
            refine (HCA.out _).mono ?_
            rintro e w5 ⟨rfl, b5⟩
            have hs5 : w4.heap.size ≤ w5.heap.size := b5.size
            have k0 := (b5.cell (p := ⟨bp, op, none⟩) hlp).trans hp0
            have k1 := (b5.cell (p := ⟨bp, op + 1, none⟩) hlp).trans hp1
            have hlp5 : bp < w5.heap.size := by omega
            have ROW5 := Lib.hid (ROW4.out.below b5); have B5 := Lib.hid (B4.out.trans (b5.mono B4.out.size))
            clear b5
            have FIN := Lib.hid (BAD.out w5 HNO.out (B2.out.trans (B5.out.mono hs2)))
            go_wp2_with fail
            first | go_ret2 | go_ret
            exact FIN.out
          · have hxd : decide (x < 0) = false := decide_eq_false hx0
            by_cases hy0 : y < 0
            · have hyd : decide (y < 0) = true := decide_eq_true hy0
              have hno : RES = none := by
                have h1 := HSN.out
                rw [H1V.out, if_neg (by omega), Option.map_none] at h1
                have h2 := pairsS_none _ (ps.drop (j + 1)) h1
                rw [List.take_append_drop] at h2
                rw [HLS.out, ← HPS.out, h2]
              have HNO := Lib.hid hno
              clear hno
              clear hx0 hy0
              go_wp2_with fail
              refine (HCA.out _).mono ?_
              rintro e w5 ⟨rfl, b5⟩
              have hs5 : w4.heap.size ≤ w5.heap.size := b5.size
              have k0 := (b5.cell (p := ⟨bp, op, none⟩) hlp).trans hp0
              have k1 := (b5.cell (p := ⟨bp, op + 1, none⟩) hlp).trans hp1
              have hlp5 : bp < w5.heap.size := by omega
              have ROW5 := Lib.hid (ROW4.out.below b5); have B5 := Lib.hid (B4.out.trans (b5.mono B4.out.size))
              clear b5
              go_wp2_with fail
              refine (HCB.out _).mono ?_
              rintro e w6 ⟨rfl, b6⟩
              have hs6 : w5.heap.size ≤ w6.heap.size := b6.size
              have m0 := (b6.cell (p := ⟨bp, op, none⟩) hlp5).trans k0
              have m1 := (b6.cell (p := ⟨bp, op + 1, none⟩) hlp5).trans k1
              have hlp6 : bp < w6.heap.size := by omega
              have ROW6 := Lib.hid (ROW5.out.below b6); have B6 := Lib.hid (B5.out.trans (b6.mono B5.out.size))
              clear b6
              have FIN := Lib.hid (BAD.out w6 HNO.out (B2.out.trans (B6.out.mono hs2)))
              go_wp2_with fail
              first | go_ret2 | go_ret
              exact FIN.out
            · have hyd : decide (y < 0) = false := decide_eq_false hy0
              have hnx : pairsS (ps.take (j + 1)) = some (xs ++ [(x, y)]) := by
                have h1 := HSN.out
                rw [H1V.out, if_pos ⟨by omega, by omega⟩] at h1
                exact h1
              have HNX := Lib.hid hnx
              clear hx0 hy0 hnx
              go_wp2_with fail
              refine (HCA.out _).mono ?_
              rintro e w5 ⟨rfl, b5⟩
              have hs5 : w4.heap.size ≤ w5.heap.size := b5.size
              have k0 := (b5.cell (p := ⟨bp, op, none⟩) hlp).trans hp0
              have k1 := (b5.cell (p := ⟨bp, op + 1, none⟩) hlp).trans hp1
              have hlp5 : bp < w5.heap.size := by omega
              have ROW5 := Lib.hid (ROW4.out.below b5); have B5 := Lib.hid (B4.out.trans (b5.mono B4.out.size))
              clear b5
              go_wp2_with fail
              refine (HCB.out _).mono ?_
              rintro e w6 ⟨rfl, b6⟩
              have hs6 : w5.heap.size ≤ w6.heap.size := b6.size
              have m0 := (b6.cell (p := ⟨bp, op, none⟩) hlp5).trans k0
              have m1 := (b6.cell (p := ⟨bp, op + 1, none⟩) hlp5).trans k1
              have hlp6 : bp < w6.heap.size := by omega
              have ROW6 := Lib.hid (ROW5.out.below b6); have B6 := Lib.hid (B5.out.trans (b6.mono B5.out.size))
              clear b6
              clear k0 k1 hp0 hp1
              go_wp2_with fail
              go_region_held3 (fun w' => w'.cell? ⟨bp, op, none⟩ = some (.string BA) ∧ w'.cell? ⟨bp, op + 1, none⟩ = some (.string BB)) (first | go_keep | exact ⟨hg3.cell (by go_simp) (fun e => HNE.out _ e.symm rfl), hg3.cell (by go_simp) (fun e => HNE.out _ e.symm rfl)⟩) ((first
                | (go_at_call 47; (with_reducible refine (HCA.out _).mono ?_); rintro e wA ⟨rfl, bA⟩; have k1 := (bA.cell (p := ⟨bp, op, none⟩) hlp6).trans m0; have k2 := (bA.cell (p := ⟨bp, op + 1, none⟩) hlp6).trans m1; have ROWA := Lib.hid (ROW6.out.drew.below bA); have BELA := Lib.hid (arm_drew bA).1; have szA : w6.heap.size ≤ wA.heap.size := bA.size)
                | (go_at_call 47; (with_reducible refine (HCB.out _).mono ?_); rintro e wB ⟨rfl, bB⟩; have k3 := (bB.cell (p := ⟨bp, op, none⟩) (Nat.lt_of_lt_of_le hlp6 szA)).trans k1; have k4 := (bB.cell (p := ⟨bp, op + 1, none⟩) (Nat.lt_of_lt_of_le hlp6 szA)).trans k2; have ROWB := Lib.hid (ROWA.out.below bB); have BELB := Lib.hid (BELA.out.trans (bB.mono szA)); have szB : w6.heap.size ≤ wB.heap.size := Nat.le_trans szA bB.size)
                | (refine step_append_row _ (by rfl) (.tmp 42) (.tmp 52) 24 (by rfl) w2.heap.size 48 i0 (.agg #[.int .i64 0, .int .i64 0]) 2 16 Tryz.underlying24 i0_i i0_z0 i0_z1 i0_z2 rfl A2 j c2 (sc xs) (by rfl) (ROWB.out.alloc _) (some ⟨wB.heap.size, 0, none⟩) 1 1 [.int .i64 x, .int .i64 y] (by rfl) rfl (Rd.two_ wB _ _ _) (two1_ _ _) (by omega) (by unfold maxLen; omega) (by omega) (by simp <;> omega) ?_; intro A3 c3 w3 row3 hg3 hat3)
                | fail))
              all_goals
                have b7 : Below w2.heap.size w2 w3 := ((B6.out.trans (BELB.out.mono B6.out.size)).alloc (Nat.le_trans B6.out.size szB) _).grown hg3 (by have := B6.out.size; simp <;> omega) (fun y hy => (ROW.out.lt y hy).1)
                have row7 : Row w3 w2.heap.size 48 2 A3 (xs ++ [(x, y)]).length c3 (sc (xs ++ [(x, y)])) := by
                  rw [sc_append, List.length_append, ← HJ.out]; exact row3
                have hl7 : (xs ++ [(x, y)]).length = j + 1 := by rw [List.length_append, ← HJ.out]; rfl
                have hn7 : pairsS (ps.take (xs ++ [(x, y)]).length) = some (xs ++ [(x, y)]) := by rw [hl7]; exact HNX.out
                have B7 := Lib.hid b7; have ROW7 := Lib.hid row7; have HL7 := Lib.hid hl7; have HN7 := Lib.hid hn7
                clear b7 row7 hl7 hn7 row3 hg3 hat3
                go_wp2_with fail
                go_roundw
                case rel => exact ⟨A3, c3, xs ++ [(x, y)], by rw [HL7.out]; omega, by rw [HL7.out]; go_num, by rw [HL7.out], ROW7.out, HN7.out, B7.out⟩
                case measure => simp [intOf]; omega
        · have hq2 : ((pq.length : Int) == 2) = false := beq_eq_false_iff_ne.2 (by omega)
          have hq2' : ¬ pq.length = 2 := hn2
          have hno : RES = none := by
            have h1 := HSN.out
            rw [hno2, Option.map_none] at h1
            have h2 := pairsS_none _ (ps.drop (j + 1)) h1
            rw [List.take_append_drop] at h2
            rw [HLS.out, ← HPS.out, h2]
          have HNO := Lib.hid hno
          clear hno
          clear hn2 hno2 rowP hpc HSN b4
          have FIN := Lib.hid (BAD.out w4 HNO.out (B2.out.trans (B4.out.mono hs2)))
          go_wp2_with fail
          first | go_ret2 | go_ret
          exact FIN.out
      · obtain rfl : j = ps.length := by omega
        have hall : RES = some xs := by
          have := HPT.out
          rw [← HJ.out, List.take_length] at this
          rw [HLS.out, ← HPS.out]
          exact this
        have fin := GOOD.out xs A2 c2 wr hall (by rw [← HJ.out]; exact ROW.out.mono hs2) (B2.out.trans (HB.out.mono hs2))
        rw [← HJ.out] at fin
        have FIN := Lib.hid fin
        clear hall fin
        go_wp2_with fail
        first | go_ret2 | go_ret
        exact FIN.out
  · have he : L = [] := by
      cases hh : L with
      | nil => rfl
      | cons a b => rw [hh] at hemL; cases hemL
    have fin := GOOD.out [] (some ⟨w.heap.size, 0, none⟩) 0 _ (by rw [HRES.out, he]; rfl) (Row.nil _ _ _ _ _) ((Below.refl w.heap.size w).alloc (Nat.le_refl _) (.cells #[] 48))
    have FIN := Lib.hid fin
    clear fin hemL he
    go_enter Tryz.func46, Tryz.ntmps46
    go_wp2_with fail
    first | go_ret2 | go_ret
    exact FIN.out
end Go.Proofs.YtnmgnhpagnjhlaaGreatDoor
