/- The reference reads settings. -/
import Derived.Test.YtmphjojhfmikeaaDoorParseS
set_option linter.unusedVariables false
set_option linter.unusedSimpArgs false
set_option linter.unnecessarySimpa false
namespace Go.Proofs.YtmphjojhfmikeaaDoor
open Go.RowKit

theorem partsS_snoc : ∀ (us : List (List UInt8)) (xs : List Pr) (p : List UInt8), partsS us = some xs → partsS (us ++ [p]) = (match spl 61 p with | [a, b] => some (xs ++ [(pI a, pI b)]) | _ => none)
  | [], xs, p, h => by
    simp only [partsS, Option.some.injEq] at h
    subst h
    simp only [List.nil_append, partsS, Option.map_some]
    rcases spl 61 p with _ | ⟨a, _ | ⟨b, _ | ⟨d, r⟩⟩⟩ <;> rfl
  | q :: us, xs, p, h => by
    unfold partsS at h
    split at h
    · rename_i a b hs
      cases hr : partsS us with
      | none => rw [hr] at h; cases h
      | some r =>
        rw [hr] at h
        simp only [Option.map_some, Option.some.injEq] at h
        subst h
        have ih := partsS_snoc us r p hr
        rw [List.cons_append]
        unfold partsS
        rw [hs]
        simp only
        rw [ih]
        split <;> simp
    · cases h
theorem partsS_none : ∀ (us bs : List (List UInt8)), partsS us = none → partsS (us ++ bs) = none
  | [], bs, h => by simp [partsS] at h
  | q :: us, bs, h => by
    rw [List.cons_append]
    unfold partsS at h ⊢
    split
    · rename_i a b hs
      rw [hs] at h
      simp only at h
      cases hr : partsS us with
      | none => rw [partsS_none us bs hr]; rfl
      | some r => rw [hr] at h; cases h
    · rfl
/-- Settings that were read, or none. -/
def RetPV (xs : List Pr) (ok : Bool) (w : World) (e : Ending) (w' : World) : Prop :=
  ∃ A c, e = .returned (.tuple #[.slice A xs.length c, .bool ok]) ∧ Row w' w.heap.size 40 2 A xs.length c (sc xs) ∧ Below w.heap.size w w'
def pvX (l : List UInt8) : List Pr := (parseV l).getD []
def pvOk (l : List UInt8) : Bool := (parseV l).isSome
theorem Rd.two_ (w : World) (a b : Value) (t : TypeId) : Rd (w.alloc (.cells #[a, b] t)) (some ⟨w.heap.size, 0, none⟩) [a, b] := fun _ => ⟨w.heap.size, 0, rfl, fun j u hu => by
  rw [Nat.zero_add, cell_new]
  match j, hu with
  | 0, hu => simpa using hu
  | 1, hu => simpa using hu
  | (n + 2), hu => simp at hu⟩
theorem two1_ (a b : Int) : ∀ u ∈ [Value.int .i64 a, .int .i64 b], u.oneCell' = true := fun u hu => by
  simp at hu
  rcases hu with rfl | rfl <;> rfl
set_option maxRecDepth 100000 in
set_option maxHeartbeats 8000000 in
theorem sParse_c (s : ByteArray) (w : World) (hs : s.size ≤ 1048576) :
    Calls Tryd.prog 17 #[.string s] w (RetPV (pvX s.data.toList) (pvOk s.data.toList) w) := by
  obtain ⟨i0, i0_i, i0_z0, i0_z1, i0_z2⟩ := info_parts setInfo
  have hlen : s.data.toList.length = s.size := by rw [Array.length_toList]; rfl
  obtain ⟨L, hL⟩ : ∃ L, L = s.data.toList := ⟨_, rfl⟩
  rw [← hL] at hlen
  rw [← hL]
  have bad : ∀ W, (parseV L = none) → Below w.heap.size w W → RetPV (pvX L) (pvOk L) w (.returned (.tuple #[.slice none 0 0, .bool false])) W := by
    intro W h hW
    unfold pvX pvOk
    rw [h]
    exact ⟨none, 0, rfl, Row.nil _ _ _ _ _, hW⟩
  have good : ∀ (xs : List Pr) (A : Option Addr) (c : Nat) (W : World), parseV L = some xs → Row W w.heap.size 40 2 A xs.length c (sc xs) → Below w.heap.size w W → RetPV (pvX L) (pvOk L) w (.returned (.tuple #[.slice A xs.length c, .bool true])) W := by
    intro xs A c W h hr hW
    unfold pvX pvOk
    rw [h]
    exact ⟨A, c, rfl, hr, hW⟩
  have BAD := Lib.hid bad; have GOOD := Lib.hid good
  have HLEN := Lib.hid hlen; have HL := Lib.hid hL
  obtain ⟨em, hem⟩ : ∃ em, em = s.toList.isEmpty := ⟨_, rfl⟩
  have hem' := hem.symm
  have hemL : em = L.isEmpty := by rw [hem, hL, ByteArray.toList_eq]
  clear bad good hlen hem hL
  cases em
  · have hne : L ≠ [] := by intro e; rw [e] at hemL; cases hemL
    have hls : listS L = partsS (spl 44 L) := by unfold listS; rw [if_neg hne]
    have HLS := Lib.hid hls
    have hpl := spl_len 44 L
    have hpp := spl_piece_len 44 L
    obtain ⟨ps, hps⟩ : ∃ ps, ps = spl 44 L := ⟨_, rfl⟩
    rw [← hps] at hpl hpp
    have HSP := Lib.hid (splitAt_c s 44 44 rfl)
    have hsp : spl 44 s.data.toList = ps := by rw [hps, HL.out]
    rw [hsp] at HSP
    have HPS := Lib.hid hps; have HPP := Lib.hid hpp
    have hpn : ps.length ≤ 1048577 := by have := HLEN.out; omega
    clear hne hls hps hpp hsp hemL hpl
    go_enter Tryd.func17, Tryd.ntmps17
    go_wp2_with fail
    refine (HSP.out _ (by omega)).mono ?_
    rintro e w2 ⟨AS, cS, rfl, rowS, b2⟩
    have hb2 : Below w.heap.size w w2 := ((Below.refl _ _).alloc (Nat.le_refl _) _).trans (b2.mono (by simp))
    have B2 := Lib.hid hb2; have RS := Lib.hid rowS.rd
    have hs2 := hb2.size
    clear rowS b2 hb2 HSP
    go_wp2_with fail
    go_loopw [4, 6] (fun o i wr => ∃ (A2 : Option Addr) (c2 : Nat) (xs : List Pr), xs.length ≤ ps.length ∧ i = .int .i64 xs.length ∧ o = .slice A2 xs.length c2 ∧ Row wr w2.heap.size 40 2 A2 xs.length c2 (sc xs) ∧ partsS (ps.take xs.length) = some xs ∧ Below w2.heap.size w2 wr) (fun _ i _ => ps.length - (intOf i).toNat)
    case atStart => exact ⟨_, _, [], Nat.zero_le _, rfl, rfl, Row.nil _ _ _ _ _, rfl, Below.refl _ _⟩
    case round =>
      obtain ⟨A2, c2, xs, hj, rfl, rfl, row, hpt, hb⟩ := hrel
      have HPT := Lib.hid hpt; have HB := Lib.hid hb
      have hsz := hb.size
      obtain ⟨j, hjj⟩ : ∃ j, j = xs.length := ⟨_, rfl⟩
      have HJ := Lib.hid hjj
      rw [← hjj] at hj row
      rw [← hjj]
      have ROW := Lib.hid row
      clear hpt hb row hjj
      by_cases hlt : j < ps.length
      · obtain ⟨b, off, hA, hbl, hc⟩ := (RS.out.below HB.out).block (by simp [strs]; omega)
        subst hA
        obtain ⟨q, hQ⟩ : ∃ q, q = ps[j] := ⟨_, rfl⟩
        have hcq : wr.cell? ⟨b, off + j, none⟩ = some (.string (bsof q)) := hc j _ (by unfold strs; rw [List.getElem?_map, List.getElem?_eq_getElem hlt, hQ]; rfl)
        have hql : q.length ≤ 1048576 := by
          have := HPP.out ps[j] (List.getElem_mem hlt)
          rw [← hQ] at this
          have := HLEN.out
          omega
        have htk : ps.take (j + 1) = ps.take j ++ [q] := by rw [take_snoc ps j hlt, hQ]
        have hsn := partsS_snoc (ps.take j) xs q (by rw [HJ.out]; exact HPT.out)
        rw [← htk] at hsn
        have HSN := Lib.hid hsn
        have HSQ := Lib.hid (splitAt_c (bsof q) 61 61 rfl)
        clear hc hQ htk hsn
        go_wp2_with fail
        refine (HSQ.out _ (by rw [bsof_size]; omega)).mono ?_
        rw [data_bsof]
        rintro e w4 ⟨AP, cP, rfl, rowP, b4⟩
        have hb4 : Below w2.heap.size w2 w4 := HB.out.trans (b4.mono HB.out.size)
        have row4 := ROW.out.below b4
        have B4 := Lib.hid hb4; have ROW4 := Lib.hid row4
        have hs4 := b4.size
        clear hb4 row4 HSQ
        obtain ⟨pq, hpq⟩ : ∃ pq, pq = spl 61 q := ⟨_, rfl⟩
        rw [← hpq] at rowP HSN
        rw [← hpq]
        have hpc := spl_piece_len 61 q
        rw [← hpq] at hpc
        clear hpq
        have two : (∃ a b, pq = [a, b]) ∨ (pq.length ≠ 2 ∧ partsS (ps.take (j + 1)) = none) := by
          rcases pq with _ | ⟨a, _ | ⟨b, _ | ⟨d, r⟩⟩⟩
          · exact .inr ⟨by simp, HSN.out⟩
          · exact .inr ⟨by simp, HSN.out⟩
          · exact .inl ⟨a, b, rfl⟩
          · exact .inr ⟨by simp, HSN.out⟩
        rcases two with ⟨a, b', rfl⟩ | ⟨hn2, hno⟩
        · have hal : a.length ≤ 1048576 := by have := hpc a (by simp); omega
          have hbl' : b'.length ≤ 1048576 := by have := hpc b' (by simp); omega
          have hnx : partsS (ps.take (j + 1)) = some (xs ++ [(pI a, pI b')]) := HSN.out
          have HNX := Lib.hid hnx
          obtain ⟨bp, op, hAP, hBp, hlp, hrb⟩ := rowP.form (by simp)
          subst hAP
          have hp0 : w4.cell? ⟨bp, op, none⟩ = some (.string (bsof a)) := by have := rowP.cell (j := 0) (u := .string (bsof a)) rfl; simpa using this
          have hp1 : w4.cell? ⟨bp, op + 1, none⟩ = some (.string (bsof b')) := rowP.cell (j := 1) (u := .string (bsof b')) rfl
          obtain ⟨x, hx⟩ : ∃ x, x = pI a := ⟨_, rfl⟩
          obtain ⟨y, hy⟩ : ∃ y, y = pI b' := ⟨_, rfl⟩
          have hcA : ∀ W : World, Calls Tryd.prog 34 #[.string (bsof a)] W fun e w' => e = .returned (.int .i64 x) ∧ Below W.heap.size W w' := fun W => by rw [hx]; exact parseInt_c (bsof a) W (by rw [bsof_size]; omega)
          have hcB : ∀ W : World, Calls Tryd.prog 34 #[.string (bsof b')] W fun e w' => e = .returned (.int .i64 y) ∧ Below W.heap.size W w' := fun W => by rw [hy]; exact parseInt_c (bsof b') W (by rw [bsof_size]; omega)
          have HCA := Lib.hid hcA; have HCB := Lib.hid hcB
          have HX := Lib.hid hx; have HY := Lib.hid hy
          have hne4 : ∀ k, rb A2 c2 = some k → k ≠ bp := fun k hk => by
            have := (ROW.out.lt k hk).2
            omega
          have HNE := Lib.hid hne4
          obtain ⟨BA, hBA⟩ : ∃ BA, BA = bsof a := ⟨_, rfl⟩
          obtain ⟨BB, hBB⟩ : ∃ BB, BB = bsof b' := ⟨_, rfl⟩
          rw [← hBA] at hp0 HCA
          rw [← hBB] at hp1 HCB
          have hl2 : (((([a, b'] : List (List UInt8)).length : Nat) : Int) == 2) = true := rfl
          clear hpc hx hy hcA hcB hne4 rowP hnx HSN hBA hBB hrb b4
          go_wp2_with fail
          go_region_held3 (fun w' => w'.cell? ⟨bp, op, none⟩ = some (.string BA) ∧ w'.cell? ⟨bp, op + 1, none⟩ = some (.string BB)) (first | go_keep | exact ⟨hg3.cell (by go_simp) (fun e => HNE.out _ e.symm rfl), hg3.cell (by go_simp) (fun e => HNE.out _ e.symm rfl)⟩) ((first
            | (go_at_call 34; (with_reducible refine (HCA.out _).mono ?_); rintro e wA ⟨rfl, bA⟩; have k1 := (bA.cell (p := ⟨bp, op, none⟩) hlp).trans hp0; have k2 := (bA.cell (p := ⟨bp, op + 1, none⟩) hlp).trans hp1; have ROWA := Lib.hid (ROW4.out.drew.below bA); have BELA := Lib.hid (arm_drew bA).1; have szA : w4.heap.size ≤ wA.heap.size := bA.size)
            | (go_at_call 34; (with_reducible refine (HCB.out _).mono ?_); rintro e wB ⟨rfl, bB⟩; have k3 := (bB.cell (p := ⟨bp, op, none⟩) (Nat.lt_of_lt_of_le hlp szA)).trans k1; have k4 := (bB.cell (p := ⟨bp, op + 1, none⟩) (Nat.lt_of_lt_of_le hlp szA)).trans k2; have ROWB := Lib.hid (ROWA.out.below bB); have BELB := Lib.hid (BELA.out.trans (bB.mono szA)); have szB : w4.heap.size ≤ wB.heap.size := Nat.le_trans szA bB.size)
            | (refine step_append_row _ (by rfl) (.tmp 28) (.tmp 38) 25 (by rfl) w2.heap.size 40 i0 (.agg #[.int .i64 0, .int .i64 0]) 2 16 Tryd.underlying25 i0_i i0_z0 i0_z1 i0_z2 rfl A2 j c2 (sc xs) (by rfl) (ROWB.out.alloc _) (some ⟨wB.heap.size, 0, none⟩) 1 1 [.int .i64 x, .int .i64 y] (by rfl) rfl (Rd.two_ wB _ _ _) (two1_ _ _) (by omega) (by unfold maxLen; omega) (by omega) (by simp <;> omega) ?_; intro A3 c3 w3 row3 hg3 hat3)
            | fail))
          all_goals
            have b5 : Below w2.heap.size w2 w3 := ((B4.out.trans (BELB.out.mono B4.out.size)).alloc (Nat.le_trans B4.out.size szB) _).grown hg3 (by have := B4.out.size; simp <;> omega) (fun y hy => (ROW.out.lt y hy).1)
            have row5 : Row w3 w2.heap.size 40 2 A3 (xs ++ [(x, y)]).length c3 (sc (xs ++ [(x, y)])) := by
              rw [sc_append, List.length_append, ← HJ.out]; exact row3
            have hl5 : (xs ++ [(x, y)]).length = j + 1 := by rw [List.length_append, ← HJ.out]; rfl
            have hn5 : partsS (ps.take (xs ++ [(x, y)]).length) = some (xs ++ [(x, y)]) := by rw [hl5, HX.out, HY.out]; exact HNX.out
            have B5 := Lib.hid b5; have ROW5 := Lib.hid row5; have HL5 := Lib.hid hl5; have HN5 := Lib.hid hn5
            clear b5 row5 hl5 hn5 row3 hg3 hat3
            go_wp2_with fail
            go_roundw
            case rel => exact ⟨A3, c3, xs ++ [(x, y)], by rw [HL5.out]; omega, by rw [HL5.out]; go_num, by rw [HL5.out], ROW5.out, HN5.out, B5.out⟩
            case measure => simp [intOf]; omega
        · have hq2 : ((pq.length : Int) == 2) = false := beq_eq_false_iff_ne.2 (by omega)
          have hq2' : ¬ pq.length = 2 := hn2
          have hno2 : parseV L = none := by
            have h1 := partsS_none _ (ps.drop (j + 1)) hno
            rw [List.take_append_drop] at h1
            unfold parseV
            rw [HLS.out, ← HPS.out, h1]
          have fin := BAD.out w4 hno2 (B2.out.trans (B4.out.mono hs2))
          have FIN := Lib.hid fin
          clear hn2 hno hno2 fin rowP hpc HSN b4
          go_wp2_with fail
          first | go_ret2 | go_ret
          exact FIN.out
      · obtain rfl : j = ps.length := by omega
        have hall : partsS ps = some xs := by
          have := HPT.out
          rw [← HJ.out, List.take_length] at this
          exact this
        obtain ⟨v, hv⟩ : ∃ v, v = validS (-1) xs := ⟨_, rfl⟩
        have hpv : parseV L = if v = true then some xs else none := by
          unfold parseV
          rw [HLS.out, ← HPS.out, hall, hv]
        have HV := Lib.hid (sValidSets_c xs A2 ps.length c2 wr HJ.out.symm ROW.out.rd (by omega))
        rw [← hv] at HV
        have HPV := Lib.hid hpv
        clear hall hv hpv
        go_wp2_with fail
        refine HV.out.mono ?_
        rintro e w5 ⟨rfl, m, rfl⟩
        have hB5 : Below w.heap.size w (wr.drewN m) := below_drewN (B2.out.trans (HB.out.mono hs2)) _
        cases v
        · have fin := BAD.out _ (by rw [HPV.out]; rfl) hB5
          have FIN := Lib.hid fin
          clear fin hB5
          go_wp2_with fail
          first | go_ret2 | go_ret
          exact FIN.out
        · have fin := GOOD.out xs A2 c2 _ (by rw [HPV.out]; rfl) (by rw [← HJ.out]; exact (ROW.out.mono hs2).drewN m) hB5
          rw [← HJ.out] at fin
          have FIN := Lib.hid fin
          clear fin hB5
          go_wp2_with fail
          first | go_ret2 | go_ret
          exact FIN.out
  · have he : L = [] := by
      cases hh : L with
      | nil => rfl
      | cons a b => rw [hh] at hemL; cases hemL
    have fin := GOOD.out [] (some ⟨w.heap.size, 0, none⟩) 0 _ (by rw [he]; rfl) (Row.nil _ _ _ _ _) ((Below.refl w.heap.size w).alloc (Nat.le_refl _) (.cells #[] 40))
    have FIN := Lib.hid fin
    clear fin hemL he
    go_enter Tryd.func17, Tryd.ntmps17
    go_wp2_with fail
    first | go_ret2 | go_ret
    exact FIN.out
end Go.Proofs.YtmphjojhfmikeaaDoor
