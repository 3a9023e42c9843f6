/- The program reads numbers and settings. -/
import Derived.Test.YtmphjojhfmikeaaDoorParseT
import Derived.Test.YtmphjojhfmikeaaDoorShelfB
import Derived.Lib.SmallJoins
import Derived.Lib.AtoiErrMem
import Derived.Lib.AppendIntMem
import Derived.Shelf.Strconv.ErrVarAll
set_option linter.unusedVariables false
set_option linter.unusedSimpArgs false
set_option linter.unnecessarySimpa false
namespace Go.Proofs.YtmphjojhfmikeaaDoor
open Go.RowKit

/-- What the library's own variables hold. -/
def Env (w : World) : Prop := Lib.TabIs Tryd.prog w "internal/strconv.uint64pow10" .u64 Lib.pow10Tab ∧ (∃ m, w.cell? ⟨1, 0, none⟩ = some (.int .i64 m)) ∧
  (∃ ev, w.cell? ⟨2, 0, none⟩ = some ev ∧ (ev = .nilIface ∨ ∃ te pe, ev = .iface te pe)) ∧ (∃ ev, w.cell? ⟨3, 0, none⟩ = some ev ∧ (ev = .nilIface ∨ ∃ te pe, ev = .iface te pe))
theorem Env.below {w w' : World} (h : Env w) (hb : Below w.heap.size w w') : Env w' := by
  obtain ⟨h1, ⟨m, h2⟩, ⟨e1, h3, h3'⟩, ⟨e2, h4, h4'⟩⟩ := h
  exact ⟨Go.Joins.tab_stays (g := 0) (by kernel_rfl) h1 hb (Nat.le_refl _), ⟨m, (hb.cell (World.block_lt_of_cell? w _ h2)).trans h2⟩, ⟨e1, (hb.cell (World.block_lt_of_cell? w _ h3)).trans h3, h3'⟩, ⟨e2, (hb.cell (World.block_lt_of_cell? w _ h4)).trans h4, h4'⟩⟩
theorem atoi_le (l : List UInt8) (v : Int) (h : Lib.atoiAll l = .ok v) : v ≤ 9223372036854775807 := by
  unfold Lib.atoiAll at h
  split at h
  · cases h
  · rename_i c r
    simp only at h
    split at h
    · cases h
    · cases h
    · rename_i u hu
      split at h
      · cases h
      · rename_i h1
        split at h
        · cases h
        · rename_i h2
          injection h with h
          by_cases hn : c.toNat = 45
          · rw [if_pos hn] at h; omega
          · rw [if_neg hn] at h
            have : ¬ 9223372036854775808 ≤ u := fun e => h1 ⟨hn, e⟩
            omega
theorem numI_bad {l : List UInt8} (h : ∀ v, Lib.atoiAll l ≠ .ok v) : numI l = -1 := by
  unfold numI
  split
  · rename_i v hv; exact absurd hv (h v)
  · rfl
set_option maxRecDepth 100000 in
set_option maxHeartbeats 2000000 in
theorem number_c (s : ByteArray) (w : World) (hs : s.size ≤ 1073741824) (E : Env w) :
    Calls Tryd.prog 45 #[.string s] w fun e w' => e = .returned (.int .i64 (numI s.data.toList)) ∧ Below w.heap.size w w' := by
  obtain ⟨r, hr⟩ : ∃ r, r = numI s.data.toList := ⟨_, rfl⟩
  rw [← hr]
  have HR := Lib.hid hr
  clear hr
  have bad : (∀ v, Lib.atoiAll s.data.toList ≠ .ok v) → (∃ x t, Calls Tryd.prog 52 #[.string s] w fun e w' => (∃ N : Nat, e = .returned (.tuple #[.int .i64 x, .iface t (.pointer (some ⟨N, 0, none⟩))])) ∧ Below w.heap.size w w') →
      Calls Tryd.prog 45 #[.string s] w fun e w' => e = .returned (.int .i64 r) ∧ Below w.heap.size w w' := by
    intro hno ⟨x, t, hc⟩
    have hr' : r = -1 := by rw [HR.out]; exact numI_bad hno
    subst hr'
    have HC := Lib.hid hc
    clear hno hc
    go_enter Tryd.func45, Tryd.ntmps45
    go_wp2_with fail
    refine HC.out.mono ?_
    rintro e w1 ⟨⟨N, rfl⟩, b1⟩
    go_wp2_with fail
    go_ret
    exact ⟨rfl, b1⟩
  rcases hh : Lib.atoiAll s.data.toList with v | _ | _
  · have hv1 := atoi_le _ _ hh
    have HC := Lib.hid (Tryd.strconv_Atoi_ok s (by omega) v hh w)
    by_cases hv0 : v < 0
    · have hr' : r = -1 := by rw [HR.out]; unfold numI; rw [hh]; simp only; rw [if_neg (by omega)]
      subst hr'
      have hd : decide (v < 0) = true := decide_eq_true hv0
      clear bad hh
      go_enter Tryd.func45, Tryd.ntmps45
      go_wp2_with fail
      refine HC.out.mono ?_
      rintro e w1 ⟨rfl, hw⟩
      have b1 : Below w.heap.size w w1 := by
        rcases hw with rfl | ⟨t, rfl⟩
        · exact Below.refl _ _
        · exact Lib.bytesWorld_below w _ t
      clear hw
      go_wp2_with fail
      go_ret
      exact ⟨rfl, b1⟩
    · have hd : decide (v < 0) = false := decide_eq_false hv0
      have hit : ∀ W : World, Env W → Calls Tryd.prog 24 #[.int .i64 v] W fun e w' => e = .returned (.string (bsof (Lib.itoa v))) ∧ Below W.heap.size W w' := fun W hE =>
        (Tryd.strconv_Itoa v (by omega) (by omega) W hE.1).mono fun e w' ⟨he, k, os, hw⟩ => ⟨he, by rw [hw]; exact Lib.below_grow _ W (Nat.le_refl _) k os⟩
      obtain ⟨D, hD⟩ : ∃ D, D = bsof (Lib.itoa v) := ⟨_, rfl⟩
      rw [← hD] at hit
      have HIT := Lib.hid hit
      have HE := Lib.hid E
      by_cases hDs : D = s
      · have hr' : r = v := by
          rw [HR.out]; unfold numI; rw [hh]; simp only
          rw [if_pos ⟨by omega, by rw [← hDs, hD]; rfl⟩]
        subst hr'
        subst hDs
        clear bad hh hit hD
        go_enter Tryd.func45, Tryd.ntmps45
        go_wp2_with fail
        refine HC.out.mono ?_
        rintro e w1 ⟨rfl, hw⟩
        have b1 : Below w.heap.size w w1 := by
          rcases hw with rfl | ⟨t, rfl⟩
          · exact Below.refl _ _
          · exact Lib.bytesWorld_below w _ t
        have B1 := Lib.hid b1
        clear hw b1
        go_wp2_with fail
        refine (HIT.out _ (HE.out.below B1.out)).mono ?_
        rintro e w2 ⟨rfl, b2⟩
        go_wp2_with fail
        go_ret
        exact ⟨rfl, B1.out.trans (b2.mono B1.out.size)⟩
      · have hr' : r = -1 := by
          rw [HR.out]; unfold numI; rw [hh]; simp only
          rw [if_neg]
          rintro ⟨_, h2⟩
          exact hDs (by rw [hD, h2, bsof_data])
        subst hr'
        have hDs3 : (D.toList == s.toList) = false := ne_bs hDs
        clear bad hh hit hD hDs
        go_enter Tryd.func45, Tryd.ntmps45
        go_wp2_with fail
        refine HC.out.mono ?_
        rintro e w1 ⟨rfl, hw⟩
        have b1 : Below w.heap.size w w1 := by
          rcases hw with rfl | ⟨t, rfl⟩
          · exact Below.refl _ _
          · exact Lib.bytesWorld_below w _ t
        have B1 := Lib.hid b1
        clear hw b1
        go_wp2_with fail
        refine (HIT.out _ (HE.out.below B1.out)).mono ?_
        rintro e w2 ⟨rfl, b2⟩
        go_wp2_with fail
        go_ret
        exact ⟨rfl, B1.out.trans (b2.mono B1.out.size)⟩
  · obtain ⟨_, _, ⟨ev, h3, h3'⟩, _⟩ := E
    have hc := Any.strconv_Atoi_syntax Tryd.laysC172 s (by omega) hh ev w h3 h3'
    exact bad (fun v e => by rw [hh] at e; cases e) ⟨_, _, hc.mono fun e w' ⟨N, he, _, _, hb⟩ => ⟨⟨N, he⟩, hb⟩⟩
  · obtain ⟨_, _, _, ⟨ev, h3, h3'⟩⟩ := E
    have hc := Tryd.strconv_Atoi_range s (by omega) hh ev w h3 h3'
    exact bad (fun v e => by rw [hh] at e; cases e) ⟨_, _, hc.mono fun e w' ⟨N, he, _, _, hb⟩ => ⟨⟨N, he⟩, hb⟩⟩
theorem cut_len (c : UInt8) (l : List UInt8) : (cut1 c l).1.length ≤ l.length ∧ (cut1 c l).2.length ≤ l.length := by
  unfold cut1 Lib.cut
  split
  · simp only [List.length_take, List.length_drop]; omega
  · simp
set_option maxRecDepth 100000 in
set_option maxHeartbeats 2000000 in
theorem two_c (s : ByteArray) (w : World) (hs : s.size ≤ 1073741824) (E : Env w) :
    Calls Tryd.prog 31 #[.string s, .string ⟨#[61]⟩] w fun e w' => e = .returned (.tuple #[.int .i64 (numI (cut1 61 s.data.toList).1), .int .i64 (numI (cut1 61 s.data.toList).2)]) ∧ Below w.heap.size w w' := by
  obtain ⟨_, ⟨m, hm⟩, _, _⟩ := id E
  have hlen : s.data.toList.length = s.size := by rw [Array.length_toList]; rfl
  have hl := cut_len 61 s.data.toList
  rw [hlen] at hl
  obtain ⟨a, ha⟩ : ∃ a, a = (cut1 61 s.data.toList).1 := ⟨_, rfl⟩
  obtain ⟨b, hb⟩ : ∃ b, b = (cut1 61 s.data.toList).2 := ⟨_, rfl⟩
  have hcut : Calls Tryd.prog 44 #[.string s, .string ⟨#[61]⟩] w fun e w' => (∃ f, e = .returned (.tuple #[.string (bsof a), .string (bsof b), .bool f])) ∧ Below w.heap.size w w' :=
    (Tryd.strings_Cut s ⟨#[61]⟩ m w (by omega) hm).mono fun e w' ⟨he, n, hw⟩ => ⟨⟨(Lib.cut s.data.toList [61]).2.2, by rw [he, ha, hb]; rfl⟩, by rw [hw]; exact below_drewN (Below.refl _ _) _⟩
  rw [← ha, ← hb] at hl ⊢
  have HC := Lib.hid hcut; have HE := Lib.hid E
  have hna : ∀ W, Env W → Calls Tryd.prog 45 #[.string (bsof a)] W fun e w' => e = .returned (.int .i64 (numI a)) ∧ Below W.heap.size W w' := fun W hW => number_c (bsof a) W (by rw [bsof_size]; omega) hW
  have hnb : ∀ W, Env W → Calls Tryd.prog 45 #[.string (bsof b)] W fun e w' => e = .returned (.int .i64 (numI b)) ∧ Below W.heap.size W w' := fun W hW => number_c (bsof b) W (by rw [bsof_size]; omega) hW
  obtain ⟨x, hx⟩ : ∃ x, x = numI a := ⟨_, rfl⟩
  obtain ⟨y, hy⟩ : ∃ y, y = numI b := ⟨_, rfl⟩
  rw [← hx] at hna ⊢
  rw [← hy] at hnb ⊢
  have HNA := Lib.hid hna; have HNB := Lib.hid hnb
  clear hm hlen hl ha hb hcut hna hnb hx hy E
  go_enter Tryd.func31, Tryd.ntmps31
  go_wp2_with fail
  refine HC.out.mono ?_
  rintro e w1 ⟨⟨f, rfl⟩, b1⟩
  have B1 := Lib.hid b1; have E1 := Lib.hid (HE.out.below b1)
  clear b1
  go_wp2_with fail
  refine (HNA.out _ E1.out).mono ?_
  rintro e w2 ⟨rfl, b2⟩
  have B2 := Lib.hid (B1.out.trans (b2.mono B1.out.size)); have E2 := Lib.hid (E1.out.below b2)
  clear b2
  go_wp2_with fail
  refine (HNB.out _ E2.out).mono ?_
  rintro e w3 ⟨rfl, b3⟩
  go_wp2_with fail
  first | go_ret2 | go_ret
  exact ⟨rfl, B2.out.trans (b3.mono B2.out.size)⟩
/-- The elements of a text with commas between. -/
def elsOf (l : List UInt8) : List (List UInt8) := if l = [] then [] else spl 44 l
set_option maxRecDepth 100000 in
set_option maxHeartbeats 2000000 in
theorem elements_c (s : ByteArray) (w : World) (hs : s.size ≤ 1073741824) (E : Env w) :
    Calls Tryd.prog 30 #[.string s] w fun e w' => ∃ A c, e = .returned (.slice A (elsOf s.data.toList).length c) ∧ Rd w' A (strs (elsOf s.data.toList)) ∧ Below w.heap.size w w' := by
  obtain ⟨_, ⟨m, hm⟩, _, _⟩ := E
  obtain ⟨em, hem⟩ : ∃ em, em = s.toList.isEmpty := ⟨_, rfl⟩
  have hem' := hem.symm
  rw [ByteArray.toList_eq] at hem
  cases em
  · have hne : s.data.toList ≠ [] := by intro e; rw [e] at hem; cases hem
    have hel : elsOf s.data.toList = spl 44 s.data.toList := by unfold elsOf; rw [if_neg hne]
    rw [hel]
    obtain ⟨h1, h2⟩ := split_pieces s 44
    have hsp := Tryd.strings_Split s ⟨#[44]⟩ m w (by omega) hm (Nat.le_refl 1)
    rw [h1, h2, List.map_map] at hsp
    obtain ⟨ps, hps⟩ : ∃ ps, ps = spl 44 s.data.toList := ⟨_, rfl⟩
    rw [← hps] at hsp ⊢
    have fin : ∀ W, W = w.alloc (.cells (ps.map (Value.string ∘ bsof)).toArray 9) → Rd W (some ⟨w.heap.size, 0, none⟩) (strs ps) ∧ Below w.heap.size w W := by
      intro W hW
      subst hW
      refine ⟨fun _ => ⟨w.heap.size, 0, rfl, fun j u hu => ?_⟩, (Below.refl _ _).alloc (Nat.le_refl _) _⟩
      rw [Nat.zero_add, cell_new, ← Array.getElem?_toList]
      exact hu
    have FIN := Lib.hid fin; have HSP := Lib.hid hsp
    clear hne hel h1 h2 hsp hps fin hem hm
    go_enter Tryd.func30, Tryd.ntmps30
    go_wp2_with fail
    refine HSP.out.mono ?_
    rintro e w1 ⟨rfl, hw⟩
    have F := Lib.hid (FIN.out _ hw)
    clear hw
    go_wp2_with fail
    go_ret
    exact ⟨_, _, rfl, F.out.1, F.out.2⟩
  · have he : s.data.toList = [] := by
      cases hh : s.data.toList with
      | nil => rfl
      | cons a b => rw [hh] at hem; cases hem
    have hel : elsOf s.data.toList = [] := by unfold elsOf; rw [if_pos he]
    rw [hel]
    clear he hel hem hm
    go_enter Tryd.func30, Tryd.ntmps30
    go_wp2_with fail
    go_ret
    exact ⟨none, 0, rfl, Rd.nil _ _, Below.refl _ _⟩
theorem clipS_c (A : Option Addr) (n c : Nat) (w : World) (hc : n ≤ c) (hm : c ≤ maxLen) :
    Calls Tryd.prog 32 #[.slice A n c] w fun e w' => e = .returned (.slice A n n) ∧ w = w' := by
  unfold maxLen at hm
  go_enter Tryd.func32, Tryd.ntmps32
  go_wp2_with fail
  go_ret
  exact ⟨rfl, rfl⟩
/-- What the program reads off one piece. -/
def prI (p : List UInt8) : Pr := (numI (cut1 61 p).1, numI (cut1 61 p).2)
theorem listI_els (l : List UInt8) : listI l = (elsOf l).map prI := by
  unfold listI elsOf
  split
  · rfl
  · rfl
set_option maxRecDepth 100000 in
set_option maxHeartbeats 8000000 in
theorem parse_c (s : ByteArray) (w : World) (hs : s.size ≤ 1048576) (E : Env w) :
    Calls Tryd.prog 15 #[.string s] w (RetPV (pvX s.data.toList) (pvOk s.data.toList) w) := by
  obtain ⟨i0, i0_i, i0_z0, i0_z1, i0_z2⟩ := info_parts setInfo
  have hlen : s.data.toList.length = s.size := by rw [Array.length_toList]; rfl
  have HEL := Lib.hid (elements_c s w (by omega) E)
  obtain ⟨L, hL⟩ : ∃ L, L = s.data.toList := ⟨_, rfl⟩
  rw [← hL] at hlen HEL
  rw [← hL]
  obtain ⟨ps, hps⟩ : ∃ ps, ps = elsOf L := ⟨_, rfl⟩
  rw [← hps] at HEL
  have hli : listI L = ps.map prI := by rw [hps]; exact listI_els L
  have hpv : parseV L = if validS (-1) (ps.map prI) = true ∧ setsL (ps.map prI) = L then some (ps.map prI) else none := by rw [← hli]; exact parse_same L
  have bad : ∀ W, (parseV L = none) → Below w.heap.size w W → RetPV (pvX L) (pvOk L) w (.returned (.tuple #[.slice none 0 0, .bool false])) W := by
    intro W h hW
    unfold pvX pvOk
    rw [h]
    exact ⟨none, 0, rfl, Row.nil _ _ _ _ _, hW⟩
  have good : ∀ (xs : List Pr) (A : Option Addr) (c : Nat) (W : World), parseV L = some xs → Row W w.heap.size 40 2 A xs.length c (sc xs) → Below w.heap.size w W → RetPV (pvX L) (pvOk L) w (.returned (.tuple #[.slice A xs.length c, .bool true])) W := by
    intro xs A c W h hr hW
    unfold pvX pvOk
    rw [h]
    exact ⟨A, c, rfl, hr, hW⟩
  have hpn : ps.length ≤ 1048577 := by
    rw [hps]; unfold elsOf
    split
    · simp
    · have := spl_len 44 L; omega
  have hpl : ∀ p ∈ ps, p.length ≤ 1048576 := by
    intro p hp
    rw [hps] at hp
    unfold elsOf at hp
    split at hp
    · simp at hp
    · have := spl_piece_len 44 L p hp; omega
  have BAD := Lib.hid bad; have GOOD := Lib.hid good; have HPV := Lib.hid hpv; have HPL := Lib.hid hpl
  have HL := Lib.hid hL; have HE := Lib.hid E
  clear bad good hpv hpl hlen hL hps hli E
  go_enter Tryd.func15, Tryd.ntmps15
  go_wp2_with fail
  refine HEL.out.mono ?_
  rintro e w2 ⟨AS, cS, rfl, rdS, b2⟩
  have B2 := Lib.hid b2; have RS := Lib.hid rdS; have E2 := Lib.hid (HE.out.below b2)
  have hs2 := b2.size
  clear rdS b2 HEL
  go_wp2_with fail
  go_loopw [4, 12] (fun o i wr => ∃ (j : Nat) (A2 : Option Addr) (c2 : Nat), j ≤ ps.length ∧ i = .int .i64 j ∧ o = .slice A2 j c2 ∧ Row wr w2.heap.size 40 2 A2 j c2 (sc ((ps.take j).map prI)) ∧ Below w2.heap.size w2 wr) (fun _ i _ => ps.length - (intOf i).toNat)
  case atStart => exact ⟨0, none, 0, Nat.zero_le _, rfl, rfl, Row.nil _ _ _ _ _, Below.refl _ _⟩
  case round =>
    obtain ⟨j, A2, c2, hj, rfl, rfl, row, hb⟩ := hrel
    have HB := Lib.hid hb; have ROW := Lib.hid row
    have hsz := hb.size
    clear hb row
    by_cases hlt : j < ps.length
    · obtain ⟨b, off, hA, hbl, hc⟩ := (RS.out.below HB.out).block (by simp [strs]; omega)
      subst hA
      obtain ⟨q, hQ⟩ : ∃ q, q = ps[j] := ⟨_, rfl⟩
      have hcq : wr.cell? ⟨b, off + j, none⟩ = some (.string (bsof q)) := hc j _ (by unfold strs; rw [List.getElem?_map, List.getElem?_eq_getElem hlt, hQ]; rfl)
      have hql : q.length ≤ 1048576 := by rw [hQ]; exact HPL.out _ (List.getElem_mem hlt)
      have htk : ps.take (j + 1) = ps.take j ++ [q] := by rw [take_snoc ps j hlt, hQ]
      have h2 := two_c (bsof q) wr (by rw [bsof_size]; omega) (E2.out.below HB.out)
      rw [data_bsof] at h2
      obtain ⟨x, hx⟩ : ∃ x, x = numI (cut1 61 q).1 := ⟨_, rfl⟩
      obtain ⟨y, hy⟩ : ∃ y, y = numI (cut1 61 q).2 := ⟨_, rfl⟩
      rw [← hx, ← hy] at h2
      have hnx : (ps.take (j + 1)).map prI = (ps.take j).map prI ++ [(x, y)] := by rw [htk, List.map_append, List.map_singleton]; unfold prI; rw [← hx, ← hy]
      have H2 := Lib.hid h2; have HNX := Lib.hid hnx
      clear hc hQ htk h2 hx hy hnx
      go_wp2_with fail
      refine H2.out.mono ?_
      rintro e w4 ⟨rfl, b4⟩
      have row4 := ROW.out.below b4
      have hs4 := b4.size
      have hb4 : Below w2.heap.size w2 w4 := HB.out.trans (b4.mono HB.out.size)
      have ROW4 := Lib.hid row4; have B4 := Lib.hid hb4
      clear b4 row4 hb4
      go_wp2_with (at_builtin; (refine wpList_append_row _ rfl (.tmp 21) (.tmp 25) 25 rfl w2.heap.size 40 i0 (.agg #[.int .i64 0, .int .i64 0]) 2 16 Tryd.underlying25 i0_i i0_z0 i0_z1 i0_z2 rfl A2 j c2 (sc ((ps.take j).map prI)) rfl (ROW4.out.alloc _) (some ⟨w4.heap.size, 0, none⟩) 1 1 [.int .i64 x, .int .i64 y] rfl rfl (Rd.two_ _ _ _ _) (two1_ _ _) (by omega) (by unfold maxLen; omega) (by omega) (by simp <;> omega) ?_))
      intro A3 c3 w5 row5 hg5 _
      have b5 : Below w2.heap.size w2 w5 := (B4.out.alloc (by omega) _).grown hg5 (by simp <;> omega) (fun y hy => (ROW4.out.lt y hy).1)
      have row6 : Row w5 w2.heap.size 40 2 A3 (j + 1) c3 (sc ((ps.take (j + 1)).map prI)) := by rw [HNX.out, sc_append]; first | exact row5 | (rw [← List.map_take] at row5; exact row5)
      have B5 := Lib.hid b5; have ROW6 := Lib.hid row6
      clear row5 hg5 b5 row6
      go_wp2_with fail
      go_roundw
      case rel => exact ⟨j + 1, A3, c3, by omega, by go_num, rfl, ROW6.out, B5.out⟩
      case measure => simp [intOf]; omega
    · obtain rfl : j = ps.length := by omega
      obtain ⟨xs, hxs⟩ : ∃ xs, xs = ps.map prI := ⟨_, rfl⟩
      have hxl : xs.length = ps.length := by rw [hxs, List.length_map]
      have hrow : Row wr w2.heap.size 40 2 A2 ps.length c2 (sc xs) := by
        have := ROW.out
        rw [List.take_length, ← hxs] at this
        exact this
      have hpv2 := HPV.out
      rw [← hxs] at hpv2
      have hV := validSets_c xs A2 ps.length c2 wr hxl hrow.rd (by omega)
      obtain ⟨v, hv⟩ : ∃ v, v = validS (-1) xs := ⟨_, rfl⟩
      rw [← hv] at hV hpv2
      have hBw : Below w.heap.size w wr := B2.out.trans (HB.out.mono hs2)
      have HV := Lib.hid hV; have HPV2 := Lib.hid hpv2; have HROW := Lib.hid hrow; have HBW := Lib.hid hBw; have HXL := Lib.hid hxl; have HV0 := Lib.hid hv
      clear hV hpv2 hrow hBw hxl hxs hv
      cases v
      · have hnone : parseV L = none := by rw [HPV2.out, if_neg (by simp)]
        have HNO := Lib.hid hnone; clear hnone
        go_wp2_with fail
        refine HV.out.mono ?_
        rintro e w5 ⟨rfl, b5⟩
        have fin := BAD.out w5 HNO.out (HBW.out.trans (b5.mono HBW.out.size))
        have FIN := Lib.hid fin
        clear fin b5
        go_wp2_with fail
        first | go_ret2 | go_ret
        exact FIN.out
      · have hfm : ∀ W, Rd W A2 (sc xs) → Calls Tryd.prog 11 #[.slice A2 ps.length c2] W fun e w' => e = .returned (.string (bsof (setsL xs))) ∧ Below W.heap.size W w' := fun W hW => by
          have := format_c xs A2 ps.length c2 W HXL.out hW (by omega)
          unfold fmtS at this
          rw [← HV0.out, if_pos rfl] at this
          exact this
        have hcl : ∀ W, Calls Tryd.prog 32 #[.slice A2 ps.length c2] W fun e w' => e = .returned (.slice A2 ps.length ps.length) ∧ W = w' := fun W => clipS_c A2 ps.length c2 W HROW.out.le HROW.out.max
        obtain ⟨D, hD⟩ : ∃ D, D = bsof (setsL xs) := ⟨_, rfl⟩
        rw [← hD] at hfm
        have HF := Lib.hid hfm; have HCL := Lib.hid hcl
        by_cases hDs : D = s
        · have hsome : parseV L = some xs := by
            rw [HPV2.out, if_pos ⟨rfl, by rw [HL.out, ← hDs, hD]; rfl⟩]
          have HSO := Lib.hid hsome
          subst hDs
          clear hfm hcl hD hsome
          go_wp2_with fail
          refine HV.out.mono ?_
          rintro e w5 ⟨rfl, b5⟩
          have B5 := Lib.hid (HBW.out.trans (b5.mono HBW.out.size)); have R5 := Lib.hid (HROW.out.below b5)
          clear b5
          go_wp2_with fail
          refine (HF.out _ R5.out.rd).mono ?_
          rintro e w6 ⟨rfl, b6⟩
          have B6 := Lib.hid (B5.out.trans (b6.mono B5.out.size)); have R6 := Lib.hid (R5.out.below b6)
          clear b6
          go_wp2_with fail
          refine (HCL.out _).mono ?_
          rintro e w7 ⟨rfl, rfl⟩
          have fin := GOOD.out xs A2 ps.length _ HSO.out (by rw [HXL.out]; exact (R6.out.mono hs2).clip) B6.out
          rw [HXL.out] at fin
          have FIN := Lib.hid fin
          clear fin
          go_wp2_with fail
          first | go_ret2 | go_ret
          exact FIN.out
        · have hnone : parseV L = none := by
            rw [HPV2.out, if_neg]
            rintro ⟨_, h2⟩
            exact hDs (by rw [hD, h2, HL.out, bsof_data])
          have HNO := Lib.hid hnone
          have hDs3 : (D.toList == s.toList) = false := ne_bs hDs
          clear hfm hcl hD hnone hDs
          go_wp2_with fail
          refine HV.out.mono ?_
          rintro e w5 ⟨rfl, b5⟩
          have B5 := Lib.hid (HBW.out.trans (b5.mono HBW.out.size)); have R5 := Lib.hid (HROW.out.below b5)
          clear b5
          go_wp2_with fail
          refine (HF.out _ R5.out.rd).mono ?_
          rintro e w6 ⟨rfl, b6⟩
          have fin := BAD.out w6 HNO.out (B5.out.trans (b6.mono B5.out.size))
          have FIN := Lib.hid fin
          clear b6 fin
          go_wp2_with fail
          first | go_ret2 | go_ret
          exact FIN.out
end Go.Proofs.YtmphjojhfmikeaaDoor
