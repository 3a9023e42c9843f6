/- The program reads numbers and cuts texts. -/
import Derived.Test.YtnmgnhpagnjhlaaGreatDoorParseG
import Derived.Test.YtnmgnhpagnjhlaaGreatDoorPlainR
import Derived.Test.YtnmgnhpagnjhlaaGreatDoorShelfB
import Derived.Lib.SmallJoins
import Derived.Lib.AtoiErrMem
import Derived.Lib.AppendIntMem
import Derived.Shelf.Strconv.ErrVarAll
set_option linter.unusedVariables false
set_option linter.unusedSimpArgs false
set_option linter.unnecessarySimpa false
namespace Go.Proofs.YtnmgnhpagnjhlaaGreatDoor
open Go.RowKit

/-- What the library's own variables hold. -/
def Env (w : World) : Prop := Lib.TabIs Tryz.prog w "internal/strconv.uint64pow10" .u64 Lib.pow10Tab ∧ (∃ m, w.cell? ⟨0, 0, none⟩ = some (.int .i64 m)) ∧
  (∃ ev, w.cell? ⟨2, 0, none⟩ = some ev ∧ (ev = .nilIface ∨ ∃ te pe, ev = .iface te pe)) ∧ (∃ ev, w.cell? ⟨3, 0, none⟩ = some ev ∧ (ev = .nilIface ∨ ∃ te pe, ev = .iface te pe))
theorem Env.below {w w' : World} (h : Env w) (hb : Below w.heap.size w w') : Env w' := by
  obtain ⟨h1, ⟨m, h2⟩, ⟨e1, h3, h3'⟩, ⟨e2, h4, h4'⟩⟩ := h
  exact ⟨Go.Joins.tab_stays (g := 1) (by kernel_rfl) h1 hb (Nat.le_refl _), ⟨m, (hb.cell (World.block_lt_of_cell? w _ h2)).trans h2⟩, ⟨e1, (hb.cell (World.block_lt_of_cell? w _ h3)).trans h3, h3'⟩, ⟨e2, (hb.cell (World.block_lt_of_cell? w _ h4)).trans h4, h4'⟩⟩
theorem atoi_le (l : List UInt8) (v : Int) (h : Lib.atoiAll l = .ok v) : v ≤ 9223372036854775807 := by
  unfold Lib.atoiAll at h
  split at h
  · cases h
  · rename_i c r
    simp only at h
    split at h
    · cases h
    · cases h
    · rename_i u hu
      split at h
      · cases h
      · rename_i h1
        split at h
        · cases h
        · rename_i h2
          injection h with h
          by_cases hn : c.toNat = 45
          · rw [if_pos hn] at h; omega
          · rw [if_neg hn] at h
            have : ¬ 9223372036854775808 ≤ u := fun e => h1 ⟨hn, e⟩
            omega
theorem numI_bad {l : List UInt8} (h : ∀ v, Lib.atoiAll l ≠ .ok v) : numI l = -1 := by
  unfold numI
  split
  · rename_i v hv; exact absurd hv (h v)
  · rfl
set_option maxRecDepth 100000 in
set_option maxHeartbeats 2000000 in
theorem number_c (s : ByteArray) (w : World) (hs : s.size ≤ 1073741824) (E : Env w) :
    Calls Tryz.prog 37 #[.string s] w fun e w' => e = .returned (.int .i64 (numI s.data.toList)) ∧ Below w.heap.size w w' := by
  obtain ⟨r, hr⟩ : ∃ r, r = numI s.data.toList := ⟨_, rfl⟩
  rw [← hr]
  have HR := Lib.hid hr
  clear hr
  have bad : (∀ v, Lib.atoiAll s.data.toList ≠ .ok v) → (∃ x t, Calls Tryz.prog 79 #[.string s] w fun e w' => (∃ N : Nat, e = .returned (.tuple #[.int .i64 x, .iface t (.pointer (some ⟨N, 0, none⟩))])) ∧ Below w.heap.size w w') →
      Calls Tryz.prog 37 #[.string s] w fun e w' => e = .returned (.int .i64 r) ∧ Below w.heap.size w w' := by
    intro hno ⟨x, t, hc⟩
    have hr' : r = -1 := by rw [HR.out]; exact numI_bad hno
    subst hr'
    have HC := Lib.hid hc
    clear hno hc
    go_enter Tryz.func37, Tryz.ntmps37
    go_wp2_with fail
    refine HC.out.mono ?_
    rintro e w1 ⟨⟨N, rfl⟩, b1⟩
    go_wp2_with fail
    go_ret
    exact ⟨rfl, b1⟩
  rcases hh : Lib.atoiAll s.data.toList with v | _ | _
  · have hv1 := atoi_le _ _ hh
    have HC := Lib.hid (Tryz.strconv_Atoi_ok s (by omega) v hh w)
    by_cases hv0 : v < 0
    · have hr' : r = -1 := by rw [HR.out]; unfold numI; rw [hh]; simp only; rw [if_neg (by omega)]
      subst hr'
      have hd : decide (v < 0) = true := decide_eq_true hv0
      clear bad hh
      go_enter Tryz.func37, Tryz.ntmps37
      go_wp2_with fail
      refine HC.out.mono ?_
      rintro e w1 ⟨rfl, hw⟩
      have b1 : Below w.heap.size w w1 := by
        rcases hw with rfl | ⟨t, rfl⟩
        · exact Below.refl _ _
        · exact Lib.bytesWorld_below w _ t
      clear hw
      go_wp2_with fail
      go_ret
      exact ⟨rfl, b1⟩
    · have hd : decide (v < 0) = false := decide_eq_false hv0
      have hit : ∀ W : World, Env W → Calls Tryz.prog 30 #[.int .i64 v] W fun e w' => e = .returned (.string (bsof (Lib.itoa v))) ∧ Below W.heap.size W w' := fun W hE =>
        (Tryz.strconv_Itoa v (by omega) (by omega) W hE.1).mono fun e w' ⟨he, k, os, hw⟩ => ⟨he, by rw [hw]; exact Lib.below_grow _ W (Nat.le_refl _) k os⟩
      obtain ⟨D, hD⟩ : ∃ D, D = bsof (Lib.itoa v) := ⟨_, rfl⟩
      rw [← hD] at hit
      have HIT := Lib.hid hit
      have HE := Lib.hid E
      by_cases hDs : D = s
      · have hr' : r = v := by
          rw [HR.out]; unfold numI; rw [hh]; simp only
          rw [if_pos ⟨by omega, by rw [← hDs, hD]; rfl⟩]
        subst hr'
        subst hDs
        clear bad hh hit hD
        go_enter Tryz.func37, Tryz.ntmps37
        go_wp2_with fail
        refine HC.out.mono ?_
        rintro e w1 ⟨rfl, hw⟩
        have b1 : Below w.heap.size w w1 := by
          rcases hw with rfl | ⟨t, rfl⟩
          · exact Below.refl _ _
          · exact Lib.bytesWorld_below w _ t
        have B1 := Lib.hid b1
        clear hw b1
        go_wp2_with fail
        refine (HIT.out _ (HE.out.below B1.out)).mono ?_
        rintro e w2 ⟨rfl, b2⟩
        go_wp2_with fail
        go_ret
        exact ⟨rfl, B1.out.trans (b2.mono B1.out.size)⟩
      · have hr' : r = -1 := by
          rw [HR.out]; unfold numI; rw [hh]; simp only
          rw [if_neg]
          rintro ⟨_, h2⟩
          exact hDs (by rw [hD, h2, bsof_data])
        subst hr'
        have hDs3 : (D.toList == s.toList) = false := ne_bs hDs
        clear bad hh hit hD hDs
        go_enter Tryz.func37, Tryz.ntmps37
        go_wp2_with fail
        refine HC.out.mono ?_
        rintro e w1 ⟨rfl, hw⟩
        have b1 : Below w.heap.size w w1 := by
          rcases hw with rfl | ⟨t, rfl⟩
          · exact Below.refl _ _
          · exact Lib.bytesWorld_below w _ t
        have B1 := Lib.hid b1
        clear hw b1
        go_wp2_with fail
        refine (HIT.out _ (HE.out.below B1.out)).mono ?_
        rintro e w2 ⟨rfl, b2⟩
        go_wp2_with fail
        go_ret
        exact ⟨rfl, B1.out.trans (b2.mono B1.out.size)⟩
  · obtain ⟨_, _, ⟨ev, h3, h3'⟩, _⟩ := E
    have hc := Any.strconv_Atoi_syntax Tryz.laysC172 s (by omega) hh ev w h3 h3'
    exact bad (fun v e => by rw [hh] at e; cases e) ⟨_, _, hc.mono fun e w' ⟨N, he, _, _, hb⟩ => ⟨⟨N, he⟩, hb⟩⟩
  · obtain ⟨_, _, _, ⟨ev, h3, h3'⟩⟩ := E
    have hc := Tryz.strconv_Atoi_range s (by omega) hh ev w h3 h3'
    exact bad (fun v e => by rw [hh] at e; cases e) ⟨_, _, hc.mono fun e w' ⟨N, he, _, _, hb⟩ => ⟨⟨N, he⟩, hb⟩⟩
theorem cut_len (c : UInt8) (l : List UInt8) : (cut1 c l).1.length ≤ l.length ∧ (cut1 c l).2.length ≤ l.length := by
  unfold cut1 Lib.cut
  split
  · simp only [List.length_take, List.length_drop]; omega
  · simp
set_option maxRecDepth 100000 in
set_option maxHeartbeats 2000000 in
theorem two_c (s : ByteArray) (w : World) (hs : s.size ≤ 1073741824) (E : Env w) :
    Calls Tryz.prog 40 #[.string s, .string ⟨#[58]⟩] w fun e w' => e = .returned (.tuple #[.int .i64 (numI (cut1 58 s.data.toList).1), .int .i64 (numI (cut1 58 s.data.toList).2)]) ∧ Below w.heap.size w w' := by
  obtain ⟨_, ⟨m, hm⟩, _, _⟩ := id E
  have hlen : s.data.toList.length = s.size := by rw [Array.length_toList]; rfl
  have hl := cut_len 58 s.data.toList
  rw [hlen] at hl
  obtain ⟨a, ha⟩ : ∃ a, a = (cut1 58 s.data.toList).1 := ⟨_, rfl⟩
  obtain ⟨b, hb⟩ : ∃ b, b = (cut1 58 s.data.toList).2 := ⟨_, rfl⟩
  have hcut : Calls Tryz.prog 35 #[.string s, .string ⟨#[58]⟩] w fun e w' => (∃ f, e = .returned (.tuple #[.string (bsof a), .string (bsof b), .bool f])) ∧ Below w.heap.size w w' :=
    (Tryz.strings_Cut s ⟨#[58]⟩ m w (by omega) hm).mono fun e w' ⟨he, n, hw⟩ => ⟨⟨(Lib.cut s.data.toList [58]).2.2, by rw [he, ha, hb]; rfl⟩, by rw [hw]; exact below_drewN (Below.refl _ _) _⟩
  rw [← ha, ← hb] at hl ⊢
  have HC := Lib.hid hcut; have HE := Lib.hid E
  have hna : ∀ W, Env W → Calls Tryz.prog 37 #[.string (bsof a)] W fun e w' => e = .returned (.int .i64 (numI a)) ∧ Below W.heap.size W w' := fun W hW => number_c (bsof a) W (by rw [bsof_size]; omega) hW
  have hnb : ∀ W, Env W → Calls Tryz.prog 37 #[.string (bsof b)] W fun e w' => e = .returned (.int .i64 (numI b)) ∧ Below W.heap.size W w' := fun W hW => number_c (bsof b) W (by rw [bsof_size]; omega) hW
  obtain ⟨x, hx⟩ : ∃ x, x = numI a := ⟨_, rfl⟩
  obtain ⟨y, hy⟩ : ∃ y, y = numI b := ⟨_, rfl⟩
  rw [← hx] at hna ⊢
  rw [← hy] at hnb ⊢
  have HNA := Lib.hid hna; have HNB := Lib.hid hnb
  clear hm hlen hl ha hb hcut hna hnb hx hy E
  go_enter Tryz.func40, Tryz.ntmps40
  go_wp2_with fail
  refine HC.out.mono ?_
  rintro e w1 ⟨⟨f, rfl⟩, b1⟩
  have B1 := Lib.hid b1; have E1 := Lib.hid (HE.out.below b1)
  clear b1
  go_wp2_with fail
  refine (HNA.out _ E1.out).mono ?_
  rintro e w2 ⟨rfl, b2⟩
  have B2 := Lib.hid (B1.out.trans (b2.mono B1.out.size)); have E2 := Lib.hid (E1.out.below b2)
  clear b2
  go_wp2_with fail
  refine (HNB.out _ E2.out).mono ?_
  rintro e w3 ⟨rfl, b3⟩
  go_wp2_with fail
  first | go_ret2 | go_ret
  exact ⟨rfl, B2.out.trans (b3.mono B2.out.size)⟩
set_option maxRecDepth 100000 in
set_option maxHeartbeats 2000000 in
theorem elements_c (s : ByteArray) (w : World) (hs : s.size ≤ 1073741824) (E : Env w) :
    Calls Tryz.prog 39 #[.string s] w fun e w' => ∃ A c, e = .returned (.slice A (elsOf s.data.toList).length c) ∧ Rd w' A (strs (elsOf s.data.toList)) ∧ Below w.heap.size w w' := by
  obtain ⟨_, ⟨m, hm⟩, _, _⟩ := E
  obtain ⟨em, hem⟩ : ∃ em, em = s.toList.isEmpty := ⟨_, rfl⟩
  have hem' := hem.symm
  rw [ByteArray.toList_eq] at hem
  cases em
  · have hne : s.data.toList ≠ [] := by intro e; rw [e] at hem; cases hem
    have hel : elsOf s.data.toList = spl 44 s.data.toList := by unfold elsOf; rw [if_neg hne]
    rw [hel]
    obtain ⟨h1, h2⟩ := split_pieces s 44
    have hsp := Tryz.strings_Split s ⟨#[44]⟩ m w (by omega) hm (Nat.le_refl 1)
    rw [h1, h2, List.map_map] at hsp
    obtain ⟨ps, hps⟩ : ∃ ps, ps = spl 44 s.data.toList := ⟨_, rfl⟩
    rw [← hps] at hsp ⊢
    have fin : ∀ W, W = w.alloc (.cells (ps.map (Value.string ∘ bsof)).toArray 9) → Rd W (some ⟨w.heap.size, 0, none⟩) (strs ps) ∧ Below w.heap.size w W := by
      intro W hW
      subst hW
      refine ⟨fun _ => ⟨w.heap.size, 0, rfl, fun j u hu => ?_⟩, (Below.refl _ _).alloc (Nat.le_refl _) _⟩
      rw [Nat.zero_add, cell_new, ← Array.getElem?_toList]
      exact hu
    have FIN := Lib.hid fin; have HSP := Lib.hid hsp
    clear hne hel h1 h2 hsp hps fin hem hm
    go_enter Tryz.func39, Tryz.ntmps39
    go_wp2_with fail
    refine HSP.out.mono ?_
    rintro e w1 ⟨rfl, hw⟩
    have F := Lib.hid (FIN.out _ hw)
    clear hw
    go_wp2_with fail
    go_ret
    exact ⟨_, _, rfl, F.out.1, F.out.2⟩
  · have he : s.data.toList = [] := by
      cases hh : s.data.toList with
      | nil => rfl
      | cons a b => rw [hh] at hem; cases hem
    have hel : elsOf s.data.toList = [] := by unfold elsOf; rw [if_pos he]
    rw [hel]
    clear he hel hem hm
    go_enter Tryz.func39, Tryz.ntmps39
    go_wp2_with fail
    go_ret
    exact ⟨none, 0, rfl, Rd.nil _ _, Below.refl _ _⟩
end Go.Proofs.YtnmgnhpagnjhlaaGreatDoor
