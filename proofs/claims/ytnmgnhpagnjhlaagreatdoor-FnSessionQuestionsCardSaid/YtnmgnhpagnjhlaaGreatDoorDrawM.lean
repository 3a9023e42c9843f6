/- Texts that the laws draw. -/
import Derived.Test.YtnmgnhpagnjhlaaGreatDoorDrawQ
import Derived.Test.YtnmgnhpagnjhlaaGreatDoorPoolFmt
import Derived.Test.YtnmgnhpagnjhlaaGreatDoorPlainS
import Derived.Deep.RegionWith
set_option linter.unusedVariables false
set_option linter.unusedSimpArgs false
set_option linter.unnecessarySimpa false
namespace Go.Proofs.YtnmgnhpagnjhlaaGreatDoor
open Go.RowKit

/-- A text of at most m bytes; the reader has gone on by at most d. -/
def RetT (B g p d m : Nat) (w : World) (e : Ending) (w' : World) : Prop :=
  ∃ (T : ByteArray) (q : Nat), T.size ≤ m ∧ e = .returned (.string T) ∧ Rdr w' B g q ∧ q ≤ p + d ∧ w.grownBy w' (some g)
set_option maxHeartbeats 400000 in
theorem of_c (B g p m : Nat) (xs : List ByteArray) (A : Option Addr) (n c : Nat) (w : World) (hr : Rdr w B g p) (hp : p ≤ 1099511627776) (hN : xs.length = n) (h0 : 1 ≤ n) (hn2 : n ≤ 2147483648) (hx : ∀ x ∈ xs, x.size ≤ m)
    (h : Rd w A (xs.map .string)) (hA : ∀ b off, A = some ⟨b, off, none⟩ → b ≠ g) :
    Calls Tryz.prog 68 #[.pointer (some ⟨g, 0, none⟩), .slice A n c] w (RetT B g p 1 m w) := by
  obtain ⟨b, off, e, hc⟩ := h (by simp; omega)
  subst e
  have hne := hA b off rfl
  have HN := Lib.hid hN; clear hN
  have HC := Lib.hid hc; have HX := Lib.hid hx; clear hc h hx
  clear hA
  go_enter Tryz.func68, Tryz.ntmps68
  go_wp2_with fail
  refine (pick_c B g p n w hr hp h0 hn2).mono ?_
  rintro e w1 ⟨k, hk, rfl, hr1, hg1⟩
  have hkx : k < xs.length := by have := HN.out; omega
  have hx : w1.cell? ⟨b, off + k, none⟩ = some (.string xs[k]) := hg1.cell (HC.out k _ (by simp [hkx])) (fun e => hne (by injection e))
  obtain ⟨v, hv⟩ : ∃ v, v = xs[k] := ⟨_, rfl⟩
  rw [← hv] at hx
  have hmem : v.size ≤ m := by rw [hv]; exact HX.out _ (List.getElem_mem hkx)
  clear hv
  go_wp2_with fail
  go_ret
  exact ⟨v, p + 1, hmem, rfl, hr1, by omega, hg1⟩
theorem Rd.litS (xs : List ByteArray) (w : World) (t : TypeId) : Rd (w.alloc (.cells (xs.map Value.string).toArray t)) (some ⟨w.heap.size, 0, none⟩) (xs.map Value.string) :=
  fun _ => ⟨w.heap.size, 0, rfl, fun j u hu => by rw [Nat.zero_add, cell_new, ← Array.getElem?_toList]; exact hu⟩
def of8 : List ByteArray := [⟨#[48]⟩, ⟨#[49]⟩, ⟨#[32]⟩, ⟨#[124]⟩, ⟨#[44]⟩, ⟨#[58]⟩, ⟨#[61]⟩, ⟨#[57]⟩]
def of6 : List ByteArray := [⟨#[48]⟩, ⟨#[32]⟩, ⟨#[48, 58, 49]⟩, ⟨#[44, 49]⟩, ⟨#[120]⟩, ⟨#[124]⟩]
theorem of8_le : ∀ x ∈ of8, x.size ≤ 3 := by decide
theorem of6_le : ∀ x ∈ of6, x.size ≤ 3 := by decide
theorem extract_le (s : ByteArray) (a b : Nat) : (s.extract a b).size ≤ s.size := by
  rw [ByteArray.size_extract]; omega
set_option maxRecDepth 100000 in
set_option maxHeartbeats 4000000 in
theorem mutate_c (B g p : Nat) (s : ByteArray) (w : World) (hr : Rdr w B g p) (hp : p ≤ 900000) (hs : s.size ≤ 1000000) :
    Calls Tryz.prog 56 #[.pointer (some ⟨g, 0, none⟩), .string s] w (RetT B g p 5 (s.size + s.size + 3) w) := by
  have hgB := hr.1
  have hBw := hr.2.1
  go_enter Tryz.func56, Tryz.ntmps56
  go_wp2_with fail
  refine (pick_c B g p (s.size + 1) w hr (by omega) (by omega) (by omega)).mono ?_
  rintro e w1 ⟨k, hk, rfl, hr1, g1⟩
  clear hr
  go_wp2_with fail
  refine (pick_c B g (p + 1) 5 w1 hr1 (by omega) (by omega) (by omega)).mono ?_
  rintro e w2 ⟨t, ht, rfl, hr2, hg2⟩
  have g2 := only_trans g1 hg2
  have hs2 := g2.size
  clear hr1 g1 hg2
  have fin0 : RetT B g p 5 (s.size + s.size + 3) w (.returned (.string s)) w2 := ⟨s, p + 1 + 1, by omega, rfl, hr2, by omega, g2⟩
  have FIN0 := Lib.hid fin0
  clear fin0
  by_cases t0 : t = 0
  · subst t0
    by_cases hlt : k < s.size
    · have HOF := Lib.hid (fun W (hW : W = (w2.drew.alloc (.cells #[.string ⟨#[48]⟩, .string ⟨#[49]⟩, .string ⟨#[32]⟩, .string ⟨#[124]⟩, .string ⟨#[44]⟩, .string ⟨#[58]⟩, .string ⟨#[61]⟩, .string ⟨#[57]⟩] 9)) ∨ W = (w2.alloc (.cells #[.string ⟨#[48]⟩, .string ⟨#[49]⟩, .string ⟨#[32]⟩, .string ⟨#[124]⟩, .string ⟨#[44]⟩, .string ⟨#[58]⟩, .string ⟨#[61]⟩, .string ⟨#[57]⟩] 9)).drew) =>
        (show Calls Tryz.prog 68 #[.pointer (some ⟨g, 0, none⟩), .slice (some ⟨w2.heap.size, 0, none⟩) 8 8] W (RetT B g (p + 1 + 1) 1 3 W) from
          of_c B g (p + 1 + 1) 3 of8 _ 8 8 W (by rcases hW with rfl | rfl; exact (hr2.drewN 1).alloc _; exact hr2.alloc _) (by omega) rfl (by omega) (by omega) of8_le (by rcases hW with rfl | rfl; exact Rd.litS of8 w2.drew _; exact Rd.litS of8 w2 _) (fun b off e => by injection e with e; injection e with e; omega)))
      obtain ⟨X, hX⟩ : ∃ X, X = s.extract 0 k := ⟨_, rfl⟩
      obtain ⟨Y, hY⟩ : ∃ Y, Y = s.extract (k + 1) s.size := ⟨_, rfl⟩
      have hXs : X.size ≤ s.size := by rw [hX]; exact extract_le _ _ _
      have hYs : Y.size ≤ s.size := by rw [hY]; exact extract_le _ _ _
      have hX' := hX.symm
      have hY' := hY.symm
      clear hX hY
      have hk0 : (0 : Int) ≤ (k : Int) := by omega
      have hk1 : (k : Int) ≤ (s.size : Int) := by omega
      have hk2 : (k : Int) + 1 ≤ (s.size : Int) := by omega
      have hk3 : (0 : Int) ≤ (k : Int) + 1 := by omega
      have hk4 : ((k : Int) + 1).toNat = k + 1 := by omega
      have hk5 : k ≤ s.size := by omega
      have hk6 : k + 1 ≤ s.size := by omega
      have hkw : IntKind.i64.wrap ((k : Int) + 1) = (k : Int) + 1 := IntWalk.i64_in _ ⟨by omega, by omega⟩
      go_wp2_with fail
      go_region_with ((go_at_call 68; (with_reducible refine (HOF.out _ (.inr rfl)).mono ?_); rintro e w91 ⟨T, q, hT, rfl, hr3, hq, hg3⟩; have hz1 : ¬ 9223372036854775807 < X.size + T.size := (by omega); have hz2 : ¬ 9223372036854775807 < X.size + T.size + Y.size := (by omega)))
      all_goals
        have g3 : w.grownBy w91 (some g) := only_trans (only_drew (only_alloc g2 _)) hg3
        have fin3 : RetT B g p 5 (s.size + s.size + 3) w (.returned (.string (X ++ T ++ Y))) w91 := ⟨_, q, by rw [ByteArray.size_append, ByteArray.size_append]; omega, rfl, hr3, by omega, g3⟩
        have FIN3 := Lib.hid fin3
        clear fin3 hr3 g3 hg3 hr2 g2
        go_wp2_with fail
        go_ret
        exact FIN3.out
    · have hd : decide ((k : Int) < (s.size : Int)) = false := decide_eq_false (by omega)
      clear hr2 g2
      go_wp2_with fail
      go_ret
      exact FIN0.out
  · have e0 : ((t : Int) == 0) = false := beq_eq_false_iff_ne.2 (by omega)
    by_cases t1 : t = 1
    · subst t1
      have fin1 : RetT B g p 5 (s.size + s.size + 3) w (.returned (.string (s.extract 0 k))) w2 := ⟨_, p + 1 + 1, by have := extract_le s 0 k; omega, rfl, hr2, by omega, g2⟩
      obtain ⟨X, hX⟩ : ∃ X, X = s.extract 0 k := ⟨_, rfl⟩
      rw [← hX] at fin1
      have hX' := hX.symm
      have FIN1 := Lib.hid fin1
      have hk1 : (k : Int) ≤ (s.size : Int) := by omega
      have hk2 : k ≤ s.size := by omega
      clear hX fin1 hr2 g2
      go_wp2_with fail
      go_ret
      exact FIN1.out
    · have e1 : ((t : Int) == 1) = false := beq_eq_false_iff_ne.2 (by omega)
      by_cases t2 : t = 2
      · subst t2
        go_wp2_with fail
        refine (of_c B g (p + 1 + 1) 3 of6 _ 6 6 _ (hr2.alloc _) (by omega) rfl (by omega) (by omega) of6_le (Rd.litS of6 w2 _) (fun b off e => by injection e with e; injection e with e; omega)).mono ?_
        rintro e w3 ⟨T, q, hT, rfl, hr3, hq, hg3⟩
        have g3 := only_trans (only_alloc g2 _) hg3
        have hz1 : ¬ 9223372036854775807 < s.size + T.size := by omega
        have fin3 : RetT B g p 5 (s.size + s.size + 3) w (.returned (.string (s ++ T))) w3 := ⟨_, q, by rw [ByteArray.size_append]; omega, rfl, hr3, by omega, g3⟩
        have FIN3 := Lib.hid fin3
        clear fin3 hr3 g3 hg3 hr2 g2
        go_wp2_with fail
        go_ret
        exact FIN3.out
      · have e2 : ((t : Int) == 2) = false := beq_eq_false_iff_ne.2 (by omega)
        clear hr2 g2
        go_wp2_with fail
        go_ret
        exact FIN0.out
theorem fmt_size (p : Pl) : p.fmt.size ≤ 50000 := by
  unfold Pl.fmt
  split
  · rename_i h
    rw [bsof_size]
    exact text_len (valid_good.1 h)
  · rw [bsof_size]; simp
set_option maxRecDepth 100000 in
set_option maxHeartbeats 4000000 in
theorem drawParsePool_c (zs : List Int) (A : Option Addr) (n c : Nat) (w : World) (hN : zs.length = n) (hc : n ≤ c) (hm : c ≤ maxLen) (h : Rd w A (zs.map (.int .u8))) (hz : ∀ z ∈ zs, 0 ≤ z ∧ z ≤ 255) :
    Calls Tryz.prog 20 #[.slice A n c] w fun e w' => ∃ T : ByteArray, T.size ≤ 200000 ∧ e = .returned (.string T) ∧ Below w.heap.size w w' := by
  have HR := Lib.hid (newReader_c zs A n c w hN hc hm h hz)
  clear h hz hN
  go_enter Tryz.func20, Tryz.ntmps20
  go_wp2_with fail
  refine HR.out.mono ?_
  rintro e w1 ⟨rfl, hr, hb⟩
  have hs0 := hb.size
  go_wp2_with fail
  refine (somePool_c _ _ _ _ hr (by omega)).mono ?_
  rintro e w2 ⟨A2, a2, B2, b2, C2, c2, P, q, rfl, ⟨e1, e2, e3⟩, pr, hr2, hq2, g2⟩
  have hs1 := g2.size
  have bel2 : Below w.heap.size w w2 := hb.trans (below_grown g2 (Nat.le_refl _) hs0)
  obtain ⟨T, hT⟩ : ∃ T, T = P.fmt := ⟨_, rfl⟩
  have hF := sFormatPool_c P.mx P.ids P.hs P.wt A2 _ a2 B2 _ b2 C2 _ c2 w2 rfl rfl rfl pr.1.rd pr.2.1.rd pr.2.2.1.rd (by omega) (by omega) (by omega)
  rw [show Pl.fmt ⟨P.mx, P.ids, P.hs, P.wt⟩ = P.fmt from rfl, ← hT] at hF
  have hTs : T.size ≤ 50000 := by rw [hT]; exact fmt_size P
  have HF := Lib.hid hF
  clear hr g2 hb hF hT pr HR
  go_wp2_with fail
  refine HF.out.mono ?_
  rintro e w3 ⟨rfl, b3⟩
  have hr3 := hr2.below b3
  have bel3 : Below w.heap.size w w3 := bel2.trans (b3.mono bel2.size)
  have hs3 := bel3.size
  clear hr2 bel2 b3 HF
  go_wp2_with fail
  refine (pick_c _ _ _ 3 _ hr3 (by omega) (by omega) (by omega)).mono ?_
  rintro e w4 ⟨t, ht, rfl, hr4, g4⟩
  have bel4 : Below w.heap.size w w4 := bel3.trans (below_grown g4 (Nat.le_refl _) hs3)
  have hs4 := bel4.size
  have BEL4 := Lib.hid bel4
  clear hr3 bel3 g4 bel4
  by_cases t0 : t = 0
  · subst t0
    go_wp2_with fail
    refine (mutate_c _ _ _ T _ hr4 (by omega) (by omega)).mono ?_
    rintro e w5 ⟨T5, q5, hT5, rfl, hr5, hq5, g5⟩
    have bel5 : Below w.heap.size w w5 := BEL4.out.trans (below_grown g5 (Nat.le_refl _) hs4)
    have BEL5 := Lib.hid bel5
    clear bel5 g5 hr5 hr4
    go_wp2_with fail
    go_ret
    exact ⟨T5, by omega, rfl, BEL5.out⟩
  · have e0 : ((t : Int) == 0) = false := beq_eq_false_iff_ne.2 (by omega)
    clear hr4
    go_wp2_with fail
    go_ret
    exact ⟨T, by omega, rfl, BEL4.out⟩
end Go.Proofs.YtnmgnhpagnjhlaaGreatDoor
