/- FnExactGoodPath: for every list of bools and all numbers the law returns true, and what was there is as it was. No condition. -/
import Derived.Test.YtfmkpcoacghonaaRows
import Derived.Test.YtfmkpcoacghonaaPaths
import Derived.Test.YtfmkpcoacghonaaLists
import Derived.Test.YtfmkpcoacghonaaOpen
set_option linter.unusedVariables false
set_option linter.unusedSimpArgs false
namespace Go.Proofs.Ytfmkpcoacghonaa
open Go.RowKit

set_option maxHeartbeats 2000000 in
theorem walk_FnExactGoodPath (bs : List Bool) (A : Option Addr) (n c : Nat) (hN : bs.length = n) (hc : n ≤ c) (hm : c ≤ maxLen) {w : World} (h : Rd w A (bs.map .bool)) (f : Int) (_ : -9223372036854775808 ≤ f ∧ f ≤ 9223372036854775807) (g : Int) (_ : -9223372036854775808 ≤ g ∧ g ≤ 9223372036854775807) :
    Calls Try.prog 11 #[.slice A n c, .int .i64 f, .int .i64 g] w fun e w' => e = .returned (.bool true) ∧ Below w.heap.size w w' := by
  have HN := Lib.hid hN; clear hN
  have H := Lib.hid h; clear h
  unfold maxLen at hm
  by_cases hbig : 1048576 < n
  · go_enter Try.func11, Try.ntmps11
    go_wp2
    go_ret
    exact ⟨rfl, Below.refl _ _⟩
  · have hlen : bs.length ≤ 1099511627776 := by have := HN.out; omega
    obtain ⟨zs, hzs⟩ : ∃ zs, zs = goodPath bs f g := ⟨_, rfl⟩
    have hzl : zs.length ≤ 1048576 := by
      rw [hzs]; unfold goodPath; split
      · rw [pathTo_length]; have := HN.out; omega
      · simp
    have HS : Hid (∀ (A : Option Addr) (n c : Nat) (w : World), bs.length = n → n ≤ c → Rd w A (bs.map .bool) → n ≤ 1099511627776 →
        Calls Try.prog 23 #[.slice A n c, .int .i64 f, .int .i64 g] w (RetInts zs w)) := by
      intro A n c w a b d e; rw [hzs]; exact sGoodPath_c bs f g A n c w a b d e
    have HI : Hid (∀ (A : Option Addr) (n c : Nat) (w : World), bs.length = n → n ≤ c → Rd w A (bs.map .bool) → n ≤ 1099511627776 →
        Calls Try.prog 24 #[.slice A n c, .int .i64 f, .int .i64 g] w (RetInts zs w)) := by
      intro A n c w a b d e; rw [hzs]; exact goodPath_c bs f g A n c w a b d e
    clear hzs
    go_enter Try.func11, Try.ntmps11
    go_wp2_with fail
    refine (toBools_c bs _ _ _ _ HN.out H.out (by omega)).mono ?_
    rintro e w1 ⟨A1, c1, rfl, o1, b1⟩
    go_wp2_with fail
    refine (HS.out _ _ _ _ rfl (own_cap o1) (Rd.of_own o1) hlen).mono ?_
    rintro e w2 ⟨AW, cW, rfl, oW, b2'⟩
    have b2 : Below w.heap.size w w2 := b1.trans (b2'.mono b1.size)
    clear b1 o1 b2'
    have hs2 := b2.size
    go_wp2_with fail
    refine (toBools_c bs _ _ _ _ HN.out (H.out.below b2) (by omega)).mono ?_
    rintro e w3 ⟨AX, cX, rfl, oX, b3'⟩
    have b3 : Below w.heap.size w w3 := b2.trans (b3'.mono b2.size)
    have hs3 := b3.size
    have apWX := Lib.hid (own_apart oW oX (Nat.le_refl _))
    have oW3 := own_below oW b3'
    have hs23 := b3'.size
    clear b3'
    go_wp2_with fail
    refine (HI.out _ _ _ _ rfl (own_cap oX) (Rd.of_own oX) hlen).mono ?_
    rintro e w4 ⟨AG, cG, rfl, oG, b4'⟩
    have b4 : Below w.heap.size w w4 := b3.trans (b4'.mono b3.size)
    have apXG := Lib.hid (own_apart oX oG (Nat.le_refl _))
    have apWG := Lib.hid (own_apart oW oG hs23)
    have oW4 := own_below oW3 b4'
    have oX4 := own_below oX b4'
    clear b4' oW oX oW3 b2 b3 hs23
    go_wp2_with fail
    refine (eqInts_c zs zs _ _ _ _ _ _ _ rfl rfl (Rd.of_own oG) (Rd.of_own oW4) (by omega) (by omega)).mono ?_
    rw [decide_eq_true rfl]
    rintro e w5 ⟨rfl, m5, rfl⟩
    go_wp2_with fail
    refine (toBools_c bs _ _ _ _ HN.out (H.out.below (below_drewN b4 m5)) (by omega)).mono ?_
    rintro e w6 ⟨A6, c6, rfl, o6, b6'⟩
    have b6 : Below w.heap.size w w6 := (below_drewN b4 m5).trans (b6'.mono b4.size)
    have oW6 := own_below (own_drewN oW4 m5) b6'
    have oX6 := own_below (own_drewN oX4 m5) b6'
    have oG6 := own_below (own_drewN oG m5) b6'
    clear oW4 oX4 oG b6' b4
    go_wp2_with fail
    refine (eqBools_c bs bs _ _ _ _ _ _ _ rfl rfl (Rd.of_own oX6) (Rd.of_own o6) hlen hlen).mono ?_
    rw [decide_eq_true rfl]
    rintro e w7 ⟨rfl, m7, rfl⟩
    clear o6
    go_wp2_with fail
    refine (markBools_c _ bs 1 _ _ _ _ rfl (own_drewN oX6 m7) hlen (by omega)).mono ?_
    rintro e w8 ⟨rfl, g8⟩
    have b8 : Below w.heap.size w w8 := (below_drewN b6 m7).grown g8 b6.size (fun k hk => by
      have h1 := (oX6.lt k hk).1
      omega)
    have oW8 := (own_drewN oW6 m7).kept g8 apWX.out.1
    have oG8 := (own_drewN oG6 m7).kept g8 apXG.out.2
    clear oW6 oG6 oX6 g8 b6
    go_wp2_with fail
    refine (eqInts_c zs zs _ _ _ _ _ _ _ rfl rfl (Rd.of_own oG8) (Rd.of_own oW8) (by omega) (by omega)).mono ?_
    rw [decide_eq_true rfl]
    rintro e w9 ⟨rfl, m9, rfl⟩
    go_wp2_with fail
    refine (markInts_c _ zs 1 _ _ _ _ rfl (own_drewN oG8 m9) (by omega) (by omega)).mono ?_
    rintro e w10 ⟨rfl, oM, g10⟩
    have b10 : Below w.heap.size w w10 := (below_drewN b8 m9).grown g10 b8.size (fun k hk => by
      have h1 := (oG8.lt k hk).1
      omega)
    have oW10 := (own_drewN oW8 m9).kept g10 apWG.out.1
    clear oW8 oG8 g10 b8
    go_wp2_with fail
    refine (heldInts_c 1 _ _ _ _ (Rd.of_own oM) (by omega) (by omega)).mono ?_
    rintro e w11 ⟨rfl, rfl⟩
    go_wp2_with fail
    refine (toBools_c bs _ _ _ _ HN.out (H.out.below b10) (by omega)).mono ?_
    rintro e w12 ⟨A12, c12, rfl, o12, b12'⟩
    have b12 : Below w.heap.size w w12 := b10.trans (b12'.mono b10.size)
    have oW12 := own_below oW10 b12'
    have oM12 := own_below oM b12'
    clear oW10 oM b12' b10
    go_wp2_with fail
    refine (HI.out _ _ _ _ rfl (own_cap o12) (Rd.of_own o12) hlen).mono ?_
    rintro e w13 ⟨AH, cH, rfl, oH, b13'⟩
    have b13 : Below w.heap.size w w13 := b12.trans (b13'.mono b12.size)
    have oW13 := own_below oW12 b13'
    have oM13 := own_below oM12 b13'
    clear oW12 oM12 b13' b12 o12
    go_wp2_with fail
    refine (eqInts_c zs zs _ _ _ _ _ _ _ rfl rfl (Rd.of_own oH) (Rd.of_own oW13) (by omega) (by omega)).mono ?_
    rw [decide_eq_true rfl]
    rintro e w14 ⟨rfl, m14, rfl⟩
    go_wp2_with fail
    refine (heldInts_c 1 _ _ _ _ (Rd.of_own (own_drewN oM13 m14)) (by omega) (by omega)).mono ?_
    rintro e w15 ⟨rfl, rfl⟩
    go_wp2_with fail
    go_ret
    exact ⟨rfl, below_drewN b13 _⟩

namespace fnExactGoodPath
open Go.ChangeShapes Go.WideShapes Go.ChangeAt
open Go.ChangeMaps (open_string shut_string)
theorem own : ownKnob Try.prog.godebug = none := by kernel_rfl
theorem laidOut : laidOutB Try.prog = true := by kernel_rfl
set_option maxRecDepth 100000 in
theorem lifted (os : Os) (started : os.Started) (H : Type) (enc : TypeId × Value → H) :
    ReturnsInHanded {} Try.checked os 11 .any (Rows.fnExactGoodPathSpec.pre6 enc Try.prog Try.f11 Rows.fnExactGoodPathRow.domain false) (Rows.fnExactGoodPathSpec.post enc Try.prog Try.f11 false true false false) := by
  refine returnsInHanded_of_change (C := Try.checked) own started (by kernel_rfl) Try.func11
    (ChangeSpec.witness6 (enc := enc) (C := Try.checked) false ⟨#[], #[.slice none 0 0, .int .i64 0, .int .i64 0], []⟩ 8 (by kernel_rfl) (by kernel_rfl) (by kernel_rfl) (by kernel_rfl)) ?_
  intro W base args ds gs before hval0 hW hcnd _
  have hval : ∀ (j : Nat) t v, Try.f11.params[j]? = some t → args[j]? = some v → Value.okWide Try.prog W .any base t v := hval0
  have hW' := hW
  obtain ⟨p, q, hA0, hV, rfl, hfz, hnd⟩ := hW
  have hA : DataW.TrodAll enc Try.prog W 0 (fun _ => true) true Try.f11.params.toList args.toList ds p := hA0
  rw [Try.params11] at hA hval
  obtain ⟨v0, vs0, d0, ds0, p0, q0, hargs, rfl, rfl, h0, r0⟩ := trodAll_cons hA
  obtain ⟨v1, vs1, d1, ds1, p1, q1, rfl, rfl, rfl, h1, r1⟩ := trodAll_cons r0
  obtain ⟨v2, vs2, d2, ds2, p2, q2, rfl, rfl, rfl, h2, r2⟩ := trodAll_cons r1
  obtain ⟨rfl, rfl, rfl⟩ := trodAll_nil r2
  obtain rfl : args = #[v0, v1, v2] := by cases args; simp_all
  obtain ⟨rfl, rfl⟩ := trodVars_none hV
  obtain ⟨a0, n0, c0, rfl⟩ := okWide_slice Try.underlying22 (hval 0 22 v0 rfl rfl)
  have k0 := h0
  have lt0 : ∀ x ∈ p0, x.block < W.heap.size := by obtain ⟨m, hm⟩ := k0; exact DataW.trod_lt m _ _ _ hm
  obtain ⟨z0, e0, lc0, cm0, rd0⟩ := open_rd_bool Try.underlying22 Try.underlying4 (by kernel_rfl) h0
  obtain ⟨x1, rfl, rfl, rfl, w1⟩ := open_int Try.underlying3 (hval 1 3 v1 rfl rfl) h1
  obtain ⟨x2, rfl, rfl, rfl, w2⟩ := open_int Try.underlying3 (hval 2 3 v2 rfl rfl) h2
  clear hA0 hval0
  refine (walk_FnExactGoodPath (w := W) z0 a0 n0 c0 e0 lc0 cm0 rd0 x1 (wf_i64 w1) x2 (wf_i64 w2)).mono fun e W' ⟨he, bel⟩ => ?_
  subst he
  exact ⟨_, rfl, _, _, _, [], _, [], hW', trodAll_mk1 (shut_bool Try.underlying4 _), (trodAll_cons_mk (Below.trod laidOut (by kernel_rfl) (of_decide_eq_true (by kernel_rfl)) k0 bel lt0) (trodAll_cons_mk (shut_int Try.underlying3 w1) (trodAll_cons_mk (shut_int Try.underlying3 w2) trodAll_mk0))), rfl, bel.frame _, fun h => by cases h⟩
theorem over : Rows.fnExactGoodPathRow.holds Try.pinned (OpenSpec.ofChange Rows.fnExactGoodPathSpec) :=
  OpenClaim.holds_of_wide 11 Try.f11 rfl rfl rfl rfl rfl rfl rfl ⟨rfl, rfl, rfl, rfl, rfl⟩ rfl rfl rfl rfl rfl (by kernel_rfl) Try.func11 (by kernel_rfl)
    (of_decide_eq_true (by kernel_rfl)) (by unfold Func.isWrapper; first | (rw [if_pos (by decide +kernel)]; kernel_rfl) | (rw [if_neg (by decide +kernel)]; exact ⟨rfl, rfl⟩))
    (fun os started H enc _ => lifted os started H enc)
/-- THE STATEMENT -/
theorem proved : Rows.FnExactGoodPathSaid := over
end fnExactGoodPath
end Go.Proofs.Ytfmkpcoacghonaa
