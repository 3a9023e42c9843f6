/- FnGoodPathShort: for every code the law returns true, and what was there is as it was. No condition. -/
import Derived.Test.YtfmkpcoacghonaaRows
import Derived.Test.YtfmkpcoacghonaaPaths
import Derived.Test.YtfmkpcoacghonaaLists
import Derived.Test.YtfmkpcoacghonaaDrawA
import Derived.Test.YtfmkpcoacghonaaOpen
import Derived.Deep.RegionWith
set_option linter.unusedVariables false
set_option linter.unusedSimpArgs false
set_option linter.unnecessarySimpa false
namespace Go.Proofs.Ytfmkpcoacghonaa
open Go.RowKit

theorem goodPath_len (bs : List Bool) (f g : Int) : (goodPath bs f g).length = bs.length ∧ chk bs f g = true ∨ goodPath bs f g = [] := by
  unfold goodPath
  split
  · exact .inl ⟨pathTo_length _ _ _ _, by assumption⟩
  · exact .inr rfl
theorem pathTo_get (f g : Int) (bs : List Bool) (n k : Nat) (h : k < n) : (pathTo f g bs n)[k]? = some (bit (good f g (bs.take (k + 1)))) := by
  simp [pathTo, h]

set_option maxRecDepth 100000 in
set_option maxHeartbeats 2000000 in
theorem walk_FnGoodPathShort (zs : List Int) (A : Option Addr) (n c : Nat) (hN : zs.length = n) (hc : n ≤ c) (hm : c ≤ maxLen) {w : World} (h : Rd w A (zs.map (.int .u8))) (hz : ∀ z ∈ zs, 0 ≤ z ∧ z ≤ 255) :
    Calls Try.prog 13 #[.slice A n c] w fun e w' => e = .returned (.bool true) ∧ Below w.heap.size w w' := by
  have HD := Lib.hid (drawGoodPath_c zs A n c w hN hc hm h hz)
  clear h hz hN
  unfold maxLen at hm
  by_cases hbig : 1048576 < n
  · go_enter Try.func13, Try.ntmps13
    go_wp2
    go_ret
    exact ⟨rfl, Below.refl _ _⟩
  · go_enter Try.func13, Try.ntmps13
    go_wp2_with fail
    refine HD.out.mono ?_
    rintro e w1 ⟨A1, c1, bs, f, g, rfl, hl, hf0, hf1, hg0, hg1, own1, b1⟩
    obtain ⟨zs, hzs⟩ : ∃ zs, zs = goodPath bs f g := ⟨_, rfl⟩
    have hzl := goodPath_len bs f g
    rw [← hzs] at hzl
    have HZ := Lib.hid hzs; clear hzs
    have hzb : zs.length ≤ 13 := by
      rcases hzl with h | h
      · omega
      · rw [h]; simp
    have hcap := own_cap own1
    go_wp2_with fail
    refine (goodPath_c bs f g _ _ _ _ rfl hcap (Rd.of_own own1) (by omega)).mono ?_
    rw [← HZ.out]
    rintro e w2 ⟨A2, c2, rfl, oz2, b2'⟩
    have b2 : Below w.heap.size w w2 := b1.trans (b2'.mono b1.size)
    have own2 := own_below own1 b2'
    clear own1 b1 b2'
    go_wp2_with fail
    refine (sGoodPath_c bs f g _ _ _ _ rfl hcap (Rd.of_own own2) (by omega)).mono ?_
    rw [← HZ.out]
    rintro e w3 ⟨A3, c3, rfl, oz3, b3'⟩
    have b3 : Below w.heap.size w w3 := b2.trans (b3'.mono b2.size)
    have own3 := own_below own2 b3'
    have oz2' := own_below oz2 b3'
    clear own2 oz2 b2 b3'
    go_wp2_with fail
    refine (equalInts_c zs zs _ _ _ _ _ _ _ rfl rfl (Rd.of_own oz2') (Rd.of_own oz3) (by omega) (by omega)).mono ?_
    rw [decide_eq_true rfl]
    rintro e w4 ⟨rfl, m4, rfl⟩
    clear oz3
    rcases Nat.eq_zero_or_pos zs.length with hz0 | hz0
    · have hz0' : ((zs.length : Int) == 0) = true := beq_iff_eq.2 (by omega)
      have HZ0 := Lib.hid hz0; clear hz0
      go_wp2_with fail
      refine (sGoodPath_c bs f g _ _ _ _ rfl hcap (Rd.of_own (own_drewN own3 m4)) (by omega)).mono ?_
      rw [← HZ.out]
      rintro e w5 ⟨A5, c5, rfl, oz5, b5'⟩
      have b5 : Below w.heap.size w w5 := (below_drewN b3 m4).trans (b5'.mono b3.size)
      have oz2'' := own_below (own_drewN oz2' m4) b5'
      go_wp2_with fail
      refine (equalInts_c zs zs _ _ _ _ _ _ _ rfl rfl (Rd.of_own oz2'') (Rd.of_own oz5) (by omega) (by omega)).mono ?_
      rw [decide_eq_true rfl]
      rintro e w6 ⟨rfl, m6, rfl⟩
      go_wp2_with fail
      go_ret
      exact ⟨rfl, below_drewN b5 _⟩
    · obtain ⟨hzn, hchk⟩ : zs.length = bs.length ∧ chk bs f g = true := by
        rcases hzl with h | h
        · exact h
        · rw [h] at hz0; simp at hz0
      have hz0' : ((zs.length : Int) == 0) = false := beq_eq_false_iff_ne.2 (by omega)
      have hzp : zs = pathTo f g bs bs.length := by rw [HZ.out, goodPath, hchk]; rfl
      have hl12 : bs.length ≤ 12 := by
        have h := hchk
        simp only [chk, Bool.and_eq_true, decide_eq_true_eq] at h
        exact h.1
      have oz4 := own_drewN oz2' m4
      have own4 := own_drewN own3 m4
      have b4 := below_drewN b3 m4
      have HZN := Lib.hid hzn
      have HCHK := Lib.hid hchk
      have HZP := Lib.hid hzp
      clear oz2' own3 b3 hzn hchk hzp hzl
      generalize w3.drewN m4 = w4 at *
      have hz12 : zs.length = bs.length := HZN.out
      obtain ⟨d, hd⟩ : ∃ d, bs.length = d + 1 := ⟨bs.length - 1, by omega⟩
      have hcz := own_cap oz4
      have hpre : goodPath (bs.take d) f g = zs.take d := by
        have h := HCHK.out
        have h' : chk (bs.take d) f g = true := by
          simp only [chk, Bool.and_eq_true, decide_eq_true_eq] at h ⊢
          exact ⟨by simp; omega, h.2⟩
        rw [goodPath, h', HZP.out, hd, pathTo_succ]
        have e : (bs.take d).length = d := by simp; omega
        rw [if_pos rfl, e, List.take_left' (pathTo_length _ _ _ _)]
        unfold pathTo
        refine List.map_congr_left fun i hi => ?_
        have hi' : i < d := by simpa using hi
        rw [List.take_take, Nat.min_eq_left (by omega)]
      have hG : ∀ (A : Option Addr) (c : Nat) (w : World), d ≤ c → Rd w A ((bs.take d).map .bool) → Calls Try.prog 24 #[.slice A d c, .int .i64 f, .int .i64 g] w (RetInts (zs.take d) w) := by
        intro A c w a b
        rw [← hpre]
        exact goodPath_c (bs.take d) f g A d c w (by simp; omega) a b (by omega)
      have HG := Lib.hid hG
      have hR4 : Rd w4 A1 ((bs.take d).map .bool) := by rw [List.map_take]; exact (Rd.of_own own4).take d
      have hZ4 : Rd w4 A2 ((zs.take d).map (.int .i64)) := by rw [List.map_take]; exact (Rd.of_own oz4).take d
      have R4 := Lib.hid hR4
      have Z4 := Lib.hid hZ4
      have hLz : (zs.take d).length = d := by simp; omega
      have HLZ := Lib.hid hLz
      have hdi : ((bs.length : Int) - 1) = (d : Int) := by omega
      have HDI := Lib.hid hdi
      have hdb : d ≤ bs.length := by omega
      have hdz : d ≤ zs.length := by omega
      have hdc : d ≤ c1 := by omega
      have hdc2 : d ≤ c2 := by omega
      have HD3 := Lib.hid hd
      clear hz12 hpre own4 oz4 hz0 hdi hd hG hR4 hZ4 hLz
      go_wp2_with fail
      rw [HDI.out]
      go_region_with (first | (go_at_call 24; refine (HG.out _ _ _ hdc R4.out.drew).mono ?_; rintro e w5 ⟨A5, c5, rfl, o5, b5⟩; have z5 := Z4.out.drew.below b5; rw [HLZ.out] at o5 ⊢) | (go_at_call 30; refine (equalInts_c (zs.take d) (zs.take d) _ _ _ _ _ _ _ HLZ.out HLZ.out (Rd.of_own o5) z5 (by omega) (by omega)).mono ?_; rw [decide_eq_true rfl]; rintro e w6 ⟨rfl, m6, rfl⟩))
      all_goals
        go_wp2
        go_ret
        exact ⟨rfl, below_drewN ((b4.drew).trans (b5.mono b4.size)) _⟩

namespace fnGoodPathShort
open Go.ChangeShapes Go.WideShapes Go.ChangeAt
open Go.ChangeMaps (open_string shut_string)
theorem own : ownKnob Try.prog.godebug = none := by kernel_rfl
theorem laidOut : laidOutB Try.prog = true := by kernel_rfl
set_option maxRecDepth 100000 in
theorem lifted (os : Os) (started : os.Started) (H : Type) (enc : TypeId × Value → H) :
    ReturnsInHanded {} Try.checked os 13 .any (Rows.fnGoodPathShortSpec.pre6 enc Try.prog Try.f13 Rows.fnGoodPathShortRow.domain false) (Rows.fnGoodPathShortSpec.post enc Try.prog Try.f13 false true false false) := by
  refine returnsInHanded_of_change (C := Try.checked) own started (by kernel_rfl) Try.func13
    (ChangeSpec.witness6 (enc := enc) (C := Try.checked) false ⟨#[], #[.slice none 0 0], []⟩ 8 (by kernel_rfl) (by kernel_rfl) (by kernel_rfl) (by kernel_rfl)) ?_
  intro W base args ds gs before hval0 hW hcnd _
  have hval : ∀ (j : Nat) t v, Try.f13.params[j]? = some t → args[j]? = some v → Value.okWide Try.prog W .any base t v := hval0
  have hW' := hW
  obtain ⟨p, q, hA0, hV, rfl, hfz, hnd⟩ := hW
  have hA : DataW.TrodAll enc Try.prog W 0 (fun _ => true) true Try.f13.params.toList args.toList ds p := hA0
  rw [Try.params13] at hA hval
  obtain ⟨v0, vs0, d0, ds0, p0, q0, hargs, rfl, rfl, h0, r0⟩ := trodAll_cons hA
  obtain ⟨rfl, rfl, rfl⟩ := trodAll_nil r0
  obtain rfl : args = #[v0] := by cases args; simp_all
  obtain ⟨rfl, rfl⟩ := trodVars_none hV
  obtain ⟨a0, n0, c0, rfl⟩ := okWide_slice Try.underlying27 (hval 0 27 v0 rfl rfl)
  have k0 := h0
  have lt0 : ∀ x ∈ p0, x.block < W.heap.size := by obtain ⟨m, hm⟩ := k0; exact DataW.trod_lt m _ _ _ hm
  obtain ⟨z0, e0, lc0, cm0, rd0, wf0⟩ := open_rd_int Try.underlying27 Try.underlying5 (by kernel_rfl) h0
  clear hA0 hval0
  refine (walk_FnGoodPathShort (w := W) z0 a0 n0 c0 e0 lc0 cm0 rd0 (fun x hx => wf_u8 (wf0 x hx))).mono fun e W' ⟨he, bel⟩ => ?_
  subst he
  exact ⟨_, rfl, _, _, _, [], _, [], hW', trodAll_mk1 (shut_bool Try.underlying4 _), (trodAll_cons_mk (Below.trod laidOut (by kernel_rfl) (of_decide_eq_true (by kernel_rfl)) k0 bel lt0) trodAll_mk0), rfl, bel.frame _, fun h => by cases h⟩
theorem over : Rows.fnGoodPathShortRow.holds Try.pinned (OpenSpec.ofChange Rows.fnGoodPathShortSpec) :=
  OpenClaim.holds_of_wide 13 Try.f13 rfl rfl rfl rfl rfl rfl rfl ⟨rfl, rfl, rfl, rfl, rfl⟩ rfl rfl rfl rfl rfl (by kernel_rfl) Try.func13 (by kernel_rfl)
    (of_decide_eq_true (by kernel_rfl)) (by unfold Func.isWrapper; first | (rw [if_pos (by decide +kernel)]; kernel_rfl) | (rw [if_neg (by decide +kernel)]; exact ⟨rfl, rfl⟩))
    (fun os started H enc _ => lifted os started H enc)
/-- THE STATEMENT -/
theorem proved : Rows.FnGoodPathShortSaid := over
end fnGoodPathShort
end Go.Proofs.Ytfmkpcoacghonaa
