/- FnGoodPath: for every code the law returns true, and what was there is as it was. No condition. -/
import Derived.Test.YtfmkpcoacghonaaRows
import Derived.Test.YtfmkpcoacghonaaPaths
import Derived.Test.YtfmkpcoacghonaaLists
import Derived.Test.YtfmkpcoacghonaaDrawA
import Derived.Test.YtfmkpcoacghonaaOpen
import Derived.Test.YtfmkpcoacghonaaQuiet
set_option linter.unusedVariables false
set_option linter.unusedSimpArgs false
set_option linter.unnecessarySimpa false
namespace Go.Proofs.Ytfmkpcoacghonaa
open Go.RowKit

theorem goodPath_len (bs : List Bool) (f g : Int) : (goodPath bs f g).length = bs.length ∧ chk bs f g = true ∨ goodPath bs f g = [] := by
  unfold goodPath
  split
  · exact .inl ⟨pathTo_length _ _ _ _, by assumption⟩
  · exact .inr rfl
theorem pathTo_get (f g : Int) (bs : List Bool) (n k : Nat) (h : k < n) : (pathTo f g bs n)[k]? = some (bit (good f g (bs.take (k + 1)))) := by
  simp [pathTo, h]

set_option maxRecDepth 100000 in
set_option maxHeartbeats 2000000 in
theorem walk_FnGoodPath (zs : List Int) (A : Option Addr) (n c : Nat) (hN : zs.length = n) (hc : n ≤ c) (hm : c ≤ maxLen) {w : World} (h : Rd w A (zs.map (.int .u8))) (hz : ∀ z ∈ zs, 0 ≤ z ∧ z ≤ 255) :
    Calls Try.prog 14 #[.slice A n c] w fun e w' => e = .returned (.bool true) ∧ Below w.heap.size w w' := by
  have HD := Lib.hid (drawGoodPath_c zs A n c w hN hc hm h hz)
  clear h hz hN
  unfold maxLen at hm
  by_cases hbig : 1048576 < n
  · go_enter Try.func14, Try.ntmps14
    go_wp2
    go_ret
    exact ⟨rfl, Below.refl _ _⟩
  · go_enter Try.func14, Try.ntmps14
    go_wp2_with fail
    refine HD.out.mono ?_
    rintro e w1 ⟨A1, c1, bs, f, g, rfl, hl, hf0, hf1, hg0, hg1, own1, b1⟩
    obtain ⟨zs, hzs⟩ : ∃ zs, zs = goodPath bs f g := ⟨_, rfl⟩
    have hzl := goodPath_len bs f g
    rw [← hzs] at hzl
    have HZ := Lib.hid hzs; clear hzs
    have hzb : zs.length ≤ 13 := by
      rcases hzl with h | h
      · omega
      · rw [h]; simp
    have hcap := own_cap own1
    go_wp2_with fail
    refine (goodPath_c bs f g _ _ _ _ rfl hcap (Rd.of_own own1) (by omega)).mono ?_
    rw [← HZ.out]
    rintro e w2 ⟨A2, c2, rfl, oz2, b2'⟩
    have b2 : Below w.heap.size w w2 := b1.trans (b2'.mono b1.size)
    have own2 := own_below own1 b2'
    clear own1 b1 b2'
    go_wp2_with fail
    refine (sGoodPath_c bs f g _ _ _ _ rfl hcap (Rd.of_own own2) (by omega)).mono ?_
    rw [← HZ.out]
    rintro e w3 ⟨A3, c3, rfl, oz3, b3'⟩
    have b3 : Below w.heap.size w w3 := b2.trans (b3'.mono b2.size)
    have own3 := own_below own2 b3'
    have oz2' := own_below oz2 b3'
    clear own2 oz2 b2 b3'
    go_wp2_with fail
    refine (equalInts_c zs zs _ _ _ _ _ _ _ rfl rfl (Rd.of_own oz2') (Rd.of_own oz3) (by omega) (by omega)).mono ?_
    rw [decide_eq_true rfl]
    rintro e w4 ⟨rfl, m4, rfl⟩
    clear oz3
    rcases Nat.eq_zero_or_pos zs.length with hz0 | hz0
    · have hz0' : ((zs.length : Int) == 0) = true := beq_iff_eq.2 (by omega)
      have HZ0 := Lib.hid hz0; clear hz0
      go_wp2_with fail
      refine (sGoodPath_c bs f g _ _ _ _ rfl hcap (Rd.of_own (own_drewN own3 m4)) (by omega)).mono ?_
      rw [← HZ.out]
      rintro e w5 ⟨A5, c5, rfl, oz5, b5'⟩
      have b5 : Below w.heap.size w w5 := (below_drewN b3 m4).trans (b5'.mono b3.size)
      have oz2'' := own_below (own_drewN oz2' m4) b5'
      go_wp2_with fail
      refine (equalInts_c zs zs _ _ _ _ _ _ _ rfl rfl (Rd.of_own oz2'') (Rd.of_own oz5) (by omega) (by omega)).mono ?_
      rw [decide_eq_true rfl]
      rintro e w6 ⟨rfl, m6, rfl⟩
      go_wp2_with fail
      go_ret
      exact ⟨rfl, below_drewN b5 _⟩
    · obtain ⟨hzn, hchk⟩ : zs.length = bs.length ∧ chk bs f g = true := by
        rcases hzl with h | h
        · exact h
        · rw [h] at hz0; simp at hz0
      have hz0' : ((zs.length : Int) == 0) = false := beq_eq_false_iff_ne.2 (by omega)
      have hzp : zs = pathTo f g bs bs.length := by rw [HZ.out, goodPath, hchk]; rfl
      have hl12 : bs.length ≤ 12 := by
        have h := hchk
        simp only [chk, Bool.and_eq_true, decide_eq_true_eq] at h
        exact h.1
      have oz4 := own_drewN oz2' m4
      have own4 := own_drewN own3 m4
      have b4 := below_drewN b3 m4
      have HZN := Lib.hid hzn
      have HCHK := Lib.hid hchk
      have HZP := Lib.hid hzp
      clear oz2' own3 b3 hzn hchk hzp hzl
      generalize w3.drewN m4 = w4 at *
      have hz12 : zs.length = bs.length := HZN.out
      have hout : ∀ k, k < bs.length → zs[k]? = some (bit (good f g (bs.take (k + 1)))) := by
        intro k hk
        rw [HZP.out, pathTo_get _ _ _ _ _ hk]
      have hgd : ∀ k, k < bs.length → isGood (bs.take (k + 1)) f g = good f g (bs.take (k + 1)) := by
        intro k hk
        have h := HCHK.out
        have h' : chk (bs.take (k + 1)) f g = true := by
          simp only [chk, Bool.and_eq_true, decide_eq_true_eq] at h ⊢
          exact ⟨by simp; omega, h.2⟩
        rw [isGood, h']; simp
      obtain ⟨b', off', hA', hc'⟩ := Rd.of_own oz4 (by simp; omega)
      subst hA'
      have R4 := Lib.hid (Rd.of_own own4)
      have HC' := Lib.hid hc'; have HO := Lib.hid hout; have HG := Lib.hid hgd
      rw [hz12]
      rw [hz12] at hz0'
      clear hc' hout hgd own4 oz4 hz12 hz0
      go_wp2_with fail
      go_loopw [7] (fun i wr => ∃ k : Nat, k ≤ bs.length ∧ i = .int .i64 k ∧ Below w4.heap.size w4 wr) (fun i _ => bs.length - (intOf i).toNat)
      case atStart => exact ⟨0, Nat.zero_le _, rfl, Below.refl _ _⟩
      case round =>
        obtain ⟨k, hk, rfl, bb⟩ := hrel
        by_cases hlt : k < bs.length
        · obtain ⟨gd, hgd⟩ : ∃ gd, gd = good f g (bs.take (k + 1)) := ⟨_, rfl⟩
          have h2 : w4.cell? ⟨b', off' + k, none⟩ = some (.int .i64 (bit gd)) := HC'.out k _ (by rw [List.getElem?_map, HO.out k hlt, hgd]; rfl)
          have h3 := (bb.cell (World.block_lt_of_cell? w4 _ h2)).trans h2
          have h4 : ∀ x : Wb wr, x.v.cell? ⟨b', off' + k, none⟩ = some (.int .i64 (bit gd)) := fun x => x.cell h3
          have hcall : ∀ x : Wb wr, Calls Try.prog 21 #[.slice A1 (k + 1) c1, .int .i64 f, .int .i64 g] x.v fun e w' => e = .returned (.bool gd) ∧ Below x.v.heap.size x.v w' := by
            intro x
            have h := isGood_c (bs.take (k + 1)) f g A1 (k + 1) c1 x.v (by simp; omega) (by omega) (by rw [List.map_take]; exact ((R4.out.below bb).below x.h).take _) (by omega)
            rw [HG.out k hlt, ← hgd] at h
            exact h
          have HCALL := Lib.hid hcall
          have hge : decide ((bs.length : Int) ≤ (k : Int)) = false := decide_eq_false (by omega)
          have hge2 : decide (bs.length ≤ k) = false := decide_eq_false (by omega)
          have hge3 : ¬ bs.length ≤ k := by omega
          clear h2 h3 hgd hcall
          cases gd
          all_goals
            simp only [bit, Bool.false_eq_true, if_true, if_false] at h4
            go_wp2
            refine wp_region_wb (by kernel_rfl) (by kernel_rfl) ?_
            repeat (go_big_quiet_step ((go_at_call 21; exact wb_call _ (HCALL.out _))))
            refine wpQuiet_nil ?_
            rintro _ ⟨x, rfl⟩
            go_wp2
            go_roundw
            case rel => exact ⟨k + 1, by omega, by go_num, bb.trans (x.h.mono bb.size)⟩
            case measure => simp [intOf]; omega
        · obtain rfl : k = bs.length := by omega
          go_wp2
          go_ret
          exact ⟨rfl, b4.trans (bb.mono b4.size)⟩

namespace fnGoodPath
open Go.ChangeShapes Go.WideShapes Go.ChangeAt
open Go.ChangeMaps (open_string shut_string)
theorem own : ownKnob Try.prog.godebug = none := by kernel_rfl
theorem laidOut : laidOutB Try.prog = true := by kernel_rfl
set_option maxRecDepth 100000 in
theorem lifted (os : Os) (started : os.Started) (H : Type) (enc : TypeId × Value → H) :
    ReturnsInHanded {} Try.checked os 14 .any (Rows.fnGoodPathSpec.pre6 enc Try.prog Try.f14 Rows.fnGoodPathRow.domain false) (Rows.fnGoodPathSpec.post enc Try.prog Try.f14 false true false false) := by
  refine returnsInHanded_of_change (C := Try.checked) own started (by kernel_rfl) Try.func14
    (ChangeSpec.witness6 (enc := enc) (C := Try.checked) false ⟨#[], #[.slice none 0 0], []⟩ 8 (by kernel_rfl) (by kernel_rfl) (by kernel_rfl) (by kernel_rfl)) ?_
  intro W base args ds gs before hval0 hW hcnd _
  have hval : ∀ (j : Nat) t v, Try.f14.params[j]? = some t → args[j]? = some v → Value.okWide Try.prog W .any base t v := hval0
  have hW' := hW
  obtain ⟨p, q, hA0, hV, rfl, hfz, hnd⟩ := hW
  have hA : DataW.TrodAll enc Try.prog W 0 (fun _ => true) true Try.f14.params.toList args.toList ds p := hA0
  rw [Try.params14] at hA hval
  obtain ⟨v0, vs0, d0, ds0, p0, q0, hargs, rfl, rfl, h0, r0⟩ := trodAll_cons hA
  obtain ⟨rfl, rfl, rfl⟩ := trodAll_nil r0
  obtain rfl : args = #[v0] := by cases args; simp_all
  obtain ⟨rfl, rfl⟩ := trodVars_none hV
  obtain ⟨a0, n0, c0, rfl⟩ := okWide_slice Try.underlying27 (hval 0 27 v0 rfl rfl)
  have k0 := h0
  have lt0 : ∀ x ∈ p0, x.block < W.heap.size := by obtain ⟨m, hm⟩ := k0; exact DataW.trod_lt m _ _ _ hm
  obtain ⟨z0, e0, lc0, cm0, rd0, wf0⟩ := open_rd_int Try.underlying27 Try.underlying5 (by kernel_rfl) h0
  clear hA0 hval0
  refine (walk_FnGoodPath (w := W) z0 a0 n0 c0 e0 lc0 cm0 rd0 (fun x hx => wf_u8 (wf0 x hx))).mono fun e W' ⟨he, bel⟩ => ?_
  subst he
  exact ⟨_, rfl, _, _, _, [], _, [], hW', trodAll_mk1 (shut_bool Try.underlying4 _), (trodAll_cons_mk (Below.trod laidOut (by kernel_rfl) (of_decide_eq_true (by kernel_rfl)) k0 bel lt0) trodAll_mk0), rfl, bel.frame _, fun h => by cases h⟩
theorem over : Rows.fnGoodPathRow.holds Try.pinned (OpenSpec.ofChange Rows.fnGoodPathSpec) :=
  OpenClaim.holds_of_wide 14 Try.f14 rfl rfl rfl rfl rfl rfl rfl ⟨rfl, rfl, rfl, rfl, rfl⟩ rfl rfl rfl rfl rfl (by kernel_rfl) Try.func14 (by kernel_rfl)
    (of_decide_eq_true (by kernel_rfl)) (by unfold Func.isWrapper; first | (rw [if_pos (by decide +kernel)]; kernel_rfl) | (rw [if_neg (by decide +kernel)]; exact ⟨rfl, rfl⟩))
    (fun os started H enc _ => lifted os started H enc)
/-- THE STATEMENT -/
theorem proved : Rows.FnGoodPathSaid := over
end fnGoodPath
end Go.Proofs.Ytfmkpcoacghonaa
