/- FnCountWaits: for every code the law returns true, and what was there is as it was. No condition. -/
import Derived.Test.YtjidcickkfaljaaRows
import Derived.Test.YtjidcickkfaljaaMark
import Derived.Test.YtjidcickkfaljaaCntUnder
import Derived.Test.YtjidcickkfaljaaDrawW
import Derived.Test.YtjidcickkfaljaaPlainD
import Derived.Test.YtjidcickkfaljaaOpen
set_option linter.unusedVariables false
set_option linter.unusedSimpArgs false
set_option linter.unnecessarySimpa false
namespace Go.Proofs.Ytjidcickkfaljaa
open Go.RowKit

theorem countWaits_cases (ws : List Int) : (countWaits ws = [] ) ∨ (ws.length ≤ 16 ∧ allB 0 1000 ws = true ∧ countWaits ws = tally ws) := by
  by_cases h : ws.length ≤ 16 ∧ allB 0 1000 ws = true
  · exact .inr ⟨h.1, h.2, countWaits_yes ws h.1 h.2⟩
  · exact .inl (if_neg h)
theorem countIn_take (ws : List Int) (k : Nat) (b : Int) (h : k < ws.length) : countIn (ws.take (k + 1)) b = countIn (ws.take k) b + if binN ws[k] = b then 1 else 0 := by
  rw [List.take_succ_eq_append_getElem h, countIn_snoc]
set_option maxRecDepth 100000 in
set_option maxHeartbeats 2000000 in
theorem walk_FnCountWaits (zs : List Int) (A : Option Addr) (n c : Nat) (hN : zs.length = n) (hc : n ≤ c) (hm : c ≤ maxLen) {w : World} (h : Rd w A (zs.map (.int .u8))) (hz : ∀ z ∈ zs, 0 ≤ z ∧ z ≤ 255) :
    Calls Try.prog 10 #[.slice A n c] w fun e w' => e = .returned (.bool true) ∧ Below w.heap.size w w' := by
  have HD := Lib.hid (drawCountWaits_c zs A n c w hN hc hm h hz)
  clear h hz hN
  unfold maxLen at hm
  by_cases hbig : 1048576 < n
  · go_enter Try.func10, Try.ntmps10
    go_wp2
    go_ret
    exact ⟨rfl, Below.refl _ _⟩
  · go_enter Try.func10, Try.ntmps10
    go_wp2_with fail
    refine HD.out.mono ?_
    rintro e w1 ⟨AP, cP, ws, rfl, hl1, hc1, fP, b1⟩
    obtain ⟨zs, hzs⟩ : ∃ zs, zs = countWaits ws := ⟨_, rfl⟩
    have hcs := countWaits_cases ws
    have hzl : zs.length ≤ 8 := by
      rcases hcs with h | ⟨_, _, h⟩
      · rw [hzs, h]; simp
      · rw [hzs, h, tally_length]; omega
    rw [← hzs] at hcs
    have HCS := Lib.hid hcs; have HZ := Lib.hid hzs; clear hzs hcs
    go_wp2_with fail
    refine (countWaits_c ws _ _ _ _ rfl fP.rd (by omega)).mono ?_
    rw [← HZ.out]
    rintro e w2 ⟨AG, cG, rfl, o2, b2'⟩
    have q2 : Row w2 w1.heap.size 3 1 AG (zs).length cG ((zs).map (.int .i64)) := Row.of_own o2
    have hs2 := b1.size
    have rP2 : Frd w2 w.heap.size AP ((ws).map (.int .i64)) := fP.below b2'
    have b2 : Below w.heap.size w w2 := b1.trans (b2'.mono b1.size)
    clear fP b1
    have rG2 : Row w2 w.heap.size 3 1 AG (zs).length cG ((zs).map (.int .i64)) := q2.mono hs2
    clear q2 o2 b2' hs2
    go_wp2_with fail
    refine (sCountWaits_c ws _ _ _ _ rfl rP2.rd (by omega)).mono ?_
    rw [← HZ.out]
    rintro e w3 ⟨AH, cH, rfl, o3, b3'⟩
    have q3 : Row w3 w2.heap.size 3 1 AH (zs).length cH ((zs).map (.int .i64)) := Row.of_own o3
    have hs3 := b2.size
    have apGH := Lib.hid (row_apart rG2 q3 (Nat.le_refl _))
    have rP3 : Frd w3 w.heap.size AP ((ws).map (.int .i64)) := rP2.below b3'
    have rG3 : Row w3 w.heap.size 3 1 AG (zs).length cG ((zs).map (.int .i64)) := rG2.below b3'
    have b3 : Below w.heap.size w w3 := b2.trans (b3'.mono b2.size)
    clear rP2 rG2 b2
    have rH3 : Row w3 w.heap.size 3 1 AH (zs).length cH ((zs).map (.int .i64)) := q3.mono hs3
    clear q3 o3 b3' hs3
    go_wp2_with fail
    refine (equalInts_c zs zs _ _ _ _ _ _ _ rfl rfl rG3.rd rH3.rd (by omega) (by omega)).mono ?_
    rw [decide_eq_true rfl]
    rintro e w4 ⟨rfl, m4, hw4⟩
    have rP4 : Frd w4 w.heap.size AP ((ws).map (.int .i64)) := by rw [hw4]; exact rP3
    have rG4 : Row w4 w.heap.size 3 1 AG (zs).length cG ((zs).map (.int .i64)) := by rw [hw4]; exact rG3
    have rH4 : Row w4 w.heap.size 3 1 AH (zs).length cH ((zs).map (.int .i64)) := by rw [hw4]; exact rH3
    have b4 : Below w.heap.size w w4 := by rw [hw4]; exact below_drewN b3 _
    clear hw4 rP3 rG3 rH3 b3
    clear rH4
    rcases Nat.eq_zero_or_pos zs.length with h0 | h0
    · have h0' : ((zs.length : Int) == 0) = true := beq_iff_eq.2 (by omega)
      have H0 := Lib.hid h0; clear h0
      go_wp2_with fail
      refine (sCountWaits_c ws _ _ _ _ rfl rP4.rd (by omega)).mono ?_
      rw [← HZ.out]
      rintro e w5 ⟨AK, cK, rfl, o5, b5'⟩
      have q5 : Row w5 w4.heap.size 3 1 AK (zs).length cK ((zs).map (.int .i64)) := Row.of_own o5
      have hs5 := b4.size
      have apGK := Lib.hid (row_apart rG4 q5 (Nat.le_refl _))
      have rP5 : Frd w5 w.heap.size AP ((ws).map (.int .i64)) := rP4.below b5'
      have rG5 : Row w5 w.heap.size 3 1 AG (zs).length cG ((zs).map (.int .i64)) := rG4.below b5'
      have b5 : Below w.heap.size w w5 := b4.trans (b5'.mono b4.size)
      clear rP4 rG4 b4
      have rK5 : Row w5 w.heap.size 3 1 AK (zs).length cK ((zs).map (.int .i64)) := q5.mono hs5
      clear q5 o5 b5' hs5
      go_wp2_with fail
      refine (equalInts_c zs zs _ _ _ _ _ _ _ rfl rfl rG5.rd rK5.rd (by omega) (by omega)).mono ?_
      rw [decide_eq_true rfl]
      rintro e w6 ⟨rfl, m6, hw6⟩
      have rP6 : Frd w6 w.heap.size AP ((ws).map (.int .i64)) := by rw [hw6]; exact rP5
      have rG6 : Row w6 w.heap.size 3 1 AG (zs).length cG ((zs).map (.int .i64)) := by rw [hw6]; exact rG5
      have rK6 : Row w6 w.heap.size 3 1 AK (zs).length cK ((zs).map (.int .i64)) := by rw [hw6]; exact rK5
      have b6 : Below w.heap.size w w6 := by rw [hw6]; exact below_drewN b5 _
      clear hw6 rP5 rG5 rK5 b5
      go_wp2_with fail
      go_ret
      exact ⟨rfl, b6⟩
    · obtain ⟨h16, hall, hz⟩ : ws.length ≤ 16 ∧ allB 0 1000 ws = true ∧ zs = tally ws := by
        rcases HCS.out with h | h
        · rw [h] at h0; simp at h0
        · exact h
      have h0' : ((zs.length : Int) == 0) = false := beq_eq_false_iff_ne.2 (by omega)
      have hz8 : zs.length = 8 := by rw [hz, tally_length]
      have hget : ∀ b : Nat, b < 8 → zs[b]? = some (countIn ws b) := fun b hb => by rw [hz]; exact tally_get ws b hb
      have hsum : sumL zs = ws.length := by rw [hz, sumL_tally]
      have hval : validCounts zs = true := by rw [hz]; exact tally_valid ws (by omega)
      have hzb : ∀ z ∈ zs, 0 ≤ z ∧ z ≤ 1000000 := fun z hz => by have := ((validCounts_iff zs).1 hval).2 z hz; omega
      have hxb := (allB_iff 0 1000 ws).1 hall
      have HGET := Lib.hid hget; have HSUM := Lib.hid hsum; have HVAL := Lib.hid hval; have HZB := Lib.hid hzb; have HXB := Lib.hid hxb; have HZ8 := Lib.hid hz8
      have hz8a : zs.length ≤ 8 := by omega
      have FP := Lib.hid rP4.rd; have FG := Lib.hid rG4.rd
      clear hget hsum hval hzb hxb hz hall hz8 h0 rP4
      go_wp2_with fail
      go_loopw [5] (fun i wr => ∃ k : Nat, k ≤ zs.length ∧ i = .int .i64 k ∧ w4 = wr) (fun i _ => zs.length - (intOf i).toNat)
      case atStart => exact ⟨0, Nat.zero_le _, rfl, rfl⟩
      case round =>
        obtain ⟨k, hk, rfl, rfl⟩ := hrel
        by_cases hlt : k < zs.length
        · obtain ⟨b, off, hA, hc⟩ := FG.out (by simp; omega)
          subst hA
          obtain ⟨cn, hcn⟩ : ∃ cn, cn = countIn ws k := ⟨_, rfl⟩
          have hx : w4.cell? ⟨b, off + k, none⟩ = some (.int .i64 cn) := hc _ _ (by rw [List.getElem?_map, HGET.out k (by omega), hcn]; rfl)
          have HCN := Lib.hid hcn
          clear hc hcn
          go_wp2_with fail
          go_loop [6, 7] (fun nn i => ∃ j : Nat, j ≤ ws.length ∧ i = .int .i64 j ∧ nn = .int .i64 (countIn (ws.take j) k)) (fun _ i => ws.length - (intOf i).toNat)
          case atStart => exact ⟨0, Nat.zero_le _, rfl, rfl⟩
          case round =>
            obtain ⟨j, hj, rfl, rfl⟩ := hrel
            by_cases hjl : j < ws.length
            · obtain ⟨b2, off2, hA2, hc2⟩ := FP.out (by simp; omega)
              subst hA2
              obtain ⟨x, hX⟩ : ∃ x, x = ws[j] := ⟨_, rfl⟩
              have hy : w4.cell? ⟨b2, off2 + j, none⟩ = some (.int .i64 x) := hc2 _ _ (by simp [hX, hjl])
              have hxr := HXB.out x (by rw [hX]; exact List.getElem_mem hjl)
              have hbo : binOf x = binN x := by unfold binOf; rw [if_pos hxr]
              have hst := countIn_take ws j k hjl
              rw [← hX] at hst
              have hcl := countIn_le (ws.take j) k
              have hcl2 : (ws.take j).length ≤ 16 := by rw [List.length_take]; omega
              obtain ⟨q, hq⟩ : ∃ q, q = countIn (ws.take j) k := ⟨_, rfl⟩
              rw [← hq] at hst hcl ⊢
              have hq0 : 0 ≤ q := hcl.1
              have hq1 : q ≤ 16 := by omega
              obtain ⟨v, hv⟩ : ∃ v, v = binN x := ⟨_, rfl⟩
              rw [← hv] at hst hbo
              have HST := Lib.hid hst; have HBO := Lib.hid hbo
              clear hc2 hX hst hcl hcl2 hq hv hbo hxr
              by_cases hvk : v = k
              · have hd : (v == (k : Int)) = true := beq_iff_eq.2 hvk
                have hst := HST.out
                rw [if_pos hvk] at hst
                have HST := Lib.hid hst
                have HVK := Lib.hid hvk
                clear hst hvk
                go_wp2_with fail
                refine (binOf_c x _).mono ?_
                rw [HBO.out]
                rintro e w9 ⟨rfl, rfl⟩
                go_wp2_with fail
                go_round
                case rel => exact ⟨j + 1, by omega, by go_num, by rw [HST.out]⟩
                case measure => simp [intOf]; omega
              · have hd : (v == (k : Int)) = false := beq_eq_false_iff_ne.2 hvk
                have hst := HST.out
                rw [if_neg hvk, Int.add_zero] at hst
                have HST := Lib.hid hst
                have HVK := Lib.hid hvk
                clear hst hvk
                go_wp2_with fail
                refine (binOf_c x _).mono ?_
                rw [HBO.out]
                rintro e w9 ⟨rfl, rfl⟩
                go_wp2_with fail
                go_round
                case rel => exact ⟨j + 1, by omega, by go_num, by rw [HST.out]⟩
                case measure => simp [intOf]; omega
            · obtain rfl : j = ws.length := by omega
              rw [List.take_of_length_le (Nat.le_refl _), ← HCN.out]
              go_wp2_with fail
              go_roundw
              case rel => exact ⟨k + 1, by omega, by go_num, by first | rfl | trivial⟩
              case measure => simp [intOf]; omega
        · obtain rfl : k = zs.length := by omega
          go_wp2_with fail
          refine (lsum_c zs _ _ _ _ rfl FG.out (by omega) HZB.out).mono ?_
          rw [HSUM.out]
          rintro e w5 ⟨rfl, rfl⟩
          go_wp2_with fail
          refine (validCounts_c zs _ _ _ _ rfl FG.out (by omega)).mono ?_
          rw [HVAL.out]
          rintro e w6 ⟨rfl, b6'⟩
          have b6 : Below w.heap.size w w6 := b4.trans (b6'.mono b4.size)
          clear  b4
          go_wp2_with fail
          go_ret
          exact ⟨by first | rfl | trivial, b6⟩

namespace fnCountWaits
open Go.ChangeShapes Go.WideShapes Go.ChangeAt
open Go.ChangeMaps (open_string shut_string)
theorem own : ownKnob Try.prog.godebug = none := by kernel_rfl
theorem laidOut : laidOutB Try.prog = true := by kernel_rfl
set_option maxRecDepth 100000 in
theorem lifted (os : Os) (started : os.Started) (H : Type) (enc : TypeId × Value → H) :
    ReturnsInHanded {} Try.checked os 10 .any (Rows.fnCountWaitsSpec.pre6 enc Try.prog Try.f10 Rows.fnCountWaitsRow.domain false) (Rows.fnCountWaitsSpec.post enc Try.prog Try.f10 false true false false) := by
  refine returnsInHanded_of_change (C := Try.checked) own started (by kernel_rfl) Try.func10
    (ChangeSpec.witness6 (enc := enc) (C := Try.checked) false ⟨#[], #[.slice none 0 0], []⟩ 8 (by kernel_rfl) (by kernel_rfl) (by kernel_rfl) (by kernel_rfl)) ?_
  intro W base args ds gs before hval0 hW hcnd _
  have hval : ∀ (j : Nat) t v, Try.f10.params[j]? = some t → args[j]? = some v → Value.okWide Try.prog W .any base t v := hval0
  have hW' := hW
  obtain ⟨p, q, hA0, hV, rfl, hfz, hnd⟩ := hW
  have hA : DataW.TrodAll enc Try.prog W 0 (fun _ => true) true Try.f10.params.toList args.toList ds p := hA0
  rw [Try.params10] at hA hval
  obtain ⟨v0, vs0, d0, ds0, p0, q0, hargs, rfl, rfl, h0, r0⟩ := trodAll_cons hA
  obtain ⟨rfl, rfl, rfl⟩ := trodAll_nil r0
  obtain rfl : args = #[v0] := by cases args; simp_all
  obtain ⟨rfl, rfl⟩ := trodVars_none hV
  obtain ⟨a0, n0, c0, rfl⟩ := okWide_slice Try.underlying32 (hval 0 32 v0 rfl rfl)
  have k0 := h0
  have lt0 : ∀ x ∈ p0, x.block < W.heap.size := by obtain ⟨m, hm⟩ := k0; exact DataW.trod_lt m _ _ _ hm
  obtain ⟨z0, e0, lc0, cm0, rd0, wf0⟩ := open_rd_int Try.underlying32 Try.underlying5 (by kernel_rfl) h0
  clear hA0 hval0
  refine (walk_FnCountWaits (w := W) z0 a0 n0 c0 e0 lc0 cm0 rd0 (fun x hx => wf_u8 (wf0 x hx))).mono fun e W' ⟨he, bel⟩ => ?_
  subst he
  exact ⟨_, rfl, _, _, _, [], _, [], hW', trodAll_mk1 (shut_bool Try.underlying4 _), (trodAll_cons_mk (Below.trod laidOut (by kernel_rfl) (of_decide_eq_true (by kernel_rfl)) k0 bel lt0) trodAll_mk0), rfl, bel.frame _, fun h => by cases h⟩
theorem closed : joinedFacts Try.prog 10 Try.f10 Rows.fnCountWaitsSpec Rows.fnCountWaitsRow = true :=
  facts_of mayEnter_ok liftsFinal_ok make_ok (by kernel_rfl)
theorem over : Rows.fnCountWaitsRow.holds Try.pinned (OpenSpec.ofChange Rows.fnCountWaitsSpec) :=
  OpenClaim.holds_of_wide 10 Try.f10 rfl rfl rfl rfl rfl rfl rfl ⟨rfl, rfl, rfl, rfl, rfl⟩ rfl rfl rfl rfl rfl (by kernel_rfl) Try.func10 closed
    (of_decide_eq_true (by kernel_rfl)) (by unfold Func.isWrapper; first | (rw [if_pos (by decide +kernel)]; kernel_rfl) | (rw [if_neg (by decide +kernel)]; exact ⟨rfl, rfl⟩))
    (fun os started H enc _ => lifted os started H enc)
/-- THE STATEMENT -/
theorem proved : Rows.FnCountWaitsSaid := over
end fnCountWaits
end Go.Proofs.Ytjidcickkfaljaa
