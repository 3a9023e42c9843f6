/- FnValidNest: for every code the law returns true, and what was there is as it was. No condition. -/
import Derived.Test.YtoljmhggkighnaaRows
import Derived.Test.YtoljmhggkighnaaNestLaw
import Derived.Test.YtoljmhggkighnaaNestDraw
import Derived.Test.YtoljmhggkighnaaOpenC
set_option linter.unusedVariables false
set_option linter.unusedSimpArgs false
set_option linter.unnecessarySimpa false
namespace Go.Proofs.Ytoljmhggkighnaa
open Go.RowKit

set_option maxRecDepth 100000 in
set_option maxHeartbeats 16000000 in
theorem walk_FnValidNest (zs : List Int) (A : Option Addr) (n c : Nat) (hN : zs.length = n) (hc : n ≤ c) (hm : c ≤ maxLen) {w : World} (h : Rd w A (zs.map (.int .u8))) (hz : ∀ z ∈ zs, 0 ≤ z ∧ z ≤ 255) :
    Calls Try.prog 4 #[.slice A n c] w fun e w' => e = .returned (.bool true) ∧ Below w.heap.size w w' := by
  have HD := Lib.hid (drawValidNest_c zs A n c w hN hc hm h hz)
  clear h hz hN
  unfold maxLen at hm
  by_cases hbig : 1048576 < n
  · go_enter Try.func4, Try.ntmps4
    go_wp2
    go_ret
    exact ⟨rfl, Below.refl _ _⟩
  · go_enter Try.func4, Try.ntmps4
    go_wp2_with fail
    refine HD.out.mono ?_
    rintro e w1 ⟨d, k, ms, b, AP, cP, rfl, hl, hcP, fP, b1⟩
    have EB1 := Lib.hid b1; clear b1
    have FP1 := Lib.hid fP; clear fP
    obtain ⟨ok, hok⟩ : ∃ ok, ok = validN d k ms b := ⟨_, rfl⟩
    have HOK := Lib.hid hok; clear hok
    go_wp2_with fail
    obtain ⟨w2, hw2⟩ : ∃ W, W = w1.alloc (.cells #[.int .i64 d, .int .i64 k, .slice AP ms.length cP, .bool b] 27) := ⟨_, rfl⟩
    obtain ⟨gPV, hgPV⟩ : ∃ g, g = w1.heap.size := ⟨_, rfl⟩
    rw [← hw2, ← hgPV]
    have hv2 : Blk w2 gPV 27 #[.int .i64 d, .int .i64 k, .slice AP ms.length cP, .bool b] := by rw [hw2, hgPV]; exact Blk.new _ _ _
    have V2 := Lib.hid hv2; clear hv2
    have hFP2 : Frd w2 w.heap.size AP (ms.map (.int .i64)) := by rw [hw2]; exact FP1.out.alloc _
    have hb2 : Below w.heap.size w w2 := by rw [hw2]; exact EB1.out.alloc EB1.out.size _
    have EFP2 := Lib.hid hFP2; clear hFP2
    have EB2 := Lib.hid hb2; clear hb2
    clear FP1 EB1 hw2 hgPV
    obtain ⟨pvq0, pvq1, pvq2, pvq3, pvqz⟩ := blk4 V2.out
    have pvql := Blk.lt V2.out
    have pvqm : ¬ gPV = w2.heap.size := by omega
    have pvqn : ¬ w2.heap.size = gPV := by omega
    go_wp2_with fail
    refine (validNest_c d k ms b _ _ _ _ rfl EFP2.out.rd (by omega)).mono ?_
    rw [← HOK.out]
    rintro e w3 ⟨rfl, b3⟩
    clear pvq0 pvq1 pvq2 pvq3 pvqz pvql pvqm pvqn
    have hFP3 : Frd w3 w.heap.size AP (ms.map (.int .i64)) := EFP2.out.below b3
    have hPV3 : Blk w3 gPV 27 #[.int .i64 d, .int .i64 k, .slice AP ms.length cP, .bool b] := Blk.below V2.out b3 (Blk.lt V2.out)
    have hb3 : Below w.heap.size w w3 := EB2.out.trans (b3.mono EB2.out.size)
    have EFP3 := Lib.hid hFP3; clear hFP3
    have EPV3 := Lib.hid hPV3; clear hPV3
    have EB3 := Lib.hid hb3; clear hb3
    clear EFP2 V2 EB2 b3
    obtain ⟨pvq0, pvq1, pvq2, pvq3, pvqz⟩ := blk4 EPV3.out
    have pvql := Blk.lt EPV3.out
    have pvqm : ¬ gPV = w3.heap.size := by omega
    have pvqn : ¬ w3.heap.size = gPV := by omega
    go_wp2_with fail
    refine (sValidNest_c d k ms b _ _ _ _ rfl EFP3.out.rd (by omega)).mono ?_
    rw [← HOK.out]
    rintro e w4 ⟨rfl, b4⟩
    clear pvq0 pvq1 pvq2 pvq3 pvqz pvql pvqm pvqn
    have hFP4 : Frd w4 w.heap.size AP (ms.map (.int .i64)) := EFP3.out.below b4
    have hPV4 : Blk w4 gPV 27 #[.int .i64 d, .int .i64 k, .slice AP ms.length cP, .bool b] := Blk.below EPV3.out b4 (Blk.lt EPV3.out)
    have hb4 : Below w.heap.size w w4 := EB3.out.trans (b4.mono EB3.out.size)
    have EFP4 := Lib.hid hFP4; clear hFP4
    have EPV4 := Lib.hid hPV4; clear hPV4
    have EB4 := Lib.hid hb4; clear hb4
    clear EFP3 EPV3 EB3 b4
    obtain ⟨pvq0, pvq1, pvq2, pvq3, pvqz⟩ := blk4 EPV4.out
    have pvql := Blk.lt EPV4.out
    have pvqm : ¬ gPV = w4.heap.size := by omega
    have pvqn : ¬ w4.heap.size = gPV := by omega
    cases ok
    · go_wp2_with fail
      refine (sValidNest_c d k ms b _ _ _ _ rfl EFP4.out.rd (by omega)).mono ?_
      rw [← HOK.out]
      rintro e w5 ⟨rfl, b5⟩
      clear pvq0 pvq1 pvq2 pvq3 pvqz pvql pvqm pvqn
      have hFP5 : Frd w5 w.heap.size AP (ms.map (.int .i64)) := EFP4.out.below b5
      have hPV5 : Blk w5 gPV 27 #[.int .i64 d, .int .i64 k, .slice AP ms.length cP, .bool b] := Blk.below EPV4.out b5 (Blk.lt EPV4.out)
      have hb5 : Below w.heap.size w w5 := EB4.out.trans (b5.mono EB4.out.size)
      have EFP5 := Lib.hid hFP5; clear hFP5
      have EPV5 := Lib.hid hPV5; clear hPV5
      have EB5 := Lib.hid hb5; clear hb5
      clear EFP4 EPV4 EB4 b5
      obtain ⟨pvq0, pvq1, pvq2, pvq3, pvqz⟩ := blk4 EPV5.out
      have pvql := Blk.lt EPV5.out
      have pvqm : ¬ gPV = w5.heap.size := by omega
      have pvqn : ¬ w5.heap.size = gPV := by omega
      go_wp2_with fail
      go_ret
      exact ⟨rfl, EB5.out⟩
    · obtain ⟨hd, hs⟩ := (validN_iff d k ms b).1 HOK.out.symm
      have hs' := hs
      rw [St.ok_iff] at hs'
      have hs2 : St.ok ⟨k, ms, false⟩ := by
        rw [St.ok_iff]
        refine ⟨hs'.1, hs'.2.1, hs'.2.2.1, hs'.2.2.2.1, ?_⟩
        rcases hs'.2.2.2.2 with h | h
        · exact .inl h
        · exact .inr ⟨h.1, rfl⟩
      have hv2 : validN d k ms false = true := (validN_iff d k ms false).2 ⟨hd, hs2⟩
      have hv3 : validN 0 0 [] false = true := by decide
      have HV2 := Lib.hid hv2; have HV3 := Lib.hid hv3
      have hd' : ((ms.length : Int) == d) = true := by rw [hd]; simp
      have HD' := Lib.hid hd'
      clear hd hs hs' hs2 hv2 hv3 hd'
      go_wp2_with fail
      refine (validNest_c d k ms false _ _ _ _ rfl EFP4.out.rd (by omega)).mono ?_
      rw [HV2.out]
      rintro e w5 ⟨rfl, b5⟩
      clear pvq0 pvq1 pvq2 pvq3 pvqz pvql pvqm pvqn
      have hFP5 : Frd w5 w.heap.size AP (ms.map (.int .i64)) := EFP4.out.below b5
      have hPV5 : Blk w5 gPV 27 #[.int .i64 d, .int .i64 k, .slice AP ms.length cP, .bool b] := Blk.below EPV4.out b5 (Blk.lt EPV4.out)
      have hb5 : Below w.heap.size w w5 := EB4.out.trans (b5.mono EB4.out.size)
      have EFP5 := Lib.hid hFP5; clear hFP5
      have EPV5 := Lib.hid hPV5; clear hPV5
      have EB5 := Lib.hid hb5; clear hb5
      clear EFP4 EPV4 EB4 b5
      obtain ⟨pvq0, pvq1, pvq2, pvq3, pvqz⟩ := blk4 EPV5.out
      have pvql := Blk.lt EPV5.out
      have pvqm : ¬ gPV = w5.heap.size := by omega
      have pvqn : ¬ w5.heap.size = gPV := by omega
      go_wp2_with fail
      refine (validNest_c 0 0 [] false _ _ _ _ rfl (Rd.nil _ _) (by simp)).mono ?_
      rw [HV3.out]
      rintro e w6 ⟨rfl, b6⟩
      clear pvq0 pvq1 pvq2 pvq3 pvqz pvql pvqm pvqn
      have hFP6 : Frd w6 w.heap.size AP (ms.map (.int .i64)) := EFP5.out.below b6
      have hPV6 : Blk w6 gPV 27 #[.int .i64 d, .int .i64 k, .slice AP ms.length cP, .bool b] := Blk.below EPV5.out b6 (Blk.lt EPV5.out)
      have hb6 : Below w.heap.size w w6 := EB5.out.trans (b6.mono EB5.out.size)
      have EFP6 := Lib.hid hFP6; clear hFP6
      have EPV6 := Lib.hid hPV6; clear hPV6
      have EB6 := Lib.hid hb6; clear hb6
      clear EFP5 EPV5 EB5 b6
      obtain ⟨pvq0, pvq1, pvq2, pvq3, pvqz⟩ := blk4 EPV6.out
      have pvql := Blk.lt EPV6.out
      have pvqm : ¬ gPV = w6.heap.size := by omega
      have pvqn : ¬ w6.heap.size = gPV := by omega
      go_wp2_with fail
      go_ret
      exact ⟨by have h9 := HD'.out; simp at h9; simp [h9], EB6.out⟩

namespace fnValidNest
open Go.ChangeShapes Go.WideShapes Go.ChangeAt
open Go.ChangeMaps (open_string shut_string)
theorem own : ownKnob Try.prog.godebug = none := by kernel_rfl
theorem laidOut : laidOutB Try.prog = true := by kernel_rfl
set_option maxRecDepth 100000 in
theorem lifted (os : Os) (started : os.Started) (H : Type) (enc : TypeId × Value → H) :
    ReturnsInHanded {} Try.checked os 4 .any (Rows.fnValidNestSpec.pre6 enc Try.prog Try.f4 Rows.fnValidNestRow.domain false) (Rows.fnValidNestSpec.post enc Try.prog Try.f4 false true false false) := by
  refine returnsInHanded_of_change (C := Try.checked) own started (by kernel_rfl) Try.func4
    (ChangeSpec.witness6 (enc := enc) (C := Try.checked) false ⟨#[], #[.slice none 0 0], []⟩ 8 (by kernel_rfl) (by kernel_rfl) (by kernel_rfl) (by kernel_rfl)) ?_
  intro W base args ds gs before hval0 hW hcnd _
  have hval : ∀ (j : Nat) t v, Try.f4.params[j]? = some t → args[j]? = some v → Value.okWide Try.prog W .any base t v := hval0
  have hW' := hW
  obtain ⟨p, q, hA0, hV, rfl, hfz, hnd⟩ := hW
  have hA : DataW.TrodAll enc Try.prog W 0 (fun _ => true) true Try.f4.params.toList args.toList ds p := hA0
  rw [Try.params4] at hA hval
  obtain ⟨v0, vs0, d0, ds0, p0, q0, hargs, rfl, rfl, h0, r0⟩ := trodAll_cons hA
  obtain ⟨rfl, rfl, rfl⟩ := trodAll_nil r0
  obtain rfl : args = #[v0] := by cases args; simp_all
  obtain ⟨rfl, rfl⟩ := trodVars_none hV
  obtain ⟨a0, n0, c0, rfl⟩ := okWide_slice Try.underlying31 (hval 0 31 v0 rfl rfl)
  have k0 := h0
  have lt0 : ∀ x ∈ p0, x.block < W.heap.size := by obtain ⟨m, hm⟩ := k0; exact DataW.trod_lt m _ _ _ hm
  obtain ⟨z0, e0, lc0, cm0, rd0, wf0⟩ := open_rd_int Try.underlying31 Try.underlying5 (by kernel_rfl) h0
  clear hA0 hval0
  refine (walk_FnValidNest (w := W) z0 a0 n0 c0 e0 lc0 cm0 rd0 (fun x hx => wf_u8 (wf0 x hx))).mono fun e W' ⟨he, bel⟩ => ?_
  subst he
  exact ⟨_, rfl, _, _, _, [], _, [], hW', trodAll_mk1 (shut_bool Try.underlying4 _), (trodAll_cons_mk (Below.trod laidOut (by kernel_rfl) (of_decide_eq_true (by kernel_rfl)) k0 bel lt0) trodAll_mk0), rfl, bel.frame _, fun h => by cases h⟩
theorem closed : joinedFacts Try.prog 4 Try.f4 Rows.fnValidNestSpec Rows.fnValidNestRow = true :=
  facts_of mayEnter_ok liftsFinal_ok make_ok (by kernel_rfl)
theorem over : Rows.fnValidNestRow.holds Try.pinned (OpenSpec.ofChange Rows.fnValidNestSpec) :=
  OpenClaim.holds_of_wide 4 Try.f4 rfl rfl rfl rfl rfl rfl rfl ⟨rfl, rfl, rfl, rfl, rfl⟩ rfl rfl rfl rfl rfl (by kernel_rfl) Try.func4 closed
    (of_decide_eq_true (by kernel_rfl)) (by unfold Func.isWrapper; first | (rw [if_pos (by decide +kernel)]; kernel_rfl) | (rw [if_neg (by decide +kernel)]; exact ⟨rfl, rfl⟩))
    (fun os started H enc _ => lifted os started H enc)
/-- THE STATEMENT -/
theorem proved : Rows.FnValidNestSaid := over
end fnValidNest
end Go.Proofs.Ytoljmhggkighnaa
