/- FnExactValidNest: for every state the law returns true, and what was there is as it was. No condition. -/
import Derived.Test.YtoljmhggkighnaaRows
import Derived.Test.YtoljmhggkighnaaNestLaw
import Derived.Test.YtoljmhggkighnaaNestDraw
import Derived.Test.YtoljmhggkighnaaOpenC
set_option linter.unusedVariables false
set_option linter.unusedSimpArgs false
set_option linter.unnecessarySimpa false
namespace Go.Proofs.Ytoljmhggkighnaa
open Go.RowKit

set_option maxRecDepth 100000 in
set_option maxHeartbeats 16000000 in
theorem walk_FnExactValidNest (d k : Int) (ms : List Int) (b : Bool) (A : Option Addr) (n c : Nat) (_ : -9223372036854775808 ≤ d ∧ d ≤ 9223372036854775807) (_ : -9223372036854775808 ≤ k ∧ k ≤ 9223372036854775807) (hN : ms.length = n) (hc : n ≤ c) (hm : c ≤ maxLen) {w : World} (h : Rd w A (ms.map (.int .i64))) (_ : ∀ x ∈ ms, -9223372036854775808 ≤ x ∧ x ≤ 9223372036854775807) :
    Calls Try.prog 3 #[.agg #[.int .i64 d, .int .i64 k, .slice A n c, .bool b]] w fun e w' => e = .returned (.bool true) ∧ Below w.heap.size w w' := by
  have HN := Lib.hid hN; clear hN
  unfold maxLen at hm
  by_cases hbig : 1048576 < n
  · go_enter Try.func3, Try.ntmps3
    go_wp2_with fail
    refine (szNest_c d k b A n c _ (by omega)).mono ?_
    rw [if_pos hbig]
    rintro e w1 ⟨rfl, b1⟩
    go_wp2_with fail
    go_ret
    exact ⟨rfl, ((Below.refl _ _).alloc (Nat.le_refl _) _).trans (b1.mono (by simp))⟩
  · obtain ⟨left, hleft⟩ : ∃ l, l = 1048576 - (n : Int) := ⟨_, rfl⟩
    have hsz : (if 1048576 < n then -1 else 1048576 - (n : Int)) = left := by rw [if_neg hbig, hleft]
    have hl0 : 0 ≤ left := by omega
    have HSZ := Lib.hid hsz
    clear hsz hleft
    obtain ⟨ok, hok⟩ : ∃ ok, ok = validN d k ms b := ⟨_, rfl⟩
    have HOK := Lib.hid hok; clear hok
    have H0 := Lib.hid h; clear h
    go_enter Try.func3, Try.ntmps3
    go_wp2_with fail
    obtain ⟨w1, hw1⟩ : ∃ W, W = w.alloc (.cells #[.int .i64 d, .int .i64 k, .slice A n c, .bool b] 24) := ⟨_, rfl⟩
    obtain ⟨gP, hgP⟩ : ∃ g, g = w.heap.size := ⟨_, rfl⟩
    rw [← hw1, ← hgP]
    have hv1 : Blk w1 gP 24 #[.int .i64 d, .int .i64 k, .slice A n c, .bool b] := by rw [hw1, hgP]; exact Blk.new _ _ _
    have V1 := Lib.hid hv1; clear hv1
    have hgeP : w.heap.size ≤ gP := by rw [hgP]; exact (Below.refl w.heap.size w).size
    have hb1 : Below w.heap.size w w1 := by rw [hw1]; exact (Below.refl w.heap.size w).alloc (Below.refl w.heap.size w).size _
    have EB1 := Lib.hid hb1; clear hb1
    clear  hw1 hgP
    obtain ⟨pq0, pq1, pq2, pq3, pqz⟩ := blk4 V1.out
    have pql := Blk.lt V1.out
    have pqm : ¬ gP = w1.heap.size := by omega
    have pqn : ¬ w1.heap.size = gP := by omega
    go_wp2_with fail
    refine (szNest_c d k b A n c _ (by omega)).mono ?_
    rw [HSZ.out]
    rintro e w2 ⟨rfl, b2⟩
    clear pq0 pq1 pq2 pq3 pqz pql pqm pqn
    have hP2 : Blk w2 gP 24 #[.int .i64 d, .int .i64 k, .slice A n c, .bool b] := Blk.below V1.out b2 (Blk.lt V1.out)
    have hb2 : Below w.heap.size w w2 := EB1.out.trans (b2.mono EB1.out.size)
    have EP2 := Lib.hid hP2; clear hP2
    have EB2 := Lib.hid hb2; clear hb2
    clear V1 EB1 b2
    obtain ⟨pq0, pq1, pq2, pq3, pqz⟩ := blk4 EP2.out
    have pql := Blk.lt EP2.out
    have pqm : ¬ gP = w2.heap.size := by omega
    have pqn : ¬ w2.heap.size = gP := by omega
    go_wp2_with fail
    refine (toNest_c d k ms b A n c _ HN.out (Rd.below (w' := w2) H0.out EB2.out) (by omega)).mono ?_
    rintro e w3 ⟨AS, cS, rfl, q3, b3⟩
    have r3 : Row w3 w2.heap.size 3 1 AS (ms).length cS ((ms).map (.int .i64)) := q3
    have R3 := Lib.hid (r3.mono EB2.out.size); clear r3 q3
    clear pq0 pq1 pq2 pq3 pqz pql pqm pqn
    have hP3 : Blk w3 gP 24 #[.int .i64 d, .int .i64 k, .slice A n c, .bool b] := Blk.below EP2.out b3 (Blk.lt EP2.out)
    have hb3 : Below w.heap.size w w3 := EB2.out.trans (b3.mono EB2.out.size)
    have EP3 := Lib.hid hP3; clear hP3
    have EB3 := Lib.hid hb3; clear hb3
    clear EP2 EB2 b3
    obtain ⟨pq0, pq1, pq2, pq3, pqz⟩ := blk4 EP3.out
    have pql := Blk.lt EP3.out
    have pqm : ¬ gP = w3.heap.size := by omega
    have pqn : ¬ w3.heap.size = gP := by omega
    go_wp2_with fail
    refine (sValidNest_c d k ms b _ _ _ _ rfl R3.out.rd (by have := HN.out; omega)).mono ?_
    rw [← HOK.out]
    rintro e w4 ⟨rfl, b4⟩
    clear pq0 pq1 pq2 pq3 pqz pql pqm pqn
    have hP4 : Blk w4 gP 24 #[.int .i64 d, .int .i64 k, .slice A n c, .bool b] := Blk.below EP3.out b4 (Blk.lt EP3.out)
    have hS4 : Row w4 w.heap.size 3 1 AS (ms).length cS ((ms).map (.int .i64)) := R3.out.below b4
    have hb4 : Below w.heap.size w w4 := EB3.out.trans (b4.mono EB3.out.size)
    have EP4 := Lib.hid hP4; clear hP4
    have ES4 := Lib.hid hS4; clear hS4
    have EB4 := Lib.hid hb4; clear hb4
    clear EP3 R3 EB3 b4
    obtain ⟨pq0, pq1, pq2, pq3, pqz⟩ := blk4 EP4.out
    have pql := Blk.lt EP4.out
    have pqm : ¬ gP = w4.heap.size := by omega
    have pqn : ¬ w4.heap.size = gP := by omega
    clear ES4
    go_wp2_with fail
    refine (toNest_c d k ms b A n c _ HN.out (Rd.below (w' := w4) H0.out EB4.out) (by omega)).mono ?_
    rintro e w5 ⟨AX, cX, rfl, q5, b5⟩
    have r5 : Row w5 w4.heap.size 3 1 AX (ms).length cX ((ms).map (.int .i64)) := q5
    have R5 := Lib.hid (r5.mono EB4.out.size); clear r5 q5
    clear pq0 pq1 pq2 pq3 pqz pql pqm pqn
    have hP5 : Blk w5 gP 24 #[.int .i64 d, .int .i64 k, .slice A n c, .bool b] := Blk.below EP4.out b5 (Blk.lt EP4.out)
    have hb5 : Below w.heap.size w w5 := EB4.out.trans (b5.mono EB4.out.size)
    have EP5 := Lib.hid hP5; clear hP5
    have EB5 := Lib.hid hb5; clear hb5
    clear EP4 EB4 b5
    obtain ⟨pq0, pq1, pq2, pq3, pqz⟩ := blk4 EP5.out
    have pql := Blk.lt EP5.out
    have pqm : ¬ gP = w5.heap.size := by omega
    have pqn : ¬ w5.heap.size = gP := by omega
    go_wp2_with fail
    obtain ⟨w6, hw6⟩ : ∃ W, W = w5.alloc (.cells #[.int .i64 d, .int .i64 k, .slice AX ms.length cX, .bool b] 27) := ⟨_, rfl⟩
    obtain ⟨gXV, hgXV⟩ : ∃ g, g = w5.heap.size := ⟨_, rfl⟩
    rw [← hw6, ← hgXV]
    have hv6 : Blk w6 gXV 27 #[.int .i64 d, .int .i64 k, .slice AX ms.length cX, .bool b] := by rw [hw6, hgXV]; exact Blk.new _ _ _
    have V6 := Lib.hid hv6; clear hv6
    have hgeXV : w.heap.size ≤ gXV := by rw [hgXV]; exact EB5.out.size
    have hltPXV : gP < gXV := by rw [hgXV]; exact Blk.lt EP5.out
    clear pq0 pq1 pq2 pq3 pqz pql pqm pqn
    have hP6 : Blk w6 gP 24 #[.int .i64 d, .int .i64 k, .slice A n c, .bool b] := by rw [hw6]; exact EP5.out.alloc _
    have hX6 : Row w6 w.heap.size 3 1 AX (ms).length cX ((ms).map (.int .i64)) := by rw [hw6]; exact R5.out.alloc _
    have hb6 : Below w.heap.size w w6 := by rw [hw6]; exact EB5.out.alloc EB5.out.size _
    have EP6 := Lib.hid hP6; clear hP6
    have EX6 := Lib.hid hX6; clear hX6
    have EB6 := Lib.hid hb6; clear hb6
    clear EP5 R5 EB5 hw6 hgXV
    obtain ⟨pq0, pq1, pq2, pq3, pqz⟩ := blk4 EP6.out
    have pql := Blk.lt EP6.out
    have pqm : ¬ gP = w6.heap.size := by omega
    have pqn : ¬ w6.heap.size = gP := by omega
    obtain ⟨xvq0, xvq1, xvq2, xvq3, xvqz⟩ := blk4 V6.out
    have xvql := Blk.lt V6.out
    have xvqm : ¬ gXV = w6.heap.size := by omega
    have xvqn : ¬ w6.heap.size = gXV := by omega
    go_wp2_with fail
    refine (validNest_c d k ms b _ _ _ _ rfl EX6.out.rd (by have := HN.out; omega)).mono ?_
    rw [← HOK.out]
    rintro e w7 ⟨rfl, b7⟩
    clear pq0 pq1 pq2 pq3 pqz pql pqm pqn xvq0 xvq1 xvq2 xvq3 xvqz xvql xvqm xvqn
    have hP7 : Blk w7 gP 24 #[.int .i64 d, .int .i64 k, .slice A n c, .bool b] := Blk.below EP6.out b7 (Blk.lt EP6.out)
    have hX7 : Row w7 w.heap.size 3 1 AX (ms).length cX ((ms).map (.int .i64)) := EX6.out.below b7
    have hXV7 : Blk w7 gXV 27 #[.int .i64 d, .int .i64 k, .slice AX ms.length cX, .bool b] := Blk.below V6.out b7 (Blk.lt V6.out)
    have hb7 : Below w.heap.size w w7 := EB6.out.trans (b7.mono EB6.out.size)
    have EP7 := Lib.hid hP7; clear hP7
    have EX7 := Lib.hid hX7; clear hX7
    have EXV7 := Lib.hid hXV7; clear hXV7
    have EB7 := Lib.hid hb7; clear hb7
    clear EP6 EX6 V6 EB6 b7
    obtain ⟨pq0, pq1, pq2, pq3, pqz⟩ := blk4 EP7.out
    have pql := Blk.lt EP7.out
    have pqm : ¬ gP = w7.heap.size := by omega
    have pqn : ¬ w7.heap.size = gP := by omega
    obtain ⟨xvq0, xvq1, xvq2, xvq3, xvqz⟩ := blk4 EXV7.out
    have xvql := Blk.lt EXV7.out
    have xvqm : ¬ gXV = w7.heap.size := by omega
    have xvqn : ¬ w7.heap.size = gXV := by omega
    go_wp2_with fail
    go_region_held3 (fun w' => w'.cell? ⟨gXV, 0, none⟩ = some (.int .i64 d) ∧ w'.cell? ⟨gXV, 1, none⟩ = some (.int .i64 k) ∧ w'.cell? ⟨gXV, 2, none⟩ = some (.slice AX ms.length cX) ∧ w'.cell? ⟨gXV, 3, none⟩ = some (.bool b) ∧ w'.cell? ⟨gP, 0, none⟩ = some (.int .i64 d) ∧ w'.cell? ⟨gP, 1, none⟩ = some (.int .i64 k) ∧ w'.cell? ⟨gP, 2, none⟩ = some (.slice A n c) ∧ w'.cell? ⟨gP, 3, none⟩ = some (.bool b)) (go_keep) ((first
      | (go_at_call 14; refine (toNest_c d k ms b A n c _ HN.out ?_ ?_).mono ?_; exact (Rd.below (w' := w7) H0.out EB7.out); omega; rintro e w8 ⟨AY, cY, rfl, rY, bY⟩; have yxa := Blk.below (w := w7.drew) EXV7.out bY (Blk.lt EXV7.out); have ypa := Blk.below (w := w7.drew) EP7.out bY (Blk.lt EP7.out); obtain ⟨kx0, kx1, kx2, kx3, kxz⟩ := blk4 yxa; obtain ⟨kp0, kp1, kp2, kp3, kpz⟩ := blk4 ypa)
      | (go_at_call 16; refine (eqNest_c d k ms b _ _ _ _ _ _ rfl ?_ ?_ ?_).mono ?_; exact (Row.below (w := w7.drew) EX7.out bY).rd; exact rY.rd; (have := HN.out; omega); rintro e w9 ⟨rfl, bE⟩; clear kx0 kx1 kx2 kx3 kxz kp0 kp1 kp2 kp3 kpz; have yxb := Blk.below (w := w8) yxa bE (Blk.lt yxa); have ypb := Blk.below (w := w8) ypa bE (Blk.lt ypa); obtain ⟨kx0, kx1, kx2, kx3, kxz⟩ := blk4 yxb; obtain ⟨kp0, kp1, kp2, kp3, kpz⟩ := blk4 ypb)))
    have b9 : Below w7.heap.size w7 w9 := ((Below.refl w7.heap.size w7).drew.trans bY).trans (bE.mono bY.size)
    clear yxa ypa yxb ypb kx0 kx1 kx2 kx3 kxz kp0 kp1 kp2 kp3 kpz rY
    clear pq0 pq1 pq2 pq3 pqz pql pqm pqn xvq0 xvq1 xvq2 xvq3 xvqz xvql xvqm xvqn
    have hP9 : Blk w9 gP 24 #[.int .i64 d, .int .i64 k, .slice A n c, .bool b] := Blk.below EP7.out b9 (Blk.lt EP7.out)
    have hX9 : Row w9 w.heap.size 3 1 AX (ms).length cX ((ms).map (.int .i64)) := EX7.out.below b9
    have hXV9 : Blk w9 gXV 27 #[.int .i64 d, .int .i64 k, .slice AX ms.length cX, .bool b] := Blk.below EXV7.out b9 (Blk.lt EXV7.out)
    have hb9 : Below w.heap.size w w9 := EB7.out.trans (b9.mono EB7.out.size)
    have EP9 := Lib.hid hP9; clear hP9
    have EX9 := Lib.hid hX9; clear hX9
    have EXV9 := Lib.hid hXV9; clear hXV9
    have EB9 := Lib.hid hb9; clear hb9
    clear EP7 EX7 EXV7 EB7 b9 bY bE
    obtain ⟨pq0, pq1, pq2, pq3, pqz⟩ := blk4 EP9.out
    have pql := Blk.lt EP9.out
    have pqm : ¬ gP = w9.heap.size := by omega
    have pqn : ¬ w9.heap.size = gP := by omega
    obtain ⟨xvq0, xvq1, xvq2, xvq3, xvqz⟩ := blk4 EXV9.out
    have xvql := Blk.lt EXV9.out
    have xvqm : ¬ gXV = w9.heap.size := by omega
    have xvqn : ¬ w9.heap.size = gXV := by omega
    go_wp2_with fail
    go_ret
    exact ⟨rfl, EB9.out⟩

namespace fnExactValidNest
open Go.ChangeShapes Go.WideShapes Go.ChangeAt
open Go.ChangeMaps (open_string shut_string)
theorem own : ownKnob Try.prog.godebug = none := by kernel_rfl
theorem laidOut : laidOutB Try.prog = true := by kernel_rfl
set_option maxRecDepth 100000 in
theorem lifted (os : Os) (started : os.Started) (H : Type) (enc : TypeId × Value → H) :
    ReturnsInHanded {} Try.checked os 3 .any (Rows.fnExactValidNestSpec.pre6 enc Try.prog Try.f3 Rows.fnExactValidNestRow.domain false) (Rows.fnExactValidNestSpec.post enc Try.prog Try.f3 false true false false) := by
  refine returnsInHanded_of_change (C := Try.checked) own started (by kernel_rfl) Try.func3
    (ChangeSpec.witness6 (enc := enc) (C := Try.checked) false ⟨#[], #[.agg #[.int .i64 0, .int .i64 0, .slice none 0 0, .bool false]], []⟩ 8 (by kernel_rfl) (by kernel_rfl) (by kernel_rfl) (by kernel_rfl)) ?_
  intro W base args ds gs before hval0 hW hcnd _
  have hval : ∀ (j : Nat) t v, Try.f3.params[j]? = some t → args[j]? = some v → Value.okWide Try.prog W .any base t v := hval0
  have hW' := hW
  obtain ⟨p, q, hA0, hV, rfl, hfz, hnd⟩ := hW
  have hA : DataW.TrodAll enc Try.prog W 0 (fun _ => true) true Try.f3.params.toList args.toList ds p := hA0
  rw [Try.params3] at hA hval
  obtain ⟨v0, vs0, d0, ds0, p0, q0, hargs, rfl, rfl, h0, r0⟩ := trodAll_cons hA
  obtain ⟨rfl, rfl, rfl⟩ := trodAll_nil r0
  obtain rfl : args = #[v0] := by cases args; simp_all
  obtain ⟨rfl, rfl⟩ := trodVars_none hV
  have k0 := h0
  have lt0 : ∀ x ∈ p0, x.block < W.heap.size := by obtain ⟨m, hm⟩ := k0; exact DataW.trod_lt m _ _ _ hm
  obtain ⟨xa0, xb0, a0, n0, c0, xc0, z0, rfl, wa0, wb0, e0, lc0, cm0, rd0, wf0⟩ := open_iisb Try.underlying24 (by kernel_rfl) (by kernel_rfl) (by kernel_rfl) (by kernel_rfl) Try.underlying22 Try.underlying3 (by kernel_rfl) (by kernel_rfl) (hval 0 24 v0 rfl rfl) h0
  clear hA0 hval0
  refine (walk_FnExactValidNest (w := W) xa0 xb0 z0 xc0 a0 n0 c0 (wf_i64 wa0) (wf_i64 wb0) e0 lc0 cm0 rd0 (fun x hx => wf_i64 (wf0 x hx))).mono fun e W' ⟨he, bel⟩ => ?_
  subst he
  exact ⟨_, rfl, _, _, _, [], _, [], hW', trodAll_mk1 (shut_bool Try.underlying4 _), (trodAll_cons_mk (Below.trod laidOut (by kernel_rfl) (of_decide_eq_true (by kernel_rfl)) k0 bel lt0) trodAll_mk0), rfl, bel.frame _, fun h => by cases h⟩
theorem closed : joinedFacts Try.prog 3 Try.f3 Rows.fnExactValidNestSpec Rows.fnExactValidNestRow = true :=
  facts_of mayEnter_ok liftsFinal_ok make_ok (by kernel_rfl)
theorem over : Rows.fnExactValidNestRow.holds Try.pinned (OpenSpec.ofChange Rows.fnExactValidNestSpec) :=
  OpenClaim.holds_of_wide 3 Try.f3 rfl rfl rfl rfl rfl rfl rfl ⟨rfl, rfl, rfl, rfl, rfl⟩ rfl rfl rfl rfl rfl (by kernel_rfl) Try.func3 closed
    (of_decide_eq_true (by kernel_rfl)) (by unfold Func.isWrapper; first | (rw [if_pos (by decide +kernel)]; kernel_rfl) | (rw [if_neg (by decide +kernel)]; exact ⟨rfl, rfl⟩))
    (fun os started H enc _ => lifted os started H enc)
/-- THE STATEMENT -/
theorem proved : Rows.FnExactValidNestSaid := over
end fnExactValidNest
end Go.Proofs.Ytoljmhggkighnaa
