/- FnPoolCanonical: for every code the law returns true, and what was there is as it was. No condition. -/
import Derived.Test.YtnmgnhpagnjhlaaGreatDoorCards
import Derived.Test.YtnmgnhpagnjhlaaGreatDoorTie
import Derived.Test.YtnmgnhpagnjhlaaGreatDoorDoorP
import Derived.Test.YtnmgnhpagnjhlaaGreatDoorDrawM
import Derived.Test.YtnmgnhpagnjhlaaGreatDoorParsePI
import Derived.Test.YtnmgnhpagnjhlaaGreatDoorMarkP
import Derived.Test.YtnmgnhpagnjhlaaGreatDoorOpen
import Derived.Deep.Cut
set_option linter.unusedVariables false
set_option linter.unusedSimpArgs false
set_option linter.unnecessarySimpa false
namespace Go.Proofs.YtnmgnhpagnjhlaaGreatDoor
open Go.RowKit

theorem pool_ok {L : List UInt8} (h : (poolS L).isSome = true) : ((poolS L).getD Pl.zero).Good ∧ ((poolS L).getD Pl.zero).text = L := by
  cases hp : poolS L with
  | none => rw [hp] at h; cases h
  | some p => exact poolS_back hp
theorem pool_few_ (L : List UInt8) : ((poolS L).getD Pl.zero).few := by
  cases h : poolS L with
  | none => exact ⟨by simp [Pl.zero], by simp [Pl.zero], by simp [Pl.zero]⟩
  | some p => exact (poolS_back h).1.few
set_option maxRecDepth 100000 in
set_option maxHeartbeats 8000000 in
theorem walk_FnPoolCanonical (zs : List Int) (A : Option Addr) (n c : Nat) (hN : zs.length = n) (hc : n ≤ c) (hm : c ≤ maxLen) {w : World} (h : Rd w A (zs.map (.int .u8))) (hz : ∀ z ∈ zs, 0 ≤ z ∧ z ≤ 255) (E : Env w) :
    Calls Tryz.prog 5 #[.slice A n c] w fun e w' => e = .returned (.bool true) ∧ Below w.heap.size w w' := by
  have HD := Lib.hid (drawParsePool_c zs A n c w hN hc hm h hz)
  have HE := Lib.hid E
  clear h hz hN E
  unfold maxLen at hm
  by_cases hbig : 1048576 < n
  · go_enter Tryz.func5, Tryz.ntmps5
    go_wp2
    go_ret
    exact ⟨rfl, Below.refl _ _⟩
  · go_enter Tryz.func5, Tryz.ntmps5
    go_wp2_with fail
    refine HD.out.mono ?_
    rintro e w1 ⟨s, hs, rfl, bl1⟩
    have FR1 := Lib.hid bl1
    have hs1 : w.heap.size ≤ w1.heap.size := bl1.size
    clear bl1 HD
    obtain ⟨X, hX⟩ : ∃ X, X = (poolS s.data.toList).getD Pl.zero := ⟨_, rfl⟩
    obtain ⟨ok, hok⟩ : ∃ ok, ok = (poolS s.data.toList).isSome := ⟨_, rfl⟩
    have HS := Lib.hid (fun W => (show Calls Tryz.prog 16 #[.string s] W (fun e w' => ∃ A a B b C c, e = .returned (.tuple #[.agg #[.int .i64 X.mx, .slice A X.ids.length a, .slice B X.hs.length b, .slice C X.wt.length c], .bool ok]) ∧ PRow w' W.heap.size X A a B b C c ∧ Below W.heap.size W w') from by rw [hX, hok]; exact sParsePool_c s W (by omega)))
    have HI := Lib.hid (fun W (hW : Env W) => (show Calls Tryz.prog 14 #[.string s] W (fun e w' => ∃ A a B b C c, e = .returned (.tuple #[.agg #[.int .i64 X.mx, .slice A X.ids.length a, .slice B X.hs.length b, .slice C X.wt.length c], .bool ok]) ∧ PRow w' W.heap.size X A a B b C c ∧ Below W.heap.size W w') from by rw [hX, hok]; exact parsePool_c s W (by omega) hW))
    obtain ⟨q1, q2, q3⟩ := (show X.few by rw [hX]; exact pool_few_ _)
    have HOK : Hid (ok = true → X.valid = true ∧ X.fmt = s) := fun h => by
      rw [hok] at h
      have hp := pool_ok h
      rw [← hX] at hp
      refine ⟨valid_good.2 hp.1, ?_⟩
      unfold Pl.fmt
      rw [if_pos (valid_good.2 hp.1), hp.2, bsof_data]
    have HQ := Lib.hid (fun A a B b C c A' a' B' b' C' c' W (p1 : Rd W A (X.ids.map (.int .i64)) ∧ Rd W B (sc X.hs) ∧ Rd W C (X.wt.map (.int .i64))) (p2 : Rd W A' (X.ids.map (.int .i64)) ∧ Rd W B' (sc X.hs) ∧ Rd W C' (X.wt.map (.int .i64))) => equalPool_c X.mx X.ids X.hs X.wt A _ a B _ b C _ c A' a' B' b' C' c' W rfl rfl rfl p1.1 p1.2.1 p1.2.2 p2.1 p2.2.1 p2.2.2 (by omega) (by omega) (by omega))
    have HF := Lib.hid (fun A a B b C c base W (pr : PRow W base X A a B b C c) => formatPool_c X.mx X.ids X.hs X.wt A _ a B _ b C _ c W rfl rfl rfl pr.1.rd pr.2.1.rd pr.2.2.1.rd (by omega) (by omega) (by omega) pr.1.le)
    have HV := Lib.hid (fun A a B b C c base W (pr : PRow W base X A a B b C c) => validPool_c X.mx X.ids X.hs X.wt A _ a B _ b C _ c W rfl rfl rfl pr.1.rd pr.2.1.rd pr.2.2.1.rd (by omega) (by omega) (by omega) pr.1.le)
    clear hX hok
    go_wp2_with fail
    refine (HI.out w1 (HE.out.below FR1.out)).mono ?_
    rintro e w3 ⟨A3, a3, B3, b3, C3, c3, rfl, pr3, bl3⟩
    have hs3 : w1.heap.size ≤ w3.heap.size := bl3.size
    obtain ⟨w4, hw4⟩ : ∃ w4, w4 = w3.alloc (.cells #[.int .i64 X.mx, .slice A3 X.ids.length a3, .slice B3 X.hs.length b3, .slice C3 X.wt.length c3] 26) := ⟨_, rfl⟩
    have hs4 : w4.heap.size = w3.heap.size + 1 := by rw [hw4]; simp
    have BL4 := Lib.hid (show Blk w4 w3.heap.size 26 #[.int .i64 X.mx, .slice A3 X.ids.length a3, .slice B3 X.hs.length b3, .slice C3 X.wt.length c3] by rw [hw4]; exact Blk.new w3 _ _)
    have PI4 := Lib.hid (show PRow w4 w1.heap.size X A3 a3 B3 b3 C3 c3 by rw [hw4]; exact pr3.alloc _)
    have FR4 := Lib.hid (show Below w.heap.size w w4 by rw [hw4]; exact (FR1.out.trans (bl3.mono FR1.out.size)).alloc (by omega) _)
    clear pr3 bl3
    go_upto_region 5 with fail
    rw [← hw4]
    clear hw4
    go_wp2_with fail
    refine (HS.out w4).mono ?_
    rintro e w5 ⟨A5, a5, B5, b5, C5, c5, rfl, pr5, bl5⟩
    have hs5 : w4.heap.size ≤ w5.heap.size := bl5.size
    obtain ⟨w6, hw6⟩ : ∃ w6, w6 = w5.alloc (.cells #[.int .i64 X.mx, .slice A5 X.ids.length a5, .slice B5 X.hs.length b5, .slice C5 X.wt.length c5] 26) := ⟨_, rfl⟩
    have hs6 : w6.heap.size = w5.heap.size + 1 := by rw [hw6]; simp
    have hg34 : w3.heap.size < w4.heap.size := by omega
    have BL6 := Lib.hid (show Blk w6 w3.heap.size 26 #[.int .i64 X.mx, .slice A3 X.ids.length a3, .slice B3 X.hs.length b3, .slice C3 X.wt.length c3] by rw [hw6]; exact (BL4.out.below bl5 hg34).alloc _)
    have BM6 := Lib.hid (show Blk w6 w5.heap.size 26 #[.int .i64 X.mx, .slice A5 X.ids.length a5, .slice B5 X.hs.length b5, .slice C5 X.wt.length c5] by rw [hw6]; exact Blk.new w5 _ _)
    have PI6 := Lib.hid (show PRow w6 w1.heap.size X A3 a3 B3 b3 C3 c3 by rw [hw6]; exact (PI4.out.below bl5).alloc _)
    have PM6 := Lib.hid (show PRow w6 w4.heap.size X A5 a5 B5 b5 C5 c5 by rw [hw6]; exact pr5.alloc _)
    have FR6 := Lib.hid (show Below w.heap.size w w6 by rw [hw6]; exact (FR4.out.trans (bl5.mono FR4.out.size)).alloc (by omega) _)
    clear pr5 bl5 BL4 PI4 FR4
    go_upto_region 6 with fail
    rw [← hw6]
    clear hw6
    have hg36 : w3.heap.size < w6.heap.size := by omega
    obtain ⟨k0, k1, k2, k3, kfz⟩ := blk4 BL6.out
    obtain ⟨m0, m1, m2, m3, mfz⟩ := blk4 BM6.out
    go_wp2_with fail
    refine (HQ.out _ _ _ _ _ _ _ _ _ _ _ _ w6 ⟨PI6.out.1.rd, PI6.out.2.1.rd, PI6.out.2.2.1.rd⟩ ⟨PM6.out.1.rd, PM6.out.2.1.rd, PM6.out.2.2.1.rd⟩).mono ?_
    rintro e w7 ⟨rfl, bl7⟩
    have BL7 := Lib.hid (BL6.out.below bl7 hg36); have PI7 := Lib.hid (PI6.out.below bl7); have FR7 := Lib.hid (FR6.out.trans (bl7.mono FR6.out.size))
    have hg37 : w3.heap.size < w7.heap.size := BL7.out.lt
    clear bl7 k0 k1 k2 k3 kfz m0 m1 m2 m3 mfz BL6 BM6 PI6 PM6 FR6
    obtain ⟨k0, k1, k2, k3, kfz⟩ := blk4 BL7.out
    cases ok
    · go_wp2_with fail
      go_ret
      exact ⟨by first | rfl | simp, FR7.out⟩
    · obtain ⟨hv, hf⟩ := HOK.out rfl
      have HF2 := Lib.hid (fun A a B b C c base W pr => HF.out A a B b C c base W pr)
      have HV2 := Lib.hid (fun A a B b C c base W pr => HV.out A a B b C c base W pr)
      rw [show Pl.fmt ⟨X.mx, X.ids, X.hs, X.wt⟩ = X.fmt from rfl, hf] at HF2
      rw [show Pl.valid ⟨X.mx, X.ids, X.hs, X.wt⟩ = X.valid from rfl, hv] at HV2
      clear hv hf HF HV HOK
      go_wp2_with fail
      refine (HF2.out _ _ _ _ _ _ _ w7 PI7.out).mono ?_
      rintro e w8 ⟨rfl, bl8⟩
      have BL8 := Lib.hid (BL7.out.below bl8 hg37); have PI8 := Lib.hid (PI7.out.below bl8); have FR8 := Lib.hid (FR7.out.trans (bl8.mono FR7.out.size))
      clear bl8 k0 k1 k2 k3 kfz BL7 PI7 FR7
      obtain ⟨k0, k1, k2, k3, kfz⟩ := blk4 BL8.out
      go_wp2_with fail
      refine (HV2.out _ _ _ _ _ _ _ w8 PI8.out).mono ?_
      rintro e w9 ⟨rfl, bl9⟩
      go_wp2_with fail
      go_ret
      exact ⟨by first | rfl | simp, FR8.out.trans (bl9.mono FR8.out.size)⟩

namespace fnPoolCanonical
open Go.ChangeShapes Go.WideShapes Go.ChangeAt
open Go.ChangeMaps (open_string shut_string)
theorem own : ownKnob Tryz.prog.godebug = none := by kernel_rfl
theorem laidOut : laidOutB Tryz.prog = true := by kernel_rfl
set_option maxRecDepth 100000 in
theorem lifted (os : Os) (started : os.Started) (H : Type) (enc : TypeId × Value → H) :
    ReturnsInHanded {} Tryz.checked os 5 .any (fun w args => (Rows.fnPoolCanonicalSpec.pre enc Tryz.prog Tryz.f5 Rows.fnPoolCanonicalRow.domain false w args ∧ laidMetH Tryz.prog Rows.fnPoolCanonicalRow.laid w) ∧ sizedMet enc Tryz.prog Tryz.f5 (OpenSpec.ofChange Rows.fnPoolCanonicalSpec) false w args)
      (Rows.fnPoolCanonicalSpec.post enc Tryz.prog Tryz.f5 false true false false) := by
  refine returnsInHanded_and_shaped (C := Tryz.checked) (X := fun w _ => laidMetH Tryz.prog Rows.fnPoolCanonicalRow.laid w) (fun _ _ _ hh h => h.of_heap hh) own started (by kernel_rfl) Tryz.func5
    (ChangeSpec.witness_shaped (enc := enc) (C := Tryz.checked) (os := os) (X := fun w _ => laidMetH Tryz.prog Rows.fnPoolCanonicalRow.laid w) false (World.laidAll Tryz.prog os Rows.fnPoolCanonicalRow.laid) #[.slice none 0 0] 8 (World.laidAll_os _ _ _)
      (World.shaped_of_ZipB (by kernel_rfl) (by kernel_rfl)) (by kernel_rfl) (by kernel_rfl) (by kernel_rfl)
      (by rw [MakeChecks.laidMetH_plain _ _ _ (by kernel_rfl)]; exact laidMet_laidAll _ (by kernel_rfl) (by kernel_rfl))) ?_
  intro W base args ds gs before hval0 hW hcnd _ hL hsh _
  have hval : ∀ (j : Nat) t v, Tryz.f5.params[j]? = some t → args[j]? = some v → Value.okWide Tryz.prog W .any base t v := hval0
  have hW' := hW
  obtain ⟨p, q, hA0, hV, rfl, hfz, hnd⟩ := hW
  have hA : DataW.TrodAll enc Tryz.prog W 0 (fun _ => true) true Tryz.f5.params.toList args.toList ds p := hA0
  rw [Tryz.params5] at hA hval
  obtain ⟨v0, vs0, d0, ds0, p0, q0, hargs, rfl, rfl, h0, r0⟩ := trodAll_cons hA
  obtain ⟨rfl, rfl, rfl⟩ := trodAll_nil r0
  obtain rfl : args = #[v0] := by cases args; simp_all
  obtain ⟨rfl, rfl⟩ := trodVars_none hV
  obtain ⟨a0, n0, c0, rfl⟩ := okWide_slice Tryz.underlying22 (hval 0 22 v0 rfl rfl)
  have k0 := h0
  have lt0 : ∀ x ∈ p0, x.block < W.heap.size := by obtain ⟨m, hm⟩ := k0; exact DataW.trod_lt m _ _ _ hm
  obtain ⟨z0, e0, lc0, cm0, rd0, wf0⟩ := open_rd_int Tryz.underlying22 Tryz.underlying5 (by kernel_rfl) h0
  clear hA0 hval0
  refine (walk_FnPoolCanonical (w := W) z0 a0 n0 c0 e0 lc0 cm0 rd0 (fun x hx => wf_u8 (wf0 x hx)) (env_of_laid hL hsh)).mono fun e W' ⟨he, bel⟩ => ?_
  subst he
  exact ⟨_, rfl, _, _, _, [], _, [], hW', trodAll_mk1 (shut_bool Tryz.underlying4 _), (trodAll_cons_mk (Below.trod laidOut (by kernel_rfl) (of_decide_eq_true (by kernel_rfl)) k0 bel lt0) trodAll_mk0), rfl, bel.frame _, fun h => by cases h⟩
theorem closed : joinedFacts Tryz.prog 5 Tryz.f5 Rows.fnPoolCanonicalSpec Rows.fnPoolCanonicalRow = true := by kernel_rfl
theorem over : Rows.fnPoolCanonicalRow.holds Tryz.pinned (OpenSpec.ofChange Rows.fnPoolCanonicalSpec) :=
  OpenClaim.holds_of_wide 5 Tryz.f5 rfl rfl rfl rfl rfl rfl rfl ⟨rfl, rfl, rfl, rfl, rfl⟩ rfl rfl rfl rfl rfl (by kernel_rfl) Tryz.func5 closed
    (of_decide_eq_true (by kernel_rfl)) (by unfold Func.isWrapper; first | (rw [if_pos (by decide +kernel)]; kernel_rfl) | (rw [if_neg (by decide +kernel)]; exact ⟨rfl, rfl⟩))
    (fun os started H enc _ => lifted os started H enc)
/-- THE STATEMENT: the tied card. -/
theorem proved : Rows.FnPoolCanonicalCardSaid :=
  Claim7.holds_tied_plain_at .later [] [.data, .data, .data, .data, .sentinel, .sentinel, .pinned] true (true, "be294eb38dac3e77696c27167f6ee1ff95c2be86aca27ec3f1751608eb7986fc") true over (fun _ h => by cases h) (by kernel_rfl) (fun _ h => by cases h) fnPoolCanonical_row_tie rfl ⟨rfl, rfl⟩ (by kernel_rfl) rfl
    (fun f fn hf hfn => by
      obtain rfl : f = 5 := Option.some.inj ((show Tryz.prog.funcNamed "loop.example/connectionpool/laws.FnPoolCanonical" = some 5 by kernel_rfl).symm.trans hf) |>.symm
      obtain rfl : fn = Tryz.f5 := (Option.some.inj (Tryz.func5.symm.trans hfn)).symm
      exact ⟨by kernel_rfl, fun j t ht => by
        rw [Tryz.params5] at ht
        have hm : t ∈ [22] := by simpa using Array.mem_of_getElem? ht
        have hall : ([22].all fun u => !Tryz.prog.wantsStandIn u) = true := by kernel_rfl
        exact (show Tryz.prog.wantsStandIn t = false by simpa using List.all_eq_true.1 hall t hm)⟩)
    (by kernel_rfl)
end fnPoolCanonical
end Go.Proofs.YtnmgnhpagnjhlaaGreatDoor
