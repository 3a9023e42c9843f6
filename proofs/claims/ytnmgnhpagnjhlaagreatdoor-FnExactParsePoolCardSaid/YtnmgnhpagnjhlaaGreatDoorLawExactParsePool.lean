/- FnExactParsePool: for every text the law returns true, and what was there is as it was. No condition. -/
import Derived.Test.YtnmgnhpagnjhlaaGreatDoorCards
import Derived.Test.YtnmgnhpagnjhlaaGreatDoorTie
import Derived.Test.YtnmgnhpagnjhlaaGreatDoorDoorP
import Derived.ShutString
import Derived.Test.YtnmgnhpagnjhlaaGreatDoorParsePI
import Derived.Test.YtnmgnhpagnjhlaaGreatDoorMarkP
import Derived.Test.YtnmgnhpagnjhlaaGreatDoorOpen
import Derived.Deep.Cut
set_option linter.unusedVariables false
set_option linter.unusedSimpArgs false
set_option linter.unnecessarySimpa false
namespace Go.Proofs.YtnmgnhpagnjhlaaGreatDoor
open Go.RowKit

theorem Row.lowR {w w' : World} {base k : Nat} {e : TypeId} {s n : Nat} {xs : List Value} {X : Option Addr} {x : Nat} (h : Row w base e s X n x xs) (hb : Below k w w') (h1 : ∀ y, rb X x = some y → y < k) : Row w' base e s X n x xs :=
  ⟨h.1, h.2.1, h.2.2.1, fun hc => by
    obtain ⟨g, off, cur, hA, hb', hh, r⟩ := h.2.2.2 hc
    refine ⟨g, off, cur, hA, hb', ?_, r⟩
    have hrb : rb X x = some g := by unfold rb; rw [if_neg (by omega), hA]; rfl
    rw [hb.block g (h1 g hrb)]
    exact hh⟩
theorem PRow.low {w w' : World} {base k : Nat} {p : Pl} {A B C : Option Addr} {a b c : Nat} (h : PRow w base p A a B b C c) (hb : Below k w w') (h1 : ∀ y, rb A a = some y → y < k) (h2 : ∀ y, rb B b = some y → y < k) (h3 : ∀ y, rb C c = some y → y < k) : PRow w' base p A a B b C c :=
  ⟨h.1.lowR hb h1, h.2.1.lowR hb h2, h.2.2.1.lowR hb h3, h.2.2.2⟩
theorem pool_few (L : List UInt8) : ((poolS L).getD Pl.zero).few := by
  cases h : poolS L with
  | none => exact ⟨by simp [Pl.zero], by simp [Pl.zero], by simp [Pl.zero]⟩
  | some p => exact (poolS_back h).1.few
set_option maxRecDepth 100000 in
set_option maxHeartbeats 8000000 in
theorem walk_FnExactParsePool (s : ByteArray) (hs : s.size ≤ maxLen) {w : World} (E : Env w) :
    Calls Tryz.prog 4 #[.string s] w fun e w' => e = .returned (.bool true) ∧ Below w.heap.size w w' := by
  unfold maxLen at hs
  have HE := Lib.hid E; clear E
  by_cases hbig : 1048576 < s.size
  · have hd : decide ((1048576 : Int) < (s.size : Int)) = true := decide_eq_true (by omega)
    have hd' : decide (1048576 < s.size) = true := decide_eq_true hbig
    go_enter Tryz.func4, Tryz.ntmps4
    go_wp2_with fail
    go_ret
    exact ⟨rfl, Below.refl _ _⟩
  · have hsz : s.size ≤ 1048576 := by omega
    have hd : decide ((1048576 : Int) < (s.size : Int)) = false := decide_eq_false (by omega)
    have hd' : decide (1048576 < s.size) = false := decide_eq_false hbig
    obtain ⟨X, hX⟩ : ∃ X, X = (poolS s.data.toList).getD Pl.zero := ⟨_, rfl⟩
    obtain ⟨ok, hok⟩ : ∃ ok, ok = (poolS s.data.toList).isSome := ⟨_, rfl⟩
    have HS := Lib.hid (fun W => (show Calls Tryz.prog 16 #[.string s] W (fun e w' => ∃ A a B b C c, e = .returned (.tuple #[.agg #[.int .i64 X.mx, .slice A X.ids.length a, .slice B X.hs.length b, .slice C X.wt.length c], .bool ok]) ∧ PRow w' W.heap.size X A a B b C c ∧ Below W.heap.size W w') from by rw [hX, hok]; exact sParsePool_c s W hsz))
    have HI := Lib.hid (fun W (hW : Env W) => (show Calls Tryz.prog 14 #[.string s] W (fun e w' => ∃ A a B b C c, e = .returned (.tuple #[.agg #[.int .i64 X.mx, .slice A X.ids.length a, .slice B X.hs.length b, .slice C X.wt.length c], .bool ok]) ∧ PRow w' W.heap.size X A a B b C c ∧ Below W.heap.size W w') from by rw [hX, hok]; exact parsePool_c s W hsz hW))
    obtain ⟨q1, q2, q3⟩ := (show X.few by rw [hX]; exact pool_few _)
    obtain ⟨mk, hmk⟩ : ∃ mk, mk = 1 + X.ids.length + 2 * X.hs.length + X.wt.length := ⟨_, rfl⟩
    have dmk : decide ((mk : Int) < 0) = false := decide_eq_false (by omega)
    have HM := Lib.hid (fun A a B b C c base W (pr : PRow W base X A a B b C c) => (show Calls Tryz.prog 18 #[.agg #[.int .i64 X.mx, .slice A X.ids.length a, .slice B X.hs.length b, .slice C X.wt.length c], .int .i64 1] W (fun e w' => e = .returned (.int .i64 mk) ∧ MRow w' base X.ids.length X.hs.length X.wt.length A a B b C c ∧ (∀ (g : Nat) (t : TypeId) (cs : Array Value), Blk W g t cs → Off g A a B b C c → Blk w' g t cs) ∧ (∀ k, k ≤ base → k ≤ W.heap.size → Below k W w')) from by rw [hmk]; exact markPool_c X X.mx _ _ _ rfl rfl rfl A a B b C c base W pr (by omega) (by omega) (by omega)))
    have HH := Lib.hid (fun A a B b C c base W (m : MRow W base X.ids.length X.hs.length X.wt.length A a B b C c) => (show Calls Tryz.prog 19 #[.agg #[.int .i64 X.mx, .slice A X.ids.length a, .slice B X.hs.length b, .slice C X.wt.length c], .int .i64 1] W (fun e w' => e = .returned (.int .i64 mk) ∧ Below W.heap.size W w') from by rw [hmk]; exact heldPool_c X.mx _ _ _ A a B b C c base W m (by omega) (by omega) (by omega)))
    have HQ := Lib.hid (fun A a B b C c A' a' B' b' C' c' W (p1 : Rd W A (X.ids.map (.int .i64)) ∧ Rd W B (sc X.hs) ∧ Rd W C (X.wt.map (.int .i64))) (p2 : Rd W A' (X.ids.map (.int .i64)) ∧ Rd W B' (sc X.hs) ∧ Rd W C' (X.wt.map (.int .i64))) => eqPool_c X.mx X.ids X.hs X.wt A _ a B _ b C _ c A' a' B' b' C' c' W rfl rfl rfl p1.1 p1.2.1 p1.2.2 p2.1 p2.2.1 p2.2.2 (by omega) (by omega) (by omega))
    clear hX hok hbig hmk
    go_enter Tryz.func4, Tryz.ntmps4
    go_wp2_with fail
    refine (HS.out w).mono ?_
    rintro e w1 ⟨A1, a1, B1, b1, C1, c1, rfl, pr1, bl1⟩
    have hs1 : w.heap.size ≤ w1.heap.size := bl1.size
    obtain ⟨w2, hw2⟩ : ∃ w2, w2 = w1.alloc (.cells #[.int .i64 X.mx, .slice A1 X.ids.length a1, .slice B1 X.hs.length b1, .slice C1 X.wt.length c1] 26) := ⟨_, rfl⟩
    have hs2 : w2.heap.size = w1.heap.size + 1 := by rw [hw2]; simp
    have BK2 := Lib.hid (show Blk w2 w1.heap.size 26 #[.int .i64 X.mx, .slice A1 X.ids.length a1, .slice B1 X.hs.length b1, .slice C1 X.wt.length c1] by rw [hw2]; exact Blk.new w1 _ _)
    have PR2 := Lib.hid (show PRow w2 w.heap.size X A1 a1 B1 b1 C1 c1 by rw [hw2]; exact pr1.alloc _)
    have FR2 := Lib.hid (show Below w.heap.size w w2 by rw [hw2]; exact bl1.alloc hs1 _)
    have hg12 : w1.heap.size < w2.heap.size := by omega
    clear pr1 bl1
    go_upto_region 4 with fail
    rw [← hw2]
    clear hw2
    obtain ⟨k0, k1, k2, k3, kfz⟩ := blk4 BK2.out
    go_wp2_with fail
    refine (HI.out w2 (HE.out.below FR2.out)).mono ?_
    rintro e w3 ⟨A3, a3, B3, b3, C3, c3, rfl, pr3, bl3⟩
    have hs3 : w2.heap.size ≤ w3.heap.size := bl3.size
    obtain ⟨w4, hw4⟩ : ∃ w4, w4 = w3.alloc (.cells #[.int .i64 X.mx, .slice A3 X.ids.length a3, .slice B3 X.hs.length b3, .slice C3 X.wt.length c3] 26) := ⟨_, rfl⟩
    have hs4 : w4.heap.size = w3.heap.size + 1 := by rw [hw4]; simp
    have BK4 := Lib.hid (show Blk w4 w1.heap.size 26 #[.int .i64 X.mx, .slice A1 X.ids.length a1, .slice B1 X.hs.length b1, .slice C1 X.wt.length c1] by rw [hw4]; exact (BK2.out.below bl3 hg12).alloc _)
    have BL4 := Lib.hid (show Blk w4 w3.heap.size 26 #[.int .i64 X.mx, .slice A3 X.ids.length a3, .slice B3 X.hs.length b3, .slice C3 X.wt.length c3] by rw [hw4]; exact Blk.new w3 _ _)
    have PR4 := Lib.hid (show PRow w4 w.heap.size X A1 a1 B1 b1 C1 c1 by rw [hw4]; exact (PR2.out.below bl3).alloc _)
    have PI4 := Lib.hid (show PRow w4 w2.heap.size X A3 a3 B3 b3 C3 c3 by rw [hw4]; exact pr3.alloc _)
    have OF3 := Lib.hid (show Off w3.heap.size A3 a3 B3 b3 C3 c3 from pr3.off (Nat.le_refl _))
    have FR4 := Lib.hid (show Below w.heap.size w w4 by rw [hw4]; exact (FR2.out.trans (bl3.mono FR2.out.size)).alloc (by omega) _)
    have KP4 := Lib.hid (show PRow w2 w.heap.size X A1 a1 B1 b1 C1 c1 from PR2.out)
    clear pr3 bl3 k0 k1 k2 k3 kfz BK2 FR2
    go_upto_region 5 with fail
    rw [← hw4]
    clear hw4
    have hg14 : w1.heap.size < w4.heap.size := by omega
    have hg34 : w3.heap.size < w4.heap.size := by omega
    obtain ⟨k0, k1, k2, k3, kfz⟩ := blk4 BK4.out
    obtain ⟨m0, m1, m2, m3, mfz⟩ := blk4 BL4.out
    go_wp2_with fail
    refine (HQ.out _ _ _ _ _ _ _ _ _ _ _ _ w4 ⟨PI4.out.1.rd, PI4.out.2.1.rd, PI4.out.2.2.1.rd⟩ ⟨PR4.out.1.rd, PR4.out.2.1.rd, PR4.out.2.2.1.rd⟩).mono ?_
    rintro e w5 ⟨rfl, bl5⟩
    have BK5 := Lib.hid (BK4.out.below bl5 hg14); have BL5 := Lib.hid (BL4.out.below bl5 hg34); have PI5 := Lib.hid (PI4.out.below bl5); have PR5 := Lib.hid (PR4.out.below bl5); have FR5 := Lib.hid (FR4.out.trans (bl5.mono FR4.out.size))
    have hs5 : w4.heap.size ≤ w5.heap.size := bl5.size
    clear bl5 k0 k1 k2 k3 kfz m0 m1 m2 m3 mfz BK4 BL4 PI4 PR4 FR4
    obtain ⟨m0, m1, m2, m3, mfz⟩ := blk4 BL5.out
    go_wp2_with fail
    refine (HM.out _ _ _ _ _ _ w2.heap.size w5 PI5.out).mono ?_
    rintro e w6 ⟨rfl, mr6, kb6, kl6⟩
    have BK6 := Lib.hid (kb6 _ _ _ BK5.out (PI5.out.offLow hg12)); have BL6 := Lib.hid (kb6 _ _ _ BL5.out OF3.out)
    have BE6 := Lib.hid (kl6 w2.heap.size (Nat.le_refl _) (by omega))
    have FR6 := Lib.hid (FR5.out.trans (kl6 w.heap.size (by omega) (by omega)))
    have PR6 := Lib.hid (show PRow w6 w.heap.size X A1 a1 B1 b1 C1 c1 from by
      have lt1 : ∀ y, rb A1 a1 = some y → y < w2.heap.size := fun y h => (KP4.out.1.lt y h).2
      have lt2 : ∀ y, rb B1 b1 = some y → y < w2.heap.size := fun y h => (KP4.out.2.1.lt y h).2
      have lt3 : ∀ y, rb C1 c1 = some y → y < w2.heap.size := fun y h => (KP4.out.2.2.1.lt y h).2
      exact PR5.out.low BE6.out lt1 lt2 lt3)
    have MR6 := Lib.hid mr6
    have hs6 : w5.heap.size ≤ w6.heap.size := (kl6 0 (Nat.zero_le _) (Nat.zero_le _)).size
    clear mr6 kb6 kl6 m0 m1 m2 m3 mfz BK5 BL5 PI5 PR5 FR5 BE6
    obtain ⟨m0, m1, m2, m3, mfz⟩ := blk4 BL6.out
    go_wp2_with fail
    refine (HH.out _ _ _ _ _ _ _ w6 MR6.out).mono ?_
    rintro e w7 ⟨rfl, bl7⟩
    have hg16 : w1.heap.size < w6.heap.size := by omega
    have hg36 : w3.heap.size < w6.heap.size := by omega
    have BK7 := Lib.hid (BK6.out.below bl7 hg16); have BL7 := Lib.hid (BL6.out.below bl7 hg36); have PR7 := Lib.hid (PR6.out.below bl7); have MR7 := Lib.hid (MR6.out.below bl7); have FR7 := Lib.hid (FR6.out.trans (bl7.mono FR6.out.size))
    have hs7 : w6.heap.size ≤ w7.heap.size := bl7.size
    clear bl7 m0 m1 m2 m3 mfz BK6 BL6 PR6 MR6 FR6
    go_wp2_with fail
    refine (HI.out w7 (HE.out.below FR7.out)).mono ?_
    rintro e w8 ⟨A8, a8, B8, b8, C8, c8, rfl, pr8, bl8⟩
    have hs8 : w7.heap.size ≤ w8.heap.size := bl8.size
    obtain ⟨w9, hw9⟩ : ∃ w9, w9 = w8.alloc (.cells #[.int .i64 X.mx, .slice A8 X.ids.length a8, .slice B8 X.hs.length b8, .slice C8 X.wt.length c8] 26) := ⟨_, rfl⟩
    have hs9 : w9.heap.size = w8.heap.size + 1 := by rw [hw9]; simp
    have hg17 : w1.heap.size < w7.heap.size := by omega
    have hg37 : w3.heap.size < w7.heap.size := by omega
    have BK9 := Lib.hid (show Blk w9 w1.heap.size 26 #[.int .i64 X.mx, .slice A1 X.ids.length a1, .slice B1 X.hs.length b1, .slice C1 X.wt.length c1] by rw [hw9]; exact (BK7.out.below bl8 hg17).alloc _)
    have BL9 := Lib.hid (show Blk w9 w3.heap.size 26 #[.int .i64 X.mx, .slice A3 X.ids.length a3, .slice B3 X.hs.length b3, .slice C3 X.wt.length c3] by rw [hw9]; exact (BL7.out.below bl8 hg37).alloc _)
    have BN9 := Lib.hid (show Blk w9 w8.heap.size 26 #[.int .i64 X.mx, .slice A8 X.ids.length a8, .slice B8 X.hs.length b8, .slice C8 X.wt.length c8] by rw [hw9]; exact Blk.new w8 _ _)
    have PR9 := Lib.hid (show PRow w9 w.heap.size X A1 a1 B1 b1 C1 c1 by rw [hw9]; exact (PR7.out.below bl8).alloc _)
    have PN9 := Lib.hid (show PRow w9 w7.heap.size X A8 a8 B8 b8 C8 c8 by rw [hw9]; exact pr8.alloc _)
    have MR9 := Lib.hid (show MRow w9 w2.heap.size X.ids.length X.hs.length X.wt.length A3 a3 B3 b3 C3 c3 by rw [hw9]; exact (MR7.out.below bl8).alloc _)
    have FR9 := Lib.hid (show Below w.heap.size w w9 by rw [hw9]; exact (FR7.out.trans (bl8.mono FR7.out.size)).alloc (by omega) _)
    clear pr8 bl8 BK7 BL7 PR7 MR7 FR7
    go_upto_region 16 with fail
    rw [← hw9]
    clear hw9
    have hg39 : w3.heap.size < w9.heap.size := by omega
    obtain ⟨k0, k1, k2, k3, kfz⟩ := blk4 BK9.out
    obtain ⟨m0, m1, m2, m3, mfz⟩ := blk4 BN9.out
    go_wp2_with fail
    refine (HQ.out _ _ _ _ _ _ _ _ _ _ _ _ w9 ⟨PN9.out.1.rd, PN9.out.2.1.rd, PN9.out.2.2.1.rd⟩ ⟨PR9.out.1.rd, PR9.out.2.1.rd, PR9.out.2.2.1.rd⟩).mono ?_
    rintro e w10 ⟨rfl, bl10⟩
    have BL10 := Lib.hid (BL9.out.below bl10 hg39); have MR10 := Lib.hid (MR9.out.below bl10); have FR10 := Lib.hid (FR9.out.trans (bl10.mono FR9.out.size))
    clear bl10 k0 k1 k2 k3 kfz m0 m1 m2 m3 mfz BL9 MR9 FR9 BK9 BN9 PR9 PN9
    obtain ⟨m0, m1, m2, m3, mfz⟩ := blk4 BL10.out
    go_wp2_with fail
    refine (HH.out _ _ _ _ _ _ _ w10 MR10.out).mono ?_
    rintro e w11 ⟨rfl, bl11⟩
    go_wp2_with fail
    go_ret
    exact ⟨by first | rfl | simp, FR10.out.trans (bl11.mono FR10.out.size)⟩

namespace fnExactParsePool
open Go.ChangeShapes Go.WideShapes Go.ChangeAt
open Go.ChangeMaps (open_string shut_string)
theorem own : ownKnob Tryz.prog.godebug = none := by kernel_rfl
theorem laidOut : laidOutB Tryz.prog = true := by kernel_rfl
set_option maxRecDepth 100000 in
theorem lifted (os : Os) (started : os.Started) (H : Type) (enc : TypeId × Value → H) :
    ReturnsInHanded {} Tryz.checked os 4 .any (fun w args => (Rows.fnExactParsePoolSpec.pre enc Tryz.prog Tryz.f4 Rows.fnExactParsePoolRow.domain false w args ∧ laidMetH Tryz.prog Rows.fnExactParsePoolRow.laid w) ∧ sizedMet enc Tryz.prog Tryz.f4 (OpenSpec.ofChange Rows.fnExactParsePoolSpec) false w args)
      (Rows.fnExactParsePoolSpec.post enc Tryz.prog Tryz.f4 false true false false) := by
  refine returnsInHanded_and_shaped (C := Tryz.checked) (X := fun w _ => laidMetH Tryz.prog Rows.fnExactParsePoolRow.laid w) (fun _ _ _ hh h => h.of_heap hh) own started (by kernel_rfl) Tryz.func4
    (ChangeSpec.witness_shaped (enc := enc) (C := Tryz.checked) (os := os) (X := fun w _ => laidMetH Tryz.prog Rows.fnExactParsePoolRow.laid w) false (World.laidAll Tryz.prog os Rows.fnExactParsePoolRow.laid) #[.string ByteArray.empty] 8 (World.laidAll_os _ _ _)
      (World.shaped_of_ZipB (by kernel_rfl) (by kernel_rfl)) (by kernel_rfl) (by kernel_rfl) (by kernel_rfl)
      (by rw [MakeChecks.laidMetH_plain _ _ _ (by kernel_rfl)]; exact laidMet_laidAll _ (by kernel_rfl) (by kernel_rfl))) ?_
  intro W base args ds gs before hval0 hW hcnd _ hL hsh _
  have hval : ∀ (j : Nat) t v, Tryz.f4.params[j]? = some t → args[j]? = some v → Value.okWide Tryz.prog W .any base t v := hval0
  have hW' := hW
  obtain ⟨p, q, hA0, hV, rfl, hfz, hnd⟩ := hW
  have hA : DataW.TrodAll enc Tryz.prog W 0 (fun _ => true) true Tryz.f4.params.toList args.toList ds p := hA0
  rw [Tryz.params4] at hA hval
  obtain ⟨v0, vs0, d0, ds0, p0, q0, hargs, rfl, rfl, h0, r0⟩ := trodAll_cons hA
  obtain ⟨rfl, rfl, rfl⟩ := trodAll_nil r0
  obtain rfl : args = #[v0] := by cases args; simp_all
  obtain ⟨rfl, rfl⟩ := trodVars_none hV
  obtain ⟨x0, rfl, rfl, rfl, w0⟩ := open_string Tryz.underlying9 (hval 0 9 v0 rfl rfl) h0
  clear hA0 hval0
  refine (walk_FnExactParsePool (w := W) x0 w0 (env_of_laid hL hsh)).mono fun e W' ⟨he, bel⟩ => ?_
  subst he
  exact ⟨_, rfl, _, _, _, [], _, [], hW', trodAll_mk1 (shut_bool Tryz.underlying4 _), (trodAll_cons_mk (shut_string Tryz.underlying9 w0) trodAll_mk0), rfl, bel.frame _, fun h => by cases h⟩
theorem closed : joinedFacts Tryz.prog 4 Tryz.f4 Rows.fnExactParsePoolSpec Rows.fnExactParsePoolRow = true := by kernel_rfl
theorem over : Rows.fnExactParsePoolRow.holds Tryz.pinned (OpenSpec.ofChange Rows.fnExactParsePoolSpec) :=
  OpenClaim.holds_of_wide 4 Tryz.f4 rfl rfl rfl rfl rfl rfl rfl ⟨rfl, rfl, rfl, rfl, rfl⟩ rfl rfl rfl rfl rfl (by kernel_rfl) Tryz.func4 closed
    (of_decide_eq_true (by kernel_rfl)) (by unfold Func.isWrapper; first | (rw [if_pos (by decide +kernel)]; kernel_rfl) | (rw [if_neg (by decide +kernel)]; exact ⟨rfl, rfl⟩))
    (fun os started H enc _ => lifted os started H enc)
/-- THE STATEMENT: the tied card. -/
theorem proved : Rows.FnExactParsePoolCardSaid :=
  Claim7.holds_tied_plain_at .later [] [.data, .data, .data, .data, .sentinel, .sentinel, .pinned] true (true, "be294eb38dac3e77696c27167f6ee1ff95c2be86aca27ec3f1751608eb7986fc") true over (fun _ h => by cases h) (by kernel_rfl) (fun _ h => by cases h) fnExactParsePool_row_tie rfl ⟨rfl, rfl⟩ (by kernel_rfl) rfl
    (fun f fn hf hfn => by
      obtain rfl : f = 4 := Option.some.inj ((show Tryz.prog.funcNamed "loop.example/connectionpool/laws.FnExactParsePool" = some 4 by kernel_rfl).symm.trans hf) |>.symm
      obtain rfl : fn = Tryz.f4 := (Option.some.inj (Tryz.func4.symm.trans hfn)).symm
      exact ⟨by kernel_rfl, fun j t ht => by
        rw [Tryz.params4] at ht
        have hm : t ∈ [9] := by simpa using Array.mem_of_getElem? ht
        have hall : ([9].all fun u => !Tryz.prog.wantsStandIn u) = true := by kernel_rfl
        exact (show Tryz.prog.wantsStandIn t = false by simpa using List.all_eq_true.1 hall t hm)⟩)
    (by kernel_rfl)
end fnExactParsePool
end Go.Proofs.YtnmgnhpagnjhlaaGreatDoor
