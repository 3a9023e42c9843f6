/- FnSettingsText: for every code the law returns true, and what was there is as it was. No condition. -/
import Derived.Test.YtmphjojhfmikeaaDoorCards
import Derived.Test.YtmphjojhfmikeaaDoorTie
import Derived.Test.YtmphjojhfmikeaaDoorSetText
import Derived.Test.YtmphjojhfmikeaaDoorDrawS
import Derived.Test.YtmphjojhfmikeaaDoorOpen
import Derived.Lib.ItoaMem
set_option linter.unusedVariables false
set_option linter.unusedSimpArgs false
set_option linter.unnecessarySimpa false
namespace Go.Proofs.YtmphjojhfmikeaaDoor
open Go.RowKit

/-- How often a byte is among the first j of a text. -/
def cnt (c : UInt8) (T : ByteArray) (j : Nat) : Nat := (T.data.toList.take j).count c
theorem cnt_succ (c : UInt8) (T : ByteArray) (j : Nat) (h : j < T.size) : cnt c T (j + 1) = cnt c T j + (if T[j] = c then 1 else 0) := by
  unfold cnt
  have hl : j < T.data.toList.length := by simpa using h
  rw [List.take_succ_eq_append_getElem hl, List.count_append]
  congr 1
  have e : T.data.toList[j] = T[j] := rfl
  rw [e, List.count_singleton]
  by_cases hc : T[j] = c
  · simp [hc]
  · simp [hc]
theorem cnt_le (c : UInt8) (T : ByteArray) (j : Nat) : cnt c T j ≤ j := by
  unfold cnt
  have h1 := List.count_le_length (a := c) (l := T.data.toList.take j)
  have h2 := List.length_take_le j T.data.toList
  omega
theorem dec_mem : ∀ (u : Nat), ∀ b ∈ Lib.decDigits u, 48 ≤ b.toNat ∧ b.toNat ≤ 57 := by
  intro u
  induction u using Nat.strongRecOn with
  | _ u ih =>
    intro b hb
    by_cases h : u < 10
    · rw [Lib.decDigits_one h] at hb
      simp only [List.mem_singleton] at hb
      subst hb
      rw [UInt8.toNat_ofNat']; omega
    · rw [Lib.decDigits, dif_neg h] at hb
      rcases List.mem_append.1 hb with hb | hb
      · exact ih (u / 10) (by omega) b hb
      · simp only [List.mem_singleton] at hb
        subst hb
        rw [UInt8.toNat_ofNat']; omega
theorem dec_count (u : Nat) (c : UInt8) (h : c.toNat < 48 ∨ 57 < c.toNat) : (Lib.decDigits u).count c = 0 :=
  List.count_eq_zero.2 fun hm => by have := dec_mem u c hm; omega
theorem comma_count (c : UInt8) (k : Nat) : ∀ (ps : List (List UInt8)), (∀ p ∈ ps, p.count c = k) → (comma ps).count c = ps.length * k + (if c = 44 then ps.length - 1 else 0)
  | [], _ => by simp [comma_nil]
  | [a], h => by rw [comma_one, h a (by simp)]; simp
  | a :: b :: ps, h => by
    rw [comma_cons, List.count_append, List.count_cons, comma_count c k (b :: ps) (fun p hp => h p (List.mem_cons_of_mem _ hp)), h a (by simp)]
    simp only [List.length_cons, Nat.add_mul, Nat.one_mul]
    by_cases hc : c = 44
    · subst hc
      simp only [beq_self_eq_true, if_true]; omega
    · have e : ((44 : UInt8) == c) = false := beq_eq_false_iff_ne.2 (fun e => hc e.symm)
      simp only [e, hc, Bool.false_eq_true, if_false]; omega
theorem bsof_empty : (bsof []).toList.isEmpty = true := by decide +kernel
theorem setL_count (x : Pr) : (setL x).count 61 = 1 ∧ (setL x).count 44 = 0 := by
  unfold setL
  constructor
  · rw [List.count_append, List.count_cons, dec_count _ _ (by decide), dec_count _ _ (by decide)]; rfl
  · rw [List.count_append, List.count_cons, dec_count _ _ (by decide), dec_count _ _ (by decide)]; rfl
theorem sets_count (xs : List Pr) (T : ByteArray) (h : T = bsof (setsL xs)) : cnt 61 T T.size = xs.length ∧ cnt 44 T T.size = xs.length - 1 := by
  have e : T.data.toList = setsL xs := by rw [h]; rfl
  have hz : T.size = T.data.toList.length := by show T.data.size = _; rw [Array.length_toList]
  unfold cnt
  rw [hz, List.take_length, e]
  unfold setsL
  constructor
  · rw [comma_count 61 1 _ (fun p hp => by obtain ⟨x, _, rfl⟩ := List.mem_map.1 hp; exact (setL_count x).1)]
    simp
  · rw [comma_count 44 0 _ (fun p hp => by obtain ⟨x, _, rfl⟩ := List.mem_map.1 hp; exact (setL_count x).2)]
    simp
set_option maxRecDepth 100000 in
set_option maxHeartbeats 4000000 in
theorem walk_FnSettingsText (zs : List Int) (A : Option Addr) (n c : Nat) (hN : zs.length = n) (hc : n ≤ c) (hm : c ≤ maxLen) {w : World} (h : Rd w A (zs.map (.int .u8))) (hz : ∀ z ∈ zs, 0 ≤ z ∧ z ≤ 255) :
    Calls Tryd.prog 4 #[.slice A n c] w fun e w' => e = .returned (.bool true) ∧ Below w.heap.size w w' := by
  have HD := Lib.hid (drawFormatSettings_c zs A n c w hN hc hm h hz)
  clear h hz hN
  unfold maxLen at hm
  by_cases hbig : 1048576 < n
  · go_enter Tryd.func4, Tryd.ntmps4
    go_wp2
    go_ret
    exact ⟨rfl, Below.refl _ _⟩
  · go_enter Tryd.func4, Tryd.ntmps4
    go_wp2_with fail
    refine HD.out.mono ?_
    rintro e w1 ⟨A1, c1, xs, rfl, hl, hc1, f1, b1⟩
    have HB1 := Lib.hid b1; have R1 := Lib.hid f1.rd
    clear b1 f1 HD
    obtain ⟨T, hT⟩ : ∃ T, T = fmtS xs := ⟨_, rfl⟩
    have hsF : ∀ (w : World), Rd w A1 (sc xs) → Calls Tryd.prog 9 #[.slice A1 xs.length c1] w fun e w' => e = .returned (.string T) ∧ Below w.heap.size w w' := fun w h => by rw [hT]; exact sFormat_c xs A1 _ c1 w rfl h (by omega)
    have SF := Lib.hid hsF
    go_wp2_with fail
    refine (format_c xs A1 _ c1 w1 rfl R1.out (by omega)).mono ?_
    rw [← hT]
    rintro e w2 ⟨rfl, b2⟩
    have HB2 := Lib.hid (HB1.out.trans (b2.mono HB1.out.size)); have R2 := Lib.hid (R1.out.below b2)
    have HT := Lib.hid hT
    clear b2 HB1 R1 hT hsF
    go_wp2_with fail
    refine (SF.out _ R2.out).mono ?_
    rintro e w3 ⟨rfl, b3⟩
    have HB3 := Lib.hid (HB2.out.trans (b3.mono HB2.out.size)); have R3 := Lib.hid (R2.out.below b3)
    clear b3 HB2 R2
    obtain ⟨em, hem⟩ : ∃ em, em = T.toList.isEmpty := ⟨_, rfl⟩
    cases em
    · have hne : fmtS xs = bsof (setsL xs) ∧ xs ≠ [] := by
        have h0 := hem
        rw [HT.out] at h0
        unfold fmtS at h0 ⊢
        cases hv : validS (-1) xs with
        | false => rw [hv] at h0; simp only [Bool.false_eq_true, if_false, bsof_empty] at h0
        | true =>
          rw [hv] at h0
          refine ⟨rfl, fun e => ?_⟩
          subst e
          have e2 : setsL [] = [] := rfl
          simp only [if_true, e2, bsof_empty] at h0
          cases h0
      have hTT : T = bsof (setsL xs) := HT.out.trans hne.1
      have hv : validS (-1) xs = true := by
        cases hv : validS (-1) xs with
        | true => rfl
        | false =>
          have h0 := hem
          rw [HT.out] at h0
          unfold fmtS at h0
          rw [hv] at h0
          simp only [Bool.false_eq_true, if_false, bsof_empty] at h0
      have hsz : T.size ≤ 160 := by
        rw [hTT, bsof_size]
        have := setsL_len xs hv xs.length
        rwa [List.take_length] at this
      have hcn := sets_count xs T hTT
      have hpos : 1 ≤ xs.length := by
        rcases xs with _ | ⟨x, xs⟩
        · exact absurd rfl hne.2
        · simp
      have CN := Lib.hid hcn; have HE := Lib.hid hem
      have hem' := hem.symm
      clear hne hTT hv hcn hem HT
      go_wp2_with fail
      go_loopw [5, 6, 7] (fun s k i wr => ∃ j : Nat, j ≤ T.size ∧ i = .int .i64 j ∧ s = .int .i64 (cnt 61 T j : Nat) ∧ k = .int .i64 (cnt 44 T j : Nat) ∧ wr = w3) (fun _ _ i _ => T.size - (intOf i).toNat)
      case atStart => exact ⟨0, Nat.zero_le _, rfl, rfl, rfl, rfl⟩
      case round =>
        obtain ⟨j, hj, rfl, rfl, rfl, rfl⟩ := hrel
        obtain ⟨a, ha⟩ : ∃ a, a = cnt 61 T j := ⟨_, rfl⟩
        obtain ⟨b, hb⟩ : ∃ b, b = cnt 44 T j := ⟨_, rfl⟩
        have ha0 : a ≤ 160 := by rw [ha]; exact Nat.le_trans (cnt_le _ _ _) (by omega)
        have hb0 : b ≤ 160 := by rw [hb]; exact Nat.le_trans (cnt_le _ _ _) (by omega)
        by_cases hlt : j < T.size
        · have s1 := cnt_succ 61 T j hlt
          have s2 := cnt_succ 44 T j hlt
          rw [← ha] at s1
          rw [← hb] at s2
          rw [← ha, ← hb]
          obtain ⟨z, hz⟩ : ∃ z, z = (T[j]).toNat := ⟨_, rfl⟩
          have hzz := hz.symm
          have e61 : (T[j] = 61) ↔ z = 61 := by rw [hz]; exact ⟨fun e => by rw [e]; rfl, fun e => UInt8.toNat_inj.1 (by rw [e]; rfl)⟩
          have e44 : (T[j] = 44) ↔ z = 44 := by rw [hz]; exact ⟨fun e => by rw [e]; rfl, fun e => UInt8.toNat_inj.1 (by rw [e]; rfl)⟩
          simp only [e61] at s1
          simp only [e44] at s2
          have S1 := Lib.hid s1; have S2 := Lib.hid s2
          clear s1 s2 e61 e44 ha hb hz
          by_cases h61 : z = 61
          · subst h61
            go_wp2_with fail
            go_roundw
            case rel => exact ⟨j + 1, by omega, by go_num, by rw [S1.out]; simp, by rw [S2.out]; simp, by first | rfl | trivial⟩
            case measure => simp [intOf]; omega
          · by_cases h44 : z = 44
            · subst h44
              go_wp2_with fail
              go_roundw
              case rel => exact ⟨j + 1, by omega, by go_num, by rw [S1.out]; simp, by rw [S2.out]; simp, by first | rfl | trivial⟩
              case measure => simp [intOf]; omega
            · have hz1 : ((z : Int) == 61) = false := beq_eq_false_iff_ne.2 (by omega)
              have hz2 : ((z : Int) == 44) = false := beq_eq_false_iff_ne.2 (by omega)
              have n1 := Lib.hid h61; have n2 := Lib.hid h44
              clear h61 h44
              go_wp2_with fail
              go_roundw
              case rel => exact ⟨j + 1, by omega, by go_num, by rw [S1.out, if_neg n1.out]; rfl, by rw [S2.out, if_neg n2.out]; rfl, by first | rfl | trivial⟩
              case measure => simp [intOf]; omega
        · obtain rfl : j = T.size := by omega
          rw [← ha, ← hb]
          have hae : a = xs.length := by rw [ha]; exact CN.out.1
          have hbe : b = xs.length - 1 := by rw [hb]; exact CN.out.2
          have hq : ((b : Int) == (xs.length : Int) - 1) = true := by rw [hbe]; simp; omega
          subst hae
          clear hb hbe ha
          go_wp2_with fail
          go_ret
          exact ⟨by first | rfl | simp, HB3.out⟩
    · have hem' := hem.symm
      clear hem
      go_wp2_with fail
      refine (SF.out _ R3.out).mono ?_
      rintro e w4 ⟨rfl, b4⟩
      go_wp2_with fail
      go_ret
      exact ⟨by first | rfl | simp, HB3.out.trans (b4.mono HB3.out.size)⟩

namespace fnSettingsText
open Go.ChangeShapes Go.WideShapes Go.ChangeAt
open Go.ChangeMaps (open_string shut_string)
theorem own : ownKnob Tryd.prog.godebug = none := by kernel_rfl
theorem laidOut : laidOutB Tryd.prog = true := by kernel_rfl
set_option maxRecDepth 100000 in
theorem lifted (os : Os) (started : os.Started) (H : Type) (enc : TypeId × Value → H) :
    ReturnsInHanded {} Tryd.checked os 4 .any (fun w args => (Rows.fnSettingsTextSpec.pre enc Tryd.prog Tryd.f4 Rows.fnSettingsTextRow.domain false w args ∧ laidMetH Tryd.prog Rows.fnSettingsTextRow.laid w) ∧ sizedMet enc Tryd.prog Tryd.f4 (OpenSpec.ofChange Rows.fnSettingsTextSpec) false w args)
      (Rows.fnSettingsTextSpec.post enc Tryd.prog Tryd.f4 false true false false) := by
  refine returnsInHanded_of_change_and (C := Tryd.checked) (X := fun w _ => laidMetH Tryd.prog Rows.fnSettingsTextRow.laid w) (fun _ _ _ hh h => h.of_heap hh) own started (by kernel_rfl) Tryd.func4
    (ChangeSpec.witness_shaped (enc := enc) (C := Tryd.checked) (os := os) (X := fun w _ => laidMetH Tryd.prog Rows.fnSettingsTextRow.laid w) false (World.laidAll Tryd.prog os Rows.fnSettingsTextRow.laid) #[.slice none 0 0] 8 (World.laidAll_os _ _ _)
      (World.shaped_of_ZipB (by kernel_rfl) (by kernel_rfl)) (by kernel_rfl) (by kernel_rfl) (by kernel_rfl)
      (by rw [MakeChecks.laidMetH_plain _ _ _ (by kernel_rfl)]; exact laidMet_laidAll _ (by kernel_rfl) (by kernel_rfl))) ?_
  intro W base args ds gs before hval0 hW hcnd _ hL _
  have hval : ∀ (j : Nat) t v, Tryd.f4.params[j]? = some t → args[j]? = some v → Value.okWide Tryd.prog W .any base t v := hval0
  have hW' := hW
  obtain ⟨p, q, hA0, hV, rfl, hfz, hnd⟩ := hW
  have hA : DataW.TrodAll enc Tryd.prog W 0 (fun _ => true) true Tryd.f4.params.toList args.toList ds p := hA0
  rw [Tryd.params4] at hA hval
  obtain ⟨v0, vs0, d0, ds0, p0, q0, hargs, rfl, rfl, h0, r0⟩ := trodAll_cons hA
  obtain ⟨rfl, rfl, rfl⟩ := trodAll_nil r0
  obtain rfl : args = #[v0] := by cases args; simp_all
  obtain ⟨rfl, rfl⟩ := trodVars_none hV
  obtain ⟨a0, n0, c0, rfl⟩ := okWide_slice Tryd.underlying29 (hval 0 29 v0 rfl rfl)
  have k0 := h0
  have lt0 : ∀ x ∈ p0, x.block < W.heap.size := by obtain ⟨m, hm⟩ := k0; exact DataW.trod_lt m _ _ _ hm
  obtain ⟨z0, e0, lc0, cm0, rd0, wf0⟩ := open_rd_int Tryd.underlying29 Tryd.underlying5 (by kernel_rfl) h0
  clear hA0 hval0
  refine (walk_FnSettingsText (w := W) z0 a0 n0 c0 e0 lc0 cm0 rd0 (fun x hx => wf_u8 (wf0 x hx))).mono fun e W' ⟨he, bel⟩ => ?_
  subst he
  exact ⟨_, rfl, _, _, _, [], _, [], hW', trodAll_mk1 (shut_bool Tryd.underlying4 _), (trodAll_cons_mk (Below.trod laidOut (by kernel_rfl) (of_decide_eq_true (by kernel_rfl)) k0 bel lt0) trodAll_mk0), rfl, bel.frame _, fun h => by cases h⟩
theorem closed : joinedFacts Tryd.prog 4 Tryd.f4 Rows.fnSettingsTextSpec Rows.fnSettingsTextRow = true := by kernel_rfl
theorem over : Rows.fnSettingsTextRow.holds Tryd.pinned (OpenSpec.ofChange Rows.fnSettingsTextSpec) :=
  OpenClaim.holds_of_wide 4 Tryd.f4 rfl rfl rfl rfl rfl rfl rfl ⟨rfl, rfl, rfl, rfl, rfl⟩ rfl rfl rfl rfl rfl (by kernel_rfl) Tryd.func4 closed
    (of_decide_eq_true (by kernel_rfl)) (by unfold Func.isWrapper; first | (rw [if_pos (by decide +kernel)]; kernel_rfl) | (rw [if_neg (by decide +kernel)]; exact ⟨rfl, rfl⟩))
    (fun os started H enc _ => lifted os started H enc)
/-- THE STATEMENT: the tied card. -/
theorem proved : Rows.FnSettingsTextCardSaid :=
  Claim7.holds_tied_plain_at .later [] [.data, .data, .data] true (true, "1746d617ea578d28f593b839795a868390241190724b0a501b3599ab15e98489") true over (fun _ h => by cases h) (by kernel_rfl) (fun _ h => by cases h) fnSettingsText_row_tie rfl ⟨rfl, rfl⟩ (by kernel_rfl) rfl
    (fun f fn hf hfn => by
      obtain rfl : f = 4 := Option.some.inj ((show Tryd.prog.funcNamed "loop.example/connectionpool/laws.FnSettingsText" = some 4 by kernel_rfl).symm.trans hf) |>.symm
      obtain rfl : fn = Tryd.f4 := (Option.some.inj (Tryd.func4.symm.trans hfn)).symm
      exact ⟨by kernel_rfl, fun j t ht => by
        rw [Tryd.params4] at ht
        have hm : t ∈ [29] := by simpa using Array.mem_of_getElem? ht
        have hall : ([29].all fun u => !Tryd.prog.wantsStandIn u) = true := by kernel_rfl
        exact (show Tryd.prog.wantsStandIn t = false by simpa using List.all_eq_true.1 hall t hm)⟩)
    (by kernel_rfl)
end fnSettingsText
end Go.Proofs.YtmphjojhfmikeaaDoor
