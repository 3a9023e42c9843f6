/- The reference reads numbers and cuts texts. -/
import Derived.Test.YtnmgnhpagnjhlaaGreatDoorSplitG
set_option linter.unusedVariables false
set_option linter.unusedSimpArgs false
set_option linter.unnecessarySimpa false
namespace Go.Proofs.YtnmgnhpagnjhlaaGreatDoor
open Go.RowKit

theorem bsof_data (s : ByteArray) : bsof s.data.toList = s := by
  apply ByteArray.ext
  simp [bsof]
theorem ne_bs {a b : ByteArray} (h : ¬ a = b) : (a.toList == b.toList) = false := by
  rw [ByteArray.toList_eq, ByteArray.toList_eq]
  refine beq_eq_false_iff_ne.2 fun e => h ?_
  rw [← bsof_data a, ← bsof_data b, e]
theorem data_bsof (l : List UInt8) : (bsof l).data.toList = l := rfl
theorem valB_snoc (l : List UInt8) (b : UInt8) : valB (l ++ [b]) = 10 * valB l + (b.toNat - 48) := by simp [valB]
theorem digitsB_snoc (l : List UInt8) (b : UInt8) : digitsB (l ++ [b]) = (digitsB l && decide (48 ≤ b.toNat ∧ b.toNat ≤ 57)) := by simp [digitsB]
theorem valB_lt : ∀ (k : Nat) (l : List UInt8), digitsB l = true → l.length = k → valB l < 10 ^ k
  | 0, l, _, hl => by
    have : l = [] := List.eq_nil_of_length_eq_zero hl
    subst this
    simp [valB]
  | k + 1, l, h, hl => by
    have hne : l ≠ [] := by intro e; rw [e] at hl; simp at hl
    have e := (List.dropLast_concat_getLast hne).symm
    rw [e] at h ⊢
    rw [digitsB_snoc, Bool.and_eq_true, decide_eq_true_eq] at h
    have := valB_lt k l.dropLast h.1 (by rw [List.length_dropLast]; omega)
    rw [valB_snoc, Nat.pow_succ]
    omega
theorem digitsB_false (l : List UInt8) (j : Nat) (h : digitsB (l.take j) = false) : digitsB l = false := by
  cases hd : digitsB l with
  | false => rfl
  | true =>
    unfold digitsB at h hd
    rw [List.all_eq_true] at hd
    have : (l.take j).all (fun b => decide (48 ≤ b.toNat ∧ b.toNat ≤ 57)) = true := List.all_eq_true.2 fun x hx => hd x (List.mem_of_mem_take hx)
    rw [this] at h; cases h
set_option maxRecDepth 100000 in
set_option maxHeartbeats 2000000 in
theorem parseInt_c (s : ByteArray) (w : World) (hs : s.size ≤ 1073741824) :
    Calls Tryz.prog 47 #[.string s] w fun e w' => e = .returned (.int .i64 (pI s.data.toList)) ∧ Below w.heap.size w w' := by
  obtain ⟨r, hr⟩ : ∃ r, r = pI s.data.toList := ⟨_, rfl⟩
  rw [← hr]
  have hlen : s.data.toList.length = s.size := by rw [Array.length_toList]; rfl
  have HR := Lib.hid hr; have HLEN := Lib.hid hlen
  clear hr hlen
  by_cases h0 : 1 ≤ s.size ∧ s.size ≤ 4
  · obtain ⟨h1, h4⟩ := h0
    have e0 : ((s.size : Int) == 0) = false := beq_eq_false_iff_ne.2 (by omega)
    have e4 : decide ((4 : Int) < (s.size : Int)) = false := decide_eq_false (by omega)
    have e4' : decide (4 < s.size) = false := decide_eq_false (by omega)
    have e0' : ¬ s.size = 0 := by omega
    go_enter Tryz.func47, Tryz.ntmps47
    go_wp2_with fail
    go_loopw [3, 4] (fun n i wr => ∃ j : Nat, j ≤ s.size ∧ i = .int .i64 j ∧ n = .int .i64 (valB (s.data.toList.take j) : Nat) ∧ digitsB (s.data.toList.take j) = true ∧ wr = w) (fun _ i _ => s.size - (intOf i).toNat)
    case atStart => exact ⟨0, Nat.zero_le _, rfl, rfl, rfl, rfl⟩
    case round =>
      obtain ⟨j, hj, rfl, rfl, hd, rfl⟩ := hrel
      have hv := valB_lt _ _ hd rfl
      have HD := Lib.hid hd
      obtain ⟨v, hvv⟩ : ∃ v, v = valB (s.data.toList.take j) := ⟨_, rfl⟩
      rw [← hvv] at hv
      rw [← hvv]
      by_cases hlt : j < s.size
      · have hlt' : j < s.data.toList.length := by have := HLEN.out; omega
        obtain ⟨z, hz⟩ : ∃ z, z = (s[j]).toNat := ⟨_, rfl⟩
        have hzz := hz.symm
        have hz255 : z ≤ 255 := by rw [hz]; have := (s[j]).toNat_lt; omega
        have hsn : s.data.toList.take (j + 1) = s.data.toList.take j ++ [s[j]] := take_snoc _ j hlt'
        have hdn : digitsB (s.data.toList.take (j + 1)) = decide (48 ≤ z ∧ z ≤ 57) := by rw [hsn, digitsB_snoc, hd, ← hz]; rfl
        have hvn : valB (s.data.toList.take (j + 1)) = 10 * v + (z - 48) := by rw [hsn, valB_snoc, ← hvv, ← hz]
        have hv3 : v < 1000 := by
          have hl : (s.data.toList.take j).length ≤ 3 := by rw [List.length_take]; omega
          have := Nat.pow_le_pow_right (n := 10) (by omega) hl
          omega
        have HDN := Lib.hid hdn; have HVN := Lib.hid hvn
        clear hd hvv hz hsn hdn hvn hv
        by_cases hin : 48 ≤ z ∧ z ≤ 57
        · have hcall : ∀ W : World, Calls Tryz.prog 73 #[.int .i64 z, .int .i64 48, .int .i64 57] W fun e w' => e = .returned (.bool true) ∧ W = w' := fun W => by
            have := inRange_c z 48 57 W
            rw [decide_eq_true (by omega)] at this
            exact this
          have HC := Lib.hid hcall; have HIN := Lib.hid hin
          obtain ⟨i1, i2⟩ := hin
          clear hcall
          go_wp2_with fail
          refine (HC.out _).mono ?_
          rintro e w1 ⟨rfl, rfl⟩
          have hw1 : IntKind.i64.wrap (10 * (v : Int)) = 10 * (v : Int) := IntWalk.i64_in _ ⟨by omega, by omega⟩
          have hw2 : IntKind.i64.wrap (10 * (v : Int) + (z : Int)) = 10 * (v : Int) + (z : Int) := IntWalk.i64_in _ ⟨by omega, by omega⟩
          have hw3 : IntKind.i64.wrap (10 * (v : Int) + (z : Int) - 48) = 10 * (v : Int) + (z : Int) - 48 := IntWalk.i64_in _ ⟨by omega, by omega⟩
          go_wp2_with fail
          go_roundw
          case rel => exact ⟨j + 1, by omega, by go_num, by rw [HVN.out]; congr 1; omega, by rw [HDN.out]; exact decide_eq_true HIN.out, by first | rfl | trivial⟩
          case measure => simp [intOf]; omega
        · have hcall : ∀ W : World, Calls Tryz.prog 73 #[.int .i64 z, .int .i64 48, .int .i64 57] W fun e w' => e = .returned (.bool false) ∧ W = w' := fun W => by
            have := inRange_c z 48 57 W
            rw [decide_eq_false (by omega)] at this
            exact this
          have HC := Lib.hid hcall
          have hr' : r = -1 := by
            have : digitsB s.data.toList = false := digitsB_false _ (j + 1) (by rw [HDN.out]; exact decide_eq_false hin)
            rw [HR.out]; unfold pI; rw [this, if_neg (by simp)]
          have HR' := Lib.hid hr'
          clear hcall hin hr'
          go_wp2_with fail
          refine (HC.out _).mono ?_
          rintro e w1 ⟨rfl, rfl⟩
          go_wp2_with fail
          go_ret
          rw [HR'.out]
          exact ⟨rfl, Below.refl _ _⟩
      · obtain rfl : j = s.size := by omega
        have ht : s.data.toList.take s.size = s.data.toList := List.take_of_length_le (by rw [HLEN.out]; exact Nat.le_refl _)
        rw [ht] at hvv hd
        have hv4 : v ≤ 1000000 := by
          have hl : (s.data.toList.take s.size).length ≤ 4 := by rw [List.length_take]; omega
          have := Nat.pow_le_pow_right (n := 10) (by omega) hl
          omega
        have HC := Lib.hid (decimal_c v hv4)
        obtain ⟨D, hD⟩ : ∃ D, D = decB v := ⟨_, rfl⟩
        rw [← hD] at HC
        by_cases hDs : D = s
        · have hr' : r = v := by
            rw [HR.out]; unfold pI
            rw [if_pos ⟨by rw [HLEN.out]; exact h1, by rw [HLEN.out]; exact h4, hd, by rw [← hvv]; show (bsof (Lib.decDigits v)).data.toList = _; rw [show bsof (Lib.decDigits v) = decB v from rfl, ← hD, hDs]⟩, hvv]
          have HR' := Lib.hid hr'
          subst hDs
          clear hr' hD hd hvv ht hv HD
          go_wp2_with fail
          refine (HC.out _).mono ?_
          rintro e w1 ⟨rfl, b1⟩
          go_wp2_with fail
          go_ret
          rw [HR'.out]
          exact ⟨rfl, b1⟩
        · have hr' : r = -1 := by
            rw [HR.out]; unfold pI
            rw [if_neg]
            rintro ⟨_, _, _, h9⟩
            apply hDs
            rw [hD, ← bsof_data s, ← h9, ← hvv]; rfl
          have HR' := Lib.hid hr'
          have HDs := Lib.hid hDs
          clear hr' hD hd hvv ht hv HD
          go_wp2_with fail
          refine (HC.out _).mono ?_
          rintro e w1 ⟨rfl, b1⟩
          have hDs2 := HDs.out
          have hDs3 : (D.toList == s.toList) = false := ne_bs hDs2
          clear hDs2
          go_wp2_with fail
          go_ret
          rw [HR'.out]
          exact ⟨rfl, b1⟩
  · have hr' : r = -1 := by
      rw [HR.out]; unfold pI
      rw [if_neg]
      rintro ⟨h1, h2, _⟩
      rw [HLEN.out] at h1 h2
      exact h0 ⟨h1, h2⟩
    have HR' := Lib.hid hr'
    clear hr'
    rcases Nat.eq_zero_or_pos s.size with h1 | h1
    · have e0 : ((s.size : Int) == 0) = true := by rw [h1]; rfl
      clear h0
      go_enter Tryz.func47, Tryz.ntmps47
      go_wp2_with fail
      go_ret
      rw [HR'.out]
      exact ⟨rfl, Below.refl _ _⟩
    · have e0 : ((s.size : Int) == 0) = false := beq_eq_false_iff_ne.2 (by omega)
      have e4 : decide ((4 : Int) < (s.size : Int)) = true := decide_eq_true (by omega)
      have e4' : decide (4 < s.size) = true := decide_eq_true (by omega)
      have e0' : ¬ s.size = 0 := by omega
      clear h0
      go_enter Tryz.func47, Tryz.ntmps47
      go_wp2_with fail
      go_ret
      rw [HR'.out]
      exact ⟨rfl, Below.refl _ _⟩
theorem piece_bs (s : ByteArray) (a b : Nat) : s.extract a b = bsof ((s.data.toList.drop a).take (b - a)) := by
  rw [← Lib.extract_data, bsof_data]
theorem strs_snoc (ps : List (List UInt8)) (p : List UInt8) : strs (ps ++ [p]) = strs ps ++ [.string (bsof p)] := by simp [strs]
/-- The pieces in new memory. -/
def RetStrs (ps : List (List UInt8)) (w : World) (e : Ending) (w' : World) : Prop :=
  ∃ A c, e = .returned (.slice A ps.length c) ∧ Row w' w.heap.size 9 1 A ps.length c (strs ps) ∧ Below w.heap.size w w'
set_option maxRecDepth 100000 in
set_option maxHeartbeats 4000000 in
theorem splitAt_c (s : ByteArray) (c : UInt8) (k : Int) (hk : (c.toNat : Int) = k) (w : World) (hs : s.size ≤ 1073741824) :
    Calls Tryz.prog 44 #[.string s, .int .u8 k] w (RetStrs (spl c s.data.toList) w) := by
  obtain ⟨i0, i0_i, i0_z0, i0_z1, i0_z2⟩ := info_parts strInfo
  obtain ⟨ps, hps⟩ : ∃ ps, ps = spl c s.data.toList := ⟨_, rfl⟩
  rw [← hps]
  have hlen : s.data.toList.length = s.size := by rw [Array.length_toList]; rfl
  obtain ⟨L, hL⟩ : ∃ L, L = s.data.toList := ⟨_, rfl⟩
  rw [← hL] at hps hlen
  have HP := Lib.hid hps; have HLEN := Lib.hid hlen; have HL := Lib.hid hL; have HK := Lib.hid hk
  clear hps hlen hL hk
  go_enter Tryz.func44, Tryz.ntmps44
  go_wp2_with fail
  go_loopw [5, 6, 7] (fun o f i wr => ∃ (j from_ : Nat) (A2 : Option Addr) (c2 : Nat) (qs : List (List UInt8)), from_ ≤ j ∧ j ≤ s.size ∧ i = .int .i64 j ∧ f = .int .i64 from_ ∧ o = .slice A2 qs.length c2 ∧ Row wr w.heap.size 9 1 A2 qs.length c2 (strs qs) ∧ qs.length ≤ j ∧ ps = qs ++ spl c (L.drop from_) ∧ c ∉ (L.drop from_).take (j - from_) ∧ Below w.heap.size w wr) (fun _ _ i _ => s.size - (intOf i).toNat)
  case atStart => exact ⟨0, 0, _, _, [], Nat.le_refl _, Nat.zero_le _, rfl, rfl, rfl, Row.nil _ _ _ _ _, by simp, by rw [List.drop_zero]; exact HP.out, by simp, (Below.refl _ _).alloc (Nat.le_refl _) _⟩
  case round =>
    obtain ⟨j, f, A2, c2, qs, hf, hj, rfl, rfl, rfl, row, hq, hsp, hfr, hb⟩ := hrel
    have HSP := Lib.hid hsp; have HFR := Lib.hid hfr; have HB := Lib.hid hb; have ROW := Lib.hid row
    have hsz := hb.size
    clear hsp hfr hb row
    by_cases hlt : j < s.size
    · have hlt' : j < L.length := by have := HLEN.out; omega
      obtain ⟨z, hz⟩ : ∃ z, z = (s[j]).toNat := ⟨_, rfl⟩
      have hzz := hz.symm
      have hLj : L[j] = s[j] := by
        have e : ∀ (M : List UInt8) (h : j < M.length), M = s.data.toList → M[j] = s[j] := fun M h e => by subst e; rfl
        exact e L hlt' HL.out
      have htk : (L.drop f).take (j + 1 - f) = (L.drop f).take (j - f) ++ [s[j]] := by
        rw [show j + 1 - f = (j - f) + 1 by omega, take_snoc _ _ (by rw [List.length_drop]; omega), List.getElem_drop]
        congr 2
        rw [← hLj]; congr 1; omega
      have HTK := Lib.hid htk; have HZ := Lib.hid hz; have HLJ := Lib.hid hLj
      clear htk hz hLj
      by_cases hc : s[j] = c
      · have hzk : ((z : Int) == k) = true := by rw [HZ.out, hc, HK.out]; simp
        have hdr : L.drop f = (L.drop f).take (j - f) ++ c :: L.drop (j + 1) := by
          conv => lhs; rw [← List.take_append_drop (j - f) (L.drop f), List.drop_drop, show f + (j - f) = j by omega, List.drop_eq_getElem_cons hlt', HLJ.out, hc]
        have hn : ps = (qs ++ [(L.drop f).take (j - f)]) ++ spl c (L.drop (j + 1)) := by
          rw [HSP.out, List.append_assoc]
          congr 1
          conv => lhs; rw [hdr, spl_hit c _ _ HFR.out]
          rfl
        have hpc : s.extract f j = bsof ((L.drop f).take (j - f)) := by rw [piece_bs, HL.out]
        obtain ⟨X, hX⟩ : ∃ X, X = s.extract f j := ⟨_, rfl⟩
        rw [← hX] at hpc
        have HN := Lib.hid hn; have HPC := Lib.hid hpc
        have hX' := hX.symm
        clear hc hdr hn hpc hX
        go_wp2_with (at_builtin; (refine wpList_append_row _ rfl (.tmp 20) (.tmp 25) 37 rfl w.heap.size 9 i0 (.string ByteArray.empty) 1 16 Tryz.underlying37 i0_i i0_z0 i0_z1 i0_z2 rfl A2 qs.length c2 (strs qs) rfl (ROW.out.alloc _) (some ⟨wr.heap.size, 0, none⟩) 1 1 [.string X] rfl rfl (Rd.one (cell_new _ _ _ 0)) (one1 _ rfl) (by omega) (by unfold maxLen; omega) (by omega) (by simp <;> omega) ?_))
        intro A3 c3 w3 row3 hg3 hat3
        have hb3 : Below w.heap.size w w3 := (HB.out.alloc hsz _).grown hg3 (by simp <;> omega) (fun y hy => (ROW.out.lt y hy).1)
        have row4 : Row w3 w.heap.size 9 1 A3 (qs ++ [(L.drop f).take (j - f)]).length c3 (strs (qs ++ [(L.drop f).take (j - f)])) := by
          rw [strs_snoc, ← HPC.out, List.length_append]; exact row3
        have B3 := Lib.hid hb3; have ROW4 := Lib.hid row4
        clear row3 hg3 hat3 hb3 row4
        go_wp2_with fail
        go_roundw
        case rel => exact ⟨j + 1, j + 1, A3, c3, _, by omega, by omega, by go_num, by go_num, by simp, ROW4.out, by simp; omega, HN.out, by simp, B3.out⟩
        case measure => simp [intOf]; omega
      · have hzk : ((z : Int) == k) = false := by
          refine beq_eq_false_iff_ne.2 fun e => hc (UInt8.toNat_inj.1 ?_)
          have := HK.out
          rw [← HZ.out]
          omega
        have hfr2 : c ∉ (L.drop f).take (j + 1 - f) := by
          rw [HTK.out]
          intro hm
          rcases List.mem_append.1 hm with h | h
          · exact HFR.out h
          · simp only [List.mem_singleton] at h; exact hc h.symm
        have HFR2 := Lib.hid hfr2
        clear hc hfr2
        go_wp2_with fail
        go_roundw
        case rel => exact ⟨j + 1, f, A2, c2, qs, by omega, by omega, by go_num, rfl, rfl, ROW.out, by omega, HSP.out, HFR2.out, HB.out⟩
        case measure => simp [intOf]; omega
    · obtain rfl : j = s.size := by omega
      have hfull : (L.drop f).take (s.size - f) = L.drop f := List.take_of_length_le (by rw [List.length_drop, HLEN.out]; exact Nat.le_refl _)
      have hps2 : ps = qs ++ [L.drop f] := by
        have hfr := HFR.out
        rw [hfull] at hfr
        rw [HSP.out, spl_free c _ hfr]
      have hpc : s.extract f s.size = bsof (L.drop f) := by rw [piece_bs, ← HL.out, hfull]
      obtain ⟨X, hX⟩ : ∃ X, X = s.extract f s.size := ⟨_, rfl⟩
      rw [← hX] at hpc
      have HPS := Lib.hid hps2; have HPC := Lib.hid hpc
      have hX' := hX.symm
      clear hfull hps2 hpc hX
      go_wp2_with (at_builtin; (refine wpList_append_row _ rfl (.tmp 29) (.tmp 33) 37 rfl w.heap.size 9 i0 (.string ByteArray.empty) 1 16 Tryz.underlying37 i0_i i0_z0 i0_z1 i0_z2 rfl A2 qs.length c2 (strs qs) rfl (ROW.out.alloc _) (some ⟨wr.heap.size, 0, none⟩) 1 1 [.string X] rfl rfl (Rd.one (cell_new _ _ _ 0)) (one1 _ rfl) (by omega) (by unfold maxLen; omega) (by omega) (by simp <;> omega) ?_))
      intro A3 c3 w3 row3 hg3 hat3
      have hb3 : Below w.heap.size w w3 := (HB.out.alloc hsz _).grown hg3 (by simp <;> omega) (fun y hy => (ROW.out.lt y hy).1)
      have row4 : Row w3 w.heap.size 9 1 A3 (qs.length + 1) c3 (strs ps) := by
        rw [HPS.out, strs_snoc, ← HPC.out]; exact row3
      have hpl : ps.length = qs.length + 1 := by rw [HPS.out]; simp
      have fin : RetStrs ps w (.returned (.slice A3 (qs.length + 1) c3)) w3 := ⟨A3, c3, by rw [hpl], by rw [hpl]; exact row4, hb3⟩
      have FIN := Lib.hid fin
      clear row3 hg3 hat3 hb3 row4 hpl fin
      go_wp2_with fail
      go_ret
      exact FIN.out
end Go.Proofs.YtnmgnhpagnjhlaaGreatDoor
