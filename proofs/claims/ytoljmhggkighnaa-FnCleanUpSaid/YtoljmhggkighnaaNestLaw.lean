/- Contracts of the laws' own functions on nests, and of CleanUp. -/
import Derived.Test.YtoljmhggkighnaaNestA
import Derived.Test.YtoljmhggkighnaaMark
set_option linter.unusedVariables false
set_option linter.unusedSimpArgs false
set_option linter.unnecessarySimpa false
namespace Go.Proofs.Ytoljmhggkighnaa
open Go.RowKit

theorem Blk.new_at' (w : World) {g : Nat} (hg : g = w.heap.size) (t : TypeId) (cs : Array Value) : Blk (w.alloc (.cells cs t)) g t cs := by subst hg; exact Blk.new w t cs
/-- A state of a nest in new memory; what was there is as it was. -/
def RetNest (d k : Int) (ms : List Int) (b : Bool) (w : World) (e : Ending) (w' : World) : Prop :=
  ∃ A c, e = .returned (.agg #[.int .i64 d, .int .i64 k, .slice A ms.length c, .bool b]) ∧ Row w' w.heap.size 3 1 A ms.length c (ms.map (.int .i64)) ∧ Below w.heap.size w w'
set_option maxRecDepth 100000 in
set_option maxHeartbeats 2000000 in
theorem toNest_c (d k : Int) (ms : List Int) (b : Bool) (A : Option Addr) (n c : Nat) (w : World) (hN : ms.length = n) (h : Rd w A (ms.map (.int .i64))) (hn : n ≤ 1073741824) :
    Calls Try.prog 14 #[.agg #[.int .i64 d, .int .i64 k, .slice A n c, .bool b]] w (RetNest d k ms b w) := by
  have HC := Lib.hid (fun W => toInts_c ms A n c W hN)
  have H := Lib.hid h; clear h
  have HN := Lib.hid hN; clear hN
  go_enter Try.func14, Try.ntmps14
  go_wp2_with fail
  refine (HC.out _ ?q (by omega)).mono ?_
  case q => repeat (first | (with_reducible refine Rd.alloc ?_ _) | (with_reducible exact H.out))
  rintro e w1 ⟨A1, c1, rfl, o1, b1⟩
  have bi := Blk.below (((Blk.new w 24 #[.int .i64 d, .int .i64 k, .slice A n c, .bool b]).alloc (.cells #[.int .i64 0, .int .i64 0, .slice none 0 0, .bool false] 27)).alloc (.cells #[.int .i64 d, .int .i64 k, .slice none 0 0, .bool false] 27)) b1 (by simp <;> omega)
  have br := Blk.below ((Blk.new_at' (w.alloc (.cells #[.int .i64 d, .int .i64 k, .slice A n c, .bool b] 24)) (g := w.heap.size + 1) (by simp) 27 #[.int .i64 0, .int .i64 0, .slice none 0 0, .bool false]).alloc (.cells #[.int .i64 d, .int .i64 k, .slice none 0 0, .bool false] 27)) b1 (by simp <;> omega)
  have bo := Blk.below (Blk.new_at' ((w.alloc (.cells #[.int .i64 d, .int .i64 k, .slice A n c, .bool b] 24)).alloc (.cells #[.int .i64 0, .int .i64 0, .slice none 0 0, .bool false] 27)) (g := w.heap.size + 1 + 1) (by simp) 27 #[.int .i64 d, .int .i64 k, .slice none 0 0, .bool false]) b1 (by simp <;> omega)
  have bel1 : Below w.heap.size w w1 := ((((Below.refl _ _).alloc (Nat.le_refl _) _).alloc (by simp) _).alloc (by simp <;> omega) _).trans (b1.mono (by simp <;> omega))
  have row1 : Row w1 (w.heap.size + 3) 3 1 A1 ms.length c1 (ms.map (.int .i64)) := (Row.of_own o1).mono (by simp <;> omega)
  have BEL1 := Lib.hid bel1; have ROW1 := Lib.hid row1
  obtain ⟨i0c, i1c, i2c, i3c, ifz⟩ := blk4 bi
  obtain ⟨r0c, r1c, r2c, r3c, rfz⟩ := blk4 br
  obtain ⟨o0c, o1c, o2c, o3c, ofz⟩ := blk4 bo
  clear bi br bo b1 bel1 row1 o1
  go_wp2_with fail
  refine bodyPost_ret (v := .agg #[.int .i64 d, .int .i64 k, .slice A1 ms.length c1, .bool b]) (by simp [results, Try.results14, go_sem, i0c, i1c, i2c, i3c, ifz, r0c, r1c, r2c, r3c, rfz, o0c, o1c, o2c, o3c, ofz]) rfl ?_
  refine ⟨A1, c1, rfl, ?_, ?_⟩
  · refine Row.mono (B := w.heap.size + 3) ?_ (by omega)
    repeat (with_reducible refine Row.setFar ?_ (by simp <;> omega) _)
    exact ROW1.out
  · repeat (with_reducible refine Below.setCell ?_ (by simp <;> omega) _)
    exact BEL1.out
set_option maxHeartbeats 400000 in
theorem szInts_c (A : Option Addr) (n c : Nat) (w : World) (hn : n ≤ 9223372036854775807) :
    Calls Try.prog 31 #[.slice A n c, .int .i64 1048576] w fun e w' => e = .returned (.int .i64 (if 1048576 < n then -1 else 1048576 - (n : Int))) ∧ w = w' := by
  by_cases h : 1048576 < n
  · rw [if_pos h]
    go_enter Try.func31, Try.ntmps31
    go_wp2_with fail
    go_ret
    exact ⟨rfl, rfl⟩
  · rw [if_neg h]
    go_enter Try.func31, Try.ntmps31
    go_wp2_with fail
    go_ret
    exact ⟨rfl, rfl⟩
set_option maxHeartbeats 400000 in
theorem szNest_c (d k : Int) (b : Bool) (A : Option Addr) (n c : Nat) (w : World) (hn : n ≤ 9223372036854775807) :
    Calls Try.prog 12 #[.agg #[.int .i64 d, .int .i64 k, .slice A n c, .bool b], .int .i64 1048576] w fun e w' => e = .returned (.int .i64 (if 1048576 < n then -1 else 1048576 - (n : Int))) ∧ Below w.heap.size w w' := by
  by_cases h : 1048576 < n
  · rw [if_pos h]
    go_enter Try.func12, Try.ntmps12
    go_wp2_with fail
    refine (szInts_c A n c _ hn).mono ?_
    rw [if_pos h]
    rintro e w1 ⟨rfl, rfl⟩
    go_wp2_with fail
    go_ret
    exact ⟨rfl, (Below.refl _ _).alloc (Nat.le_refl _) _⟩
  · rw [if_neg h]
    obtain ⟨v, hv⟩ : ∃ v, v = 1048576 - (n : Int) := ⟨_, rfl⟩
    have hv0 : 0 ≤ v := by omega
    have HV := Lib.hid (show (if 1048576 < n then -1 else 1048576 - (n : Int)) = v by rw [if_neg h, hv])
    rw [← hv]
    clear hv
    go_enter Try.func12, Try.ntmps12
    go_wp2_with fail
    refine (szInts_c A n c _ hn).mono ?_
    rw [HV.out]
    rintro e w1 ⟨rfl, rfl⟩
    go_wp2_with fail
    go_ret
    exact ⟨rfl, (Below.refl _ _).alloc (Nat.le_refl _) _⟩
set_option maxRecDepth 100000 in
set_option maxHeartbeats 1000000 in
theorem eqNest_c (d k : Int) (zs : List Int) (b : Bool) (A A' : Option Addr) (n c c' : Nat) (w : World) (hN : zs.length = n) (h : Rd w A (zs.map (Value.int .i64))) (h' : Rd w A' (zs.map (Value.int .i64))) (hn : n ≤ 1099511627776) :
    Calls Try.prog 16 #[.agg #[.int .i64 d, .int .i64 k, .slice A n c, .bool b], .agg #[.int .i64 d, .int .i64 k, .slice A' n c', .bool b]] w fun e w' => e = .returned (.bool true) ∧ Below w.heap.size w w' := by
  have H := Lib.hid h; have H' := Lib.hid h'; have HN := Lib.hid hN
  clear h h' hN
  go_enter Try.func16, Try.ntmps16
  go_wp2_with fail
  refine (eqInts_c zs zs A A' n n c c' _ HN.out HN.out ((H.out.alloc _).alloc _) ((H'.out.alloc _).alloc _) hn hn).mono ?_
  rw [decide_eq_true rfl]
  rintro e w1 ⟨rfl, m, rfl⟩
  go_wp2_with fail
  go_ret
  exact ⟨by first | rfl | trivial, below_drewN (((Below.refl _ _).alloc (Nat.le_refl _) _).alloc (by simp) _) _⟩
set_option maxRecDepth 100000 in
set_option maxHeartbeats 1000000 in
theorem equalNest_c (d k : Int) (zs : List Int) (b : Bool) (A A' : Option Addr) (n c c' : Nat) (w : World) (hN : zs.length = n) (h : Rd w A (zs.map (Value.int .i64))) (h' : Rd w A' (zs.map (Value.int .i64))) (hn : n ≤ 1099511627776) :
    Calls Try.prog 30 #[.agg #[.int .i64 d, .int .i64 k, .slice A n c, .bool b], .agg #[.int .i64 d, .int .i64 k, .slice A' n c', .bool b]] w fun e w' => e = .returned (.bool true) ∧ Below w.heap.size w w' := by
  have H := Lib.hid h; have H' := Lib.hid h'; have HN := Lib.hid hN
  clear h h' hN
  go_enter Try.func30, Try.ntmps30
  go_wp2_with fail
  refine (equalInts_c zs zs A A' n n c c' _ HN.out HN.out ((H.out.alloc _).alloc _) ((H'.out.alloc _).alloc _) hn hn).mono ?_
  rw [decide_eq_true rfl]
  rintro e w1 ⟨rfl, m, rfl⟩
  go_wp2_with fail
  go_ret
  exact ⟨by first | rfl | trivial, below_drewN (((Below.refl _ _).alloc (Nat.le_refl _) _).alloc (by simp) _) _⟩
/-- The marks are marked; nothing else that was there has turned. -/
def RetMarkN (B : Nat) (k0 : Nat) (A : Option Addr) (n c : Nat) (w : World) (e : Ending) (w' : World) : Prop :=
  e = .returned (.int .i64 (k0 + n : Nat)) ∧ Row w' B 3 1 A n c ((runFrom k0 n).map (Value.int .i64)) ∧ w.grownBy w' (rb A c)
set_option maxHeartbeats 400000 in
theorem markN_c (B : Nat) (d k : Int) (zs : List Int) (b : Bool) (k0 : Nat) (A : Option Addr) (n c : Nat) (w : World) (hN : zs.length = n) (h : Row w B 3 1 A n c (zs.map (Value.int .i64))) (hn : n ≤ 1099511627776) (hk0 : k0 ≤ 1099511627776) :
    Calls Try.prog 21 #[.agg #[.int .i64 d, .int .i64 k, .slice A n c, .bool b], .int .i64 k0] w (RetMarkN B k0 A n c w) := by
  have H := Lib.hid h; clear h
  have HN := Lib.hid hN; clear hN
  go_enter Try.func21, Try.ntmps21
  go_wp2_with fail
  refine (markR_c B zs k0 A n c _ HN.out (H.out.alloc _) hn hk0).mono ?_
  rintro e w1 ⟨rfl, row1, g1⟩
  go_wp2_with fail
  go_ret
  exact ⟨rfl, row1, only_trans (World.grownBy_alloc w _ _) g1⟩
set_option maxHeartbeats 400000 in
theorem heldN_c (k0 : Nat) (d k : Int) (b : Bool) (A : Option Addr) (n c : Nat) (w : World) (h : Rd w A ((runFrom k0 n).map (Value.int .i64))) (hn : n ≤ 1099511627776) (hk0 : k0 ≤ 1099511627776) :
    Calls Try.prog 28 #[.agg #[.int .i64 d, .int .i64 k, .slice A n c, .bool b], .int .i64 k0] w fun e w' => e = .returned (.int .i64 (k0 + n : Nat)) ∧ Below w.heap.size w w' := by
  have H := Lib.hid h; clear h
  go_enter Try.func28, Try.ntmps28
  go_wp2_with fail
  refine (heldInts_c k0 A n c _ (H.out.alloc _) hn hk0).mono ?_
  rintro e w1 ⟨rfl, rfl⟩
  go_wp2_with fail
  go_ret
  exact ⟨rfl, (Below.refl _ _).alloc (Nat.le_refl _) _⟩
def cleanV (d k : Int) (ms : List Int) (b : Bool) : List Int := if validN d k ms b = true then List.replicate ms.length 4 else []
set_option maxRecDepth 100000 in
set_option maxHeartbeats 2000000 in
theorem cleanUp_c (d k : Int) (ms : List Int) (b : Bool) (A : Option Addr) (n c : Nat) (w : World) (hN : ms.length = n) (h : Rd w A (ms.map (.int .i64))) (hn : n ≤ 1073741824) :
    Calls Try.prog 19 #[.agg #[.int .i64 d, .int .i64 k, .slice A n c, .bool b]] w (RetInts (cleanV d k ms b) w) := by
  obtain ⟨i0, hi, hz0, hz1, hz2⟩ := info_parts intInfo
  have HV := Lib.hid (fun W hR => validNest_c d k ms b A n c W hN hR hn)
  obtain ⟨v, hv⟩ : ∃ v, v = validN d k ms b := ⟨_, rfl⟩
  rw [← hv] at HV
  have H := Lib.hid h; clear h
  cases v
  · have hc : cleanV d k ms b = [] := by unfold cleanV; rw [← hv]; rfl
    rw [hc]
    clear hc hv
    go_enter Try.func19, Try.ntmps19
    go_wp2_with fail
    refine (HV.out _ (H.out.alloc _)).mono ?_
    rintro e w1 ⟨rfl, b1⟩
    go_wp2_with fail
    go_ret
    exact ⟨none, 0, rfl, World.ownsRow_nil _ _ _ _, ((Below.refl _ _).alloc (Nat.le_refl _) _).trans (b1.mono (by simp))⟩
  · obtain ⟨hd, hs⟩ := (validN_iff d k ms b).1 hv.symm
    rw [St.ok_iff] at hs
    have hl4 : ms.length ≤ 4 := hs.1
    have hc : cleanV d k ms b = List.replicate ms.length 4 := by unfold cleanV; rw [← hv]; rfl
    rw [hc]
    rw [hN] at hd hl4 ⊢
    subst hd
    clear hc hv hs
    go_enter Try.func19, Try.ntmps19
    go_wp2_with fail
    refine (HV.out _ (H.out.alloc _)).mono ?_
    rintro e w1 ⟨rfl, b1⟩
    have bi := (Blk.new w 27 #[.int .i64 (n : Int), .int .i64 k, .slice A n c, .bool b]).below b1 (by simp)
    obtain ⟨i0c, i1c, i2c, i3c, ifz⟩ := blk4 bi
    have bel1 : Below w.heap.size w w1 := ((Below.refl _ _).alloc (Nat.le_refl _) _).trans (b1.mono (by simp))
    have hs1 := bel1.size
    clear bi b1
    go_wp2_with (at_make; refine wpList_make_full _ rfl (.tmp 9) (.tmp 9) 22 rfl w.heap.size 3 i0 (.int .i64 0) 1 Try.underlying22 hi hz0 hz1 .i64 .i64 n n n rfl rfl rfl rfl ?b2 ?b3 ?b4 ?_)
    case b2 => rw [hz2]; omega
    case b3 => unfold maxLen; omega
    case b4 => exact hs1
    intro w2 hown2 hg2
    have own2 : w2.ownsRow w.heap.size 3 1 (.slice (some ⟨w1.heap.size, 0, none⟩) n n) n ((List.replicate 0 (4 : Int) ++ List.replicate (n - 0) 0).map (.int .i64)) := by
      have e : ((List.replicate 0 (4 : Int) ++ List.replicate (n - 0) 0).map (Value.int .i64)) = (madeCells #[Value.int .i64 0] n).toList := by
        rw [toList_madeCells_one]; simp
      rw [e]; exact hown2
    have bel2 : Below w.heap.size w w2 := bel1.grown hg2 hs1 (fun k hk => by cases hk)
    clear hown2 hg2 bel1 i0c i1c i2c i3c ifz
    go_wp2_with fail
    go_loopw [13] (fun i wr => ∃ j : Nat, j ≤ n ∧ i = .int .i64 j ∧ wr.ownsRow w.heap.size 3 1 (.slice (some ⟨w1.heap.size, 0, none⟩) n n) n ((List.replicate j (4 : Int) ++ List.replicate (n - j) 0).map (.int .i64)) ∧ Below w.heap.size w wr) (fun i _ => n - (intOf i).toNat)
    case atStart => exact ⟨0, Nat.zero_le _, rfl, own2, bel2⟩
    case round =>
      clear own2 bel2
      obtain ⟨j, hj, rfl, own, bel⟩ := hrel
      by_cases hlt : j < n
      · have ho : wr.cell? ⟨w1.heap.size, j, none⟩ = some (.int .i64 0) := by
          rw [own.cellAt j (by omega)]
          rw [List.getElem?_map, List.getElem?_append_right (by simp), List.length_replicate, List.getElem?_replicate, if_pos (by omega)]
          rfl
        have hfr : wr.frozen? ⟨w1.heap.size, j, none⟩ = false := own.frozenAt j
        have fin : (wr.setCell ⟨w1.heap.size, j, none⟩ (.int .i64 4)).ownsRow w.heap.size 3 1 (.slice (some ⟨w1.heap.size, 0, none⟩) n n) n ((List.replicate (j + 1) (4 : Int) ++ List.replicate (n - (j + 1)) 0).map (.int .i64)) ∧ Below w.heap.size w (wr.setCell ⟨w1.heap.size, j, none⟩ (.int .i64 4)) := by
          refine ⟨?_, bel.setCell hs1 _⟩
          have h1 := (own.stored j (.int .i64 4)).1
          have e : ((List.replicate j (4 : Int) ++ List.replicate (n - j) 0).map (Value.int .i64)).set j (.int .i64 4) = ((List.replicate (j + 1) (4 : Int) ++ List.replicate (n - (j + 1)) 0).map (.int .i64)) := by
            rw [show n - j = (n - (j + 1)) + 1 by omega, List.replicate_succ, List.replicate_succ']
            simp
          rw [e] at h1
          exact h1
        have FIN := Lib.hid fin
        clear fin own bel
        go_wp2
        go_roundw
        case rel => exact ⟨j + 1, by omega, by go_num, FIN.out⟩
        case measure => simp [intOf]; omega
      · obtain rfl : j = n := by omega
        have fin : RetInts (List.replicate j 4) w (.returned (.slice (some ⟨w1.heap.size, 0, none⟩) j j)) wr := by
          refine ⟨_, j, by rw [List.length_replicate], ?_, bel⟩
          rw [List.length_replicate]
          simpa using own
        have FIN := Lib.hid fin
        clear fin own bel
        go_wp2
        go_ret
        exact FIN.out
set_option maxRecDepth 100000 in
set_option maxHeartbeats 2000000 in
theorem sCleanUp_c (d k : Int) (ms : List Int) (b : Bool) (A : Option Addr) (n c : Nat) (w : World) (hN : ms.length = n) (h : Rd w A (ms.map (.int .i64))) (hn : n ≤ 1073741824) :
    Calls Try.prog 18 #[.agg #[.int .i64 d, .int .i64 k, .slice A n c, .bool b]] w (RetInts (cleanV d k ms b) w) := by
  obtain ⟨i0, i0_i, i0_z0, i0_z1, i0_z2⟩ := info_parts intInfo
  have HV := Lib.hid (fun W hR => validState_c d k ms b A n c W hN hR hn)
  obtain ⟨v, hv⟩ : ∃ v, v = validN d k ms b := ⟨_, rfl⟩
  rw [← hv] at HV
  have H := Lib.hid h; clear h
  cases v
  · have hc : cleanV d k ms b = [] := by unfold cleanV; rw [← hv]; rfl
    rw [hc]
    clear hc hv
    go_enter Try.func18, Try.ntmps18
    go_wp2_with fail
    refine (HV.out _ ((H.out.alloc _).alloc _)).mono ?_
    rintro e w1 ⟨rfl, b1⟩
    go_wp2_with fail
    go_ret
    exact ⟨none, 0, rfl, World.ownsRow_nil _ _ _ _, (((Below.refl _ _).alloc (Nat.le_refl _) _).alloc (by simp) _).trans (b1.mono (by simp <;> omega))⟩
  · obtain ⟨hd, hs⟩ := (validN_iff d k ms b).1 hv.symm
    rw [St.ok_iff] at hs
    have hl4 : ms.length ≤ 4 := hs.1
    have hc : cleanV d k ms b = List.replicate ms.length 4 := by unfold cleanV; rw [← hv]; rfl
    rw [hc]
    rw [hN] at hd hl4 ⊢
    subst hd
    clear hc hv hs
    go_enter Try.func18, Try.ntmps18
    go_wp2_with fail
    refine (HV.out _ ((H.out.alloc _).alloc _)).mono ?_
    rintro e w1 ⟨rfl, b1⟩
    have bi := ((Blk.new w 27 #[.int .i64 (n : Int), .int .i64 k, .slice A n c, .bool b]).alloc (.cells #[] 3)).below b1 (by simp <;> omega)
    have BI := Lib.hid bi
    have bel1 : Below w.heap.size w w1 := (((Below.refl _ _).alloc (Nat.le_refl _) _).alloc (by simp) _).trans (b1.mono (by simp <;> omega))
    have own1 : w1.ownsRow (w.heap.size + 1) 3 1 (.slice (some ⟨w.heap.size + 1, 0, none⟩) 0 0) 0 [] := by
      have := own_below (World.ownsRow_lit (base := w.heap.size + 1) (e := 3) (size := 1) (w.alloc (.cells #[.int .i64 (n : Int), .int .i64 k, .slice A n c, .bool b] 27)) #[] 0 (by simp) (by simp [maxLen]) rfl) b1
      simpa using this
    have hs1 : w.heap.size + 1 ≤ w1.heap.size := by have := b1.size; simp at this; omega
    obtain ⟨i0c, i1c, i2c, i3c, ifz⟩ := blk4 bi
    clear bi b1
    go_wp2_with fail
    go_loopw [3, 4] (fun v i wr => ∃ (j : Nat) (A2 : Option Addr) (c2 : Nat), j ≤ n ∧ i = .int .i64 j ∧ v = .slice A2 j c2 ∧ wr.ownsRow (w.heap.size + 1) 3 1 (.slice A2 j c2) j ((List.replicate j (4 : Int)).map (.int .i64)) ∧ Below w.heap.size w wr ∧ w1.heap.size ≤ wr.heap.size ∧ Blk wr w.heap.size 27 #[.int .i64 (n : Int), .int .i64 k, .slice A n c, .bool b]) (fun _ i _ => n - (intOf i).toNat)
    case atStart => exact ⟨0, _, _, Nat.zero_le _, rfl, rfl, own1, bel1, Nat.le_refl _, BI.out⟩
    case round =>
      clear own1 bel1 i0c i1c i2c i3c ifz BI
      obtain ⟨j, A2, c2, hj, rfl, rfl, own, bel, hsz, bi⟩ := hrel
      obtain ⟨i0c, i1c, i2c, i3c, ifz⟩ := blk4 bi
      have BI := Lib.hid bi
      clear bi
      by_cases hlt : j < n
      · go_wp2_with (at_builtin; (refine wpList_append_any _ rfl (.tmp 15) (.tmp 16) 22 rfl (w.heap.size + 1) 3 i0 (.int .i64 0) 8 Try.underlying22 i0_i i0_z0 i0_z1 i0_z2 rfl (.slice A2 j c2) (j) ((List.replicate j (4 : Int)).map (.int .i64)) rfl (own.alloc _) (some ⟨wr.heap.size, 0, none⟩) (1) (1) ([.int .i64 4]) rfl rfl (Rd.one (cell_new _ _ _ 0)) (one1 _ rfl) (by unfold maxLen; omega) (by omega) (by simp <;> omega) ?_))
        intro A3 c3 w3 own3 hg3 _
        have hlt3 := own.lt
        have bel3 : Below w.heap.size w w3 := (bel.alloc (by omega) _).grown hg3 (by simp <;> omega) (fun y hy => by have := (hlt3 y hy).1; omega)
        have bi3 : Blk w3 w.heap.size 27 #[.int .i64 (n : Int), .int .i64 k, .slice A n c, .bool b] := (BI.out.alloc (.cells #[.int .i64 4] 3)).grown hg3 (fun e => by have := (hlt3 _ e.symm).1; omega)
        have hs3 : w1.heap.size ≤ w3.heap.size := by have := hg3.size; simp at this; omega
        have own3' : w3.ownsRow (w.heap.size + 1) 3 1 (.slice A3 (j + 1) c3) (j + 1) ((List.replicate (j + 1) (4 : Int)).map (.int .i64)) := by
          rw [List.replicate_succ']; simpa using own3
        clear own3 hg3 own bel hlt3 i0c i1c i2c i3c ifz BI
        go_wp2
        go_roundw
        case rel => exact ⟨j + 1, A3, c3, by omega, by go_num, rfl, own3', bel3, hs3, bi3⟩
        case measure => simp [intOf]; omega
      · obtain rfl : j = n := by omega
        have fin : RetInts (List.replicate j 4) w (.returned (.slice A2 j c2)) wr := by
          refine ⟨A2, c2, by rw [List.length_replicate], ?_, bel⟩
          rw [List.length_replicate]
          exact own_mono own (by omega)
        have FIN := Lib.hid fin
        clear fin own bel
        go_wp2
        go_ret
        exact FIN.out
end Go.Proofs.Ytoljmhggkighnaa
