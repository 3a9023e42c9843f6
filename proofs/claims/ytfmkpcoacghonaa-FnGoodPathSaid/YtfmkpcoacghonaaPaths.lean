/- Contracts of the functions on checks that make paths. -/
import Derived.Test.YtfmkpcoacghonaaChecks
set_option linter.unusedVariables false
set_option linter.unusedSimpArgs false
namespace Go.Proofs.Ytfmkpcoacghonaa
open Go.RowKit

theorem intInfo : (Try.prog.info? 3).map (fun i => (i.zero, i.size, i.bytes)) = some (some (.int .i64 0), 1, 8) := by kernel_rfl
theorem boolInfo : (Try.prog.info? 4).map (fun i => (i.zero, i.size, i.bytes)) = some (some (.bool false), 1, 1) := by kernel_rfl

/-- New memory that reads as these numbers is handed back; what was there is as it was. -/
def RetInts (zs : List Int) (w : World) (e : Ending) (w' : World) : Prop :=
  ∃ A c, e = .returned (.slice A zs.length c) ∧ w'.ownsRow w.heap.size 3 1 (.slice A zs.length c) zs.length (zs.map (.int .i64)) ∧ Below w.heap.size w w'

/-- The same, and a bool beside it. -/
def RetIntsB (zs : List Int) (b : Bool) (w : World) (e : Ending) (w' : World) : Prop :=
  ∃ A c, e = .returned (.tuple #[.slice A zs.length c, .bool b]) ∧ w'.ownsRow w.heap.size 3 1 (.slice A zs.length c) zs.length (zs.map (.int .i64)) ∧ Below w.heap.size w w'

theorem set_mid (a : List Int) (n : Nat) (v : Int) (h : a.length < n) :
    ((a ++ List.replicate (n - a.length) 0).map (Value.int .i64)).set a.length (.int .i64 v) = ((a ++ [v]) ++ List.replicate (n - (a.length + 1)) 0).map (Value.int .i64) := by
  obtain ⟨d, rfl⟩ : ∃ d, n = a.length + (d + 1) := ⟨n - a.length - 1, by omega⟩
  have e1 : a.length + (d + 1) - a.length = d + 1 := by omega
  have e2 : a.length + (d + 1) - (a.length + 1) = d := by omega
  rw [e1, e2, List.replicate_succ]
  simp

set_option maxHeartbeats 400000 in
theorem chk_c (bs : List Bool) (f g : Int) (A : Option Addr) (n c : Nat) (w : World) (hN : bs.length = n) (hn : n ≤ 1099511627776) :
    Calls Try.prog 34 #[.slice A n c, .int .i64 f, .int .i64 g] w fun e w' => e = .returned (.bool (chk bs f g)) ∧ w = w' := by
  have HN := Lib.hid hN; clear hN
  by_cases h1 : n ≤ 12
  · by_cases h2 : 1 ≤ f ∧ f ≤ 12
    · go_enter Try.func34, Try.ntmps34
      go_wp2_with (go_at_call 40; refine (inRange_c _ _ _ _).mono ?_; rintro e w' ⟨rfl, rfl⟩)
      go_ret
      exact ⟨ret_bool (by simp [chk, HN.out, h1, h2]), rfl⟩
    · have h2' : (decide (1 ≤ f) && decide (f ≤ 12)) = false := by simpa using h2
      have h2'' : decide (1 ≤ f ∧ f ≤ 12) = false := by simpa using h2
      go_enter Try.func34, Try.ntmps34
      go_wp2_with (go_at_call 40; refine (inRange_c _ _ _ _).mono ?_; rintro e w' ⟨rfl, rfl⟩)
      go_ret
      exact ⟨ret_bool (by simp [chk, HN.out, h2'']), rfl⟩
  · have h1' : decide ((n : Int) ≤ 12) = false := by simp; omega
    go_enter Try.func34, Try.ntmps34
    go_wp2_with fail
    go_ret
    exact ⟨ret_bool (by simp [chk, HN.out, h1]), rfl⟩

theorem sIsGood_c (bs : List Bool) (f g : Int) (A : Option Addr) (n c : Nat) (w : World) (hN : bs.length = n) (hc : n ≤ c) (h : Rd w A (bs.map .bool)) (hn : n ≤ 1099511627776) :
    Calls Try.prog 20 #[.slice A n c, .int .i64 f, .int .i64 g] w fun e w' => e = .returned (.bool (isGood bs f g)) ∧ ∃ m, w' = w.drewN m := by
  have HN := Lib.hid hN; clear hN
  have H := Lib.hid h; clear h
  obtain ⟨k, hk⟩ : ∃ k, k = chk bs f g := ⟨_, rfl⟩
  have hv : isGood bs f g = (k && good f g bs) := by rw [isGood, hk]
  have HV := Lib.hid hv; clear hv
  have hch := chk_c bs f g A n c w HN.out hn
  rw [← hk] at hch
  have HC := Lib.hid hch; clear hch hk
  cases k
  · go_enter Try.func20, Try.ntmps20
    go_wp2_with fail
    refine HC.out.mono ?_
    rintro e w' ⟨rfl, rfl⟩
    go_wp2_with fail
    go_ret
    exact ⟨ret_bool HV.out.symm, 0, rfl⟩
  · go_enter Try.func20, Try.ntmps20
    go_wp2_with fail
    refine HC.out.mono ?_
    rintro e w' ⟨rfl, rfl⟩
    go_wp2_with fail
    refine (goodAfter_c bs f g _ _ _ _ HN.out hc H.out hn).mono ?_
    rintro e w' ⟨rfl, m, rfl⟩
    go_wp2_with fail
    go_ret
    exact ⟨ret_bool (by rw [HV.out]; simp), m, rfl⟩

set_option maxHeartbeats 1000000 in
theorem sGoodPath_c (bs : List Bool) (f g : Int) (A : Option Addr) (n c : Nat) (w : World) (hN : bs.length = n) (hc : n ≤ c) (h : Rd w A (bs.map .bool)) (hn : n ≤ 1099511627776) :
    Calls Try.prog 23 #[.slice A n c, .int .i64 f, .int .i64 g] w (RetInts (goodPath bs f g) w) := by
  have HN := Lib.hid hN; clear hN
  have H := Lib.hid h; clear h
  obtain ⟨i0, hi, hz0, hz1, hz2⟩ := info_parts intInfo
  obtain ⟨k, hk⟩ : ∃ k, k = chk bs f g := ⟨_, rfl⟩
  have HK := Lib.hid hk
  have hch := fun W => chk_c bs f g A n c W HN.out hn
  rw [← hk] at hch
  have HC := Lib.hid hch; clear hch hk
  cases k
  · go_enter Try.func23, Try.ntmps23
    go_wp2_with fail
    refine (HC.out _).mono ?_
    rintro e w' ⟨rfl, rfl⟩
    go_wp2_with fail
    go_ret
    have hz : goodPath bs f g = [] := by simp [goodPath, ← HK.out]
    rw [hz]
    exact ⟨none, 0, rfl, World.ownsRow_nil _ _ _ _, (Below.refl _ _).alloc (Nat.le_refl _) _⟩
  · go_enter Try.func23, Try.ntmps23
    go_wp2_with fail
    refine (HC.out _).mono ?_
    rintro e w' ⟨rfl, rfl⟩
    go_wp2_with fail
    go_loopw [7, 8] (fun v i wr => ∃ (k : Nat) (A' : Option Addr) (c' : Nat), k ≤ n ∧ i = .int .i64 k ∧ v = .slice A' k c' ∧ wr.ownsRow w.heap.size 3 1 (.slice A' k c') k ((pathTo f g bs k).map (.int .i64)) ∧ Below w.heap.size w wr) (fun _ i _ => n - (intOf i).toNat)
    case atStart => exact ⟨0, _, _, Nat.zero_le _, rfl, rfl, World.ownsRow_lit _ _ _ (Nat.le_refl _) (by simp [maxLen]) rfl, (Below.refl _ _).alloc (Nat.le_refl _) _⟩
    case round =>
      obtain ⟨k, A', c', hk, rfl, rfl, hown, hb⟩ := hrel
      by_cases hlt : k < n
      · have HL : Hid ((bs.take (k + 1)).length = k + 1) := by show _ = _; simp; have := HN.out; omega
        have HR : Hid (Rd wr A ((bs.take (k + 1)).map .bool)) := by
          have := (H.out.take (k + 1)).below hb
          rw [← List.map_take] at this
          exact this
        go_wp2_with fail
        refine (goodAfter_c (bs.take (k + 1)) f g _ _ _ _ HL.out (by omega) HR.out (by omega)).mono ?_
        obtain ⟨x, hx⟩ : ∃ x, x = good f g (bs.take (k + 1)) := ⟨_, rfl⟩
        rw [← hx]
        have HX := Lib.hid hx; clear hx
        rintro e w1 ⟨rfl, m', rfl⟩
        go_wp2_with fail
        refine (toInt_c x _).mono ?_
        rintro e w2 ⟨rfl, rfl⟩
        go_wp2_with (at_builtin; (refine wpList_append_any _ rfl (.tmp 21) (.tmp 30) 33 rfl w.heap.size 3 i0 (.int .i64 0) 8 Try.underlying33 hi hz0 hz1 hz2 rfl (.slice A' k c') k ((pathTo f g bs k).map (.int .i64)) rfl ?h1 (some ⟨wr.heap.size, 0, none⟩) 1 1 [.int .i64 (bit x)] rfl rfl ?h2 ?h3 ?h4 ?h5 ?h6 ?_))
        case h1 => exact (own_drewN hown m').alloc _
        case h2 => exact Rd.one (cell_new (wr.drewN m') _ _ 0)
        case h3 => exact one1 _ rfl
        case h4 => unfold maxLen; omega
        case h5 => omega
        case h6 => have := hb.size; simp; omega
        intro A2 c2 w2 hown2 hg2 _
        have hb2 : Below w.heap.size w w2 := ((below_drewN hb m').alloc (by have := hb.size; simpa using this) _).grown hg2 (by have := hb.size; simp; omega) (fun x hx => (hown.lt x hx).1)
        have e2 : pathTo f g bs (k + 1) = pathTo f g bs k ++ [bit x] := by rw [pathTo_succ, ← HX.out]
        have hown3 : w2.ownsRow w.heap.size 3 1 (.slice A2 (k + 1) c2) (k + 1) ((pathTo f g bs (k + 1)).map (.int .i64)) := by
          rw [e2]; simpa using hown2
        clear hown2 hg2 hown hb e2
        go_wp2
        go_roundw
        case rel => exact ⟨k + 1, A2, c2, by omega, by go_num, rfl, hown3, hb2⟩
        case measure => simp [intOf]; omega
      · obtain rfl : k = n := by omega
        have hz : goodPath bs f g = pathTo f g bs bs.length := by simp [goodPath, ← HK.out]
        have hl : (goodPath bs f g).length = k := by rw [hz, pathTo_length, HN.out]
        have hown2 : wr.ownsRow w.heap.size 3 1 (.slice A' (goodPath bs f g).length c') (goodPath bs f g).length ((goodPath bs f g).map (.int .i64)) := by
          rw [hl, hz, HN.out]; exact hown
        have hv : Ending.returned (.slice A' k c') = .returned (.slice A' (goodPath bs f g).length c') := by rw [hl]
        have HV := Lib.hid hv
        clear hl hz hv hown
        go_wp2
        go_ret
        exact ⟨A', c', HV.out, hown2, hb⟩

set_option maxHeartbeats 2000000 in
theorem path_c (bs : List Bool) (f g : Int) (A : Option Addr) (n c : Nat) (w : World) (hN : bs.length = n) (hc : n ≤ c) (h : Rd w A (bs.map .bool)) (hn : n ≤ 1099511627776) :
    Calls Try.prog 36 #[.slice A n c, .int .i64 f, .int .i64 g] w (RetIntsB (goodPath bs f g) (chk bs f g) w) := by
  have HN := Lib.hid hN; clear hN
  have H := Lib.hid h; clear h
  obtain ⟨i0, hi, hz0, hz1, hz2⟩ := info_parts intInfo
  have bad : chk bs f g = false → ∀ W : World, RetIntsB (goodPath bs f g) (chk bs f g) W (.returned (.tuple #[.slice none 0 0, .bool false])) W := by
    intro hk W
    have hz : goodPath bs f g = [] := by simp [goodPath, hk]
    rw [hz, hk]
    exact ⟨none, 0, rfl, World.ownsRow_nil _ _ _ _, Below.refl _ _⟩
  have BAD := Lib.hid bad; clear bad
  by_cases h1 : n ≤ 12
  · by_cases h2 : 1 ≤ f ∧ f ≤ 12
    · by_cases h3 : 1 ≤ g ∧ g ≤ 12
      · have HK : Hid (chk bs f g = true) := by show _ = _; simp [chk, HN.out, h1, h2, h3]
        go_enter Try.func36, Try.ntmps36
        go_wp2_with (first
          | (go_at_call 41; refine (in_c _ _ _ _).mono ?_; rintro e w' ⟨rfl, rfl⟩)
          | (at_make; (refine wpList_make_full _ rfl (.tmp 26) (.tmp 26) 33 rfl w.heap.size 3 i0 (.int .i64 0) 1 Try.underlying33 hi hz0 hz1 .i64 .i64 n n n rfl rfl rfl rfl ?b2 ?b3 ?b4 ?_)))
        case b2 => rw [hz2]; omega
        case b3 => unfold maxLen; omega
        case b4 => exact Nat.le_refl _
        intro w1 hown1 hg1
        have hown1' : w1.ownsRow w.heap.size 3 1 (.slice (some ⟨w.heap.size, 0, none⟩) n n) n ((pathTo f g bs 0 ++ List.replicate (n - 0) 0).map (.int .i64)) := by
          have e : ((pathTo f g bs 0 ++ List.replicate (n - 0) 0).map (Value.int .i64)) = (madeCells #[Value.int .i64 0] n).toList := by
            rw [toList_madeCells_one]; simp [pathTo]
          rw [e]; exact hown1
        have hb1 : Below w.heap.size w w1 := (Below.refl _ _).grown hg1 (Nat.le_refl _) (fun k hk => by cases hk)
        clear hown1 hg1
        go_wp2_with fail
        go_loopw [9, 30] (fun gd i wr => ∃ k : Nat, k ≤ n ∧ i = .int .i64 k ∧ gd = .int .i64 (bit (good f g (bs.take k))) ∧ wr.ownsRow w.heap.size 3 1 (.slice (some ⟨w.heap.size, 0, none⟩) n n) n ((pathTo f g bs k ++ List.replicate (n - k) 0).map (.int .i64)) ∧ Below w.heap.size w wr) (fun _ i _ => n - (intOf i).toNat)
        case atStart => exact ⟨0, Nat.zero_le _, rfl, rfl, hown1', hb1⟩
        case round =>
          obtain ⟨k, hk, rfl, rfl, hown, hb⟩ := hrel
          clear hown1' hb1
          by_cases hlt : k < n
          · have hkb : k < bs.length := by have := HN.out; omega
            have HL : Hid ((bs.take (k + 1)).length = k + 1) := by show _ = _; simp; omega
            have HR : Hid (Rd wr A ((bs.take (k + 1)).map .bool)) := by
              have := (H.out.take (k + 1)).below hb
              rw [← List.map_take] at this
              exact this
            obtain ⟨b, off, hA, hcell⟩ := (H.out.below hb) (by simp; omega)
            subst hA
            obtain ⟨x, hX⟩ : ∃ x, x = bs[k] := ⟨_, rfl⟩
            have hx : wr.cell? ⟨b, off + k, none⟩ = some (.bool x) := hcell _ _ (by simp [hX])
            clear hcell
            have hlen : (pathTo f g bs k).length = k := pathTo_length _ _ _ _
            have ho : wr.cell? ⟨w.heap.size, k, none⟩ = some (.int .i64 0) := by
              rw [hown.cellAt k (by omega)]
              rw [List.getElem?_map, List.getElem?_append_right (by omega), hlen, List.getElem?_replicate, if_pos (by omega)]
              rfl
            have hfr : wr.frozen? ⟨w.heap.size, k, none⟩ = false := hown.frozenAt k
            have HT := Lib.hid (take_snocB bs k hkb)
            rw [← hX] at HT
            have HX := Lib.hid hX; clear hX
            obtain ⟨gd, hG⟩ : ∃ gd, gd = good f g (bs.take k) := ⟨_, rfl⟩
            rw [← hG]
            obtain ⟨r, hR⟩ : ∃ r, r = lrun (bs.take (k + 1)) := ⟨_, rfl⟩
            have hstep := good_snoc f g (bs.take k) x
            rw [← HT.out, ← hR, ← hG] at hstep
            have HST := Lib.hid hstep; clear hstep
            have HG := Lib.hid hG; clear hG
            have hlast : lastRun (bs.take (k + 1)) = r := by unfold lastRun; rw [HL.out, if_neg (by omega), hR]
            have HLR := Lib.hid hlast; clear hlast
            have HR' := Lib.hid hR; clear hR
            have HLEN := Lib.hid hlen; clear hlen
            have fin : ∀ v m, v = good f g (bs.take (k + 1)) → ((wr.drewN m).setCell ⟨w.heap.size, k, none⟩ (.int .i64 (bit v))).ownsRow w.heap.size 3 1 (.slice (some ⟨w.heap.size, 0, none⟩) n n) n ((pathTo f g bs (k + 1) ++ List.replicate (n - (k + 1)) 0).map (.int .i64)) ∧ Below w.heap.size w ((wr.drewN m).setCell ⟨w.heap.size, k, none⟩ (.int .i64 (bit v))) := by
              intro v m hv
              refine ⟨?_, (below_drewN hb m).setCell (Nat.le_refl _) _⟩
              have h1 := ((own_drewN hown m).stored k (.int .i64 (bit v))).1
              have h2 := set_mid (pathTo f g bs k) n (bit v) (by rw [HLEN.out]; omega)
              rw [HLEN.out] at h2
              rw [h2] at h1
              rw [pathTo_succ, ← hv]
              exact h1
            have FIN := Lib.hid fin; clear fin
            clear hown hb
            cases x
            · by_cases hf : f ≤ (r : Int)
              all_goals
                have hgd := HST.out
                simp [hf] at hgd
                have HGD := Lib.hid hgd; clear hgd HST
                first | have hf' : decide (f ≤ (r : Int)) = true := by simpa using hf
                      | have hf' : decide (f ≤ (r : Int)) = false := by simpa using hf
                go_wp2_with fail
                refine (lastRun_c (bs.take (k + 1)) _ _ _ _ HL.out HR.out (by omega)).mono ?_
                rw [HLR.out]
                rintro e w' ⟨rfl, m', rfl⟩
                go_wp2
                go_roundw
                case rel => exact ⟨k + 1, by omega, by go_num, by first | (rw [HGD.out]; done) | (rw [HGD.out]; rfl), FIN.out _ m' HGD.out.symm⟩
                case measure => simp [intOf]; omega
            · by_cases hg : g ≤ (r : Int)
              all_goals
                have hgd := HST.out
                simp [hg] at hgd
                have HGD := Lib.hid hgd; clear hgd HST
                first | have hg' : decide (g ≤ (r : Int)) = true := by simpa using hg
                      | have hg' : decide (g ≤ (r : Int)) = false := by simpa using hg
                go_wp2_with fail
                refine (lastRun_c (bs.take (k + 1)) _ _ _ _ HL.out HR.out (by omega)).mono ?_
                rw [HLR.out]
                rintro e w' ⟨rfl, m', rfl⟩
                go_wp2
                go_roundw
                case rel => exact ⟨k + 1, by omega, by go_num, by first | (rw [HGD.out]; done) | (rw [HGD.out]; rfl), FIN.out _ m' HGD.out.symm⟩
                case measure => simp [intOf]; omega
          · obtain rfl : k = n := by omega
            have hz : goodPath bs f g = pathTo f g bs bs.length := by simp [goodPath, HK.out]
            have hl : (goodPath bs f g).length = k := by rw [hz, pathTo_length, HN.out]
            have fin : RetIntsB (goodPath bs f g) (chk bs f g) w (.returned (.tuple #[.slice (some ⟨w.heap.size, 0, none⟩) k k, .bool true])) wr := by
              refine ⟨some ⟨w.heap.size, 0, none⟩, k, by rw [hl, HK.out], ?_, hb⟩
              rw [hl, hz, HN.out]
              simpa using hown
            have FIN := Lib.hid fin
            clear fin hl hz hown hb
            go_wp2
            go_ret2
            exact FIN.out
      · have h3' : (decide (1 ≤ g) && decide (g ≤ 12)) = false := by simpa using h3
        have HK : Hid (chk bs f g = false) := by
          have h3'' : decide (1 ≤ g ∧ g ≤ 12) = false := by simpa using h3
          show _ = _; simp [chk, h3'']
        go_enter Try.func36, Try.ntmps36
        go_wp2_with (go_at_call 41; refine (in_c _ _ _ _).mono ?_; rintro e w' ⟨rfl, rfl⟩)
        go_ret2
        exact BAD.out HK.out _
    · have h2' : (decide (1 ≤ f) && decide (f ≤ 12)) = false := by simpa using h2
      have HK : Hid (chk bs f g = false) := by
        have h2'' : decide (1 ≤ f ∧ f ≤ 12) = false := by simpa using h2
        show _ = _; simp [chk, h2'']
      go_enter Try.func36, Try.ntmps36
      go_wp2_with (go_at_call 41; refine (in_c _ _ _ _).mono ?_; rintro e w' ⟨rfl, rfl⟩)
      go_ret2
      exact BAD.out HK.out _
  · have HK : Hid (chk bs f g = false) := by show _ = _; simp [chk, HN.out, h1]
    go_enter Try.func36, Try.ntmps36
    go_wp2_with fail
    go_ret2
    exact BAD.out HK.out _

set_option maxHeartbeats 1000000 in
theorem isGood_c (bs : List Bool) (f g : Int) (A : Option Addr) (n c : Nat) (w : World) (hN : bs.length = n) (hc : n ≤ c) (h : Rd w A (bs.map .bool)) (hn : n ≤ 1099511627776) :
    Calls Try.prog 21 #[.slice A n c, .int .i64 f, .int .i64 g] w fun e w' => e = .returned (.bool (isGood bs f g)) ∧ Below w.heap.size w w' := by
  have HP := Lib.hid (path_c bs f g A n c w hN hc h hn)
  obtain ⟨k, hk⟩ : ∃ k, k = chk bs f g := ⟨_, rfl⟩
  obtain ⟨zs, hzs⟩ : ∃ zs, zs = goodPath bs f g := ⟨_, rfl⟩
  rw [← hk, ← hzs] at HP
  have hv : isGood bs f g = (k && good f g bs) := by rw [isGood, hk]
  have HV := Lib.hid hv; clear hv
  cases k
  · clear hk hzs h hN
    go_enter Try.func21, Try.ntmps21
    go_wp2_with fail
    refine HP.out.mono ?_
    rintro e w1 ⟨A1, c1, rfl, hown, hb⟩
    go_wp2_with fail
    go_ret
    exact ⟨ret_bool HV.out.symm, hb⟩
  · have hz : zs = pathTo f g bs n := by rw [hzs]; simp [goodPath, ← hk, hN]
    rcases Nat.eq_zero_or_pos n with h0 | h0
    · have hb0 : bs = [] := by cases bs with
        | nil => rfl
        | cons x l => simp at hN; omega
      have hz0 : zs = [] := by rw [hz, h0]; rfl
      subst hz0
      have hv' : isGood bs f g = true := by rw [HV.out, hb0]; rfl
      have HV' := Lib.hid hv'
      clear hk hzs h hN hz h0 hb0 hv' HV
      go_enter Try.func21, Try.ntmps21
      go_wp2_with fail
      refine HP.out.mono ?_
      rintro e w1 ⟨A1, c1, rfl, hown, hb⟩
      go_wp2_with fail
      go_ret
      exact ⟨ret_bool HV'.out.symm, hb⟩
    · have hl : zs.length = n := by rw [hz, pathTo_length]
      have hlast : zs[n - 1]? = some (bit (good f g bs)) := by
        obtain ⟨m, rfl⟩ : ∃ m, n = m + 1 := ⟨n - 1, by omega⟩
        rw [hz, pathTo_succ, List.getElem?_append_right (by rw [pathTo_length]; omega), pathTo_length, List.take_of_length_le (by omega)]
        simp
      obtain ⟨gd, hgd⟩ : ∃ gd, gd = good f g bs := ⟨_, rfl⟩
      rw [← hgd] at hlast
      have hv' : isGood bs f g = gd := by rw [HV.out, hgd]; simp
      have HV' := Lib.hid hv'
      have HL := Lib.hid hl
      have HLA := Lib.hid hlast
      have hne : ((n : Int) == 0) = false := by simp; omega
      clear hk hzs h hN hz hgd hv' HV hl hlast
      cases gd
      all_goals
        go_enter Try.func21, Try.ntmps21
        go_wp2_with fail
        refine HP.out.mono ?_
        rintro e w1 ⟨A1, c1, rfl, hown, hb⟩
        rw [HL.out] at hown ⊢
        obtain ⟨b, off, hA, hcell⟩ := (Rd.of_own hown) (by simp [HL.out]; omega)
        subst hA
        have hx := hcell (n - 1) _ (by rw [List.getElem?_map, HLA.out]; rfl)
        simp only [bit, Bool.false_eq_true, if_true, if_false] at hx
        clear hcell hown
        go_wp2_with fail
        go_ret
        exact ⟨ret_bool HV'.out.symm, hb⟩

set_option maxHeartbeats 400000 in
theorem goodPath_c (bs : List Bool) (f g : Int) (A : Option Addr) (n c : Nat) (w : World) (hN : bs.length = n) (hc : n ≤ c) (h : Rd w A (bs.map .bool)) (hn : n ≤ 1099511627776) :
    Calls Try.prog 24 #[.slice A n c, .int .i64 f, .int .i64 g] w (RetInts (goodPath bs f g) w) := by
  have HP := Lib.hid (path_c bs f g A n c w hN hc h hn)
  clear h hN
  go_enter Try.func24, Try.ntmps24
  go_wp2_with fail
  refine HP.out.mono ?_
  rintro e w1 ⟨A1, c1, rfl, hown, hb⟩
  go_wp2_with fail
  go_ret
  exact ⟨A1, c1, rfl, hown, hb⟩
end Go.Proofs.Ytfmkpcoacghonaa
