/- FnCleanUp: for every code the law returns true, and what was there is as it was. No condition. -/
import Derived.Test.YtoljmhggkighnaaRows
import Derived.Test.YtoljmhggkighnaaNestLaw
import Derived.Test.YtoljmhggkighnaaNestDraw
import Derived.Test.YtoljmhggkighnaaOpenC
set_option linter.unusedVariables false
set_option linter.unusedSimpArgs false
set_option linter.unnecessarySimpa false
namespace Go.Proofs.Ytoljmhggkighnaa
open Go.RowKit

/-- The state lies in block g; its marks can be read. -/
def NowAt (s : St) (g : Nat) (w wr : World) : Prop :=
  ∃ A c, s.marks.length ≤ c ∧ Blk wr g 27 #[.int .i64 (s.marks.length : Int), .int .i64 s.work, .slice A s.marks.length c, .bool s.broken] ∧ (0 < s.marks.length → ∃ b off, A = some ⟨b, off, none⟩ ∧ b ≠ g ∧ ∀ j u, (s.marks.map (Value.int .i64))[j]? = some u → wr.cell? ⟨b, off + j, none⟩ = some u) ∧ Below g w wr
theorem NowAt.rd {A : Option Addr} {ms : List Int} {g : Nat} {wr : World} (h : 0 < ms.length → ∃ b off, A = some ⟨b, off, none⟩ ∧ b ≠ g ∧ ∀ j u, (ms.map (Value.int .i64))[j]? = some u → wr.cell? ⟨b, off + j, none⟩ = some u) : Rd wr A (ms.map (.int .i64)) := fun hp => by
  obtain ⟨b, off, e, _, hc⟩ := h (by simpa using hp)
  exact ⟨b, off, e, hc⟩
theorem row_marks {w : World} {B g : Nat} {n c : Nat} {A : Option Addr} {ms : List Int} {cs : Array Value} (h : Row w B 3 1 A n c (ms.map (.int .i64))) (hb : Blk w g 27 cs) : 0 < ms.length → ∃ b off, A = some ⟨b, off, none⟩ ∧ b ≠ g ∧ ∀ j u, (ms.map (Value.int .i64))[j]? = some u → w.cell? ⟨b, off + j, none⟩ = some u := fun hp => by
  have hn : 0 < n := by have := h.1; simp at this; omega
  obtain ⟨b, off, e, _, _, hr⟩ := h.form hn
  subst e
  refine ⟨b, off, rfl, ?_, fun j u hu => h.cell hu⟩
  rcases row_blk_ne h hb (by decide) with h1 | h1
  · rw [hr] at h1; cases h1
  · rw [hr] at h1; exact fun e => h1 (by rw [e])
set_option maxRecDepth 100000 in
set_option maxHeartbeats 16000000 in
theorem walk_FnCleanUp (zs : List Int) (A : Option Addr) (n c : Nat) (hN : zs.length = n) (hc : n ≤ c) (hm : c ≤ maxLen) {w : World} (h : Rd w A (zs.map (.int .u8))) (hz : ∀ z ∈ zs, 0 ≤ z ∧ z ≤ 255) :
    Calls Try.prog 7 #[.slice A n c] w fun e w' => e = .returned (.bool true) ∧ Below w.heap.size w w' := by
  have HD := Lib.hid (drawCleanUp_c zs A n c w hN hc hm h hz)
  clear h hz hN
  unfold maxLen at hm
  by_cases hbig : 1048576 < n
  · go_enter Try.func7, Try.ntmps7
    go_wp2
    go_ret
    exact ⟨rfl, Below.refl _ _⟩
  · go_enter Try.func7, Try.ntmps7
    go_wp2_with fail
    refine HD.out.mono ?_
    rintro e w1 ⟨d, k, ms, b, AP, cP, rfl, hl, hcP, fP, b1⟩
    have EB1 := Lib.hid b1; clear b1
    have H0 := Lib.hid fP.rd; clear fP
    obtain ⟨zs, hzs⟩ : ∃ zs, zs = cleanV d k ms b := ⟨_, rfl⟩
    have hzl : zs.length ≤ 10 := by
      rw [hzs]; unfold cleanV; split
      · rw [List.length_replicate]; exact hl
      · simp
    obtain ⟨vd, hvd⟩ : ∃ vd, vd = validN d k ms b := ⟨_, rfl⟩
    have HZ := Lib.hid hzs; have HVD := Lib.hid hvd; clear hzs hvd
    go_wp2_with fail
    obtain ⟨w2, hw2⟩ : ∃ W, W = w1.alloc (.cells #[.int .i64 d, .int .i64 k, .slice AP ms.length cP, .bool b] 27) := ⟨_, rfl⟩
    obtain ⟨gPV, hgPV⟩ : ∃ g, g = w1.heap.size := ⟨_, rfl⟩
    rw [← hw2, ← hgPV]
    have hv2 : Blk w2 gPV 27 #[.int .i64 d, .int .i64 k, .slice AP ms.length cP, .bool b] := by rw [hw2, hgPV]; exact Blk.new _ _ _
    have V2 := Lib.hid hv2; clear hv2
    have hgePV : w1.heap.size ≤ gPV := by rw [hgPV]; exact (Below.refl w1.heap.size w1).size
    have HSZPV := Lib.hid (show w2.heap.size = gPV + 1 by rw [hw2, hgPV]; simp)
    have hb2 : Below w1.heap.size w1 w2 := by rw [hw2]; exact (Below.refl w1.heap.size w1).alloc (Below.refl w1.heap.size w1).size _
    have EB2 := Lib.hid hb2; clear hb2
    clear  hw2 hgPV
    obtain ⟨pvq0, pvq1, pvq2, pvq3, pvqz⟩ := blk4 V2.out
    have pvql := Blk.lt V2.out
    have pvqm : ¬ gPV = w2.heap.size := by omega
    have pvqn : ¬ w2.heap.size = gPV := by omega
    go_wp2_with fail
    refine (cleanUp_c d k ms b _ _ _ _ rfl (Rd.below (w' := w2) H0.out EB2.out) (by omega)).mono ?_
    rw [← HZ.out]
    rintro e w3 ⟨AG, cG, rfl, q3, b3⟩
    have r3 : Row w3 w2.heap.size 3 1 AG (zs).length cG ((zs).map (.int .i64)) := Row.of_own q3
    have R3 := Lib.hid (r3.mono EB2.out.size); clear r3 q3
    clear pvq0 pvq1 pvq2 pvq3 pvqz pvql pvqm pvqn
    have hPV3 : Blk w3 gPV 27 #[.int .i64 d, .int .i64 k, .slice AP ms.length cP, .bool b] := Blk.below V2.out b3 (Blk.lt V2.out)
    have hb3 : Below w1.heap.size w1 w3 := EB2.out.trans (b3.mono EB2.out.size)
    have EPV3 := Lib.hid hPV3; clear hPV3
    have EB3 := Lib.hid hb3; clear hb3
    clear V2 EB2 b3
    obtain ⟨pvq0, pvq1, pvq2, pvq3, pvqz⟩ := blk4 EPV3.out
    have pvql := Blk.lt EPV3.out
    have pvqm : ¬ gPV = w3.heap.size := by omega
    have pvqn : ¬ w3.heap.size = gPV := by omega
    go_wp2_with fail
    refine (sCleanUp_c d k ms b _ _ _ _ rfl (Rd.below (w' := w3) H0.out EB3.out) (by omega)).mono ?_
    rw [← HZ.out]
    rintro e w4 ⟨AH, cH, rfl, q4, b4⟩
    have r4 : Row w4 w3.heap.size 3 1 AH (zs).length cH ((zs).map (.int .i64)) := Row.of_own q4
    have apGH := Lib.hid (row_apart R3.out r4 (Nat.le_refl _))
    have R4 := Lib.hid (r4.mono EB3.out.size); clear r4 q4
    clear pvq0 pvq1 pvq2 pvq3 pvqz pvql pvqm pvqn
    have hPV4 : Blk w4 gPV 27 #[.int .i64 d, .int .i64 k, .slice AP ms.length cP, .bool b] := Blk.below EPV3.out b4 (Blk.lt EPV3.out)
    have hG4 : Row w4 w1.heap.size 3 1 AG (zs).length cG ((zs).map (.int .i64)) := R3.out.below b4
    have hb4 : Below w1.heap.size w1 w4 := EB3.out.trans (b4.mono EB3.out.size)
    have EPV4 := Lib.hid hPV4; clear hPV4
    have EG4 := Lib.hid hG4; clear hG4
    have EB4 := Lib.hid hb4; clear hb4
    clear EPV3 R3 EB3 b4
    obtain ⟨pvq0, pvq1, pvq2, pvq3, pvqz⟩ := blk4 EPV4.out
    have pvql := Blk.lt EPV4.out
    have pvqm : ¬ gPV = w4.heap.size := by omega
    have pvqn : ¬ w4.heap.size = gPV := by omega
    go_wp2_with fail
    refine (equalInts_c zs zs _ _ _ _ _ _ _ rfl rfl EG4.out.rd R4.out.rd (by omega) (by omega)).mono ?_
    rw [decide_eq_true rfl]
    rintro e w5 ⟨rfl, m5, hw5⟩
    clear pvq0 pvq1 pvq2 pvq3 pvqz pvql pvqm pvqn
    have hPV5 : Blk w5 gPV 27 #[.int .i64 d, .int .i64 k, .slice AP ms.length cP, .bool b] := by rw [hw5]; exact EPV4.out
    have hG5 : Row w5 w1.heap.size 3 1 AG (zs).length cG ((zs).map (.int .i64)) := by rw [hw5]; exact EG4.out
    have hH5 : Row w5 w1.heap.size 3 1 AH (zs).length cH ((zs).map (.int .i64)) := by rw [hw5]; exact R4.out
    have hb5 : Below w1.heap.size w1 w5 := by rw [hw5]; exact below_drewN EB4.out _
    have EPV5 := Lib.hid hPV5; clear hPV5
    have EG5 := Lib.hid hG5; clear hG5
    have EH5 := Lib.hid hH5; clear hH5
    have EB5 := Lib.hid hb5; clear hb5
    clear EPV4 EG4 R4 EB4 hw5
    obtain ⟨pvq0, pvq1, pvq2, pvq3, pvqz⟩ := blk4 EPV5.out
    have pvql := Blk.lt EPV5.out
    have pvqm : ¬ gPV = w5.heap.size := by omega
    have pvqn : ¬ w5.heap.size = gPV := by omega
    clear EH5
    go_wp2_with fail
    refine (validNest_c d k ms b _ _ _ _ rfl (Rd.below (w' := w5) H0.out EB5.out) (by omega)).mono ?_
    rw [← HVD.out]
    rintro e w6 ⟨rfl, b6⟩
    clear pvq0 pvq1 pvq2 pvq3 pvqz pvql pvqm pvqn
    have hPV6 : Blk w6 gPV 27 #[.int .i64 d, .int .i64 k, .slice AP ms.length cP, .bool b] := Blk.below EPV5.out b6 (Blk.lt EPV5.out)
    have hG6 : Row w6 w1.heap.size 3 1 AG (zs).length cG ((zs).map (.int .i64)) := EG5.out.below b6
    have hb6 : Below w1.heap.size w1 w6 := EB5.out.trans (b6.mono EB5.out.size)
    have EPV6 := Lib.hid hPV6; clear hPV6
    have EG6 := Lib.hid hG6; clear hG6
    have EB6 := Lib.hid hb6; clear hb6
    clear EPV5 EG5 EB5 b6
    obtain ⟨pvq0, pvq1, pvq2, pvq3, pvqz⟩ := blk4 EPV6.out
    have pvql := Blk.lt EPV6.out
    have pvqm : ¬ gPV = w6.heap.size := by omega
    have pvqn : ¬ w6.heap.size = gPV := by omega
    cases vd
    · go_wp2_with fail
      refine (sCleanUp_c d k ms b _ _ _ _ rfl (Rd.below (w' := w6) H0.out EB6.out) (by omega)).mono ?_
      rw [← HZ.out]
      rintro e w7 ⟨AK, cK, rfl, q7, b7⟩
      have r7 : Row w7 w6.heap.size 3 1 AK (zs).length cK ((zs).map (.int .i64)) := Row.of_own q7
      have apGK := Lib.hid (row_apart EG6.out r7 (Nat.le_refl _))
      have R7 := Lib.hid (r7.mono EB6.out.size); clear r7 q7
      clear pvq0 pvq1 pvq2 pvq3 pvqz pvql pvqm pvqn
      have hPV7 : Blk w7 gPV 27 #[.int .i64 d, .int .i64 k, .slice AP ms.length cP, .bool b] := Blk.below EPV6.out b7 (Blk.lt EPV6.out)
      have hG7 : Row w7 w1.heap.size 3 1 AG (zs).length cG ((zs).map (.int .i64)) := EG6.out.below b7
      have hb7 : Below w1.heap.size w1 w7 := EB6.out.trans (b7.mono EB6.out.size)
      have EPV7 := Lib.hid hPV7; clear hPV7
      have EG7 := Lib.hid hG7; clear hG7
      have EB7 := Lib.hid hb7; clear hb7
      clear EPV6 EG6 EB6 b7
      obtain ⟨pvq0, pvq1, pvq2, pvq3, pvqz⟩ := blk4 EPV7.out
      have pvql := Blk.lt EPV7.out
      have pvqm : ¬ gPV = w7.heap.size := by omega
      have pvqn : ¬ w7.heap.size = gPV := by omega
      go_wp2_with fail
      refine (equalInts_c zs zs _ _ _ _ _ _ _ rfl rfl EG7.out.rd R7.out.rd (by omega) (by omega)).mono ?_
      rw [decide_eq_true rfl]
      rintro e w8 ⟨rfl, m8, hw8⟩
      clear pvq0 pvq1 pvq2 pvq3 pvqz pvql pvqm pvqn
      have hPV8 : Blk w8 gPV 27 #[.int .i64 d, .int .i64 k, .slice AP ms.length cP, .bool b] := by rw [hw8]; exact EPV7.out
      have hG8 : Row w8 w1.heap.size 3 1 AG (zs).length cG ((zs).map (.int .i64)) := by rw [hw8]; exact EG7.out
      have hK8 : Row w8 w1.heap.size 3 1 AK (zs).length cK ((zs).map (.int .i64)) := by rw [hw8]; exact R7.out
      have hb8 : Below w1.heap.size w1 w8 := by rw [hw8]; exact below_drewN EB7.out _
      have EPV8 := Lib.hid hPV8; clear hPV8
      have EG8 := Lib.hid hG8; clear hG8
      have EK8 := Lib.hid hK8; clear hK8
      have EB8 := Lib.hid hb8; clear hb8
      clear EPV7 EG7 R7 EB7 hw8
      obtain ⟨pvq0, pvq1, pvq2, pvq3, pvqz⟩ := blk4 EPV8.out
      have pvql := Blk.lt EPV8.out
      have pvqm : ¬ gPV = w8.heap.size := by omega
      have pvqn : ¬ w8.heap.size = gPV := by omega
      go_wp2_with fail
      go_ret
      exact ⟨by first | rfl | trivial, EB1.out.trans (EB8.out.mono EB1.out.size)⟩
    · obtain ⟨hd, hs⟩ := (validN_iff d k ms b).1 HVD.out.symm
      subst hd
      have hms : ms.length ≤ 4 := by rw [St.ok_iff] at hs; exact hs.1
      have hze : zs = List.replicate ms.length 4 := by rw [HZ.out]; unfold cleanV; rw [← HVD.out]; rfl
      have hzn : zs.length = ms.length := by rw [hze, List.length_replicate]
      have HS := Lib.hid hs; have HZE := Lib.hid hze; have HZN := Lib.hid hzn
      clear hs hze hzn
      go_wp2_with fail
      obtain ⟨w7, hw7⟩ : ∃ W, W = w6.alloc (.cells #[.int .i64 (ms.length : Int), .int .i64 k, .slice AP ms.length cP, .bool b] 27) := ⟨_, rfl⟩
      obtain ⟨gNV, hgNV⟩ : ∃ g, g = w6.heap.size := ⟨_, rfl⟩
      rw [← hw7, ← hgNV]
      have hv7 : Blk w7 gNV 27 #[.int .i64 (ms.length : Int), .int .i64 k, .slice AP ms.length cP, .bool b] := by rw [hw7, hgNV]; exact Blk.new _ _ _
      have V7 := Lib.hid hv7; clear hv7
      have hgeNV : w1.heap.size ≤ gNV := by rw [hgNV]; exact EB6.out.size
      have HSZNV := Lib.hid (show w7.heap.size = gNV + 1 by rw [hw7, hgNV]; simp)
      have hltPVNV : gPV < gNV := by rw [hgNV]; exact Blk.lt EPV6.out
      clear pvq0 pvq1 pvq2 pvq3 pvqz pvql pvqm pvqn
      have hPV7 : Blk w7 gPV 27 #[.int .i64 (ms.length : Int), .int .i64 k, .slice AP ms.length cP, .bool b] := by rw [hw7]; exact EPV6.out.alloc _
      have hG7 : Row w7 w1.heap.size 3 1 AG (zs).length cG ((zs).map (.int .i64)) := by rw [hw7]; exact EG6.out.alloc _
      have hb7 : Below w1.heap.size w1 w7 := by rw [hw7]; exact EB6.out.alloc EB6.out.size _
      have EPV7 := Lib.hid hPV7; clear hPV7
      have EG7 := Lib.hid hG7; clear hG7
      have EB7 := Lib.hid hb7; clear hb7
      clear EPV6 EG6 EB6 hw7 hgNV
      obtain ⟨pvq0, pvq1, pvq2, pvq3, pvqz⟩ := blk4 EPV7.out
      have pvql := Blk.lt EPV7.out
      have pvqm : ¬ gPV = w7.heap.size := by omega
      have pvqn : ¬ w7.heap.size = gPV := by omega
      obtain ⟨nvq0, nvq1, nvq2, nvq3, nvqz⟩ := blk4 V7.out
      have nvql := Blk.lt V7.out
      have nvqm : ¬ gNV = w7.heap.size := by omega
      have nvqn : ¬ w7.heap.size = gNV := by omega
      have hap : 0 < ms.length → ∃ b0 off, AP = some ⟨b0, off, none⟩ ∧ b0 ≠ gNV ∧ ∀ j u, (ms.map (Value.int .i64))[j]? = some u → w7.cell? ⟨b0, off + j, none⟩ = some u := fun hp => by
        obtain ⟨b0, off, e, hlt, hc⟩ := H0.out.block (by simpa using hp)
        exact ⟨b0, off, e, by omega, fun j u hu => (EB7.out.cell (by exact hlt)).trans (hc j u hu)⟩
      have start : NowAt ⟨k, ms, b⟩ gNV w7 w7 := ⟨AP, cP, hcP, V7.out, hap, Below.refl _ _⟩
      have START := Lib.hid start
      have RG := Lib.hid (row_marks EG7.out V7.out)
      have hWs := HSZNV.out
      have hWs2 : w7.heap.size ≤ gNV + 1 := by omega
      clear hWs
      have hgW := Blk.lt V7.out
      rw [HZN.out]
      clear start hap pvq0 pvq1 pvq2 pvq3 pvqz nvq0 nvq1 nvq2 nvq3 nvqz
      go_wp2_with fail
      go_loopw [6] (fun i wr => ∃ (j : Nat) (s : St), j ≤ ms.length ∧ i = .int .i64 j ∧ s.ok ∧ s.marks.length + j = ms.length ∧ NowAt s gNV w7 wr) (fun i _ => ms.length - (intOf i).toNat)
      case atStart => exact ⟨0, ⟨k, ms, b⟩, Nat.zero_le _, rfl, HS.out, by simp, START.out⟩
      case round =>
        clear START
        obtain ⟨j, s, hj, rfl, hok, hsl, A2, c2, hcap, bo, hrd, bel⟩ := hrel
        obtain ⟨sk, sm, sb⟩ := s
        simp only at hsl hcap bo hrd
        have hokx := hok
        rw [St.ok_iff] at hokx
        have hsk0 : 0 ≤ sk := hokx.2.1.1
        have hsk1 : sk ≤ 12 := hokx.2.1.2
        obtain ⟨o0c, o1c, o2c, o3c, ofz⟩ := blk4 bo
        by_cases hlt : j < ms.length
        · have hjz : j < zs.length := by rw [HZN.out]; exact hlt
          obtain ⟨bG, offG, hAG, hnG, hcG⟩ := RG.out (by rw [HZN.out]; omega)
          subst hAG
          have hx0 : w7.cell? ⟨bG, offG + j, none⟩ = some (.int .i64 4) := hcG _ _ (by rw [List.getElem?_map, List.getElem?_eq_getElem hjz]; simp [HZE.out])
          have hlG0 := World.block_lt_of_cell? w7 _ hx0
          have hlG : bG < gNV := by simp only at hlG0; omega
          have hx : wr.cell? ⟨bG, offG + j, none⟩ = some (.int .i64 4) := (bel.cell (by exact hlG)).trans hx0
          have hpos : 0 < sm.length := by omega
          obtain ⟨t, ht1, ht2, ht3⟩ := St.step4 (s := ⟨sk, sm, sb⟩) hpos
          have hst : stepN (sm.length : Int) sk sm sb 4 = some t := by rw [← ht1]; exact stepN_ok hok 4
          have htok := St.step_ok hok ht1
          obtain ⟨tk, tm, tb⟩ := t
          simp only at ht2 ht3
          subst ht3
          have htl : tm.length ≤ 4 := by rw [St.ok_iff] at htok; exact htok.1
          have hcon : ∀ W2, Rd W2 A2 (sm.map (.int .i64)) → Calls Try.prog 26 #[.agg #[.int .i64 (sm.length : Int), .int .i64 sk, .slice A2 sm.length c2, .bool sb], .int .i64 4] W2 (RetStep ⟨tk, tm, false⟩ true W2) := by
            intro W2 hW
            have := stepNest_c (sm.length : Int) sk sm sb 4 A2 sm.length c2 W2 rfl hcap hW (by omega)
            rw [hst] at this
            exact this
          have HCON := Lib.hid hcon; have HTOK := Lib.hid htok
          have BO := Lib.hid bo; have BEL := Lib.hid bel; have RDW := Lib.hid (NowAt.rd hrd)
          have hsz : gNV < wr.heap.size := bo.lt
          have hszW : w7.heap.size ≤ wr.heap.size := bel.size
          have hg2 : ¬ gNV = wr.heap.size := by omega
          have hg3 : ¬ wr.heap.size = gNV := by omega
          have hb1 : bG < wr.heap.size := by omega
          have hb2 : ¬ bG = wr.heap.size := by omega
          have hb3 : ¬ wr.heap.size = bG := by omega
          clear hcon htok hst ht1 bo bel hrd hok hokx hx0 hcG
          go_wp2_with fail
          go_region_held3 (fun w' => w'.cell? ⟨gNV, 0, none⟩ = some (.int .i64 (sm.length : Int)) ∧ w'.cell? ⟨gNV, 1, none⟩ = some (.int .i64 sk) ∧ w'.cell? ⟨gNV, 2, none⟩ = some (.slice A2 sm.length c2) ∧ w'.cell? ⟨gNV, 3, none⟩ = some (.bool sb) ∧ w'.cell? ⟨bG, offG + j, none⟩ = some (.int .i64 4)) (go_keep) ((go_at_call 26; refine (HCON.out _ ?_).mono ?_; (first | exact RDW.out | exact RDW.out.alloc _); rintro e w91 ⟨A3, c3, rfl, row3, b91⟩; (first | have bo1 := Blk.below (w := wr.drew) BO.out b91 BO.out.lt | have bo1 := Blk.below (w := (wr.alloc (.cells #[.int .i64 0, .int .i64 0, .slice none 0 0, .bool false] 27)).drew) (BO.out.alloc _) b91 (by have := BO.out.lt; simp <;> omega)); obtain ⟨k0, k1, k2, k3, kf⟩ := blk4 bo1; have k4 := (b91.cell (p := ⟨bG, offG + j, none⟩) (by simp <;> omega)).trans (show _ = some (Value.int .i64 4) by go_keep); have hsz1 : wr.heap.size ≤ w91.heap.size := (by have := b91.size; simp at this; omega); (first | have bel1 : Below gNV w7 w91 := BEL.out.drew.trans (b91.mono (by simp <;> omega)) | have bel1 : Below gNV w7 w91 := (BEL.out.alloc (by omega) _).drew.trans (b91.mono (by simp <;> omega))); (first | (have zb := Blk.below (w := (wr.alloc (.cells #[.int .i64 0, .int .i64 0, .slice none 0 0, .bool false] 27)).drew) (Blk.new wr 27 #[.int .i64 0, .int .i64 0, .slice none 0 0, .bool false]) b91 (by simp); obtain ⟨z0, z1, z2, z3, zf⟩ := blk4 zb; have ZB := Lib.hid zb; clear zb) | skip)))
          all_goals
            have hw1 : ¬ gNV = w91.heap.size := by omega
            have hw2 : ¬ w91.heap.size = gNV := by omega
            have hw3 : gNV < w91.heap.size := by omega
            have hcap3 := row3.le
            have ROW3 := Lib.hid row3; have BO1 := Lib.hid bo1; have BEL1 := Lib.hid bel1
            clear row3 bo1 bel1 b91
            go_wp2_with fail
            go_roundw
            case rel =>
              refine ⟨j + 1, ⟨tk, tm, false⟩, by omega, by go_num, HTOK.out, by simp only; omega, A3, c3, hcap3, ?_⟩
              first
                | (have _z := ZB
                   have q1 := blk_far4 (g' := gNV) (a := .int .i64 (tm.length : Int)) (b := .int .i64 tk) (c := .slice A3 tm.length c3) (d := .bool false) BO1.out hg2
                   have q2 := row_set4 (a := .int .i64 (tm.length : Int)) (b := .int .i64 tk) (c := .slice A3 tm.length c3) (d := .bool false) ROW3.out ZB.out (by decide)
                   have q3 := row_set4 (a := .int .i64 (tm.length : Int)) (b := .int .i64 tk) (c := .slice A3 tm.length c3) (d := .bool false) q2 q1 (by decide)
                   have q4 := blk_set4 (a := .int .i64 (tm.length : Int)) (b := .int .i64 tk) (c := .slice A3 tm.length c3) (d := .bool false) q1
                   have q5 := below_set4 (g := wr.heap.size) (a := .int .i64 (tm.length : Int)) (b := .int .i64 tk) (c := .slice A3 tm.length c3) (d := .bool false) BEL1.out (by omega)
                   have q6 := below_set4 (g := gNV) (a := .int .i64 (tm.length : Int)) (b := .int .i64 tk) (c := .slice A3 tm.length c3) (d := .bool false) q5 (Nat.le_refl _)
                   exact ⟨q4, row_marks q3 q4, q6⟩)
                | (have q4 := (blk_set4 (a := .int .i64 (tm.length : Int)) (b := .int .i64 tk) (c := .slice A3 tm.length c3) (d := .bool false) BO1.out).alloc (.cells #[.int .i64 (tm.length : Int), .int .i64 tk, .slice A3 tm.length c3, .bool false] 27)
                   have q3 := (row_set4 (a := .int .i64 (tm.length : Int)) (b := .int .i64 tk) (c := .slice A3 tm.length c3) (d := .bool false) ROW3.out BO1.out (by decide)).alloc (.cells #[.int .i64 (tm.length : Int), .int .i64 tk, .slice A3 tm.length c3, .bool false] 27)
                   have q6 := (below_set4 (g := gNV) (a := .int .i64 (tm.length : Int)) (b := .int .i64 tk) (c := .slice A3 tm.length c3) (d := .bool false) BEL1.out (Nat.le_refl _)).alloc (by simp <;> omega) (.cells #[.int .i64 (tm.length : Int), .int .i64 tk, .slice A3 tm.length c3, .bool false] 27)
                   exact ⟨q4, row_marks q3 q4, q6⟩)
            case measure => simp [intOf]; omega
        · obtain rfl : j = ms.length := by omega
          have hsm : sm = [] := List.eq_nil_of_length_eq_zero (by omega)
          subst hsm
          obtain ⟨rfl, rfl⟩ : sk = 0 ∧ sb = false := by
            have := hokx.2.2.2.2
            simp at this
            exact this
          have bw : Below w1.heap.size w1 wr := EB7.out.trans (bel.mono hgeNV)
          have BW := Lib.hid bw
          have bpv : Blk wr gPV 27 #[.int .i64 (ms.length : Int), .int .i64 k, .slice AP ms.length cP, .bool b] := Blk.below EPV7.out bel hltPVNV
          obtain ⟨p0c, p1c, p2c, p3c, pfz⟩ := blk4 bpv
          clear bel bo bw bpv hrd
          go_wp2_with fail
          go_ret
          exact ⟨by first | rfl | trivial | simp, EB1.out.trans (BW.out.mono EB1.out.size)⟩

namespace fnCleanUp
open Go.ChangeShapes Go.WideShapes Go.ChangeAt
open Go.ChangeMaps (open_string shut_string)
theorem own : ownKnob Try.prog.godebug = none := by kernel_rfl
theorem laidOut : laidOutB Try.prog = true := by kernel_rfl
set_option maxRecDepth 100000 in
theorem lifted (os : Os) (started : os.Started) (H : Type) (enc : TypeId × Value → H) :
    ReturnsInHanded {} Try.checked os 7 .any (Rows.fnCleanUpSpec.pre6 enc Try.prog Try.f7 Rows.fnCleanUpRow.domain false) (Rows.fnCleanUpSpec.post enc Try.prog Try.f7 false true false false) := by
  refine returnsInHanded_of_change (C := Try.checked) own started (by kernel_rfl) Try.func7
    (ChangeSpec.witness6 (enc := enc) (C := Try.checked) false ⟨#[], #[.slice none 0 0], []⟩ 8 (by kernel_rfl) (by kernel_rfl) (by kernel_rfl) (by kernel_rfl)) ?_
  intro W base args ds gs before hval0 hW hcnd _
  have hval : ∀ (j : Nat) t v, Try.f7.params[j]? = some t → args[j]? = some v → Value.okWide Try.prog W .any base t v := hval0
  have hW' := hW
  obtain ⟨p, q, hA0, hV, rfl, hfz, hnd⟩ := hW
  have hA : DataW.TrodAll enc Try.prog W 0 (fun _ => true) true Try.f7.params.toList args.toList ds p := hA0
  rw [Try.params7] at hA hval
  obtain ⟨v0, vs0, d0, ds0, p0, q0, hargs, rfl, rfl, h0, r0⟩ := trodAll_cons hA
  obtain ⟨rfl, rfl, rfl⟩ := trodAll_nil r0
  obtain rfl : args = #[v0] := by cases args; simp_all
  obtain ⟨rfl, rfl⟩ := trodVars_none hV
  obtain ⟨a0, n0, c0, rfl⟩ := okWide_slice Try.underlying31 (hval 0 31 v0 rfl rfl)
  have k0 := h0
  have lt0 : ∀ x ∈ p0, x.block < W.heap.size := by obtain ⟨m, hm⟩ := k0; exact DataW.trod_lt m _ _ _ hm
  obtain ⟨z0, e0, lc0, cm0, rd0, wf0⟩ := open_rd_int Try.underlying31 Try.underlying5 (by kernel_rfl) h0
  clear hA0 hval0
  refine (walk_FnCleanUp (w := W) z0 a0 n0 c0 e0 lc0 cm0 rd0 (fun x hx => wf_u8 (wf0 x hx))).mono fun e W' ⟨he, bel⟩ => ?_
  subst he
  exact ⟨_, rfl, _, _, _, [], _, [], hW', trodAll_mk1 (shut_bool Try.underlying4 _), (trodAll_cons_mk (Below.trod laidOut (by kernel_rfl) (of_decide_eq_true (by kernel_rfl)) k0 bel lt0) trodAll_mk0), rfl, bel.frame _, fun h => by cases h⟩
theorem closed : joinedFacts Try.prog 7 Try.f7 Rows.fnCleanUpSpec Rows.fnCleanUpRow = true :=
  facts_of mayEnter_ok liftsFinal_ok make_ok (by kernel_rfl)
theorem over : Rows.fnCleanUpRow.holds Try.pinned (OpenSpec.ofChange Rows.fnCleanUpSpec) :=
  OpenClaim.holds_of_wide 7 Try.f7 rfl rfl rfl rfl rfl rfl rfl ⟨rfl, rfl, rfl, rfl, rfl⟩ rfl rfl rfl rfl rfl (by kernel_rfl) Try.func7 closed
    (of_decide_eq_true (by kernel_rfl)) (by unfold Func.isWrapper; first | (rw [if_pos (by decide +kernel)]; kernel_rfl) | (rw [if_neg (by decide +kernel)]; exact ⟨rfl, rfl⟩))
    (fun os started H enc _ => lifted os started H enc)
/-- THE STATEMENT -/
theorem proved : Rows.FnCleanUpSaid := over
end fnCleanUp
end Go.Proofs.Ytoljmhggkighnaa
