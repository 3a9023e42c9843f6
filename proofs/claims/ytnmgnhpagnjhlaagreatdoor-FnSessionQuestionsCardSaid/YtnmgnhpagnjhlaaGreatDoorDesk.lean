/- The desk of the reference: each command's own function. -/
import Derived.Test.YtnmgnhpagnjhlaaGreatDoorSessA
import Derived.Test.YtnmgnhpagnjhlaaGreatDoorAcqC
import Derived.Test.YtnmgnhpagnjhlaaGreatDoorRel
import Derived.Test.YtnmgnhpagnjhlaaGreatDoorParsePI
import Derived.Test.YtnmgnhpagnjhlaaGreatDoorPlainS
import Derived.Deep.Cut
set_option linter.unusedVariables false
set_option linter.unusedSimpArgs false
set_option linter.unnecessarySimpa false
namespace Go.Proofs.YtnmgnhpagnjhlaaGreatDoor
open Go.RowKit

/-- A pool that lies in a block of a given type, its rows off that block. -/
def Desk (T : TypeId) (w : World) (gd : Nat) (P : Pl) : Prop :=
  ∃ A a B b C c, Blk w gd T #[.int .i64 P.mx, .slice A P.ids.length a, .slice B P.hs.length b, .slice C P.wt.length c] ∧ PRow w 0 P A a B b C c ∧ Off gd A a B b C c
theorem Desk.lt {T : TypeId} {w : World} {gd : Nat} {P : Pl} (h : Desk T w gd P) : gd < w.heap.size := by
  obtain ⟨A, a, B, b, C, c, hb, _⟩ := h
  exact hb.lt
theorem Desk.below {T : TypeId} {w w' : World} {gd : Nat} {P : Pl} (h : Desk T w gd P) (hb : Below w.heap.size w w') : Desk T w' gd P := by
  obtain ⟨A, a, B, b, C, c, hk, hp, ho⟩ := h
  exact ⟨A, a, B, b, C, c, hk.below hb hk.lt, hp.below hb, ho⟩
/-- What a command leaves: its text, the pool in the same block, all else as it was. -/
def RetD (T : TypeId) (gd : Nat) (r : Pl × List UInt8) (w : World) (e : Ending) (w' : World) : Prop :=
  e = .returned (.string (bsof r.2)) ∧ Desk T w' gd r.1 ∧ w.grownBy w' (some gd)
theorem Desk.put {T : TypeId} {w W : World} {gd gn : Nat} {Q : Pl} {A B C : Option Addr} {a b c : Nat} {cs : Array Value} (hk : Blk w gd T cs) (hcs : ∃ x y z u, cs = #[x, y, z, u]) (h : PNew w gn Q A a B b C c W) :
    Desk T ((((W.setCell ⟨gd, 0, none⟩ (.int .i64 Q.mx)).setCell ⟨gd, 1, none⟩ (.slice A Q.ids.length a)).setCell ⟨gd, 2, none⟩ (.slice B Q.hs.length b)).setCell ⟨gd, 3, none⟩ (.slice C Q.wt.length c)) gd Q ∧
      w.grownBy ((((W.setCell ⟨gd, 0, none⟩ (.int .i64 Q.mx)).setCell ⟨gd, 1, none⟩ (.slice A Q.ids.length a)).setCell ⟨gd, 2, none⟩ (.slice B Q.hs.length b)).setCell ⟨gd, 3, none⟩ (.slice C Q.wt.length c)) (some gd) := by
  obtain ⟨x, y, z, u, rfl⟩ := hcs
  have hlt := hk.lt
  have ho : Off gd A a B b C c := h.row.offLow hlt
  have hw := hk.below h.bel hlt
  refine ⟨⟨A, a, B, b, C, c, (((hw.set_ 0 _).set_ 1 _).set_ 2 _).set_ 3 _, ?_, ho⟩, ?_⟩
  · have pr := h.row.mono (base' := 0) (Nat.zero_le _)
    exact (((pr.set (q := ⟨gd, 0, none⟩) ho _).set (q := ⟨gd, 1, none⟩) ho _).set (q := ⟨gd, 2, none⟩) ho _).set (q := ⟨gd, 3, none⟩) ho _
  · exact only_setCell (only_setCell (only_setCell (only_setCell (only_of_below h.bel (some gd)) (.inl rfl) _) (.inl rfl) _) (.inl rfl) _) (.inl rfl) _
theorem intB {v : Int} (h : 0 ≤ v) (h9 : v ≤ 99) : decB v.toNat = bsof (intL v) := rfl
set_option maxRecDepth 100000 in
set_option maxHeartbeats 16000000 in
theorem d_acquire_c (gd : Nat) (P : Pl) (g : P.Good) (s : ByteArray) (w : World) (hs : s.size ≤ 1048576) (h : Desk 78 w gd P) :
    Calls Tryz.prog 91 #[.pointer (some ⟨gd, 0, none⟩), .string s] w (RetD 78 gd (acqA P (pI s.data.toList)) w) := by
  have hgd := h.lt
  have ne0 : ¬ w.heap.size = gd := by omega
  have hsm := g.small
  obtain ⟨A0, a0', B0, b0', C0, c0', hk, hp, ho⟩ := id h
  have BK := Lib.hid hk; have PR := Lib.hid hp; have H := Lib.hid h
  obtain ⟨x, hx⟩ : ∃ x, x = pI s.data.toList := ⟨_, rfl⟩
  have HPI := Lib.hid (fun W => (show Calls Tryz.prog 47 #[.string s] W (fun e w' => e = .returned (.int .i64 x) ∧ Below W.heap.size W w') from by rw [hx]; exact parseInt_c s W (by omega)))
  rw [← hx]
  obtain ⟨Q, hQ⟩ : ∃ Q, Q = (acqR P x).1 := ⟨_, rfl⟩
  obtain ⟨cn, hcn⟩ : ∃ cn, cn = (acqR P x).2.1 := ⟨_, rfl⟩
  obtain ⟨ok, hok⟩ : ∃ ok, ok = (acqR P x).2.2 := ⟨_, rfl⟩
  have HAC := Lib.hid (fun W (hb : Below w.heap.size w W) => (show Calls Tryz.prog 84 #[.agg #[.int .i64 P.mx, .slice A0 P.ids.length a0', .slice B0 P.hs.length b0', .slice C0 P.wt.length c0'], .int .i64 x] W (fun e w' => ∃ A a B b C c, e = .returned (.tuple #[.agg #[.int .i64 Q.mx, .slice A Q.ids.length a, .slice B Q.hs.length b, .slice C Q.wt.length c], .int .i64 cn, .bool ok]) ∧ PRow w' W.heap.size Q A a B b C c ∧ Below W.heap.size W w') from by rw [hQ, hcn, hok]; exact sAcquireConn_c P.mx P.ids P.hs P.wt A0 _ a0' B0 _ b0' C0 _ c0' W rfl rfl rfl (PR.out.below hb).1.rd (PR.out.below hb).2.1.rd (PR.out.below hb).2.2.1.rd (by omega) (by omega) (by omega) PR.out.1.le x))
  have hcn9 : cn ≤ 99 := by rw [hcn]; exact acqR_le g x
  have HA : Hid (acqA P x = if ok = true then (Q, if cn < 0 then waitT else intL cn) else (P, noT)) := by show _ = _; unfold acqA; rw [← hQ, ← hcn, ← hok]
  clear hQ hcn hok hx hk hp ho h
  obtain ⟨k0, k1, k2, k3, kfz⟩ := blk4 BK.out
  cases ok
  · have HN : Hid (acqA P x = (P, noT)) := HA.out.trans (if_neg (fun h => by cases h))
    rw [HN.out]
    go_enter Tryz.func91, Tryz.ntmps91
    go_wp2_with fail
    go_region_held3 (fun w' => w'.cell? ⟨gd, 0, none⟩ = some (.int .i64 P.mx) ∧ w'.cell? ⟨gd, 1, none⟩ = some (.slice A0 P.ids.length a0') ∧ w'.cell? ⟨gd, 2, none⟩ = some (.slice B0 P.hs.length b0') ∧ w'.cell? ⟨gd, 3, none⟩ = some (.slice C0 P.wt.length c0')) (go_keep) ((first
  | (go_at_call 47; first
      | ((with_reducible refine (HPI.out _).mono ?_); rintro e wA ⟨rfl, bA⟩; have BA := Lib.hid ((Below.refl w.heap.size w).drew.trans bA); have hsA : w.heap.size ≤ wA.heap.size := BA.out.size; obtain ⟨a0, a1, a2, a3, afz⟩ := blk4 (BK.out.below BA.out hgd); have neA : ¬ wA.heap.size = gd := (by omega))
      | (have hpi := HPI.out (w.alloc (.cells #[.int .i64 0, .slice none 0 0, .slice none 0 0, .slice none 0 0] 26)).drew; (with_reducible refine hpi.mono ?_); clear hpi; rintro e wA ⟨rfl, bA⟩; have NBA := Lib.hid ((Blk.new w 26 #[.int .i64 0, .slice none 0 0, .slice none 0 0, .slice none 0 0]).drew.below bA (by simp)); have BA := Lib.hid (((Below.refl w.heap.size w).alloc (Nat.le_refl _) (.cells #[.int .i64 0, .slice none 0 0, .slice none 0 0, .slice none 0 0] 26)).drew.trans (bA.mono (by simp))); have hsA : w.heap.size ≤ wA.heap.size := BA.out.size; obtain ⟨a0, a1, a2, a3, afz⟩ := blk4 (BK.out.below BA.out hgd); have neA : ¬ wA.heap.size = gd := (by omega)))
  | (go_at_call 84; first
      | ((with_reducible refine (HAC.out _ BA.out).mono ?_); rintro e wB ⟨A4, a4, B4, b4, C4, c4, rfl, prB, bB⟩; have PRB := Lib.hid (prB.mono hsA); have BB := Lib.hid (BA.out.trans (bB.mono hsA)); have hsB : wA.heap.size ≤ wB.heap.size := bB.size; obtain ⟨b0, b1, b2, b3, bfz⟩ := blk4 (BK.out.below BB.out hgd); have neB : ¬ wB.heap.size = gd := (by omega); (try (have NBB := Lib.hid (NBA.out.below bB NBA.out.lt); have OFB := Lib.hid (prB.offLow NBA.out.lt); obtain ⟨m0, m1, m2, m3, mfz⟩ := blk4 NBB.out)))
      | (have hac := HAC.out (wA.alloc (.cells #[.int .i64 0, .slice none 0 0, .slice none 0 0, .slice none 0 0] 26)) (BA.out.alloc hsA _); (with_reducible refine hac.mono ?_); clear hac; rintro e wB ⟨A4, a4, B4, b4, C4, c4, rfl, prB, bB⟩; have NBB := Lib.hid ((Blk.new wA 26 #[.int .i64 0, .slice none 0 0, .slice none 0 0, .slice none 0 0]).below bB (by simp)); have OFB := Lib.hid (prB.offLow (by simp : wA.heap.size < (wA.alloc (.cells #[.int .i64 0, .slice none 0 0, .slice none 0 0, .slice none 0 0] 26)).heap.size)); have bB' := ((Below.refl wA.heap.size wA).alloc (Nat.le_refl _) (.cells #[.int .i64 0, .slice none 0 0, .slice none 0 0, .slice none 0 0] 26)).trans (bB.mono (by simp)); have PRB := Lib.hid (prB.mono (Nat.le_trans hsA (by simp : wA.heap.size ≤ (wA.alloc (.cells #[.int .i64 0, .slice none 0 0, .slice none 0 0, .slice none 0 0] 26)).heap.size))); have BB := Lib.hid (BA.out.trans (bB'.mono hsA)); have hsB : wA.heap.size ≤ wB.heap.size := bB'.size; obtain ⟨b0, b1, b2, b3, bfz⟩ := blk4 (BK.out.below BB.out hgd); have neB : ¬ wB.heap.size = gd := (by omega); obtain ⟨m0, m1, m2, m3, mfz⟩ := blk4 NBB.out))
  | fail))
    all_goals
      first
      | (obtain ⟨gn, w8, hgn, hw8, nw⟩ := PNew.stored BB.out PRB.out NBB.out OFB.out (by omega); rw [← hw8, ← hgn])
      | (obtain ⟨gn, w8, hgn, hw8, nw⟩ := PNew.fresh BB.out PRB.out; rw [← hw8, ← hgn])
      have NW := Lib.hid nw
      have hgn8 : gn < w8.heap.size := nw.blk.lt
      have hgw8 : w.heap.size ≤ gn := nw.low
      have hne8 : ¬ gn = gd := by omega
      have hne8' : ¬ gd = gn := by omega
      have hgd8 : gd < w8.heap.size := by omega
      have BK8 := Lib.hid (BK.out.below nw.bel hgd)
      clear nw hw8 hgn PRB BB BA hsB hsA neA neB prB bB bA a0 a1 a2 a3 afz b0 b1 b2 b3 bfz k0 k1 k2 k3 kfz
      try clear NBB
      try clear NBA
      try clear OFB
      try clear m0 m1 m2 m3 mfz
      go_wp2_with fail
      go_ret
      exact ⟨rfl, H.out.below NW.out.bel, only_of_below NW.out.bel _⟩
  · by_cases hc : cn < 0
    · have hcd : decide (cn < 0) = true := decide_eq_true hc
      have HN : Hid (acqA P x = (Q, waitT)) := by show _ = _; rw [HA.out, if_pos rfl, if_pos hc]
      rw [HN.out]
      clear hc
      go_enter Tryz.func91, Tryz.ntmps91
      go_wp2_with fail
      go_region_held3 (fun w' => w'.cell? ⟨gd, 0, none⟩ = some (.int .i64 P.mx) ∧ w'.cell? ⟨gd, 1, none⟩ = some (.slice A0 P.ids.length a0') ∧ w'.cell? ⟨gd, 2, none⟩ = some (.slice B0 P.hs.length b0') ∧ w'.cell? ⟨gd, 3, none⟩ = some (.slice C0 P.wt.length c0')) (go_keep) ((first
  | (go_at_call 47; first
      | ((with_reducible refine (HPI.out _).mono ?_); rintro e wA ⟨rfl, bA⟩; have BA := Lib.hid ((Below.refl w.heap.size w).drew.trans bA); have hsA : w.heap.size ≤ wA.heap.size := BA.out.size; obtain ⟨a0, a1, a2, a3, afz⟩ := blk4 (BK.out.below BA.out hgd); have neA : ¬ wA.heap.size = gd := (by omega))
      | (have hpi := HPI.out (w.alloc (.cells #[.int .i64 0, .slice none 0 0, .slice none 0 0, .slice none 0 0] 26)).drew; (with_reducible refine hpi.mono ?_); clear hpi; rintro e wA ⟨rfl, bA⟩; have NBA := Lib.hid ((Blk.new w 26 #[.int .i64 0, .slice none 0 0, .slice none 0 0, .slice none 0 0]).drew.below bA (by simp)); have BA := Lib.hid (((Below.refl w.heap.size w).alloc (Nat.le_refl _) (.cells #[.int .i64 0, .slice none 0 0, .slice none 0 0, .slice none 0 0] 26)).drew.trans (bA.mono (by simp))); have hsA : w.heap.size ≤ wA.heap.size := BA.out.size; obtain ⟨a0, a1, a2, a3, afz⟩ := blk4 (BK.out.below BA.out hgd); have neA : ¬ wA.heap.size = gd := (by omega)))
  | (go_at_call 84; first
      | ((with_reducible refine (HAC.out _ BA.out).mono ?_); rintro e wB ⟨A4, a4, B4, b4, C4, c4, rfl, prB, bB⟩; have PRB := Lib.hid (prB.mono hsA); have BB := Lib.hid (BA.out.trans (bB.mono hsA)); have hsB : wA.heap.size ≤ wB.heap.size := bB.size; obtain ⟨b0, b1, b2, b3, bfz⟩ := blk4 (BK.out.below BB.out hgd); have neB : ¬ wB.heap.size = gd := (by omega); (try (have NBB := Lib.hid (NBA.out.below bB NBA.out.lt); have OFB := Lib.hid (prB.offLow NBA.out.lt); obtain ⟨m0, m1, m2, m3, mfz⟩ := blk4 NBB.out)))
      | (have hac := HAC.out (wA.alloc (.cells #[.int .i64 0, .slice none 0 0, .slice none 0 0, .slice none 0 0] 26)) (BA.out.alloc hsA _); (with_reducible refine hac.mono ?_); clear hac; rintro e wB ⟨A4, a4, B4, b4, C4, c4, rfl, prB, bB⟩; have NBB := Lib.hid ((Blk.new wA 26 #[.int .i64 0, .slice none 0 0, .slice none 0 0, .slice none 0 0]).below bB (by simp)); have OFB := Lib.hid (prB.offLow (by simp : wA.heap.size < (wA.alloc (.cells #[.int .i64 0, .slice none 0 0, .slice none 0 0, .slice none 0 0] 26)).heap.size)); have bB' := ((Below.refl wA.heap.size wA).alloc (Nat.le_refl _) (.cells #[.int .i64 0, .slice none 0 0, .slice none 0 0, .slice none 0 0] 26)).trans (bB.mono (by simp)); have PRB := Lib.hid (prB.mono (Nat.le_trans hsA (by simp : wA.heap.size ≤ (wA.alloc (.cells #[.int .i64 0, .slice none 0 0, .slice none 0 0, .slice none 0 0] 26)).heap.size))); have BB := Lib.hid (BA.out.trans (bB'.mono hsA)); have hsB : wA.heap.size ≤ wB.heap.size := bB'.size; obtain ⟨b0, b1, b2, b3, bfz⟩ := blk4 (BK.out.below BB.out hgd); have neB : ¬ wB.heap.size = gd := (by omega); obtain ⟨m0, m1, m2, m3, mfz⟩ := blk4 NBB.out))
  | fail))
      all_goals
        first
        | (obtain ⟨gn, w8, hgn, hw8, nw⟩ := PNew.stored BB.out PRB.out NBB.out OFB.out (by omega); rw [← hw8, ← hgn])
        | (obtain ⟨gn, w8, hgn, hw8, nw⟩ := PNew.fresh BB.out PRB.out; rw [← hw8, ← hgn])
        have NW := Lib.hid nw
        have hgn8 : gn < w8.heap.size := nw.blk.lt
        have hgw8 : w.heap.size ≤ gn := nw.low
        have hne8 : ¬ gn = gd := by omega
        have hne8' : ¬ gd = gn := by omega
        have hgd8 : gd < w8.heap.size := by omega
        have BK8 := Lib.hid (BK.out.below nw.bel hgd)
        clear nw hw8 hgn PRB BB BA hsB hsA neA neB prB bB bA a0 a1 a2 a3 afz b0 b1 b2 b3 bfz k0 k1 k2 k3 kfz
        try clear NBB
        try clear NBA
        try clear OFB
        try clear m0 m1 m2 m3 mfz
        obtain ⟨k0, k1, k2, k3, kfz⟩ := blk4 BK8.out
        obtain ⟨n0, n1, n2, n3, nfz⟩ := blk4 NW.out.blk
        go_wp2_with fail
        go_ret
        have hput := Desk.put BK.out ⟨_, _, _, _, rfl⟩ NW.out
        exact ⟨rfl, hput.1, hput.2⟩
    · have hcd : decide (cn < 0) = false := decide_eq_false hc
      have HN : Hid (acqA P x = (Q, intL cn)) := by show _ = _; rw [HA.out, if_pos rfl, if_neg hc]
      rw [HN.out]
      obtain ⟨cN, rfl⟩ : ∃ cN : Nat, cn = cN := ⟨cn.toNat, by omega⟩
      have HDC := Lib.hid (fun W => decimal_c cN (by omega) W)
      have hds : (decB cN).size ≤ 7 := decB_le cN (by omega)
      obtain ⟨DB, hDB⟩ : ∃ DB, DB = decB cN := ⟨_, rfl⟩
      rw [← hDB] at HDC hds
      have HDB : Hid (bsof (intL (cN : Int)) = DB) := by show _ = _; rw [hDB]; rfl
      clear hc hDB
      go_enter Tryz.func91, Tryz.ntmps91
      go_wp2_with fail
      go_region_held3 (fun w' => w'.cell? ⟨gd, 0, none⟩ = some (.int .i64 P.mx) ∧ w'.cell? ⟨gd, 1, none⟩ = some (.slice A0 P.ids.length a0') ∧ w'.cell? ⟨gd, 2, none⟩ = some (.slice B0 P.hs.length b0') ∧ w'.cell? ⟨gd, 3, none⟩ = some (.slice C0 P.wt.length c0')) (go_keep) ((first
  | (go_at_call 47; first
      | ((with_reducible refine (HPI.out _).mono ?_); rintro e wA ⟨rfl, bA⟩; have BA := Lib.hid ((Below.refl w.heap.size w).drew.trans bA); have hsA : w.heap.size ≤ wA.heap.size := BA.out.size; obtain ⟨a0, a1, a2, a3, afz⟩ := blk4 (BK.out.below BA.out hgd); have neA : ¬ wA.heap.size = gd := (by omega))
      | (have hpi := HPI.out (w.alloc (.cells #[.int .i64 0, .slice none 0 0, .slice none 0 0, .slice none 0 0] 26)).drew; (with_reducible refine hpi.mono ?_); clear hpi; rintro e wA ⟨rfl, bA⟩; have NBA := Lib.hid ((Blk.new w 26 #[.int .i64 0, .slice none 0 0, .slice none 0 0, .slice none 0 0]).drew.below bA (by simp)); have BA := Lib.hid (((Below.refl w.heap.size w).alloc (Nat.le_refl _) (.cells #[.int .i64 0, .slice none 0 0, .slice none 0 0, .slice none 0 0] 26)).drew.trans (bA.mono (by simp))); have hsA : w.heap.size ≤ wA.heap.size := BA.out.size; obtain ⟨a0, a1, a2, a3, afz⟩ := blk4 (BK.out.below BA.out hgd); have neA : ¬ wA.heap.size = gd := (by omega)))
  | (go_at_call 84; first
      | ((with_reducible refine (HAC.out _ BA.out).mono ?_); rintro e wB ⟨A4, a4, B4, b4, C4, c4, rfl, prB, bB⟩; have PRB := Lib.hid (prB.mono hsA); have BB := Lib.hid (BA.out.trans (bB.mono hsA)); have hsB : wA.heap.size ≤ wB.heap.size := bB.size; obtain ⟨b0, b1, b2, b3, bfz⟩ := blk4 (BK.out.below BB.out hgd); have neB : ¬ wB.heap.size = gd := (by omega); (try (have NBB := Lib.hid (NBA.out.below bB NBA.out.lt); have OFB := Lib.hid (prB.offLow NBA.out.lt); obtain ⟨m0, m1, m2, m3, mfz⟩ := blk4 NBB.out)))
      | (have hac := HAC.out (wA.alloc (.cells #[.int .i64 0, .slice none 0 0, .slice none 0 0, .slice none 0 0] 26)) (BA.out.alloc hsA _); (with_reducible refine hac.mono ?_); clear hac; rintro e wB ⟨A4, a4, B4, b4, C4, c4, rfl, prB, bB⟩; have NBB := Lib.hid ((Blk.new wA 26 #[.int .i64 0, .slice none 0 0, .slice none 0 0, .slice none 0 0]).below bB (by simp)); have OFB := Lib.hid (prB.offLow (by simp : wA.heap.size < (wA.alloc (.cells #[.int .i64 0, .slice none 0 0, .slice none 0 0, .slice none 0 0] 26)).heap.size)); have bB' := ((Below.refl wA.heap.size wA).alloc (Nat.le_refl _) (.cells #[.int .i64 0, .slice none 0 0, .slice none 0 0, .slice none 0 0] 26)).trans (bB.mono (by simp)); have PRB := Lib.hid (prB.mono (Nat.le_trans hsA (by simp : wA.heap.size ≤ (wA.alloc (.cells #[.int .i64 0, .slice none 0 0, .slice none 0 0, .slice none 0 0] 26)).heap.size))); have BB := Lib.hid (BA.out.trans (bB'.mono hsA)); have hsB : wA.heap.size ≤ wB.heap.size := bB'.size; obtain ⟨b0, b1, b2, b3, bfz⟩ := blk4 (BK.out.below BB.out hgd); have neB : ¬ wB.heap.size = gd := (by omega); obtain ⟨m0, m1, m2, m3, mfz⟩ := blk4 NBB.out))
  | fail))
      all_goals
        first
        | (obtain ⟨gn, w8, hgn, hw8, nw⟩ := PNew.stored BB.out PRB.out NBB.out OFB.out (by omega); rw [← hw8, ← hgn])
        | (obtain ⟨gn, w8, hgn, hw8, nw⟩ := PNew.fresh BB.out PRB.out; rw [← hw8, ← hgn])
        have NW := Lib.hid nw
        have hgn8 : gn < w8.heap.size := nw.blk.lt
        have hgw8 : w.heap.size ≤ gn := nw.low
        have hne8 : ¬ gn = gd := by omega
        have hne8' : ¬ gd = gn := by omega
        have hgd8 : gd < w8.heap.size := by omega
        have BK8 := Lib.hid (BK.out.below nw.bel hgd)
        clear nw hw8 hgn PRB BB BA hsB hsA neA neB prB bB bA a0 a1 a2 a3 afz b0 b1 b2 b3 bfz k0 k1 k2 k3 kfz
        try clear NBB
        try clear NBA
        try clear OFB
        try clear m0 m1 m2 m3 mfz
        obtain ⟨k0, k1, k2, k3, kfz⟩ := blk4 BK8.out
        obtain ⟨n0, n1, n2, n3, nfz⟩ := blk4 NW.out.blk
        have hput := Desk.put BK.out ⟨_, _, _, _, rfl⟩ NW.out
        obtain ⟨w9, hw9⟩ : ∃ w9, w9 = (((w8.setCell ⟨gd, 0, none⟩ (.int .i64 Q.mx)).setCell ⟨gd, 1, none⟩ (.slice A4 Q.ids.length a4)).setCell ⟨gd, 2, none⟩ (.slice B4 Q.hs.length b4)).setCell ⟨gd, 3, none⟩ (.slice C4 Q.wt.length c4) := ⟨_, rfl⟩
        rw [← hw9] at hput
        have PUT := Lib.hid hput
        clear hput
        go_wp2_with fail
        rw [← hw9]
        clear hw9 k0 k1 k2 k3 kfz n0 n1 n2 n3 nfz
        refine (HDC.out _).mono ?_
        rintro e w10 ⟨rfl, b10⟩
        go_wp2_with fail
        go_ret
        exact ⟨congrArg (fun z => Ending.returned (.string z)) HDB.out.symm, PUT.out.1.below b10, only_trans PUT.out.2 (only_of_below b10 _)⟩
set_option maxRecDepth 100000 in
set_option maxHeartbeats 16000000 in
theorem d_release_c (gd : Nat) (P : Pl) (g : P.Good) (s : ByteArray) (w : World) (hs : s.size ≤ 1048576) (h : Desk 78 w gd P) :
    Calls Tryz.prog 92 #[.pointer (some ⟨gd, 0, none⟩), .string s] w (RetD 78 gd (relA P (pI s.data.toList)) w) := by
  have hgd := h.lt
  have ne0 : ¬ w.heap.size = gd := by omega
  have hsm := g.small
  obtain ⟨A0, a0', B0, b0', C0, c0', hk, hp, ho⟩ := id h
  have BK := Lib.hid hk; have PR := Lib.hid hp; have H := Lib.hid h
  obtain ⟨x, hx⟩ : ∃ x, x = pI s.data.toList := ⟨_, rfl⟩
  have HPI := Lib.hid (fun W => (show Calls Tryz.prog 47 #[.string s] W (fun e w' => e = .returned (.int .i64 x) ∧ Below W.heap.size W w') from by rw [hx]; exact parseInt_c s W (by omega)))
  rw [← hx]
  obtain ⟨Q, hQ⟩ : ∃ Q, Q = (relR P x).1 := ⟨_, rfl⟩
  obtain ⟨cn, hcn⟩ : ∃ cn, cn = (relR P x).2.1 := ⟨_, rfl⟩
  obtain ⟨ok, hok⟩ : ∃ ok, ok = (relR P x).2.2 := ⟨_, rfl⟩
  have HAC := Lib.hid (fun W (hb : Below w.heap.size w W) => (show Calls Tryz.prog 85 #[.agg #[.int .i64 P.mx, .slice A0 P.ids.length a0', .slice B0 P.hs.length b0', .slice C0 P.wt.length c0'], .int .i64 x] W (fun e w' => ∃ A a B b C c, e = .returned (.tuple #[.agg #[.int .i64 Q.mx, .slice A Q.ids.length a, .slice B Q.hs.length b, .slice C Q.wt.length c], .int .i64 cn, .bool ok]) ∧ PRow w' W.heap.size Q A a B b C c ∧ Below W.heap.size W w') from by rw [hQ, hcn, hok]; exact sReleaseConn_c P.mx P.ids P.hs P.wt A0 _ a0' B0 _ b0' C0 _ c0' W rfl rfl rfl (PR.out.below hb).1.rd (PR.out.below hb).2.1.rd (PR.out.below hb).2.2.1.rd (by omega) (by omega) (by omega) PR.out.2.1.le PR.out.2.2.1.le x))
  have hcn9 : cn ≤ 99 := by rw [hcn]; exact relR_le g x
  have HA : Hid (relA P x = if ok = true then (Q, if cn < 0 then idleT else toT ++ intL cn) else (P, noT)) := by show _ = _; unfold relA; rw [← hQ, ← hcn, ← hok]
  clear hQ hcn hok hx hk hp ho h
  obtain ⟨k0, k1, k2, k3, kfz⟩ := blk4 BK.out
  cases ok
  · have HN : Hid (relA P x = (P, noT)) := HA.out.trans (if_neg (fun h => by cases h))
    rw [HN.out]
    go_enter Tryz.func92, Tryz.ntmps92
    go_wp2_with fail
    go_region_held3 (fun w' => w'.cell? ⟨gd, 0, none⟩ = some (.int .i64 P.mx) ∧ w'.cell? ⟨gd, 1, none⟩ = some (.slice A0 P.ids.length a0') ∧ w'.cell? ⟨gd, 2, none⟩ = some (.slice B0 P.hs.length b0') ∧ w'.cell? ⟨gd, 3, none⟩ = some (.slice C0 P.wt.length c0')) (go_keep) ((first
  | (go_at_call 47; first
      | ((with_reducible refine (HPI.out _).mono ?_); rintro e wA ⟨rfl, bA⟩; have BA := Lib.hid ((Below.refl w.heap.size w).drew.trans bA); have hsA : w.heap.size ≤ wA.heap.size := BA.out.size; obtain ⟨a0, a1, a2, a3, afz⟩ := blk4 (BK.out.below BA.out hgd); have neA : ¬ wA.heap.size = gd := (by omega))
      | (have hpi := HPI.out (w.alloc (.cells #[.int .i64 0, .slice none 0 0, .slice none 0 0, .slice none 0 0] 26)).drew; (with_reducible refine hpi.mono ?_); clear hpi; rintro e wA ⟨rfl, bA⟩; have NBA := Lib.hid ((Blk.new w 26 #[.int .i64 0, .slice none 0 0, .slice none 0 0, .slice none 0 0]).drew.below bA (by simp)); have BA := Lib.hid (((Below.refl w.heap.size w).alloc (Nat.le_refl _) (.cells #[.int .i64 0, .slice none 0 0, .slice none 0 0, .slice none 0 0] 26)).drew.trans (bA.mono (by simp))); have hsA : w.heap.size ≤ wA.heap.size := BA.out.size; obtain ⟨a0, a1, a2, a3, afz⟩ := blk4 (BK.out.below BA.out hgd); have neA : ¬ wA.heap.size = gd := (by omega)))
  | (go_at_call 85; first
      | ((with_reducible refine (HAC.out _ BA.out).mono ?_); rintro e wB ⟨A4, a4, B4, b4, C4, c4, rfl, prB, bB⟩; have PRB := Lib.hid (prB.mono hsA); have BB := Lib.hid (BA.out.trans (bB.mono hsA)); have hsB : wA.heap.size ≤ wB.heap.size := bB.size; obtain ⟨b0, b1, b2, b3, bfz⟩ := blk4 (BK.out.below BB.out hgd); have neB : ¬ wB.heap.size = gd := (by omega); (try (have NBB := Lib.hid (NBA.out.below bB NBA.out.lt); have OFB := Lib.hid (prB.offLow NBA.out.lt); obtain ⟨m0, m1, m2, m3, mfz⟩ := blk4 NBB.out)))
      | (have hac := HAC.out (wA.alloc (.cells #[.int .i64 0, .slice none 0 0, .slice none 0 0, .slice none 0 0] 26)) (BA.out.alloc hsA _); (with_reducible refine hac.mono ?_); clear hac; rintro e wB ⟨A4, a4, B4, b4, C4, c4, rfl, prB, bB⟩; have NBB := Lib.hid ((Blk.new wA 26 #[.int .i64 0, .slice none 0 0, .slice none 0 0, .slice none 0 0]).below bB (by simp)); have OFB := Lib.hid (prB.offLow (by simp : wA.heap.size < (wA.alloc (.cells #[.int .i64 0, .slice none 0 0, .slice none 0 0, .slice none 0 0] 26)).heap.size)); have bB' := ((Below.refl wA.heap.size wA).alloc (Nat.le_refl _) (.cells #[.int .i64 0, .slice none 0 0, .slice none 0 0, .slice none 0 0] 26)).trans (bB.mono (by simp)); have PRB := Lib.hid (prB.mono (Nat.le_trans hsA (by simp : wA.heap.size ≤ (wA.alloc (.cells #[.int .i64 0, .slice none 0 0, .slice none 0 0, .slice none 0 0] 26)).heap.size))); have BB := Lib.hid (BA.out.trans (bB'.mono hsA)); have hsB : wA.heap.size ≤ wB.heap.size := bB'.size; obtain ⟨b0, b1, b2, b3, bfz⟩ := blk4 (BK.out.below BB.out hgd); have neB : ¬ wB.heap.size = gd := (by omega); obtain ⟨m0, m1, m2, m3, mfz⟩ := blk4 NBB.out))
  | fail))
    all_goals
      first
      | (obtain ⟨gn, w8, hgn, hw8, nw⟩ := PNew.stored BB.out PRB.out NBB.out OFB.out (by omega); rw [← hw8, ← hgn])
      | (obtain ⟨gn, w8, hgn, hw8, nw⟩ := PNew.fresh BB.out PRB.out; rw [← hw8, ← hgn])
      have NW := Lib.hid nw
      have hgn8 : gn < w8.heap.size := nw.blk.lt
      have hgw8 : w.heap.size ≤ gn := nw.low
      have hne8 : ¬ gn = gd := by omega
      have hne8' : ¬ gd = gn := by omega
      have hgd8 : gd < w8.heap.size := by omega
      have BK8 := Lib.hid (BK.out.below nw.bel hgd)
      clear nw hw8 hgn PRB BB BA hsB hsA neA neB prB bB bA a0 a1 a2 a3 afz b0 b1 b2 b3 bfz k0 k1 k2 k3 kfz
      try clear NBB
      try clear NBA
      try clear OFB
      try clear m0 m1 m2 m3 mfz
      go_wp2_with fail
      go_ret
      exact ⟨rfl, H.out.below NW.out.bel, only_of_below NW.out.bel _⟩
  · by_cases hc : cn < 0
    · have hcd : decide (cn < 0) = true := decide_eq_true hc
      have HN : Hid (relA P x = (Q, idleT)) := by show _ = _; rw [HA.out, if_pos rfl, if_pos hc]
      rw [HN.out]
      clear hc
      go_enter Tryz.func92, Tryz.ntmps92
      go_wp2_with fail
      go_region_held3 (fun w' => w'.cell? ⟨gd, 0, none⟩ = some (.int .i64 P.mx) ∧ w'.cell? ⟨gd, 1, none⟩ = some (.slice A0 P.ids.length a0') ∧ w'.cell? ⟨gd, 2, none⟩ = some (.slice B0 P.hs.length b0') ∧ w'.cell? ⟨gd, 3, none⟩ = some (.slice C0 P.wt.length c0')) (go_keep) ((first
  | (go_at_call 47; first
      | ((with_reducible refine (HPI.out _).mono ?_); rintro e wA ⟨rfl, bA⟩; have BA := Lib.hid ((Below.refl w.heap.size w).drew.trans bA); have hsA : w.heap.size ≤ wA.heap.size := BA.out.size; obtain ⟨a0, a1, a2, a3, afz⟩ := blk4 (BK.out.below BA.out hgd); have neA : ¬ wA.heap.size = gd := (by omega))
      | (have hpi := HPI.out (w.alloc (.cells #[.int .i64 0, .slice none 0 0, .slice none 0 0, .slice none 0 0] 26)).drew; (with_reducible refine hpi.mono ?_); clear hpi; rintro e wA ⟨rfl, bA⟩; have NBA := Lib.hid ((Blk.new w 26 #[.int .i64 0, .slice none 0 0, .slice none 0 0, .slice none 0 0]).drew.below bA (by simp)); have BA := Lib.hid (((Below.refl w.heap.size w).alloc (Nat.le_refl _) (.cells #[.int .i64 0, .slice none 0 0, .slice none 0 0, .slice none 0 0] 26)).drew.trans (bA.mono (by simp))); have hsA : w.heap.size ≤ wA.heap.size := BA.out.size; obtain ⟨a0, a1, a2, a3, afz⟩ := blk4 (BK.out.below BA.out hgd); have neA : ¬ wA.heap.size = gd := (by omega)))
  | (go_at_call 85; first
      | ((with_reducible refine (HAC.out _ BA.out).mono ?_); rintro e wB ⟨A4, a4, B4, b4, C4, c4, rfl, prB, bB⟩; have PRB := Lib.hid (prB.mono hsA); have BB := Lib.hid (BA.out.trans (bB.mono hsA)); have hsB : wA.heap.size ≤ wB.heap.size := bB.size; obtain ⟨b0, b1, b2, b3, bfz⟩ := blk4 (BK.out.below BB.out hgd); have neB : ¬ wB.heap.size = gd := (by omega); (try (have NBB := Lib.hid (NBA.out.below bB NBA.out.lt); have OFB := Lib.hid (prB.offLow NBA.out.lt); obtain ⟨m0, m1, m2, m3, mfz⟩ := blk4 NBB.out)))
      | (have hac := HAC.out (wA.alloc (.cells #[.int .i64 0, .slice none 0 0, .slice none 0 0, .slice none 0 0] 26)) (BA.out.alloc hsA _); (with_reducible refine hac.mono ?_); clear hac; rintro e wB ⟨A4, a4, B4, b4, C4, c4, rfl, prB, bB⟩; have NBB := Lib.hid ((Blk.new wA 26 #[.int .i64 0, .slice none 0 0, .slice none 0 0, .slice none 0 0]).below bB (by simp)); have OFB := Lib.hid (prB.offLow (by simp : wA.heap.size < (wA.alloc (.cells #[.int .i64 0, .slice none 0 0, .slice none 0 0, .slice none 0 0] 26)).heap.size)); have bB' := ((Below.refl wA.heap.size wA).alloc (Nat.le_refl _) (.cells #[.int .i64 0, .slice none 0 0, .slice none 0 0, .slice none 0 0] 26)).trans (bB.mono (by simp)); have PRB := Lib.hid (prB.mono (Nat.le_trans hsA (by simp : wA.heap.size ≤ (wA.alloc (.cells #[.int .i64 0, .slice none 0 0, .slice none 0 0, .slice none 0 0] 26)).heap.size))); have BB := Lib.hid (BA.out.trans (bB'.mono hsA)); have hsB : wA.heap.size ≤ wB.heap.size := bB'.size; obtain ⟨b0, b1, b2, b3, bfz⟩ := blk4 (BK.out.below BB.out hgd); have neB : ¬ wB.heap.size = gd := (by omega); obtain ⟨m0, m1, m2, m3, mfz⟩ := blk4 NBB.out))
  | fail))
      all_goals
        first
        | (obtain ⟨gn, w8, hgn, hw8, nw⟩ := PNew.stored BB.out PRB.out NBB.out OFB.out (by omega); rw [← hw8, ← hgn])
        | (obtain ⟨gn, w8, hgn, hw8, nw⟩ := PNew.fresh BB.out PRB.out; rw [← hw8, ← hgn])
        have NW := Lib.hid nw
        have hgn8 : gn < w8.heap.size := nw.blk.lt
        have hgw8 : w.heap.size ≤ gn := nw.low
        have hne8 : ¬ gn = gd := by omega
        have hne8' : ¬ gd = gn := by omega
        have hgd8 : gd < w8.heap.size := by omega
        have BK8 := Lib.hid (BK.out.below nw.bel hgd)
        clear nw hw8 hgn PRB BB BA hsB hsA neA neB prB bB bA a0 a1 a2 a3 afz b0 b1 b2 b3 bfz k0 k1 k2 k3 kfz
        try clear NBB
        try clear NBA
        try clear OFB
        try clear m0 m1 m2 m3 mfz
        obtain ⟨k0, k1, k2, k3, kfz⟩ := blk4 BK8.out
        obtain ⟨n0, n1, n2, n3, nfz⟩ := blk4 NW.out.blk
        go_wp2_with fail
        go_ret
        have hput := Desk.put BK.out ⟨_, _, _, _, rfl⟩ NW.out
        exact ⟨rfl, hput.1, hput.2⟩
    · have hcd : decide (cn < 0) = false := decide_eq_false hc
      have HN : Hid (relA P x = (Q, toT ++ intL cn)) := by show _ = _; rw [HA.out, if_pos rfl, if_neg hc]
      rw [HN.out]
      obtain ⟨cN, rfl⟩ : ∃ cN : Nat, cn = cN := ⟨cn.toNat, by omega⟩
      have HDC := Lib.hid (fun W => decimal_c cN (by omega) W)
      have hds : (decB cN).size ≤ 7 := decB_le cN (by omega)
      obtain ⟨DB, hDB⟩ : ∃ DB, DB = decB cN := ⟨_, rfl⟩
      rw [← hDB] at HDC hds
      have HDB : Hid (bsof (toT ++ intL (cN : Int)) = (⟨#[116, 111, 32]⟩ : ByteArray) ++ DB) := by show _ = bsof toT ++ _; rw [hDB]; exact (bsof_append toT (intL (cN : Int))).symm
      clear hc hDB
      have z1 : ¬ 9223372036854775807 < 3 + DB.size := by omega
      go_enter Tryz.func92, Tryz.ntmps92
      go_wp2_with fail
      go_region_held3 (fun w' => w'.cell? ⟨gd, 0, none⟩ = some (.int .i64 P.mx) ∧ w'.cell? ⟨gd, 1, none⟩ = some (.slice A0 P.ids.length a0') ∧ w'.cell? ⟨gd, 2, none⟩ = some (.slice B0 P.hs.length b0') ∧ w'.cell? ⟨gd, 3, none⟩ = some (.slice C0 P.wt.length c0')) (go_keep) ((first
  | (go_at_call 47; first
      | ((with_reducible refine (HPI.out _).mono ?_); rintro e wA ⟨rfl, bA⟩; have BA := Lib.hid ((Below.refl w.heap.size w).drew.trans bA); have hsA : w.heap.size ≤ wA.heap.size := BA.out.size; obtain ⟨a0, a1, a2, a3, afz⟩ := blk4 (BK.out.below BA.out hgd); have neA : ¬ wA.heap.size = gd := (by omega))
      | (have hpi := HPI.out (w.alloc (.cells #[.int .i64 0, .slice none 0 0, .slice none 0 0, .slice none 0 0] 26)).drew; (with_reducible refine hpi.mono ?_); clear hpi; rintro e wA ⟨rfl, bA⟩; have NBA := Lib.hid ((Blk.new w 26 #[.int .i64 0, .slice none 0 0, .slice none 0 0, .slice none 0 0]).drew.below bA (by simp)); have BA := Lib.hid (((Below.refl w.heap.size w).alloc (Nat.le_refl _) (.cells #[.int .i64 0, .slice none 0 0, .slice none 0 0, .slice none 0 0] 26)).drew.trans (bA.mono (by simp))); have hsA : w.heap.size ≤ wA.heap.size := BA.out.size; obtain ⟨a0, a1, a2, a3, afz⟩ := blk4 (BK.out.below BA.out hgd); have neA : ¬ wA.heap.size = gd := (by omega)))
  | (go_at_call 85; first
      | ((with_reducible refine (HAC.out _ BA.out).mono ?_); rintro e wB ⟨A4, a4, B4, b4, C4, c4, rfl, prB, bB⟩; have PRB := Lib.hid (prB.mono hsA); have BB := Lib.hid (BA.out.trans (bB.mono hsA)); have hsB : wA.heap.size ≤ wB.heap.size := bB.size; obtain ⟨b0, b1, b2, b3, bfz⟩ := blk4 (BK.out.below BB.out hgd); have neB : ¬ wB.heap.size = gd := (by omega); (try (have NBB := Lib.hid (NBA.out.below bB NBA.out.lt); have OFB := Lib.hid (prB.offLow NBA.out.lt); obtain ⟨m0, m1, m2, m3, mfz⟩ := blk4 NBB.out)))
      | (have hac := HAC.out (wA.alloc (.cells #[.int .i64 0, .slice none 0 0, .slice none 0 0, .slice none 0 0] 26)) (BA.out.alloc hsA _); (with_reducible refine hac.mono ?_); clear hac; rintro e wB ⟨A4, a4, B4, b4, C4, c4, rfl, prB, bB⟩; have NBB := Lib.hid ((Blk.new wA 26 #[.int .i64 0, .slice none 0 0, .slice none 0 0, .slice none 0 0]).below bB (by simp)); have OFB := Lib.hid (prB.offLow (by simp : wA.heap.size < (wA.alloc (.cells #[.int .i64 0, .slice none 0 0, .slice none 0 0, .slice none 0 0] 26)).heap.size)); have bB' := ((Below.refl wA.heap.size wA).alloc (Nat.le_refl _) (.cells #[.int .i64 0, .slice none 0 0, .slice none 0 0, .slice none 0 0] 26)).trans (bB.mono (by simp)); have PRB := Lib.hid (prB.mono (Nat.le_trans hsA (by simp : wA.heap.size ≤ (wA.alloc (.cells #[.int .i64 0, .slice none 0 0, .slice none 0 0, .slice none 0 0] 26)).heap.size))); have BB := Lib.hid (BA.out.trans (bB'.mono hsA)); have hsB : wA.heap.size ≤ wB.heap.size := bB'.size; obtain ⟨b0, b1, b2, b3, bfz⟩ := blk4 (BK.out.below BB.out hgd); have neB : ¬ wB.heap.size = gd := (by omega); obtain ⟨m0, m1, m2, m3, mfz⟩ := blk4 NBB.out))
  | fail))
      all_goals
        first
        | (obtain ⟨gn, w8, hgn, hw8, nw⟩ := PNew.stored BB.out PRB.out NBB.out OFB.out (by omega); rw [← hw8, ← hgn])
        | (obtain ⟨gn, w8, hgn, hw8, nw⟩ := PNew.fresh BB.out PRB.out; rw [← hw8, ← hgn])
        have NW := Lib.hid nw
        have hgn8 : gn < w8.heap.size := nw.blk.lt
        have hgw8 : w.heap.size ≤ gn := nw.low
        have hne8 : ¬ gn = gd := by omega
        have hne8' : ¬ gd = gn := by omega
        have hgd8 : gd < w8.heap.size := by omega
        have BK8 := Lib.hid (BK.out.below nw.bel hgd)
        clear nw hw8 hgn PRB BB BA hsB hsA neA neB prB bB bA a0 a1 a2 a3 afz b0 b1 b2 b3 bfz k0 k1 k2 k3 kfz
        try clear NBB
        try clear NBA
        try clear OFB
        try clear m0 m1 m2 m3 mfz
        obtain ⟨k0, k1, k2, k3, kfz⟩ := blk4 BK8.out
        obtain ⟨n0, n1, n2, n3, nfz⟩ := blk4 NW.out.blk
        have hput := Desk.put BK.out ⟨_, _, _, _, rfl⟩ NW.out
        obtain ⟨w9, hw9⟩ : ∃ w9, w9 = (((w8.setCell ⟨gd, 0, none⟩ (.int .i64 Q.mx)).setCell ⟨gd, 1, none⟩ (.slice A4 Q.ids.length a4)).setCell ⟨gd, 2, none⟩ (.slice B4 Q.hs.length b4)).setCell ⟨gd, 3, none⟩ (.slice C4 Q.wt.length c4) := ⟨_, rfl⟩
        rw [← hw9] at hput
        have PUT := Lib.hid hput
        clear hput
        go_wp2_with fail
        rw [← hw9]
        clear hw9 k0 k1 k2 k3 kfz n0 n1 n2 n3 nfz
        refine (HDC.out _).mono ?_
        rintro e w10 ⟨rfl, b10⟩
        go_wp2_with fail
        go_ret
        exact ⟨congrArg (fun z => Ending.returned (.string z)) HDB.out.symm, PUT.out.1.below b10, only_trans PUT.out.2 (only_of_below b10 _)⟩
set_option maxRecDepth 100000 in
set_option maxHeartbeats 16000000 in
theorem d_close_c (gd : Nat) (P : Pl) (g : P.Good) (s : ByteArray) (w : World) (hs : s.size ≤ 1048576) (h : Desk 78 w gd P) :
    Calls Tryz.prog 93 #[.pointer (some ⟨gd, 0, none⟩), .string s] w (RetD 78 gd (closeA P (pI s.data.toList)) w) := by
  have hgd := h.lt
  have ne0 : ¬ w.heap.size = gd := by omega
  have hsm := g.small
  obtain ⟨A0, a0', B0, b0', C0, c0', hk, hp, ho⟩ := id h
  have BK := Lib.hid hk; have PR := Lib.hid hp; have H := Lib.hid h
  obtain ⟨x, hx⟩ : ∃ x, x = pI s.data.toList := ⟨_, rfl⟩
  have HPI := Lib.hid (fun W => (show Calls Tryz.prog 47 #[.string s] W (fun e w' => e = .returned (.int .i64 x) ∧ Below W.heap.size W w') from by rw [hx]; exact parseInt_c s W (by omega)))
  rw [← hx]
  obtain ⟨Q, hQ⟩ : ∃ Q, Q = (closeR P x).1 := ⟨_, rfl⟩
  obtain ⟨cn, hcn⟩ : ∃ cn, cn = (closeR P x).2 := ⟨_, rfl⟩
  have HAC := Lib.hid (fun W (hb : Below w.heap.size w W) => (show Calls Tryz.prog 116 #[.agg #[.int .i64 P.mx, .slice A0 P.ids.length a0', .slice B0 P.hs.length b0', .slice C0 P.wt.length c0'], .int .i64 x] W (fun e w' => ∃ A a B b C c, e = .returned (.tuple #[.agg #[.int .i64 Q.mx, .slice A Q.ids.length a, .slice B Q.hs.length b, .slice C Q.wt.length c], .int .i64 cn]) ∧ PRow w' W.heap.size Q A a B b C c ∧ Below W.heap.size W w') from by rw [hQ, hcn]; exact sCloseIdle_c P.mx P.ids P.hs P.wt A0 _ a0' B0 _ b0' C0 _ c0' W rfl rfl rfl (PR.out.below hb).1.rd (PR.out.below hb).2.1.rd (PR.out.below hb).2.2.1.rd (by omega) (by omega) (by omega) PR.out.1.le x))
  have hcn9 : cn ≤ 99 := by rw [hcn]; exact closeR_le g x
  have HA : Hid (closeA P x = if cn < 0 then (P, noT) else (Q, intL cn)) := by show _ = _; unfold closeA; rw [← hQ, ← hcn]
  clear hQ hcn hx hk hp ho h
  obtain ⟨k0, k1, k2, k3, kfz⟩ := blk4 BK.out
  by_cases hc : cn < 0
  · have hcd : decide (cn < 0) = true := decide_eq_true hc
    have HN : Hid (closeA P x = (P, noT)) := HA.out.trans (if_pos hc)
    rw [HN.out]
    clear hc
    go_enter Tryz.func93, Tryz.ntmps93
    go_wp2_with fail
    go_region_held3 (fun w' => w'.cell? ⟨gd, 0, none⟩ = some (.int .i64 P.mx) ∧ w'.cell? ⟨gd, 1, none⟩ = some (.slice A0 P.ids.length a0') ∧ w'.cell? ⟨gd, 2, none⟩ = some (.slice B0 P.hs.length b0') ∧ w'.cell? ⟨gd, 3, none⟩ = some (.slice C0 P.wt.length c0')) (go_keep) ((first
      | (go_at_call 47; first
          | ((with_reducible refine (HPI.out _).mono ?_); rintro e wA ⟨rfl, bA⟩; have BA := Lib.hid ((Below.refl w.heap.size w).drew.trans bA); have hsA : w.heap.size ≤ wA.heap.size := BA.out.size; obtain ⟨a0, a1, a2, a3, afz⟩ := blk4 (BK.out.below BA.out hgd); have neA : ¬ wA.heap.size = gd := (by omega))
          | (have hpi := HPI.out (w.alloc (.cells #[.int .i64 0, .slice none 0 0, .slice none 0 0, .slice none 0 0] 26)).drew; (with_reducible refine hpi.mono ?_); clear hpi; rintro e wA ⟨rfl, bA⟩; have NBA := Lib.hid ((Blk.new w 26 #[.int .i64 0, .slice none 0 0, .slice none 0 0, .slice none 0 0]).drew.below bA (by simp)); have BA := Lib.hid (((Below.refl w.heap.size w).alloc (Nat.le_refl _) (.cells #[.int .i64 0, .slice none 0 0, .slice none 0 0, .slice none 0 0] 26)).drew.trans (bA.mono (by simp))); have hsA : w.heap.size ≤ wA.heap.size := BA.out.size; obtain ⟨a0, a1, a2, a3, afz⟩ := blk4 (BK.out.below BA.out hgd); have neA : ¬ wA.heap.size = gd := (by omega)))
      | (go_at_call 116; first
          | ((with_reducible refine (HAC.out _ BA.out).mono ?_); rintro e wB ⟨A4, a4, B4, b4, C4, c4, rfl, prB, bB⟩; have PRB := Lib.hid (prB.mono hsA); have BB := Lib.hid (BA.out.trans (bB.mono hsA)); have hsB : wA.heap.size ≤ wB.heap.size := bB.size; obtain ⟨b0, b1, b2, b3, bfz⟩ := blk4 (BK.out.below BB.out hgd); have neB : ¬ wB.heap.size = gd := (by omega); (try (have NBB := Lib.hid (NBA.out.below bB NBA.out.lt); have OFB := Lib.hid (prB.offLow NBA.out.lt); obtain ⟨m0, m1, m2, m3, mfz⟩ := blk4 NBB.out)))
          | (have hac := HAC.out (wA.alloc (.cells #[.int .i64 0, .slice none 0 0, .slice none 0 0, .slice none 0 0] 26)) (BA.out.alloc hsA _); (with_reducible refine hac.mono ?_); clear hac; rintro e wB ⟨A4, a4, B4, b4, C4, c4, rfl, prB, bB⟩; have NBB := Lib.hid ((Blk.new wA 26 #[.int .i64 0, .slice none 0 0, .slice none 0 0, .slice none 0 0]).below bB (by simp)); have OFB := Lib.hid (prB.offLow (by simp : wA.heap.size < (wA.alloc (.cells #[.int .i64 0, .slice none 0 0, .slice none 0 0, .slice none 0 0] 26)).heap.size)); have bB' := ((Below.refl wA.heap.size wA).alloc (Nat.le_refl _) (.cells #[.int .i64 0, .slice none 0 0, .slice none 0 0, .slice none 0 0] 26)).trans (bB.mono (by simp)); have PRB := Lib.hid (prB.mono (Nat.le_trans hsA (by simp : wA.heap.size ≤ (wA.alloc (.cells #[.int .i64 0, .slice none 0 0, .slice none 0 0, .slice none 0 0] 26)).heap.size))); have BB := Lib.hid (BA.out.trans (bB'.mono hsA)); have hsB : wA.heap.size ≤ wB.heap.size := bB'.size; obtain ⟨b0, b1, b2, b3, bfz⟩ := blk4 (BK.out.below BB.out hgd); have neB : ¬ wB.heap.size = gd := (by omega); obtain ⟨m0, m1, m2, m3, mfz⟩ := blk4 NBB.out))
      | fail))
    all_goals
      first
      | (obtain ⟨gn, w8, hgn, hw8, nw⟩ := PNew.stored BB.out PRB.out NBB.out OFB.out (by omega); rw [← hw8, ← hgn])
      | (obtain ⟨gn, w8, hgn, hw8, nw⟩ := PNew.fresh BB.out PRB.out; rw [← hw8, ← hgn])
      have NW := Lib.hid nw
      have hgn8 : gn < w8.heap.size := nw.blk.lt
      have hgw8 : w.heap.size ≤ gn := nw.low
      have hne8 : ¬ gn = gd := by omega
      have hne8' : ¬ gd = gn := by omega
      have hgd8 : gd < w8.heap.size := by omega
      have BK8 := Lib.hid (BK.out.below nw.bel hgd)
      clear nw hw8 hgn PRB BB BA hsB hsA neA neB prB bB bA a0 a1 a2 a3 afz b0 b1 b2 b3 bfz k0 k1 k2 k3 kfz
      try clear NBB
      try clear NBA
      try clear OFB
      try clear m0 m1 m2 m3 mfz
      go_wp2_with fail
      go_ret
      exact ⟨rfl, H.out.below NW.out.bel, only_of_below NW.out.bel _⟩
  · have hcd : decide (cn < 0) = false := decide_eq_false hc
    have HN : Hid (closeA P x = (Q, intL cn)) := HA.out.trans (if_neg hc)
    rw [HN.out]
    obtain ⟨cN, rfl⟩ : ∃ cN : Nat, cn = cN := ⟨cn.toNat, by omega⟩
    have HDC := Lib.hid (fun W => decimal_c cN (by omega) W)
    obtain ⟨DB, hDB⟩ : ∃ DB, DB = decB cN := ⟨_, rfl⟩
    rw [← hDB] at HDC
    have HDB : Hid (bsof (intL (cN : Int)) = DB) := by show _ = _; rw [hDB]; rfl
    clear hc hDB
    go_enter Tryz.func93, Tryz.ntmps93
    go_wp2_with fail
    go_region_held3 (fun w' => w'.cell? ⟨gd, 0, none⟩ = some (.int .i64 P.mx) ∧ w'.cell? ⟨gd, 1, none⟩ = some (.slice A0 P.ids.length a0') ∧ w'.cell? ⟨gd, 2, none⟩ = some (.slice B0 P.hs.length b0') ∧ w'.cell? ⟨gd, 3, none⟩ = some (.slice C0 P.wt.length c0')) (go_keep) ((first
      | (go_at_call 47; first
          | ((with_reducible refine (HPI.out _).mono ?_); rintro e wA ⟨rfl, bA⟩; have BA := Lib.hid ((Below.refl w.heap.size w).drew.trans bA); have hsA : w.heap.size ≤ wA.heap.size := BA.out.size; obtain ⟨a0, a1, a2, a3, afz⟩ := blk4 (BK.out.below BA.out hgd); have neA : ¬ wA.heap.size = gd := (by omega))
          | (have hpi := HPI.out (w.alloc (.cells #[.int .i64 0, .slice none 0 0, .slice none 0 0, .slice none 0 0] 26)).drew; (with_reducible refine hpi.mono ?_); clear hpi; rintro e wA ⟨rfl, bA⟩; have NBA := Lib.hid ((Blk.new w 26 #[.int .i64 0, .slice none 0 0, .slice none 0 0, .slice none 0 0]).drew.below bA (by simp)); have BA := Lib.hid (((Below.refl w.heap.size w).alloc (Nat.le_refl _) (.cells #[.int .i64 0, .slice none 0 0, .slice none 0 0, .slice none 0 0] 26)).drew.trans (bA.mono (by simp))); have hsA : w.heap.size ≤ wA.heap.size := BA.out.size; obtain ⟨a0, a1, a2, a3, afz⟩ := blk4 (BK.out.below BA.out hgd); have neA : ¬ wA.heap.size = gd := (by omega)))
      | (go_at_call 116; first
          | ((with_reducible refine (HAC.out _ BA.out).mono ?_); rintro e wB ⟨A4, a4, B4, b4, C4, c4, rfl, prB, bB⟩; have PRB := Lib.hid (prB.mono hsA); have BB := Lib.hid (BA.out.trans (bB.mono hsA)); have hsB : wA.heap.size ≤ wB.heap.size := bB.size; obtain ⟨b0, b1, b2, b3, bfz⟩ := blk4 (BK.out.below BB.out hgd); have neB : ¬ wB.heap.size = gd := (by omega); (try (have NBB := Lib.hid (NBA.out.below bB NBA.out.lt); have OFB := Lib.hid (prB.offLow NBA.out.lt); obtain ⟨m0, m1, m2, m3, mfz⟩ := blk4 NBB.out)))
          | (have hac := HAC.out (wA.alloc (.cells #[.int .i64 0, .slice none 0 0, .slice none 0 0, .slice none 0 0] 26)) (BA.out.alloc hsA _); (with_reducible refine hac.mono ?_); clear hac; rintro e wB ⟨A4, a4, B4, b4, C4, c4, rfl, prB, bB⟩; have NBB := Lib.hid ((Blk.new wA 26 #[.int .i64 0, .slice none 0 0, .slice none 0 0, .slice none 0 0]).below bB (by simp)); have OFB := Lib.hid (prB.offLow (by simp : wA.heap.size < (wA.alloc (.cells #[.int .i64 0, .slice none 0 0, .slice none 0 0, .slice none 0 0] 26)).heap.size)); have bB' := ((Below.refl wA.heap.size wA).alloc (Nat.le_refl _) (.cells #[.int .i64 0, .slice none 0 0, .slice none 0 0, .slice none 0 0] 26)).trans (bB.mono (by simp)); have PRB := Lib.hid (prB.mono (Nat.le_trans hsA (by simp : wA.heap.size ≤ (wA.alloc (.cells #[.int .i64 0, .slice none 0 0, .slice none 0 0, .slice none 0 0] 26)).heap.size))); have BB := Lib.hid (BA.out.trans (bB'.mono hsA)); have hsB : wA.heap.size ≤ wB.heap.size := bB'.size; obtain ⟨b0, b1, b2, b3, bfz⟩ := blk4 (BK.out.below BB.out hgd); have neB : ¬ wB.heap.size = gd := (by omega); obtain ⟨m0, m1, m2, m3, mfz⟩ := blk4 NBB.out))
      | fail))
    all_goals
      first
      | (obtain ⟨gn, w8, hgn, hw8, nw⟩ := PNew.stored BB.out PRB.out NBB.out OFB.out (by omega); rw [← hw8, ← hgn])
      | (obtain ⟨gn, w8, hgn, hw8, nw⟩ := PNew.fresh BB.out PRB.out; rw [← hw8, ← hgn])
      have NW := Lib.hid nw
      have hgn8 : gn < w8.heap.size := nw.blk.lt
      have hgw8 : w.heap.size ≤ gn := nw.low
      have hne8 : ¬ gn = gd := by omega
      have hne8' : ¬ gd = gn := by omega
      have hgd8 : gd < w8.heap.size := by omega
      have BK8 := Lib.hid (BK.out.below nw.bel hgd)
      clear nw hw8 hgn PRB BB BA hsB hsA neA neB prB bB bA a0 a1 a2 a3 afz b0 b1 b2 b3 bfz k0 k1 k2 k3 kfz
      try clear NBB
      try clear NBA
      try clear OFB
      try clear m0 m1 m2 m3 mfz
      obtain ⟨k0, k1, k2, k3, kfz⟩ := blk4 BK8.out
      obtain ⟨n0, n1, n2, n3, nfz⟩ := blk4 NW.out.blk
      have hput := Desk.put BK.out ⟨_, _, _, _, rfl⟩ NW.out
      obtain ⟨w9, hw9⟩ : ∃ w9, w9 = (((w8.setCell ⟨gd, 0, none⟩ (.int .i64 Q.mx)).setCell ⟨gd, 1, none⟩ (.slice A4 Q.ids.length a4)).setCell ⟨gd, 2, none⟩ (.slice B4 Q.hs.length b4)).setCell ⟨gd, 3, none⟩ (.slice C4 Q.wt.length c4) := ⟨_, rfl⟩
      rw [← hw9] at hput
      have PUT := Lib.hid hput
      clear hput
      go_wp2_with fail
      rw [← hw9]
      clear hw9 k0 k1 k2 k3 kfz n0 n1 n2 n3 nfz
      refine (HDC.out _).mono ?_
      rintro e w10 ⟨rfl, b10⟩
      go_wp2_with fail
      go_ret
      exact ⟨congrArg (fun z => Ending.returned (.string z)) HDB.out.symm, PUT.out.1.below b10, only_trans PUT.out.2 (only_of_below b10 _)⟩
set_option maxRecDepth 100000 in
set_option maxHeartbeats 16000000 in
theorem d_size_c (gd : Nat) (P : Pl) (g : P.Good) (s : ByteArray) (w : World) (hs : s.size ≤ 1048576) (h : Desk 78 w gd P) :
    Calls Tryz.prog 94 #[.pointer (some ⟨gd, 0, none⟩), .string s] w (RetD 78 gd (sizeA P (pI s.data.toList)) w) := by
  have hgd := h.lt
  have ne0 : ¬ w.heap.size = gd := by omega
  have hsm := g.small
  obtain ⟨A0, a0', B0, b0', C0, c0', hk, hp, ho⟩ := id h
  have BK := Lib.hid hk; have PR := Lib.hid hp; have H := Lib.hid h
  obtain ⟨x, hx⟩ : ∃ x, x = pI s.data.toList := ⟨_, rfl⟩
  have HPI := Lib.hid (fun W => (show Calls Tryz.prog 47 #[.string s] W (fun e w' => e = .returned (.int .i64 x) ∧ Below W.heap.size W w') from by rw [hx]; exact parseInt_c s W (by omega)))
  rw [← hx]
  obtain ⟨Q, hQ⟩ : ∃ Q, Q = (sizeA P x).1 := ⟨_, rfl⟩
  have HCP := Lib.hid (show Calls Tryz.prog 114 #[.agg #[.int .i64 P.mx, .slice A0 P.ids.length a0', .slice B0 P.hs.length b0', .slice C0 P.wt.length c0']] w (RetP P w) from copyPool_c P.mx P.ids P.hs P.wt A0 _ a0' B0 _ b0' C0 _ c0' w rfl rfl rfl PR.out.1.rd PR.out.2.1.rd PR.out.2.2.1.rd (by omega) (by omega) (by omega))
  obtain ⟨v, hv⟩ : ∃ v, v = Pl.valid ⟨x, P.ids, P.hs, P.wt⟩ := ⟨_, rfl⟩
  have HV := Lib.hid (fun A a B b C c W q1 q2 q3 => sValidPool_c x P.ids P.hs P.wt A _ a B _ b C _ c W rfl rfl rfl q1 q2 q3 (by omega) (by omega) (by omega))
  rw [← hv] at HV
  have HA : Hid (sizeA P x = if v = true then (⟨x, P.ids, P.hs, P.wt⟩, okT) else (P, noT)) := by show _ = _; unfold sizeA; rw [← hv]
  clear hQ hx hk hp ho h hv
  obtain ⟨k0, k1, k2, k3, kfz⟩ := blk4 BK.out
  cases v
  · have HN : Hid (sizeA P x = (P, noT)) := HA.out.trans (if_neg (fun h => by cases h))
    rw [HN.out]
    go_enter Tryz.func94, Tryz.ntmps94
    go_wp2_with fail
    refine (HCP.out).mono ?_
    rintro e w1 ⟨A1, a1, B1, b1, C1, c1, rfl, pr1, bl1⟩
    simp only at pr1 ⊢
    have hs1 : w.heap.size ≤ w1.heap.size := bl1.size
    obtain ⟨w2, hw2⟩ : ∃ w2, w2 = w1.alloc (.cells #[.int .i64 P.mx, .slice A1 P.ids.length a1, .slice B1 P.hs.length b1, .slice C1 P.wt.length c1] 26) := ⟨_, rfl⟩
    have BN2 := Lib.hid (show Blk w2 w1.heap.size 26 #[.int .i64 P.mx, .slice A1 P.ids.length a1, .slice B1 P.hs.length b1, .slice C1 P.wt.length c1] by rw [hw2]; exact Blk.new w1 _ _)
    have BB2 := Lib.hid (show Below w.heap.size w w2 by rw [hw2]; exact bl1.alloc hs1 _)
    have PR2 := Lib.hid (show PRow w2 w.heap.size P A1 a1 B1 b1 C1 c1 by rw [hw2]; exact pr1.alloc _)
    have OF2 := Lib.hid (show Off w1.heap.size A1 a1 B1 b1 C1 c1 from pr1.off (Nat.le_refl _))
    have hg2 : w1.heap.size < w2.heap.size := by rw [hw2]; simp
    clear pr1 bl1 k0 k1 k2 k3 kfz
    go_upto_region 2 with fail
    rw [← hw2]
    clear hw2
    go_wp2_with fail
    refine (HPI.out _).mono ?_
    rintro e w3 ⟨rfl, bl3⟩
    have hs3 : w2.heap.size ≤ w3.heap.size := bl3.size
    obtain ⟨w4, hw4⟩ : ∃ w4, w4 = w3.setCell ⟨w1.heap.size, 0, none⟩ (.int .i64 x) := ⟨_, rfl⟩
    have h4s : w4.heap.size = w3.heap.size := by rw [hw4]; simp [World.setCell]
    have BN3 := Lib.hid (BN2.out.below bl3 hg2)
    have NW := Lib.hid (show PNew w w1.heap.size ⟨x, P.ids, P.hs, P.wt⟩ A1 a1 B1 b1 C1 c1 w4 by
      rw [hw4]
      exact ⟨BN3.out.set_ 0 _, (show PRow w3 w.heap.size ⟨x, P.ids, P.hs, P.wt⟩ A1 a1 B1 b1 C1 c1 from PR2.out.below bl3).set (q := ⟨w1.heap.size, 0, none⟩) OF2.out _, OF2.out, (BB2.out.trans (bl3.mono BB2.out.size)).setCell hs1 _, hs1⟩)
    have hg4 : w1.heap.size < w4.heap.size := by omega
    clear bl3
    obtain ⟨m0, m1, m2, m3, mfz⟩ := blk4 BN3.out
    go_upto_region 3 with fail
    rw [← hw4]
    clear hw4 h4s m0 m1 m2 m3 mfz BN2 BB2 PR2 BN3
    obtain ⟨m0, m1, m2, m3, mfz⟩ := blk4 NW.out.blk
    go_wp2_with fail
    refine (HV.out _ _ _ _ _ _ w4 NW.out.row.1.rd NW.out.row.2.1.rd NW.out.row.2.2.1.rd).mono ?_
    rintro e w5 ⟨rfl, bl5⟩
    have NW5 := Lib.hid (show PNew w w1.heap.size ⟨x, P.ids, P.hs, P.wt⟩ A1 a1 B1 b1 C1 c1 w5 from ⟨NW.out.blk.below bl5 hg4, NW.out.row.below bl5, NW.out.off, NW.out.bel.trans (bl5.mono NW.out.bel.size), NW.out.low⟩)
    have BK5 := Lib.hid (BK.out.below NW5.out.bel hgd)
    have hg5 : w1.heap.size < w5.heap.size := NW5.out.blk.lt
    have hgd5 : gd < w5.heap.size := BK5.out.lt
    have ne5 : ¬ w1.heap.size = gd := by omega
    have ne5' : ¬ gd = w1.heap.size := by omega
    clear bl5 m0 m1 m2 m3 mfz
    go_wp2_with fail
    go_ret
    exact ⟨rfl, H.out.below NW5.out.bel, only_of_below NW5.out.bel _⟩
  · have HN : Hid (sizeA P x = (⟨x, P.ids, P.hs, P.wt⟩, okT)) := HA.out.trans (if_pos rfl)
    rw [HN.out]
    go_enter Tryz.func94, Tryz.ntmps94
    go_wp2_with fail
    refine (HCP.out).mono ?_
    rintro e w1 ⟨A1, a1, B1, b1, C1, c1, rfl, pr1, bl1⟩
    simp only at pr1 ⊢
    have hs1 : w.heap.size ≤ w1.heap.size := bl1.size
    obtain ⟨w2, hw2⟩ : ∃ w2, w2 = w1.alloc (.cells #[.int .i64 P.mx, .slice A1 P.ids.length a1, .slice B1 P.hs.length b1, .slice C1 P.wt.length c1] 26) := ⟨_, rfl⟩
    have BN2 := Lib.hid (show Blk w2 w1.heap.size 26 #[.int .i64 P.mx, .slice A1 P.ids.length a1, .slice B1 P.hs.length b1, .slice C1 P.wt.length c1] by rw [hw2]; exact Blk.new w1 _ _)
    have BB2 := Lib.hid (show Below w.heap.size w w2 by rw [hw2]; exact bl1.alloc hs1 _)
    have PR2 := Lib.hid (show PRow w2 w.heap.size P A1 a1 B1 b1 C1 c1 by rw [hw2]; exact pr1.alloc _)
    have OF2 := Lib.hid (show Off w1.heap.size A1 a1 B1 b1 C1 c1 from pr1.off (Nat.le_refl _))
    have hg2 : w1.heap.size < w2.heap.size := by rw [hw2]; simp
    clear pr1 bl1 k0 k1 k2 k3 kfz
    go_upto_region 2 with fail
    rw [← hw2]
    clear hw2
    go_wp2_with fail
    refine (HPI.out _).mono ?_
    rintro e w3 ⟨rfl, bl3⟩
    have hs3 : w2.heap.size ≤ w3.heap.size := bl3.size
    obtain ⟨w4, hw4⟩ : ∃ w4, w4 = w3.setCell ⟨w1.heap.size, 0, none⟩ (.int .i64 x) := ⟨_, rfl⟩
    have h4s : w4.heap.size = w3.heap.size := by rw [hw4]; simp [World.setCell]
    have BN3 := Lib.hid (BN2.out.below bl3 hg2)
    have NW := Lib.hid (show PNew w w1.heap.size ⟨x, P.ids, P.hs, P.wt⟩ A1 a1 B1 b1 C1 c1 w4 by
      rw [hw4]
      exact ⟨BN3.out.set_ 0 _, (show PRow w3 w.heap.size ⟨x, P.ids, P.hs, P.wt⟩ A1 a1 B1 b1 C1 c1 from PR2.out.below bl3).set (q := ⟨w1.heap.size, 0, none⟩) OF2.out _, OF2.out, (BB2.out.trans (bl3.mono BB2.out.size)).setCell hs1 _, hs1⟩)
    have hg4 : w1.heap.size < w4.heap.size := by omega
    clear bl3
    obtain ⟨m0, m1, m2, m3, mfz⟩ := blk4 BN3.out
    go_upto_region 3 with fail
    rw [← hw4]
    clear hw4 h4s m0 m1 m2 m3 mfz BN2 BB2 PR2 BN3
    obtain ⟨m0, m1, m2, m3, mfz⟩ := blk4 NW.out.blk
    go_wp2_with fail
    refine (HV.out _ _ _ _ _ _ w4 NW.out.row.1.rd NW.out.row.2.1.rd NW.out.row.2.2.1.rd).mono ?_
    rintro e w5 ⟨rfl, bl5⟩
    have NW5 := Lib.hid (show PNew w w1.heap.size ⟨x, P.ids, P.hs, P.wt⟩ A1 a1 B1 b1 C1 c1 w5 from ⟨NW.out.blk.below bl5 hg4, NW.out.row.below bl5, NW.out.off, NW.out.bel.trans (bl5.mono NW.out.bel.size), NW.out.low⟩)
    have BK5 := Lib.hid (BK.out.below NW5.out.bel hgd)
    have hg5 : w1.heap.size < w5.heap.size := NW5.out.blk.lt
    have hgd5 : gd < w5.heap.size := BK5.out.lt
    have ne5 : ¬ w1.heap.size = gd := by omega
    have ne5' : ¬ gd = w1.heap.size := by omega
    clear bl5 m0 m1 m2 m3 mfz
    obtain ⟨m0, m1, m2, m3, mfz⟩ := blk4 NW5.out.blk
    obtain ⟨k0, k1, k2, k3, kfz⟩ := blk4 BK5.out
    go_wp2_with fail
    go_ret
    have hput := Desk.put BK.out ⟨_, _, _, _, rfl⟩ NW5.out
    exact ⟨rfl, hput.1, hput.2⟩
end Go.Proofs.YtnmgnhpagnjhlaaGreatDoor
