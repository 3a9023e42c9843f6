/- A line of a session: the program, each command. A line of a session: the program, the other commands and the whole. -/
import Derived.Test.YtnmgnhpagnjhlaaGreatDoorRelI
import Derived.Test.YtnmgnhpagnjhlaaGreatDoorLine
import Derived.Test.YtnmgnhpagnjhlaaGreatDoorNumP
import Derived.Test.YtnmgnhpagnjhlaaGreatDoorPlainT
import Derived.Test.YtnmgnhpagnjhlaaGreatDoorPoolFmtI
import Derived.Lib.ItoaLen
set_option linter.unusedVariables false
set_option linter.unusedSimpArgs false
set_option linter.unnecessarySimpa false
namespace Go.Proofs.YtnmgnhpagnjhlaaGreatDoor
section
open Go.RowKit

theorem acqV_ge {p : Pl} (g : p.Good) (o : Int) : -1 ≤ (acqV p o).2 := by
  unfold acqV
  split
  · rename_i h
    have hx : p.ids.getD (p.ids.length - 1) 0 ∈ p.ids := by
      rw [List.getD_eq_getElem?_getD, List.getElem?_eq_getElem (by omega), Option.getD_some]
      exact List.getElem_mem _
    have := (g.smallIds _ hx).1
    show -1 ≤ p.ids.getD (p.ids.length - 1) 0
    omega
  · split
    · show (-1 : Int) ≤ -1
      omega
    · rename_i h
      show -1 ≤ closedV p.mx.toNat p.ids p.hs
      omega
theorem relV_ge {p : Pl} (g : p.Good) (v : Int) : -1 ≤ (relV p v).2 := by
  unfold relV
  split
  · show (-1 : Int) ≤ -1
    omega
  · rename_i h
    have hx : p.wt.getD 0 0 ∈ p.wt := by
      rw [List.getD_eq_getElem?_getD, List.getElem?_eq_getElem (by omega), Option.getD_some]
      exact List.getElem_mem _
    have := (g.smallWt _ hx).1
    show -1 ≤ p.wt.getD 0 0
    omega
theorem acqR_ge {p : Pl} (g : p.Good) (o : Int) : -1 ≤ (acqR p o).2.1 := by
  unfold acqR
  split
  · exact acqV_ge g o
  · show (-1 : Int) ≤ -1
    omega
theorem relR_ge {p : Pl} (g : p.Good) (o : Int) : -1 ≤ (relR p o).2.1 := by
  unfold relR
  split
  · exact relV_ge g o
  · show (-1 : Int) ≤ -1
    omega
theorem closeR_ge (p : Pl) (v : Int) : -1 ≤ (closeR p v).2 := by
  unfold closeR
  split
  · show -1 ≤ ((min v.toNat p.ids.length : Nat) : Int)
    omega
  · show (-1 : Int) ≤ -1
    omega
theorem acqR_neg {p : Pl} {o : Int} (h : (acqR p o).2.2 = false) : (acqR p o).2.1 = -1 := by
  unfold acqR at h ⊢
  split at h
  · cases h
  · rename_i hh
    rw [if_neg hh]
theorem relR_neg {p : Pl} {o : Int} (h : (relR p o).2.2 = false) : (relR p o).2.1 = -1 := by
  unfold relR at h ⊢
  split at h
  · cases h
  · rename_i hh
    rw [if_neg hh]
/-- A small number as a text; -1 gives some text. -/
theorem itoaS_c (v : Int) (h0 : -1 ≤ v) (h9 : v ≤ 99) (w : World) (E : Env w) :
    Calls Tryz.prog 30 #[.int .i64 v] w fun e w' => ∃ T : ByteArray, T.size ≤ 21 ∧ (0 ≤ v → T = bsof (intL v)) ∧ e = .returned (.string T) ∧ Below w.heap.size w w' :=
  (Tryz.strconv_Itoa v (by omega) (by omega) w E.1).mono fun e w' ⟨he, k, os, hw⟩ =>
    ⟨_, by have := Lib.itoa_length_le v (by omega) (by omega); simpa [ByteArray.size] using this, fun h => by unfold Lib.itoa; rw [if_neg (by omega)]; rfl, he, by rw [hw]; exact Lib.below_grow _ w (Nat.le_refl _) k os⟩
theorem PNew.below {w W W' : World} {gn : Nat} {Q : Pl} {A B C : Option Addr} {a b c : Nat} (h : PNew w gn Q A a B b C c W) (hb : Below W.heap.size W W') : PNew w gn Q A a B b C c W' :=
  ⟨h.blk.below hb h.blk.lt, h.row.below hb, h.off, h.bel.trans (hb.mono h.bel.size), h.low⟩
theorem PNew.over {w W : World} {Q : Pl} {A B C : Option Addr} {a b c gn : Nat} {x y z u : Value} (h : Below w.heap.size w W) (pr : PRow W w.heap.size Q A a B b C c) (hn : Blk W gn 26 #[x, y, z, u]) (ho : Off gn A a B b C c) (hl : w.heap.size ≤ gn) :
    PNew w gn Q A a B b C c ((((W.setCell ⟨gn, 0, none⟩ (.int .i64 Q.mx)).setCell ⟨gn, 1, none⟩ (.slice A Q.ids.length a)).setCell ⟨gn, 2, none⟩ (.slice B Q.hs.length b)).setCell ⟨gn, 3, none⟩ (.slice C Q.wt.length c)) :=
  ⟨(((hn.set_ 0 _).set_ 1 _).set_ 2 _).set_ 3 _, (((pr.set (q := ⟨gn, 0, none⟩) ho _).set (q := ⟨gn, 1, none⟩) ho _).set (q := ⟨gn, 2, none⟩) ho _).set (q := ⟨gn, 3, none⟩) ho _, ho, (((h.setCell hl _).setCell hl _).setCell hl _).setCell hl _, hl⟩
theorem num_cases (b : List UInt8) : (decide (9999 < numI b) = true ∧ pI b = -1) ∨ (decide (9999 < numI b) = false ∧ pI b = numI b) := by
  have h := num_pI b
  by_cases hh : 9999 < numI b
  · rw [if_pos hh] at h
    exact .inl ⟨decide_eq_true hh, h.symm⟩
  · rw [if_neg hh] at h
    exact .inr ⟨decide_eq_false hh, h.symm⟩
set_option maxRecDepth 100000 in
set_option maxHeartbeats 16000000 in
theorem l_acquire_c (gd : Nat) (P : Pl) (g : P.Good) (s : ByteArray) (w : World) (hs : s.size ≤ 1048576) (E : Env w) (h : Desk 26 w gd P) (a b : List UInt8) (hps : spl 32 s.data.toList = [a, b]) (hk : a = acquireT) :
    Calls Tryz.prog 64 #[.pointer (some ⟨gd, 0, none⟩), .string s] w (RetD 26 gd (acqA P (pI b)) w) := by
  have hgd := h.lt
  have H := Lib.hid h
  have hsm := g.small
  have hlen : s.data.toList.length = s.size := by rw [Array.length_toList]; rfl
  have HSP0 := splitC_c 32 s w (by omega) E
  rw [hps] at HSP0
  have hbl : b.length ≤ 1048576 := by
    have hpl := spl_piece_len 32 s.data.toList
    rw [hps, hlen] at hpl
    have := hpl b (by simp); omega
  have hnp : ¬ s.toList = [112, 111, 111, 108] := fun h => by
    rw [ByteArray.toList_eq] at h
    rw [show s.data.toList = poolT from h, spl_pool] at hps
    injection hps with _ h9
    cases h9
  have hnp2 : (s.toList == [112, 111, 111, 108]) = false := beq_eq_false_iff_ne.2 hnp
  obtain ⟨BA, hBA⟩ : ∃ BA, BA = bsof a := ⟨_, rfl⟩
  obtain ⟨BB, hBB⟩ : ∃ BB, BB = bsof b := ⟨_, rfl⟩
  have HSP := Lib.hid (show Calls Tryz.prog 36 #[.string s, .string ⟨#[32]⟩] w (fun e w' => ∃ A cc, e = .returned (.slice A 2 cc) ∧ Rd w' A [.string BA, .string BB] ∧ Below w.heap.size w w') from by rw [hBA, hBB]; exact HSP0)
  have HE := Lib.hid E
  have HNM := Lib.hid (fun W (hW : Env W) => number_c BB W (by rw [hBB, bsof_size]; omega) hW)
  rw [hBB, data_bsof, ← hBB] at HNM
  obtain ⟨A0, a0, B0, b0, C0, c0, hkk, hpp, hoo⟩ := id h
  have BK := Lib.hid hkk; have PR := Lib.hid hpp; have OFP := Lib.hid hoo
  have hxc := num_cases b
  obtain ⟨x0, hx0⟩ : ∃ x0, x0 = numI b := ⟨_, rfl⟩
  obtain ⟨x, hx⟩ : ∃ x, x = pI b := ⟨_, rfl⟩
  rw [← hx0] at HNM
  rw [← hx0, ← hx] at hxc
  rw [← hx]
  have e_acquire : BA.toList = [97, 99, 113, 117, 105, 114, 101] := by rw [hBA, toList_bsof, hk]; rfl
  have e_release : ¬ BA.toList = [114, 101, 108, 101, 97, 115, 101] := by rw [hBA, toList_bsof, hk]; decide
  have e_close : ¬ BA.toList = [99, 108, 111, 115, 101] := by rw [hBA, toList_bsof, hk]; decide
  have e_size : ¬ BA.toList = [115, 105, 122, 101] := by rw [hBA, toList_bsof, hk]; decide
  have e_held : ¬ BA.toList = [104, 101, 108, 100] := by rw [hBA, toList_bsof, hk]; decide
  have ne_ : ¬ w.heap.size = gd := by omega
  obtain ⟨Q, hQ⟩ : ∃ Q, Q = (acqR P x).1 := ⟨_, rfl⟩
  obtain ⟨cn, hcn⟩ : ∃ cn, cn = (acqR P x).2.1 := ⟨_, rfl⟩
  obtain ⟨ok, hok⟩ : ∃ ok, ok = (acqR P x).2.2 := ⟨_, rfl⟩
  have HAC := Lib.hid (fun W (hb : Below w.heap.size w W) => (show Calls Tryz.prog 97 #[.agg #[.int .i64 P.mx, .slice A0 P.ids.length a0, .slice B0 P.hs.length b0, .slice C0 P.wt.length c0], .int .i64 x] W (fun e w' => ∃ A a B b C c, e = .returned (.tuple #[.agg #[.int .i64 Q.mx, .slice A Q.ids.length a, .slice B Q.hs.length b, .slice C Q.wt.length c], .int .i64 cn, .bool ok]) ∧ PRow w' W.heap.size Q A a B b C c ∧ Below W.heap.size W w') from by rw [hQ, hcn, hok]; exact iAcquireConn_c P.mx P.ids P.hs P.wt A0 _ a0 B0 _ b0 C0 _ c0 W rfl rfl rfl (PR.out.below hb).1.rd (PR.out.below hb).2.1.rd (PR.out.below hb).2.2.1.rd (by omega) (by omega) (by omega) PR.out.1.le x))
  have hcn9 : cn ≤ 99 := by rw [hcn]; exact acqR_le g x
  have hcn0 : -1 ≤ cn := by rw [hcn]; exact acqR_ge g x
  have hcnk : ok = false → cn = -1 := fun e => by rw [hcn]; exact acqR_neg (by rw [← hok]; exact e)
  have HIT := Lib.hid (fun W (hW : Env W) => itoaS_c cn hcn0 hcn9 W hW)
  have HA : Hid (acqA P x = if ok = true then (Q, if cn < 0 then waitT else intL cn) else (P, noT)) := by show _ = _; unfold acqA; rw [← hQ, ← hcn, ← hok]
  clear hQ hcn hok hk hps hbl hlen HSP0 hBA hBB hkk hpp hoo hx0 hx E h hnp
  cases ok
  · obtain rfl := hcnk rfl
    have HN : Hid (acqA P x = (P, noT)) := HA.out.trans (if_neg (fun h => by cases h))
    rw [HN.out]
    clear hcnk
    rcases hxc with ⟨hd, rfl⟩ | ⟨hd, rfl⟩
    all_goals
      go_enter Tryz.func64, Tryz.ntmps64
      go_wp2_with fail
      refine HSP.out.mono ?_
      rintro e w1 ⟨AS, cS, rfl, rdS, b1⟩
      obtain ⟨bp, op, hAP, hbp, hcp⟩ := rdS.block (by simp)
      subst hAP
      have p0 : w1.cell? ⟨bp, op, none⟩ = some (.string BA) := by have := hcp 0 _ rfl; simpa using this
      have p1 : w1.cell? ⟨bp, op + 1, none⟩ = some (.string BB) := hcp 1 _ rfl
      have FR1 := Lib.hid b1
      have hs1 : w.heap.size ≤ w1.heap.size := b1.size
      clear rdS hcp b1
      go_wp2_with fail
      refine (HNM.out w1 (HE.out.below FR1.out)).mono ?_
      rintro e w2 ⟨rfl, b2⟩
      have FR2 := Lib.hid (FR1.out.trans (b2.mono FR1.out.size))
      have hs2 : w1.heap.size ≤ w2.heap.size := b2.size
      have q0 : w2.cell? ⟨bp, op, none⟩ = some (.string BA) := (b2.cell hbp).trans p0
      have hbp2 : bp < w2.heap.size := by omega
      clear p0 p1 b2
      obtain ⟨k0, k1, k2, k3, kfz⟩ := blk4 (BK.out.below FR2.out hgd)
      obtain ⟨gn, hgn⟩ : ∃ gn, gn = w2.heap.size := ⟨_, rfl⟩
      obtain ⟨w3, hw3⟩ : ∃ w3, w3 = w2.alloc (.cells #[.int .i64 P.mx, .slice A0 P.ids.length a0, .slice B0 P.hs.length b0, .slice C0 P.wt.length c0] 26) := ⟨_, rfl⟩
      have hs3 : w3.heap.size = gn + 1 := by rw [hw3, hgn]; simp
      have BN3 := Lib.hid (show Blk w3 gn 26 #[.int .i64 P.mx, .slice A0 P.ids.length a0, .slice B0 P.hs.length b0, .slice C0 P.wt.length c0] by rw [hw3, hgn]; exact Blk.new w2 _ _)
      have FR3 := Lib.hid (show Below w.heap.size w w3 by rw [hw3]; exact FR2.out.alloc (by omega) _)
      have q3 : w3.cell? ⟨bp, op, none⟩ = some (.string BA) := by rw [hw3]; exact (World.cell?_alloc_lt w2 _ _ hbp2).trans q0
      have hgn3 : gn < w3.heap.size := by omega
      have hgn0 : w.heap.size ≤ gn := by omega
      have hgd3 : gd < w3.heap.size := by omega
      have hne3 : ¬ gn = gd := by omega
      have hne3' : ¬ gd = gn := by omega
      clear k0 k1 k2 k3 kfz q0
      obtain ⟨k0, k1, k2, k3, kfz⟩ := blk4 (BK.out.below FR2.out hgd)
      go_upto_region 10 with fail
      rw [← hw3, ← hgn]
      clear hw3 hgn k0 k1 k2 k3 kfz
      obtain ⟨k0, k1, k2, k3, kfz⟩ := blk4 (BK.out.below FR3.out hgd)
      obtain ⟨n0, n1, n2, n3, nfz⟩ := blk4 BN3.out
      go_wp2_with fail
      refine (HAC.out w3 FR3.out).mono ?_
      rintro e w4 ⟨A4, a4, B4, b4, C4, c4, rfl, pr4, bl4⟩
      have FR4 := Lib.hid (FR3.out.trans (bl4.mono FR3.out.size))
      have hs4 : w3.heap.size ≤ w4.heap.size := bl4.size
      have BN4 := Lib.hid (BN3.out.below bl4 hgn3)
      obtain ⟨w5, hw5⟩ : ∃ w5, w5 = (((w4.setCell ⟨gn, 0, none⟩ (.int .i64 Q.mx)).setCell ⟨gn, 1, none⟩ (.slice A4 Q.ids.length a4)).setCell ⟨gn, 2, none⟩ (.slice B4 Q.hs.length b4)).setCell ⟨gn, 3, none⟩ (.slice C4 Q.wt.length c4) := ⟨_, rfl⟩
      have NW5 := Lib.hid (show PNew w gn Q A4 a4 B4 b4 C4 c4 w5 by rw [hw5]; exact PNew.over FR4.out (pr4.mono (by omega)) BN4.out (pr4.offLow hgn3) hgn0)
      have FR5 := Lib.hid NW5.out.bel
      have hgn5 : gn < w5.heap.size := NW5.out.blk.lt
      clear pr4 bl4 k0 k1 k2 k3 kfz n0 n1 n2 n3 nfz
      obtain ⟨n0, n1, n2, n3, nfz⟩ := blk4 BN4.out
      go_upto_region 15 with fail
      rw [← hw5]
      clear hw5 n0 n1 n2 n3 nfz BN3 BN4 FR3 FR4
      go_wp2_with fail
      refine (HIT.out w5 (HE.out.below FR5.out)).mono ?_
      rintro e w6 ⟨T, hTs, hT, rfl, bl6⟩
      have NW6 := Lib.hid (NW5.out.below bl6)
      have HT := Lib.hid hT
      have hz9 : ¬ 9223372036854775807 < 3 + T.size := by omega
      have hgn6 : gn < w6.heap.size := NW6.out.blk.lt
      have hgd6 : gd < w6.heap.size := by have := NW6.out.low; omega
      clear bl6 hT NW5 FR5
      obtain ⟨n0, n1, n2, n3, nfz⟩ := blk4 NW6.out.blk
      obtain ⟨k0, k1, k2, k3, kfz⟩ := blk4 (BK.out.below NW6.out.bel hgd)
      go_wp2_with fail
      go_ret
      exact ⟨rfl, H.out.below NW6.out.bel, only_of_below NW6.out.bel _⟩
  · clear hcnk
    by_cases hc : cn < 0
    · have hcd : decide (cn < 0) = true := decide_eq_true hc
      have HN : Hid (acqA P x = (Q, waitT)) := by show _ = _; rw [HA.out, if_pos rfl, if_pos hc]
      rw [HN.out]
      clear hc
      rcases hxc with ⟨hd, rfl⟩ | ⟨hd, rfl⟩
      all_goals
        go_enter Tryz.func64, Tryz.ntmps64
        go_wp2_with fail
        refine HSP.out.mono ?_
        rintro e w1 ⟨AS, cS, rfl, rdS, b1⟩
        obtain ⟨bp, op, hAP, hbp, hcp⟩ := rdS.block (by simp)
        subst hAP
        have p0 : w1.cell? ⟨bp, op, none⟩ = some (.string BA) := by have := hcp 0 _ rfl; simpa using this
        have p1 : w1.cell? ⟨bp, op + 1, none⟩ = some (.string BB) := hcp 1 _ rfl
        have FR1 := Lib.hid b1
        have hs1 : w.heap.size ≤ w1.heap.size := b1.size
        clear rdS hcp b1
        go_wp2_with fail
        refine (HNM.out w1 (HE.out.below FR1.out)).mono ?_
        rintro e w2 ⟨rfl, b2⟩
        have FR2 := Lib.hid (FR1.out.trans (b2.mono FR1.out.size))
        have hs2 : w1.heap.size ≤ w2.heap.size := b2.size
        have q0 : w2.cell? ⟨bp, op, none⟩ = some (.string BA) := (b2.cell hbp).trans p0
        have hbp2 : bp < w2.heap.size := by omega
        clear p0 p1 b2
        obtain ⟨k0, k1, k2, k3, kfz⟩ := blk4 (BK.out.below FR2.out hgd)
        obtain ⟨gn, hgn⟩ : ∃ gn, gn = w2.heap.size := ⟨_, rfl⟩
        obtain ⟨w3, hw3⟩ : ∃ w3, w3 = w2.alloc (.cells #[.int .i64 P.mx, .slice A0 P.ids.length a0, .slice B0 P.hs.length b0, .slice C0 P.wt.length c0] 26) := ⟨_, rfl⟩
        have hs3 : w3.heap.size = gn + 1 := by rw [hw3, hgn]; simp
        have BN3 := Lib.hid (show Blk w3 gn 26 #[.int .i64 P.mx, .slice A0 P.ids.length a0, .slice B0 P.hs.length b0, .slice C0 P.wt.length c0] by rw [hw3, hgn]; exact Blk.new w2 _ _)
        have FR3 := Lib.hid (show Below w.heap.size w w3 by rw [hw3]; exact FR2.out.alloc (by omega) _)
        have q3 : w3.cell? ⟨bp, op, none⟩ = some (.string BA) := by rw [hw3]; exact (World.cell?_alloc_lt w2 _ _ hbp2).trans q0
        have hgn3 : gn < w3.heap.size := by omega
        have hgn0 : w.heap.size ≤ gn := by omega
        have hgd3 : gd < w3.heap.size := by omega
        have hne3 : ¬ gn = gd := by omega
        have hne3' : ¬ gd = gn := by omega
        clear k0 k1 k2 k3 kfz q0
        obtain ⟨k0, k1, k2, k3, kfz⟩ := blk4 (BK.out.below FR2.out hgd)
        go_upto_region 10 with fail
        rw [← hw3, ← hgn]
        clear hw3 hgn k0 k1 k2 k3 kfz
        obtain ⟨k0, k1, k2, k3, kfz⟩ := blk4 (BK.out.below FR3.out hgd)
        obtain ⟨n0, n1, n2, n3, nfz⟩ := blk4 BN3.out
        go_wp2_with fail
        refine (HAC.out w3 FR3.out).mono ?_
        rintro e w4 ⟨A4, a4, B4, b4, C4, c4, rfl, pr4, bl4⟩
        have FR4 := Lib.hid (FR3.out.trans (bl4.mono FR3.out.size))
        have hs4 : w3.heap.size ≤ w4.heap.size := bl4.size
        have BN4 := Lib.hid (BN3.out.below bl4 hgn3)
        obtain ⟨w5, hw5⟩ : ∃ w5, w5 = (((w4.setCell ⟨gn, 0, none⟩ (.int .i64 Q.mx)).setCell ⟨gn, 1, none⟩ (.slice A4 Q.ids.length a4)).setCell ⟨gn, 2, none⟩ (.slice B4 Q.hs.length b4)).setCell ⟨gn, 3, none⟩ (.slice C4 Q.wt.length c4) := ⟨_, rfl⟩
        have NW5 := Lib.hid (show PNew w gn Q A4 a4 B4 b4 C4 c4 w5 by rw [hw5]; exact PNew.over FR4.out (pr4.mono (by omega)) BN4.out (pr4.offLow hgn3) hgn0)
        have FR5 := Lib.hid NW5.out.bel
        have hgn5 : gn < w5.heap.size := NW5.out.blk.lt
        clear pr4 bl4 k0 k1 k2 k3 kfz n0 n1 n2 n3 nfz
        obtain ⟨n0, n1, n2, n3, nfz⟩ := blk4 BN4.out
        go_upto_region 15 with fail
        rw [← hw5]
        clear hw5 n0 n1 n2 n3 nfz BN3 BN4 FR3 FR4
        go_wp2_with fail
        refine (HIT.out w5 (HE.out.below FR5.out)).mono ?_
        rintro e w6 ⟨T, hTs, hT, rfl, bl6⟩
        have NW6 := Lib.hid (NW5.out.below bl6)
        have HT := Lib.hid hT
        have hz9 : ¬ 9223372036854775807 < 3 + T.size := by omega
        have hgn6 : gn < w6.heap.size := NW6.out.blk.lt
        have hgd6 : gd < w6.heap.size := by have := NW6.out.low; omega
        clear bl6 hT NW5 FR5
        obtain ⟨n0, n1, n2, n3, nfz⟩ := blk4 NW6.out.blk
        obtain ⟨k0, k1, k2, k3, kfz⟩ := blk4 (BK.out.below NW6.out.bel hgd)
        go_wp2_with fail
        go_ret
        have hput := Desk.put BK.out ⟨_, _, _, _, rfl⟩ NW6.out
        exact ⟨rfl, hput.1, hput.2⟩
    · have hcd : decide (cn < 0) = false := decide_eq_false hc
      have HN : Hid (acqA P x = (Q, intL cn)) := by show _ = _; rw [HA.out, if_pos rfl, if_neg hc]
      rw [HN.out]
      have hc0 : 0 ≤ cn := by omega
      clear hc
      rcases hxc with ⟨hd, rfl⟩ | ⟨hd, rfl⟩
      all_goals
        go_enter Tryz.func64, Tryz.ntmps64
        go_wp2_with fail
        refine HSP.out.mono ?_
        rintro e w1 ⟨AS, cS, rfl, rdS, b1⟩
        obtain ⟨bp, op, hAP, hbp, hcp⟩ := rdS.block (by simp)
        subst hAP
        have p0 : w1.cell? ⟨bp, op, none⟩ = some (.string BA) := by have := hcp 0 _ rfl; simpa using this
        have p1 : w1.cell? ⟨bp, op + 1, none⟩ = some (.string BB) := hcp 1 _ rfl
        have FR1 := Lib.hid b1
        have hs1 : w.heap.size ≤ w1.heap.size := b1.size
        clear rdS hcp b1
        go_wp2_with fail
        refine (HNM.out w1 (HE.out.below FR1.out)).mono ?_
        rintro e w2 ⟨rfl, b2⟩
        have FR2 := Lib.hid (FR1.out.trans (b2.mono FR1.out.size))
        have hs2 : w1.heap.size ≤ w2.heap.size := b2.size
        have q0 : w2.cell? ⟨bp, op, none⟩ = some (.string BA) := (b2.cell hbp).trans p0
        have hbp2 : bp < w2.heap.size := by omega
        clear p0 p1 b2
        obtain ⟨k0, k1, k2, k3, kfz⟩ := blk4 (BK.out.below FR2.out hgd)
        obtain ⟨gn, hgn⟩ : ∃ gn, gn = w2.heap.size := ⟨_, rfl⟩
        obtain ⟨w3, hw3⟩ : ∃ w3, w3 = w2.alloc (.cells #[.int .i64 P.mx, .slice A0 P.ids.length a0, .slice B0 P.hs.length b0, .slice C0 P.wt.length c0] 26) := ⟨_, rfl⟩
        have hs3 : w3.heap.size = gn + 1 := by rw [hw3, hgn]; simp
        have BN3 := Lib.hid (show Blk w3 gn 26 #[.int .i64 P.mx, .slice A0 P.ids.length a0, .slice B0 P.hs.length b0, .slice C0 P.wt.length c0] by rw [hw3, hgn]; exact Blk.new w2 _ _)
        have FR3 := Lib.hid (show Below w.heap.size w w3 by rw [hw3]; exact FR2.out.alloc (by omega) _)
        have q3 : w3.cell? ⟨bp, op, none⟩ = some (.string BA) := by rw [hw3]; exact (World.cell?_alloc_lt w2 _ _ hbp2).trans q0
        have hgn3 : gn < w3.heap.size := by omega
        have hgn0 : w.heap.size ≤ gn := by omega
        have hgd3 : gd < w3.heap.size := by omega
        have hne3 : ¬ gn = gd := by omega
        have hne3' : ¬ gd = gn := by omega
        clear k0 k1 k2 k3 kfz q0
        obtain ⟨k0, k1, k2, k3, kfz⟩ := blk4 (BK.out.below FR2.out hgd)
        go_upto_region 10 with fail
        rw [← hw3, ← hgn]
        clear hw3 hgn k0 k1 k2 k3 kfz
        obtain ⟨k0, k1, k2, k3, kfz⟩ := blk4 (BK.out.below FR3.out hgd)
        obtain ⟨n0, n1, n2, n3, nfz⟩ := blk4 BN3.out
        go_wp2_with fail
        refine (HAC.out w3 FR3.out).mono ?_
        rintro e w4 ⟨A4, a4, B4, b4, C4, c4, rfl, pr4, bl4⟩
        have FR4 := Lib.hid (FR3.out.trans (bl4.mono FR3.out.size))
        have hs4 : w3.heap.size ≤ w4.heap.size := bl4.size
        have BN4 := Lib.hid (BN3.out.below bl4 hgn3)
        obtain ⟨w5, hw5⟩ : ∃ w5, w5 = (((w4.setCell ⟨gn, 0, none⟩ (.int .i64 Q.mx)).setCell ⟨gn, 1, none⟩ (.slice A4 Q.ids.length a4)).setCell ⟨gn, 2, none⟩ (.slice B4 Q.hs.length b4)).setCell ⟨gn, 3, none⟩ (.slice C4 Q.wt.length c4) := ⟨_, rfl⟩
        have NW5 := Lib.hid (show PNew w gn Q A4 a4 B4 b4 C4 c4 w5 by rw [hw5]; exact PNew.over FR4.out (pr4.mono (by omega)) BN4.out (pr4.offLow hgn3) hgn0)
        have FR5 := Lib.hid NW5.out.bel
        have hgn5 : gn < w5.heap.size := NW5.out.blk.lt
        clear pr4 bl4 k0 k1 k2 k3 kfz n0 n1 n2 n3 nfz
        obtain ⟨n0, n1, n2, n3, nfz⟩ := blk4 BN4.out
        go_upto_region 15 with fail
        rw [← hw5]
        clear hw5 n0 n1 n2 n3 nfz BN3 BN4 FR3 FR4
        go_wp2_with fail
        refine (HIT.out w5 (HE.out.below FR5.out)).mono ?_
        rintro e w6 ⟨T, hTs, hT, rfl, bl6⟩
        have NW6 := Lib.hid (NW5.out.below bl6)
        have HT := Lib.hid hT
        have hz9 : ¬ 9223372036854775807 < 3 + T.size := by omega
        have hgn6 : gn < w6.heap.size := NW6.out.blk.lt
        have hgd6 : gd < w6.heap.size := by have := NW6.out.low; omega
        clear bl6 hT NW5 FR5
        obtain ⟨n0, n1, n2, n3, nfz⟩ := blk4 NW6.out.blk
        obtain ⟨k0, k1, k2, k3, kfz⟩ := blk4 (BK.out.below NW6.out.bel hgd)
        go_wp2_with fail
        go_ret
        have hput := Desk.put BK.out ⟨_, _, _, _, rfl⟩ NW6.out
        exact ⟨congrArg (fun z => Ending.returned (.string z)) (HT.out hc0), hput.1, hput.2⟩
set_option maxRecDepth 100000 in
set_option maxHeartbeats 16000000 in
theorem l_release_c (gd : Nat) (P : Pl) (g : P.Good) (s : ByteArray) (w : World) (hs : s.size ≤ 1048576) (E : Env w) (h : Desk 26 w gd P) (a b : List UInt8) (hps : spl 32 s.data.toList = [a, b]) (hk : a = releaseT) :
    Calls Tryz.prog 64 #[.pointer (some ⟨gd, 0, none⟩), .string s] w (RetD 26 gd (relA P (pI b)) w) := by
  have hgd := h.lt
  have H := Lib.hid h
  have hsm := g.small
  have hlen : s.data.toList.length = s.size := by rw [Array.length_toList]; rfl
  have HSP0 := splitC_c 32 s w (by omega) E
  rw [hps] at HSP0
  have hbl : b.length ≤ 1048576 := by
    have hpl := spl_piece_len 32 s.data.toList
    rw [hps, hlen] at hpl
    have := hpl b (by simp); omega
  have hnp : ¬ s.toList = [112, 111, 111, 108] := fun h => by
    rw [ByteArray.toList_eq] at h
    rw [show s.data.toList = poolT from h, spl_pool] at hps
    injection hps with _ h9
    cases h9
  have hnp2 : (s.toList == [112, 111, 111, 108]) = false := beq_eq_false_iff_ne.2 hnp
  obtain ⟨BA, hBA⟩ : ∃ BA, BA = bsof a := ⟨_, rfl⟩
  obtain ⟨BB, hBB⟩ : ∃ BB, BB = bsof b := ⟨_, rfl⟩
  have HSP := Lib.hid (show Calls Tryz.prog 36 #[.string s, .string ⟨#[32]⟩] w (fun e w' => ∃ A cc, e = .returned (.slice A 2 cc) ∧ Rd w' A [.string BA, .string BB] ∧ Below w.heap.size w w') from by rw [hBA, hBB]; exact HSP0)
  have HE := Lib.hid E
  have HNM := Lib.hid (fun W (hW : Env W) => number_c BB W (by rw [hBB, bsof_size]; omega) hW)
  rw [hBB, data_bsof, ← hBB] at HNM
  obtain ⟨A0, a0, B0, b0, C0, c0, hkk, hpp, hoo⟩ := id h
  have BK := Lib.hid hkk; have PR := Lib.hid hpp; have OFP := Lib.hid hoo
  have hxc := num_cases b
  obtain ⟨x0, hx0⟩ : ∃ x0, x0 = numI b := ⟨_, rfl⟩
  obtain ⟨x, hx⟩ : ∃ x, x = pI b := ⟨_, rfl⟩
  rw [← hx0] at HNM
  rw [← hx0, ← hx] at hxc
  rw [← hx]
  have e_acquire : ¬ BA.toList = [97, 99, 113, 117, 105, 114, 101] := by rw [hBA, toList_bsof, hk]; decide
  have e_release : BA.toList = [114, 101, 108, 101, 97, 115, 101] := by rw [hBA, toList_bsof, hk]; rfl
  have e_close : ¬ BA.toList = [99, 108, 111, 115, 101] := by rw [hBA, toList_bsof, hk]; decide
  have e_size : ¬ BA.toList = [115, 105, 122, 101] := by rw [hBA, toList_bsof, hk]; decide
  have e_held : ¬ BA.toList = [104, 101, 108, 100] := by rw [hBA, toList_bsof, hk]; decide
  have ne_ : ¬ w.heap.size = gd := by omega
  obtain ⟨Q, hQ⟩ : ∃ Q, Q = (relR P x).1 := ⟨_, rfl⟩
  obtain ⟨cn, hcn⟩ : ∃ cn, cn = (relR P x).2.1 := ⟨_, rfl⟩
  obtain ⟨ok, hok⟩ : ∃ ok, ok = (relR P x).2.2 := ⟨_, rfl⟩
  have HAC := Lib.hid (fun W (hb : Below w.heap.size w W) => (show Calls Tryz.prog 98 #[.agg #[.int .i64 P.mx, .slice A0 P.ids.length a0, .slice B0 P.hs.length b0, .slice C0 P.wt.length c0], .int .i64 x] W (fun e w' => ∃ A a B b C c, e = .returned (.tuple #[.agg #[.int .i64 Q.mx, .slice A Q.ids.length a, .slice B Q.hs.length b, .slice C Q.wt.length c], .int .i64 cn, .bool ok]) ∧ PRow w' W.heap.size Q A a B b C c ∧ Below W.heap.size W w') from by rw [hQ, hcn, hok]; exact iReleaseConn_c P.mx P.ids P.hs P.wt A0 _ a0 B0 _ b0 C0 _ c0 W rfl rfl rfl (PR.out.below hb).1.rd (PR.out.below hb).2.1.rd (PR.out.below hb).2.2.1.rd (by omega) (by omega) (by omega) PR.out.1.le PR.out.2.2.1.le x))
  have hcn9 : cn ≤ 99 := by rw [hcn]; exact relR_le g x
  have hcn0 : -1 ≤ cn := by rw [hcn]; exact relR_ge g x
  have hcnk : ok = false → cn = -1 := fun e => by rw [hcn]; exact relR_neg (by rw [← hok]; exact e)
  have HIT := Lib.hid (fun W (hW : Env W) => itoaS_c cn hcn0 hcn9 W hW)
  have HA : Hid (relA P x = if ok = true then (Q, if cn < 0 then idleT else toT ++ intL cn) else (P, noT)) := by show _ = _; unfold relA; rw [← hQ, ← hcn, ← hok]
  clear hQ hcn hok hk hps hbl hlen HSP0 hBA hBB hkk hpp hoo hx0 hx E h hnp
  cases ok
  · obtain rfl := hcnk rfl
    have HN : Hid (relA P x = (P, noT)) := HA.out.trans (if_neg (fun h => by cases h))
    rw [HN.out]
    clear hcnk
    rcases hxc with ⟨hd, rfl⟩ | ⟨hd, rfl⟩
    all_goals
      go_enter Tryz.func64, Tryz.ntmps64
      go_wp2_with fail
      refine HSP.out.mono ?_
      rintro e w1 ⟨AS, cS, rfl, rdS, b1⟩
      obtain ⟨bp, op, hAP, hbp, hcp⟩ := rdS.block (by simp)
      subst hAP
      have p0 : w1.cell? ⟨bp, op, none⟩ = some (.string BA) := by have := hcp 0 _ rfl; simpa using this
      have p1 : w1.cell? ⟨bp, op + 1, none⟩ = some (.string BB) := hcp 1 _ rfl
      have FR1 := Lib.hid b1
      have hs1 : w.heap.size ≤ w1.heap.size := b1.size
      clear rdS hcp b1
      go_wp2_with fail
      refine (HNM.out w1 (HE.out.below FR1.out)).mono ?_
      rintro e w2 ⟨rfl, b2⟩
      have FR2 := Lib.hid (FR1.out.trans (b2.mono FR1.out.size))
      have hs2 : w1.heap.size ≤ w2.heap.size := b2.size
      have q0 : w2.cell? ⟨bp, op, none⟩ = some (.string BA) := (b2.cell hbp).trans p0
      have hbp2 : bp < w2.heap.size := by omega
      clear p0 p1 b2
      obtain ⟨k0, k1, k2, k3, kfz⟩ := blk4 (BK.out.below FR2.out hgd)
      obtain ⟨gn, hgn⟩ : ∃ gn, gn = w2.heap.size := ⟨_, rfl⟩
      obtain ⟨w3, hw3⟩ : ∃ w3, w3 = w2.alloc (.cells #[.int .i64 P.mx, .slice A0 P.ids.length a0, .slice B0 P.hs.length b0, .slice C0 P.wt.length c0] 26) := ⟨_, rfl⟩
      have hs3 : w3.heap.size = gn + 1 := by rw [hw3, hgn]; simp
      have BN3 := Lib.hid (show Blk w3 gn 26 #[.int .i64 P.mx, .slice A0 P.ids.length a0, .slice B0 P.hs.length b0, .slice C0 P.wt.length c0] by rw [hw3, hgn]; exact Blk.new w2 _ _)
      have FR3 := Lib.hid (show Below w.heap.size w w3 by rw [hw3]; exact FR2.out.alloc (by omega) _)
      have q3 : w3.cell? ⟨bp, op, none⟩ = some (.string BA) := by rw [hw3]; exact (World.cell?_alloc_lt w2 _ _ hbp2).trans q0
      have hgn3 : gn < w3.heap.size := by omega
      have hgn0 : w.heap.size ≤ gn := by omega
      have hgd3 : gd < w3.heap.size := by omega
      have hne3 : ¬ gn = gd := by omega
      have hne3' : ¬ gd = gn := by omega
      clear k0 k1 k2 k3 kfz q0
      obtain ⟨k0, k1, k2, k3, kfz⟩ := blk4 (BK.out.below FR2.out hgd)
      go_upto_region 10 with fail
      rw [← hw3, ← hgn]
      clear hw3 hgn k0 k1 k2 k3 kfz
      obtain ⟨k0, k1, k2, k3, kfz⟩ := blk4 (BK.out.below FR3.out hgd)
      obtain ⟨n0, n1, n2, n3, nfz⟩ := blk4 BN3.out
      go_wp2_with fail
      refine (HAC.out w3 FR3.out).mono ?_
      rintro e w4 ⟨A4, a4, B4, b4, C4, c4, rfl, pr4, bl4⟩
      have FR4 := Lib.hid (FR3.out.trans (bl4.mono FR3.out.size))
      have hs4 : w3.heap.size ≤ w4.heap.size := bl4.size
      have BN4 := Lib.hid (BN3.out.below bl4 hgn3)
      obtain ⟨w5, hw5⟩ : ∃ w5, w5 = (((w4.setCell ⟨gn, 0, none⟩ (.int .i64 Q.mx)).setCell ⟨gn, 1, none⟩ (.slice A4 Q.ids.length a4)).setCell ⟨gn, 2, none⟩ (.slice B4 Q.hs.length b4)).setCell ⟨gn, 3, none⟩ (.slice C4 Q.wt.length c4) := ⟨_, rfl⟩
      have NW5 := Lib.hid (show PNew w gn Q A4 a4 B4 b4 C4 c4 w5 by rw [hw5]; exact PNew.over FR4.out (pr4.mono (by omega)) BN4.out (pr4.offLow hgn3) hgn0)
      have FR5 := Lib.hid NW5.out.bel
      have hgn5 : gn < w5.heap.size := NW5.out.blk.lt
      clear pr4 bl4 k0 k1 k2 k3 kfz n0 n1 n2 n3 nfz
      obtain ⟨n0, n1, n2, n3, nfz⟩ := blk4 BN4.out
      go_upto_region 21 with fail
      rw [← hw5]
      clear hw5 n0 n1 n2 n3 nfz BN3 BN4 FR3 FR4
      go_wp2_with fail
      refine (HIT.out w5 (HE.out.below FR5.out)).mono ?_
      rintro e w6 ⟨T, hTs, hT, rfl, bl6⟩
      have NW6 := Lib.hid (NW5.out.below bl6)
      have HT := Lib.hid hT
      have hz9 : ¬ 9223372036854775807 < 3 + T.size := by omega
      have hgn6 : gn < w6.heap.size := NW6.out.blk.lt
      have hgd6 : gd < w6.heap.size := by have := NW6.out.low; omega
      clear bl6 hT NW5 FR5
      obtain ⟨n0, n1, n2, n3, nfz⟩ := blk4 NW6.out.blk
      obtain ⟨k0, k1, k2, k3, kfz⟩ := blk4 (BK.out.below NW6.out.bel hgd)
      go_wp2_with fail
      go_ret
      exact ⟨rfl, H.out.below NW6.out.bel, only_of_below NW6.out.bel _⟩
  · clear hcnk
    by_cases hc : cn < 0
    · have hcd : decide (cn < 0) = true := decide_eq_true hc
      have HN : Hid (relA P x = (Q, idleT)) := by show _ = _; rw [HA.out, if_pos rfl, if_pos hc]
      rw [HN.out]
      clear hc
      rcases hxc with ⟨hd, rfl⟩ | ⟨hd, rfl⟩
      all_goals
        go_enter Tryz.func64, Tryz.ntmps64
        go_wp2_with fail
        refine HSP.out.mono ?_
        rintro e w1 ⟨AS, cS, rfl, rdS, b1⟩
        obtain ⟨bp, op, hAP, hbp, hcp⟩ := rdS.block (by simp)
        subst hAP
        have p0 : w1.cell? ⟨bp, op, none⟩ = some (.string BA) := by have := hcp 0 _ rfl; simpa using this
        have p1 : w1.cell? ⟨bp, op + 1, none⟩ = some (.string BB) := hcp 1 _ rfl
        have FR1 := Lib.hid b1
        have hs1 : w.heap.size ≤ w1.heap.size := b1.size
        clear rdS hcp b1
        go_wp2_with fail
        refine (HNM.out w1 (HE.out.below FR1.out)).mono ?_
        rintro e w2 ⟨rfl, b2⟩
        have FR2 := Lib.hid (FR1.out.trans (b2.mono FR1.out.size))
        have hs2 : w1.heap.size ≤ w2.heap.size := b2.size
        have q0 : w2.cell? ⟨bp, op, none⟩ = some (.string BA) := (b2.cell hbp).trans p0
        have hbp2 : bp < w2.heap.size := by omega
        clear p0 p1 b2
        obtain ⟨k0, k1, k2, k3, kfz⟩ := blk4 (BK.out.below FR2.out hgd)
        obtain ⟨gn, hgn⟩ : ∃ gn, gn = w2.heap.size := ⟨_, rfl⟩
        obtain ⟨w3, hw3⟩ : ∃ w3, w3 = w2.alloc (.cells #[.int .i64 P.mx, .slice A0 P.ids.length a0, .slice B0 P.hs.length b0, .slice C0 P.wt.length c0] 26) := ⟨_, rfl⟩
        have hs3 : w3.heap.size = gn + 1 := by rw [hw3, hgn]; simp
        have BN3 := Lib.hid (show Blk w3 gn 26 #[.int .i64 P.mx, .slice A0 P.ids.length a0, .slice B0 P.hs.length b0, .slice C0 P.wt.length c0] by rw [hw3, hgn]; exact Blk.new w2 _ _)
        have FR3 := Lib.hid (show Below w.heap.size w w3 by rw [hw3]; exact FR2.out.alloc (by omega) _)
        have q3 : w3.cell? ⟨bp, op, none⟩ = some (.string BA) := by rw [hw3]; exact (World.cell?_alloc_lt w2 _ _ hbp2).trans q0
        have hgn3 : gn < w3.heap.size := by omega
        have hgn0 : w.heap.size ≤ gn := by omega
        have hgd3 : gd < w3.heap.size := by omega
        have hne3 : ¬ gn = gd := by omega
        have hne3' : ¬ gd = gn := by omega
        clear k0 k1 k2 k3 kfz q0
        obtain ⟨k0, k1, k2, k3, kfz⟩ := blk4 (BK.out.below FR2.out hgd)
        go_upto_region 10 with fail
        rw [← hw3, ← hgn]
        clear hw3 hgn k0 k1 k2 k3 kfz
        obtain ⟨k0, k1, k2, k3, kfz⟩ := blk4 (BK.out.below FR3.out hgd)
        obtain ⟨n0, n1, n2, n3, nfz⟩ := blk4 BN3.out
        go_wp2_with fail
        refine (HAC.out w3 FR3.out).mono ?_
        rintro e w4 ⟨A4, a4, B4, b4, C4, c4, rfl, pr4, bl4⟩
        have FR4 := Lib.hid (FR3.out.trans (bl4.mono FR3.out.size))
        have hs4 : w3.heap.size ≤ w4.heap.size := bl4.size
        have BN4 := Lib.hid (BN3.out.below bl4 hgn3)
        obtain ⟨w5, hw5⟩ : ∃ w5, w5 = (((w4.setCell ⟨gn, 0, none⟩ (.int .i64 Q.mx)).setCell ⟨gn, 1, none⟩ (.slice A4 Q.ids.length a4)).setCell ⟨gn, 2, none⟩ (.slice B4 Q.hs.length b4)).setCell ⟨gn, 3, none⟩ (.slice C4 Q.wt.length c4) := ⟨_, rfl⟩
        have NW5 := Lib.hid (show PNew w gn Q A4 a4 B4 b4 C4 c4 w5 by rw [hw5]; exact PNew.over FR4.out (pr4.mono (by omega)) BN4.out (pr4.offLow hgn3) hgn0)
        have FR5 := Lib.hid NW5.out.bel
        have hgn5 : gn < w5.heap.size := NW5.out.blk.lt
        clear pr4 bl4 k0 k1 k2 k3 kfz n0 n1 n2 n3 nfz
        obtain ⟨n0, n1, n2, n3, nfz⟩ := blk4 BN4.out
        go_upto_region 21 with fail
        rw [← hw5]
        clear hw5 n0 n1 n2 n3 nfz BN3 BN4 FR3 FR4
        go_wp2_with fail
        refine (HIT.out w5 (HE.out.below FR5.out)).mono ?_
        rintro e w6 ⟨T, hTs, hT, rfl, bl6⟩
        have NW6 := Lib.hid (NW5.out.below bl6)
        have HT := Lib.hid hT
        have hz9 : ¬ 9223372036854775807 < 3 + T.size := by omega
        have hgn6 : gn < w6.heap.size := NW6.out.blk.lt
        have hgd6 : gd < w6.heap.size := by have := NW6.out.low; omega
        clear bl6 hT NW5 FR5
        obtain ⟨n0, n1, n2, n3, nfz⟩ := blk4 NW6.out.blk
        obtain ⟨k0, k1, k2, k3, kfz⟩ := blk4 (BK.out.below NW6.out.bel hgd)
        go_wp2_with fail
        go_ret
        have hput := Desk.put BK.out ⟨_, _, _, _, rfl⟩ NW6.out
        exact ⟨rfl, hput.1, hput.2⟩
    · have hcd : decide (cn < 0) = false := decide_eq_false hc
      have HN : Hid (relA P x = (Q, toT ++ intL cn)) := by show _ = _; rw [HA.out, if_pos rfl, if_neg hc]
      rw [HN.out]
      have hc0 : 0 ≤ cn := by omega
      clear hc
      rcases hxc with ⟨hd, rfl⟩ | ⟨hd, rfl⟩
      all_goals
        go_enter Tryz.func64, Tryz.ntmps64
        go_wp2_with fail
        refine HSP.out.mono ?_
        rintro e w1 ⟨AS, cS, rfl, rdS, b1⟩
        obtain ⟨bp, op, hAP, hbp, hcp⟩ := rdS.block (by simp)
        subst hAP
        have p0 : w1.cell? ⟨bp, op, none⟩ = some (.string BA) := by have := hcp 0 _ rfl; simpa using this
        have p1 : w1.cell? ⟨bp, op + 1, none⟩ = some (.string BB) := hcp 1 _ rfl
        have FR1 := Lib.hid b1
        have hs1 : w.heap.size ≤ w1.heap.size := b1.size
        clear rdS hcp b1
        go_wp2_with fail
        refine (HNM.out w1 (HE.out.below FR1.out)).mono ?_
        rintro e w2 ⟨rfl, b2⟩
        have FR2 := Lib.hid (FR1.out.trans (b2.mono FR1.out.size))
        have hs2 : w1.heap.size ≤ w2.heap.size := b2.size
        have q0 : w2.cell? ⟨bp, op, none⟩ = some (.string BA) := (b2.cell hbp).trans p0
        have hbp2 : bp < w2.heap.size := by omega
        clear p0 p1 b2
        obtain ⟨k0, k1, k2, k3, kfz⟩ := blk4 (BK.out.below FR2.out hgd)
        obtain ⟨gn, hgn⟩ : ∃ gn, gn = w2.heap.size := ⟨_, rfl⟩
        obtain ⟨w3, hw3⟩ : ∃ w3, w3 = w2.alloc (.cells #[.int .i64 P.mx, .slice A0 P.ids.length a0, .slice B0 P.hs.length b0, .slice C0 P.wt.length c0] 26) := ⟨_, rfl⟩
        have hs3 : w3.heap.size = gn + 1 := by rw [hw3, hgn]; simp
        have BN3 := Lib.hid (show Blk w3 gn 26 #[.int .i64 P.mx, .slice A0 P.ids.length a0, .slice B0 P.hs.length b0, .slice C0 P.wt.length c0] by rw [hw3, hgn]; exact Blk.new w2 _ _)
        have FR3 := Lib.hid (show Below w.heap.size w w3 by rw [hw3]; exact FR2.out.alloc (by omega) _)
        have q3 : w3.cell? ⟨bp, op, none⟩ = some (.string BA) := by rw [hw3]; exact (World.cell?_alloc_lt w2 _ _ hbp2).trans q0
        have hgn3 : gn < w3.heap.size := by omega
        have hgn0 : w.heap.size ≤ gn := by omega
        have hgd3 : gd < w3.heap.size := by omega
        have hne3 : ¬ gn = gd := by omega
        have hne3' : ¬ gd = gn := by omega
        clear k0 k1 k2 k3 kfz q0
        obtain ⟨k0, k1, k2, k3, kfz⟩ := blk4 (BK.out.below FR2.out hgd)
        go_upto_region 10 with fail
        rw [← hw3, ← hgn]
        clear hw3 hgn k0 k1 k2 k3 kfz
        obtain ⟨k0, k1, k2, k3, kfz⟩ := blk4 (BK.out.below FR3.out hgd)
        obtain ⟨n0, n1, n2, n3, nfz⟩ := blk4 BN3.out
        go_wp2_with fail
        refine (HAC.out w3 FR3.out).mono ?_
        rintro e w4 ⟨A4, a4, B4, b4, C4, c4, rfl, pr4, bl4⟩
        have FR4 := Lib.hid (FR3.out.trans (bl4.mono FR3.out.size))
        have hs4 : w3.heap.size ≤ w4.heap.size := bl4.size
        have BN4 := Lib.hid (BN3.out.below bl4 hgn3)
        obtain ⟨w5, hw5⟩ : ∃ w5, w5 = (((w4.setCell ⟨gn, 0, none⟩ (.int .i64 Q.mx)).setCell ⟨gn, 1, none⟩ (.slice A4 Q.ids.length a4)).setCell ⟨gn, 2, none⟩ (.slice B4 Q.hs.length b4)).setCell ⟨gn, 3, none⟩ (.slice C4 Q.wt.length c4) := ⟨_, rfl⟩
        have NW5 := Lib.hid (show PNew w gn Q A4 a4 B4 b4 C4 c4 w5 by rw [hw5]; exact PNew.over FR4.out (pr4.mono (by omega)) BN4.out (pr4.offLow hgn3) hgn0)
        have FR5 := Lib.hid NW5.out.bel
        have hgn5 : gn < w5.heap.size := NW5.out.blk.lt
        clear pr4 bl4 k0 k1 k2 k3 kfz n0 n1 n2 n3 nfz
        obtain ⟨n0, n1, n2, n3, nfz⟩ := blk4 BN4.out
        go_upto_region 21 with fail
        rw [← hw5]
        clear hw5 n0 n1 n2 n3 nfz BN3 BN4 FR3 FR4
        go_wp2_with fail
        refine (HIT.out w5 (HE.out.below FR5.out)).mono ?_
        rintro e w6 ⟨T, hTs, hT, rfl, bl6⟩
        have NW6 := Lib.hid (NW5.out.below bl6)
        have HT := Lib.hid hT
        have hz9 : ¬ 9223372036854775807 < 3 + T.size := by omega
        have hgn6 : gn < w6.heap.size := NW6.out.blk.lt
        have hgd6 : gd < w6.heap.size := by have := NW6.out.low; omega
        clear bl6 hT NW5 FR5
        obtain ⟨n0, n1, n2, n3, nfz⟩ := blk4 NW6.out.blk
        obtain ⟨k0, k1, k2, k3, kfz⟩ := blk4 (BK.out.below NW6.out.bel hgd)
        go_wp2_with fail
        go_ret
        have hput := Desk.put BK.out ⟨_, _, _, _, rfl⟩ NW6.out
        exact ⟨congrArg (fun z => Ending.returned (.string z)) (by rw [HT.out hc0]; exact (bsof_append toT (intL cn)).symm), hput.1, hput.2⟩
end
-- merged
section
open Go.RowKit

set_option maxRecDepth 100000 in
set_option maxHeartbeats 16000000 in
theorem l_close_c (gd : Nat) (P : Pl) (g : P.Good) (s : ByteArray) (w : World) (hs : s.size ≤ 1048576) (E : Env w) (h : Desk 26 w gd P) (a b : List UInt8) (hps : spl 32 s.data.toList = [a, b]) (hk : a = closeT) :
    Calls Tryz.prog 64 #[.pointer (some ⟨gd, 0, none⟩), .string s] w (RetD 26 gd (closeA P (pI b)) w) := by
  have hgd := h.lt
  have H := Lib.hid h
  have hsm := g.small
  have hlen : s.data.toList.length = s.size := by rw [Array.length_toList]; rfl
  have HSP0 := splitC_c 32 s w (by omega) E
  rw [hps] at HSP0
  have hbl : b.length ≤ 1048576 := by
    have hpl := spl_piece_len 32 s.data.toList
    rw [hps, hlen] at hpl
    have := hpl b (by simp); omega
  have hnp : ¬ s.toList = [112, 111, 111, 108] := fun h => by
    rw [ByteArray.toList_eq] at h
    rw [show s.data.toList = poolT from h, spl_pool] at hps
    injection hps with _ h9
    cases h9
  have hnp2 : (s.toList == [112, 111, 111, 108]) = false := beq_eq_false_iff_ne.2 hnp
  obtain ⟨BA, hBA⟩ : ∃ BA, BA = bsof a := ⟨_, rfl⟩
  obtain ⟨BB, hBB⟩ : ∃ BB, BB = bsof b := ⟨_, rfl⟩
  have HSP := Lib.hid (show Calls Tryz.prog 36 #[.string s, .string ⟨#[32]⟩] w (fun e w' => ∃ A cc, e = .returned (.slice A 2 cc) ∧ Rd w' A [.string BA, .string BB] ∧ Below w.heap.size w w') from by rw [hBA, hBB]; exact HSP0)
  have HE := Lib.hid E
  have HNM := Lib.hid (fun W (hW : Env W) => number_c BB W (by rw [hBB, bsof_size]; omega) hW)
  rw [hBB, data_bsof, ← hBB] at HNM
  obtain ⟨A0, a0, B0, b0, C0, c0, hkk, hpp, hoo⟩ := id h
  have BK := Lib.hid hkk; have PR := Lib.hid hpp; have OFP := Lib.hid hoo
  have hxc := num_cases b
  obtain ⟨x0, hx0⟩ : ∃ x0, x0 = numI b := ⟨_, rfl⟩
  obtain ⟨x, hx⟩ : ∃ x, x = pI b := ⟨_, rfl⟩
  rw [← hx0] at HNM
  rw [← hx0, ← hx] at hxc
  rw [← hx]
  have e_acquire : ¬ BA.toList = [97, 99, 113, 117, 105, 114, 101] := by rw [hBA, toList_bsof, hk]; decide
  have e_release : ¬ BA.toList = [114, 101, 108, 101, 97, 115, 101] := by rw [hBA, toList_bsof, hk]; decide
  have e_close : BA.toList = [99, 108, 111, 115, 101] := by rw [hBA, toList_bsof, hk]; rfl
  have e_size : ¬ BA.toList = [115, 105, 122, 101] := by rw [hBA, toList_bsof, hk]; decide
  have e_held : ¬ BA.toList = [104, 101, 108, 100] := by rw [hBA, toList_bsof, hk]; decide
  obtain ⟨Q, hQ⟩ : ∃ Q, Q = (closeR P x).1 := ⟨_, rfl⟩
  obtain ⟨cn, hcn⟩ : ∃ cn, cn = (closeR P x).2 := ⟨_, rfl⟩
  have HAC := Lib.hid (fun W (hb : Below w.heap.size w W) => (show Calls Tryz.prog 99 #[.agg #[.int .i64 P.mx, .slice A0 P.ids.length a0, .slice B0 P.hs.length b0, .slice C0 P.wt.length c0], .int .i64 x] W (fun e w' => ∃ A a B b C c, e = .returned (.tuple #[.agg #[.int .i64 Q.mx, .slice A Q.ids.length a, .slice B Q.hs.length b, .slice C Q.wt.length c], .int .i64 cn]) ∧ PRow w' W.heap.size Q A a B b C c ∧ Below W.heap.size W w') from by rw [hQ, hcn]; exact iCloseIdle_c P.mx P.ids P.hs P.wt A0 _ a0 B0 _ b0 C0 _ c0 W rfl rfl rfl (PR.out.below hb).1.rd (PR.out.below hb).2.1.rd (PR.out.below hb).2.2.1.rd (by omega) (by omega) (by omega) PR.out.1.le x))
  have hcn9 : cn ≤ 99 := by rw [hcn]; exact closeR_le g x
  have hcn0 : -1 ≤ cn := by rw [hcn]; exact closeR_ge P x
  have HIT := Lib.hid (fun W (hW : Env W) => itoaS_c cn hcn0 hcn9 W hW)
  have HA : Hid (closeA P x = if cn < 0 then (P, noT) else (Q, intL cn)) := by show _ = _; unfold closeA; rw [← hQ, ← hcn]
  clear hQ hcn hk hps hbl hlen HSP0 hBA hBB hkk hpp hoo hx0 hx E h hnp
  by_cases hc : cn < 0
  · have hcd : decide (0 ≤ cn) = false := decide_eq_false (by omega)
    have HN : Hid (closeA P x = (P, noT)) := HA.out.trans (if_pos hc)
    rw [HN.out]
    clear hc
    rcases hxc with ⟨hd, rfl⟩ | ⟨hd, rfl⟩
    all_goals
      go_enter Tryz.func64, Tryz.ntmps64
      go_wp2_with fail
      refine HSP.out.mono ?_
      rintro e w1 ⟨AS, cS, rfl, rdS, b1⟩
      obtain ⟨bp, op, hAP, hbp, hcp⟩ := rdS.block (by simp)
      subst hAP
      have p0 : w1.cell? ⟨bp, op, none⟩ = some (.string BA) := by have := hcp 0 _ rfl; simpa using this
      have p1 : w1.cell? ⟨bp, op + 1, none⟩ = some (.string BB) := hcp 1 _ rfl
      have FR1 := Lib.hid b1
      have hs1 : w.heap.size ≤ w1.heap.size := b1.size
      clear rdS hcp b1
      go_wp2_with fail
      refine (HNM.out w1 (HE.out.below FR1.out)).mono ?_
      rintro e w2 ⟨rfl, b2⟩
      have FR2 := Lib.hid (FR1.out.trans (b2.mono FR1.out.size))
      have hs2 : w1.heap.size ≤ w2.heap.size := b2.size
      have q0 : w2.cell? ⟨bp, op, none⟩ = some (.string BA) := (b2.cell hbp).trans p0
      have hbp2 : bp < w2.heap.size := by omega
      clear p0 p1 b2
      obtain ⟨k0, k1, k2, k3, kfz⟩ := blk4 (BK.out.below FR2.out hgd)
      obtain ⟨gn, hgn⟩ : ∃ gn, gn = w2.heap.size := ⟨_, rfl⟩
      obtain ⟨w3, hw3⟩ : ∃ w3, w3 = w2.alloc (.cells #[.int .i64 P.mx, .slice A0 P.ids.length a0, .slice B0 P.hs.length b0, .slice C0 P.wt.length c0] 26) := ⟨_, rfl⟩
      have hs3 : w3.heap.size = gn + 1 := by rw [hw3, hgn]; simp
      have BN3 := Lib.hid (show Blk w3 gn 26 #[.int .i64 P.mx, .slice A0 P.ids.length a0, .slice B0 P.hs.length b0, .slice C0 P.wt.length c0] by rw [hw3, hgn]; exact Blk.new w2 _ _)
      have FR3 := Lib.hid (show Below w.heap.size w w3 by rw [hw3]; exact FR2.out.alloc (by omega) _)
      have q3 : w3.cell? ⟨bp, op, none⟩ = some (.string BA) := by rw [hw3]; exact (World.cell?_alloc_lt w2 _ _ hbp2).trans q0
      have hgn3 : gn < w3.heap.size := by omega
      have hgn0 : w.heap.size ≤ gn := by omega
      have hgd3 : gd < w3.heap.size := by omega
      have hne3 : ¬ gn = gd := by omega
      have hne3' : ¬ gd = gn := by omega
      clear k0 k1 k2 k3 kfz q0
      obtain ⟨k0, k1, k2, k3, kfz⟩ := blk4 (BK.out.below FR2.out hgd)
      go_upto_region 10 with fail
      rw [← hw3, ← hgn]
      clear hw3 hgn k0 k1 k2 k3 kfz
      obtain ⟨k0, k1, k2, k3, kfz⟩ := blk4 (BK.out.below FR3.out hgd)
      obtain ⟨n0, n1, n2, n3, nfz⟩ := blk4 BN3.out
      go_wp2_with fail
      refine (HAC.out w3 FR3.out).mono ?_
      rintro e w4 ⟨A4, a4, B4, b4, C4, c4, rfl, pr4, bl4⟩
      have FR4 := Lib.hid (FR3.out.trans (bl4.mono FR3.out.size))
      have hs4 : w3.heap.size ≤ w4.heap.size := bl4.size
      have BN4 := Lib.hid (BN3.out.below bl4 hgn3)
      obtain ⟨w5, hw5⟩ : ∃ w5, w5 = (((w4.setCell ⟨gn, 0, none⟩ (.int .i64 Q.mx)).setCell ⟨gn, 1, none⟩ (.slice A4 Q.ids.length a4)).setCell ⟨gn, 2, none⟩ (.slice B4 Q.hs.length b4)).setCell ⟨gn, 3, none⟩ (.slice C4 Q.wt.length c4) := ⟨_, rfl⟩
      have NW5 := Lib.hid (show PNew w gn Q A4 a4 B4 b4 C4 c4 w5 by rw [hw5]; exact PNew.over FR4.out (pr4.mono (by omega)) BN4.out (pr4.offLow hgn3) hgn0)
      have FR5 := Lib.hid NW5.out.bel
      have hgn5 : gn < w5.heap.size := NW5.out.blk.lt
      clear pr4 bl4 k0 k1 k2 k3 kfz n0 n1 n2 n3 nfz
      obtain ⟨n0, n1, n2, n3, nfz⟩ := blk4 BN4.out
      go_upto_region 27 with fail
      rw [← hw5]
      clear hw5 n0 n1 n2 n3 nfz BN3 BN4 FR3 FR4
      go_wp2_with fail
      refine (HIT.out w5 (HE.out.below FR5.out)).mono ?_
      rintro e w6 ⟨T, hTs, hT, rfl, bl6⟩
      have NW6 := Lib.hid (NW5.out.below bl6)
      have HT := Lib.hid hT
      have hz9 : ¬ 9223372036854775807 < 3 + T.size := by omega
      have hgn6 : gn < w6.heap.size := NW6.out.blk.lt
      have hgd6 : gd < w6.heap.size := by have := NW6.out.low; omega
      clear bl6 hT NW5 FR5
      obtain ⟨n0, n1, n2, n3, nfz⟩ := blk4 NW6.out.blk
      obtain ⟨k0, k1, k2, k3, kfz⟩ := blk4 (BK.out.below NW6.out.bel hgd)
      go_wp2_with fail
      go_ret
      exact ⟨rfl, H.out.below NW6.out.bel, only_of_below NW6.out.bel _⟩
  · have hc0 : 0 ≤ cn := by omega
    have hcd : decide (0 ≤ cn) = true := decide_eq_true hc0
    have HN : Hid (closeA P x = (Q, intL cn)) := HA.out.trans (if_neg hc)
    rw [HN.out]
    clear hc
    rcases hxc with ⟨hd, rfl⟩ | ⟨hd, rfl⟩
    all_goals
      go_enter Tryz.func64, Tryz.ntmps64
      go_wp2_with fail
      refine HSP.out.mono ?_
      rintro e w1 ⟨AS, cS, rfl, rdS, b1⟩
      obtain ⟨bp, op, hAP, hbp, hcp⟩ := rdS.block (by simp)
      subst hAP
      have p0 : w1.cell? ⟨bp, op, none⟩ = some (.string BA) := by have := hcp 0 _ rfl; simpa using this
      have p1 : w1.cell? ⟨bp, op + 1, none⟩ = some (.string BB) := hcp 1 _ rfl
      have FR1 := Lib.hid b1
      have hs1 : w.heap.size ≤ w1.heap.size := b1.size
      clear rdS hcp b1
      go_wp2_with fail
      refine (HNM.out w1 (HE.out.below FR1.out)).mono ?_
      rintro e w2 ⟨rfl, b2⟩
      have FR2 := Lib.hid (FR1.out.trans (b2.mono FR1.out.size))
      have hs2 : w1.heap.size ≤ w2.heap.size := b2.size
      have q0 : w2.cell? ⟨bp, op, none⟩ = some (.string BA) := (b2.cell hbp).trans p0
      have hbp2 : bp < w2.heap.size := by omega
      clear p0 p1 b2
      obtain ⟨k0, k1, k2, k3, kfz⟩ := blk4 (BK.out.below FR2.out hgd)
      obtain ⟨gn, hgn⟩ : ∃ gn, gn = w2.heap.size := ⟨_, rfl⟩
      obtain ⟨w3, hw3⟩ : ∃ w3, w3 = w2.alloc (.cells #[.int .i64 P.mx, .slice A0 P.ids.length a0, .slice B0 P.hs.length b0, .slice C0 P.wt.length c0] 26) := ⟨_, rfl⟩
      have hs3 : w3.heap.size = gn + 1 := by rw [hw3, hgn]; simp
      have BN3 := Lib.hid (show Blk w3 gn 26 #[.int .i64 P.mx, .slice A0 P.ids.length a0, .slice B0 P.hs.length b0, .slice C0 P.wt.length c0] by rw [hw3, hgn]; exact Blk.new w2 _ _)
      have FR3 := Lib.hid (show Below w.heap.size w w3 by rw [hw3]; exact FR2.out.alloc (by omega) _)
      have q3 : w3.cell? ⟨bp, op, none⟩ = some (.string BA) := by rw [hw3]; exact (World.cell?_alloc_lt w2 _ _ hbp2).trans q0
      have hgn3 : gn < w3.heap.size := by omega
      have hgn0 : w.heap.size ≤ gn := by omega
      have hgd3 : gd < w3.heap.size := by omega
      have hne3 : ¬ gn = gd := by omega
      have hne3' : ¬ gd = gn := by omega
      clear k0 k1 k2 k3 kfz q0
      obtain ⟨k0, k1, k2, k3, kfz⟩ := blk4 (BK.out.below FR2.out hgd)
      go_upto_region 10 with fail
      rw [← hw3, ← hgn]
      clear hw3 hgn k0 k1 k2 k3 kfz
      obtain ⟨k0, k1, k2, k3, kfz⟩ := blk4 (BK.out.below FR3.out hgd)
      obtain ⟨n0, n1, n2, n3, nfz⟩ := blk4 BN3.out
      go_wp2_with fail
      refine (HAC.out w3 FR3.out).mono ?_
      rintro e w4 ⟨A4, a4, B4, b4, C4, c4, rfl, pr4, bl4⟩
      have FR4 := Lib.hid (FR3.out.trans (bl4.mono FR3.out.size))
      have hs4 : w3.heap.size ≤ w4.heap.size := bl4.size
      have BN4 := Lib.hid (BN3.out.below bl4 hgn3)
      obtain ⟨w5, hw5⟩ : ∃ w5, w5 = (((w4.setCell ⟨gn, 0, none⟩ (.int .i64 Q.mx)).setCell ⟨gn, 1, none⟩ (.slice A4 Q.ids.length a4)).setCell ⟨gn, 2, none⟩ (.slice B4 Q.hs.length b4)).setCell ⟨gn, 3, none⟩ (.slice C4 Q.wt.length c4) := ⟨_, rfl⟩
      have NW5 := Lib.hid (show PNew w gn Q A4 a4 B4 b4 C4 c4 w5 by rw [hw5]; exact PNew.over FR4.out (pr4.mono (by omega)) BN4.out (pr4.offLow hgn3) hgn0)
      have FR5 := Lib.hid NW5.out.bel
      have hgn5 : gn < w5.heap.size := NW5.out.blk.lt
      clear pr4 bl4 k0 k1 k2 k3 kfz n0 n1 n2 n3 nfz
      obtain ⟨n0, n1, n2, n3, nfz⟩ := blk4 BN4.out
      go_upto_region 27 with fail
      rw [← hw5]
      clear hw5 n0 n1 n2 n3 nfz BN3 BN4 FR3 FR4
      go_wp2_with fail
      refine (HIT.out w5 (HE.out.below FR5.out)).mono ?_
      rintro e w6 ⟨T, hTs, hT, rfl, bl6⟩
      have NW6 := Lib.hid (NW5.out.below bl6)
      have HT := Lib.hid hT
      have hz9 : ¬ 9223372036854775807 < 3 + T.size := by omega
      have hgn6 : gn < w6.heap.size := NW6.out.blk.lt
      have hgd6 : gd < w6.heap.size := by have := NW6.out.low; omega
      clear bl6 hT NW5 FR5
      obtain ⟨n0, n1, n2, n3, nfz⟩ := blk4 NW6.out.blk
      obtain ⟨k0, k1, k2, k3, kfz⟩ := blk4 (BK.out.below NW6.out.bel hgd)
      go_wp2_with fail
      go_ret
      have hput := Desk.put BK.out ⟨_, _, _, _, rfl⟩ NW6.out
      exact ⟨congrArg (fun z => Ending.returned (.string z)) (HT.out hc0), hput.1, hput.2⟩
set_option maxRecDepth 100000 in
set_option maxHeartbeats 16000000 in
theorem l_size_c (gd : Nat) (P : Pl) (g : P.Good) (s : ByteArray) (w : World) (hs : s.size ≤ 1048576) (E : Env w) (h : Desk 26 w gd P) (a b : List UInt8) (hps : spl 32 s.data.toList = [a, b]) (hk : a = sizeT) :
    Calls Tryz.prog 64 #[.pointer (some ⟨gd, 0, none⟩), .string s] w (RetD 26 gd (sizeA P (pI b)) w) := by
  have hgd := h.lt
  have H := Lib.hid h
  have hsm := g.small
  have hlen : s.data.toList.length = s.size := by rw [Array.length_toList]; rfl
  have HSP0 := splitC_c 32 s w (by omega) E
  rw [hps] at HSP0
  have hbl : b.length ≤ 1048576 := by
    have hpl := spl_piece_len 32 s.data.toList
    rw [hps, hlen] at hpl
    have := hpl b (by simp); omega
  have hnp : ¬ s.toList = [112, 111, 111, 108] := fun h => by
    rw [ByteArray.toList_eq] at h
    rw [show s.data.toList = poolT from h, spl_pool] at hps
    injection hps with _ h9
    cases h9
  have hnp2 : (s.toList == [112, 111, 111, 108]) = false := beq_eq_false_iff_ne.2 hnp
  obtain ⟨BA, hBA⟩ : ∃ BA, BA = bsof a := ⟨_, rfl⟩
  obtain ⟨BB, hBB⟩ : ∃ BB, BB = bsof b := ⟨_, rfl⟩
  have HSP := Lib.hid (show Calls Tryz.prog 36 #[.string s, .string ⟨#[32]⟩] w (fun e w' => ∃ A cc, e = .returned (.slice A 2 cc) ∧ Rd w' A [.string BA, .string BB] ∧ Below w.heap.size w w') from by rw [hBA, hBB]; exact HSP0)
  have HE := Lib.hid E
  have HNM := Lib.hid (fun W (hW : Env W) => number_c BB W (by rw [hBB, bsof_size]; omega) hW)
  rw [hBB, data_bsof, ← hBB] at HNM
  obtain ⟨A0, a0, B0, b0, C0, c0, hkk, hpp, hoo⟩ := id h
  have BK := Lib.hid hkk; have PR := Lib.hid hpp; have OFP := Lib.hid hoo
  have hxc := num_cases b
  obtain ⟨x0, hx0⟩ : ∃ x0, x0 = numI b := ⟨_, rfl⟩
  obtain ⟨x, hx⟩ : ∃ x, x = pI b := ⟨_, rfl⟩
  rw [← hx0] at HNM
  rw [← hx0, ← hx] at hxc
  rw [← hx]
  have e_acquire : ¬ BA.toList = [97, 99, 113, 117, 105, 114, 101] := by rw [hBA, toList_bsof, hk]; decide
  have e_release : ¬ BA.toList = [114, 101, 108, 101, 97, 115, 101] := by rw [hBA, toList_bsof, hk]; decide
  have e_close : ¬ BA.toList = [99, 108, 111, 115, 101] := by rw [hBA, toList_bsof, hk]; decide
  have e_size : BA.toList = [115, 105, 122, 101] := by rw [hBA, toList_bsof, hk]; rfl
  have e_held : ¬ BA.toList = [104, 101, 108, 100] := by rw [hBA, toList_bsof, hk]; decide
  obtain ⟨v, hv⟩ : ∃ v, v = Pl.valid ⟨x, P.ids, P.hs, P.wt⟩ := ⟨_, rfl⟩
  have HV := Lib.hid (fun W q1 q2 q3 => validPool_c x P.ids P.hs P.wt A0 _ a0 B0 _ b0 C0 _ c0 W rfl rfl rfl q1 q2 q3 (by omega) (by omega) (by omega) PR.out.1.le)
  rw [← hv] at HV
  have HA : Hid (sizeA P x = if v = true then (⟨x, P.ids, P.hs, P.wt⟩, okT) else (P, noT)) := by show _ = _; unfold sizeA; rw [← hv]
  clear hv hk hps hbl hlen HSP0 hBA hBB hkk hpp hoo hx0 hx E h hnp
  cases v
  · have HN : Hid (sizeA P x = (P, noT)) := HA.out.trans (if_neg (fun h => by cases h))
    rw [HN.out]
    rcases hxc with ⟨hd, rfl⟩ | ⟨hd, rfl⟩
    · skip
      go_enter Tryz.func64, Tryz.ntmps64
      go_wp2_with fail
      refine HSP.out.mono ?_
      rintro e w1 ⟨AS, cS, rfl, rdS, b1⟩
      obtain ⟨bp, op, hAP, hbp, hcp⟩ := rdS.block (by simp)
      subst hAP
      have p0 : w1.cell? ⟨bp, op, none⟩ = some (.string BA) := by have := hcp 0 _ rfl; simpa using this
      have p1 : w1.cell? ⟨bp, op + 1, none⟩ = some (.string BB) := hcp 1 _ rfl
      have FR1 := Lib.hid b1
      have hs1 : w.heap.size ≤ w1.heap.size := b1.size
      clear rdS hcp b1
      go_wp2_with fail
      refine (HNM.out w1 (HE.out.below FR1.out)).mono ?_
      rintro e w2 ⟨rfl, b2⟩
      have FR2 := Lib.hid (FR1.out.trans (b2.mono FR1.out.size))
      have hs2 : w1.heap.size ≤ w2.heap.size := b2.size
      have q0 : w2.cell? ⟨bp, op, none⟩ = some (.string BA) := (b2.cell hbp).trans p0
      have hbp2 : bp < w2.heap.size := by omega
      clear p0 p1 b2
      obtain ⟨k0, k1, k2, k3, kfz⟩ := blk4 (BK.out.below FR2.out hgd)
      obtain ⟨gn, hgn⟩ : ∃ gn, gn = w2.heap.size := ⟨_, rfl⟩
      obtain ⟨w3, hw3⟩ : ∃ w3, w3 = w2.alloc (.cells #[.int .i64 P.mx, .slice A0 P.ids.length a0, .slice B0 P.hs.length b0, .slice C0 P.wt.length c0] 26) := ⟨_, rfl⟩
      have hs3 : w3.heap.size = gn + 1 := by rw [hw3, hgn]; simp
      have BN3 := Lib.hid (show Blk w3 gn 26 #[.int .i64 P.mx, .slice A0 P.ids.length a0, .slice B0 P.hs.length b0, .slice C0 P.wt.length c0] by rw [hw3, hgn]; exact Blk.new w2 _ _)
      have FR3 := Lib.hid (show Below w.heap.size w w3 by rw [hw3]; exact FR2.out.alloc (by omega) _)
      have q3 : w3.cell? ⟨bp, op, none⟩ = some (.string BA) := by rw [hw3]; exact (World.cell?_alloc_lt w2 _ _ hbp2).trans q0
      have hgn3 : gn < w3.heap.size := by omega
      have hgn0 : w.heap.size ≤ gn := by omega
      have hgd3 : gd < w3.heap.size := by omega
      have hne3 : ¬ gn = gd := by omega
      have hne3' : ¬ gd = gn := by omega
      clear k0 k1 k2 k3 kfz q0
      obtain ⟨k0, k1, k2, k3, kfz⟩ := blk4 (BK.out.below FR2.out hgd)
      go_upto_region 10 with fail
      rw [← hw3, ← hgn]
      clear hw3 hgn k0 k1 k2 k3 kfz
      obtain ⟨k0, k1, k2, k3, kfz⟩ := blk4 (BK.out.below FR3.out hgd)
      obtain ⟨n0, n1, n2, n3, nfz⟩ := blk4 BN3.out
      go_wp2_with fail
      obtain ⟨w4, hw4⟩ : ∃ w4, w4 = w3.setCell ⟨gn, 0, none⟩ (.int .i64 ((-1))) := ⟨_, rfl⟩
      have h4s : w4.heap.size = w3.heap.size := by rw [hw4]; simp [World.setCell]
      have BN4 := Lib.hid (show Blk w4 gn 26 #[.int .i64 (-1), .slice A0 P.ids.length a0, .slice B0 P.hs.length b0, .slice C0 P.wt.length c0] by rw [hw4]; exact BN3.out.set_ 0 _)
      have FR4 := Lib.hid (show Below w.heap.size w w4 by rw [hw4]; exact FR3.out.setCell hgn0 _)
      have hgn4 : gn < w4.heap.size := by omega
      clear k0 k1 k2 k3 kfz
      go_upto_region 31 with fail
      rw [← hw4]
      clear hw4 n0 n1 n2 n3 nfz BN3 FR3
      obtain ⟨n0, n1, n2, n3, nfz⟩ := blk4 BN4.out
      go_wp2_with fail
      refine (HV.out w4 (PR.out.below FR4.out).1.rd (PR.out.below FR4.out).2.1.rd (PR.out.below FR4.out).2.2.1.rd).mono ?_
      rintro e w5 ⟨rfl, bl5⟩
      have BN5 := Lib.hid (BN4.out.below bl5 hgn4)
      have FR5 := Lib.hid (FR4.out.trans (bl5.mono FR4.out.size))
      have hgn5 : gn < w5.heap.size := BN5.out.lt
      have hgd5 : gd < w5.heap.size := by omega
      clear bl5 n0 n1 n2 n3 nfz
      obtain ⟨n0, n1, n2, n3, nfz⟩ := blk4 BN5.out
      obtain ⟨k0, k1, k2, k3, kfz⟩ := blk4 (BK.out.below FR5.out hgd)
      go_wp2_with fail
      go_ret
      exact ⟨rfl, H.out.below FR5.out, only_of_below FR5.out _⟩
    · skip
      go_enter Tryz.func64, Tryz.ntmps64
      go_wp2_with fail
      refine HSP.out.mono ?_
      rintro e w1 ⟨AS, cS, rfl, rdS, b1⟩
      obtain ⟨bp, op, hAP, hbp, hcp⟩ := rdS.block (by simp)
      subst hAP
      have p0 : w1.cell? ⟨bp, op, none⟩ = some (.string BA) := by have := hcp 0 _ rfl; simpa using this
      have p1 : w1.cell? ⟨bp, op + 1, none⟩ = some (.string BB) := hcp 1 _ rfl
      have FR1 := Lib.hid b1
      have hs1 : w.heap.size ≤ w1.heap.size := b1.size
      clear rdS hcp b1
      go_wp2_with fail
      refine (HNM.out w1 (HE.out.below FR1.out)).mono ?_
      rintro e w2 ⟨rfl, b2⟩
      have FR2 := Lib.hid (FR1.out.trans (b2.mono FR1.out.size))
      have hs2 : w1.heap.size ≤ w2.heap.size := b2.size
      have q0 : w2.cell? ⟨bp, op, none⟩ = some (.string BA) := (b2.cell hbp).trans p0
      have hbp2 : bp < w2.heap.size := by omega
      clear p0 p1 b2
      obtain ⟨k0, k1, k2, k3, kfz⟩ := blk4 (BK.out.below FR2.out hgd)
      obtain ⟨gn, hgn⟩ : ∃ gn, gn = w2.heap.size := ⟨_, rfl⟩
      obtain ⟨w3, hw3⟩ : ∃ w3, w3 = w2.alloc (.cells #[.int .i64 P.mx, .slice A0 P.ids.length a0, .slice B0 P.hs.length b0, .slice C0 P.wt.length c0] 26) := ⟨_, rfl⟩
      have hs3 : w3.heap.size = gn + 1 := by rw [hw3, hgn]; simp
      have BN3 := Lib.hid (show Blk w3 gn 26 #[.int .i64 P.mx, .slice A0 P.ids.length a0, .slice B0 P.hs.length b0, .slice C0 P.wt.length c0] by rw [hw3, hgn]; exact Blk.new w2 _ _)
      have FR3 := Lib.hid (show Below w.heap.size w w3 by rw [hw3]; exact FR2.out.alloc (by omega) _)
      have q3 : w3.cell? ⟨bp, op, none⟩ = some (.string BA) := by rw [hw3]; exact (World.cell?_alloc_lt w2 _ _ hbp2).trans q0
      have hgn3 : gn < w3.heap.size := by omega
      have hgn0 : w.heap.size ≤ gn := by omega
      have hgd3 : gd < w3.heap.size := by omega
      have hne3 : ¬ gn = gd := by omega
      have hne3' : ¬ gd = gn := by omega
      clear k0 k1 k2 k3 kfz q0
      obtain ⟨k0, k1, k2, k3, kfz⟩ := blk4 (BK.out.below FR2.out hgd)
      go_upto_region 10 with fail
      rw [← hw3, ← hgn]
      clear hw3 hgn k0 k1 k2 k3 kfz
      obtain ⟨k0, k1, k2, k3, kfz⟩ := blk4 (BK.out.below FR3.out hgd)
      obtain ⟨n0, n1, n2, n3, nfz⟩ := blk4 BN3.out
      go_wp2_with fail
      obtain ⟨w4, hw4⟩ : ∃ w4, w4 = w3.setCell ⟨gn, 0, none⟩ (.int .i64 (x)) := ⟨_, rfl⟩
      have h4s : w4.heap.size = w3.heap.size := by rw [hw4]; simp [World.setCell]
      have BN4 := Lib.hid (show Blk w4 gn 26 #[.int .i64 x, .slice A0 P.ids.length a0, .slice B0 P.hs.length b0, .slice C0 P.wt.length c0] by rw [hw4]; exact BN3.out.set_ 0 _)
      have FR4 := Lib.hid (show Below w.heap.size w w4 by rw [hw4]; exact FR3.out.setCell hgn0 _)
      have hgn4 : gn < w4.heap.size := by omega
      clear k0 k1 k2 k3 kfz
      go_upto_region 31 with fail
      rw [← hw4]
      clear hw4 n0 n1 n2 n3 nfz BN3 FR3
      obtain ⟨n0, n1, n2, n3, nfz⟩ := blk4 BN4.out
      go_wp2_with fail
      refine (HV.out w4 (PR.out.below FR4.out).1.rd (PR.out.below FR4.out).2.1.rd (PR.out.below FR4.out).2.2.1.rd).mono ?_
      rintro e w5 ⟨rfl, bl5⟩
      have BN5 := Lib.hid (BN4.out.below bl5 hgn4)
      have FR5 := Lib.hid (FR4.out.trans (bl5.mono FR4.out.size))
      have hgn5 : gn < w5.heap.size := BN5.out.lt
      have hgd5 : gd < w5.heap.size := by omega
      clear bl5 n0 n1 n2 n3 nfz
      obtain ⟨n0, n1, n2, n3, nfz⟩ := blk4 BN5.out
      obtain ⟨k0, k1, k2, k3, kfz⟩ := blk4 (BK.out.below FR5.out hgd)
      go_wp2_with fail
      go_ret
      exact ⟨rfl, H.out.below FR5.out, only_of_below FR5.out _⟩
  · have HN : Hid (sizeA P x = (⟨x, P.ids, P.hs, P.wt⟩, okT)) := HA.out.trans (if_pos rfl)
    rw [HN.out]
    rcases hxc with ⟨hd, rfl⟩ | ⟨hd, rfl⟩
    · skip
      go_enter Tryz.func64, Tryz.ntmps64
      go_wp2_with fail
      refine HSP.out.mono ?_
      rintro e w1 ⟨AS, cS, rfl, rdS, b1⟩
      obtain ⟨bp, op, hAP, hbp, hcp⟩ := rdS.block (by simp)
      subst hAP
      have p0 : w1.cell? ⟨bp, op, none⟩ = some (.string BA) := by have := hcp 0 _ rfl; simpa using this
      have p1 : w1.cell? ⟨bp, op + 1, none⟩ = some (.string BB) := hcp 1 _ rfl
      have FR1 := Lib.hid b1
      have hs1 : w.heap.size ≤ w1.heap.size := b1.size
      clear rdS hcp b1
      go_wp2_with fail
      refine (HNM.out w1 (HE.out.below FR1.out)).mono ?_
      rintro e w2 ⟨rfl, b2⟩
      have FR2 := Lib.hid (FR1.out.trans (b2.mono FR1.out.size))
      have hs2 : w1.heap.size ≤ w2.heap.size := b2.size
      have q0 : w2.cell? ⟨bp, op, none⟩ = some (.string BA) := (b2.cell hbp).trans p0
      have hbp2 : bp < w2.heap.size := by omega
      clear p0 p1 b2
      obtain ⟨k0, k1, k2, k3, kfz⟩ := blk4 (BK.out.below FR2.out hgd)
      obtain ⟨gn, hgn⟩ : ∃ gn, gn = w2.heap.size := ⟨_, rfl⟩
      obtain ⟨w3, hw3⟩ : ∃ w3, w3 = w2.alloc (.cells #[.int .i64 P.mx, .slice A0 P.ids.length a0, .slice B0 P.hs.length b0, .slice C0 P.wt.length c0] 26) := ⟨_, rfl⟩
      have hs3 : w3.heap.size = gn + 1 := by rw [hw3, hgn]; simp
      have BN3 := Lib.hid (show Blk w3 gn 26 #[.int .i64 P.mx, .slice A0 P.ids.length a0, .slice B0 P.hs.length b0, .slice C0 P.wt.length c0] by rw [hw3, hgn]; exact Blk.new w2 _ _)
      have FR3 := Lib.hid (show Below w.heap.size w w3 by rw [hw3]; exact FR2.out.alloc (by omega) _)
      have q3 : w3.cell? ⟨bp, op, none⟩ = some (.string BA) := by rw [hw3]; exact (World.cell?_alloc_lt w2 _ _ hbp2).trans q0
      have hgn3 : gn < w3.heap.size := by omega
      have hgn0 : w.heap.size ≤ gn := by omega
      have hgd3 : gd < w3.heap.size := by omega
      have hne3 : ¬ gn = gd := by omega
      have hne3' : ¬ gd = gn := by omega
      clear k0 k1 k2 k3 kfz q0
      obtain ⟨k0, k1, k2, k3, kfz⟩ := blk4 (BK.out.below FR2.out hgd)
      go_upto_region 10 with fail
      rw [← hw3, ← hgn]
      clear hw3 hgn k0 k1 k2 k3 kfz
      obtain ⟨k0, k1, k2, k3, kfz⟩ := blk4 (BK.out.below FR3.out hgd)
      obtain ⟨n0, n1, n2, n3, nfz⟩ := blk4 BN3.out
      go_wp2_with fail
      obtain ⟨w4, hw4⟩ : ∃ w4, w4 = w3.setCell ⟨gn, 0, none⟩ (.int .i64 ((-1))) := ⟨_, rfl⟩
      have h4s : w4.heap.size = w3.heap.size := by rw [hw4]; simp [World.setCell]
      have BN4 := Lib.hid (show Blk w4 gn 26 #[.int .i64 (-1), .slice A0 P.ids.length a0, .slice B0 P.hs.length b0, .slice C0 P.wt.length c0] by rw [hw4]; exact BN3.out.set_ 0 _)
      have FR4 := Lib.hid (show Below w.heap.size w w4 by rw [hw4]; exact FR3.out.setCell hgn0 _)
      have hgn4 : gn < w4.heap.size := by omega
      clear k0 k1 k2 k3 kfz
      go_upto_region 31 with fail
      rw [← hw4]
      clear hw4 n0 n1 n2 n3 nfz BN3 FR3
      obtain ⟨n0, n1, n2, n3, nfz⟩ := blk4 BN4.out
      go_wp2_with fail
      refine (HV.out w4 (PR.out.below FR4.out).1.rd (PR.out.below FR4.out).2.1.rd (PR.out.below FR4.out).2.2.1.rd).mono ?_
      rintro e w5 ⟨rfl, bl5⟩
      have BN5 := Lib.hid (BN4.out.below bl5 hgn4)
      have FR5 := Lib.hid (FR4.out.trans (bl5.mono FR4.out.size))
      have hgn5 : gn < w5.heap.size := BN5.out.lt
      have hgd5 : gd < w5.heap.size := by omega
      clear bl5 n0 n1 n2 n3 nfz
      obtain ⟨n0, n1, n2, n3, nfz⟩ := blk4 BN5.out
      obtain ⟨k0, k1, k2, k3, kfz⟩ := blk4 (BK.out.below FR5.out hgd)
      go_wp2_with fail
      go_ret
      exact ⟨rfl, ⟨A0, a0, B0, b0, C0, c0, ((((BK.out.below FR5.out hgd).set_ 0 _).set_ 1 _).set_ 2 _).set_ 3 _, ((((show PRow w5 0 ⟨(-1), P.ids, P.hs, P.wt⟩ A0 a0 B0 b0 C0 c0 from PR.out.below FR5.out).set (q := ⟨gd, 0, none⟩) OFP.out _).set (q := ⟨gd, 1, none⟩) OFP.out _).set (q := ⟨gd, 2, none⟩) OFP.out _).set (q := ⟨gd, 3, none⟩) OFP.out _, OFP.out⟩, only_setCell (only_setCell (only_setCell (only_setCell (only_of_below FR5.out (some gd)) (.inl rfl) _) (.inl rfl) _) (.inl rfl) _) (.inl rfl) _⟩
    · skip
      go_enter Tryz.func64, Tryz.ntmps64
      go_wp2_with fail
      refine HSP.out.mono ?_
      rintro e w1 ⟨AS, cS, rfl, rdS, b1⟩
      obtain ⟨bp, op, hAP, hbp, hcp⟩ := rdS.block (by simp)
      subst hAP
      have p0 : w1.cell? ⟨bp, op, none⟩ = some (.string BA) := by have := hcp 0 _ rfl; simpa using this
      have p1 : w1.cell? ⟨bp, op + 1, none⟩ = some (.string BB) := hcp 1 _ rfl
      have FR1 := Lib.hid b1
      have hs1 : w.heap.size ≤ w1.heap.size := b1.size
      clear rdS hcp b1
      go_wp2_with fail
      refine (HNM.out w1 (HE.out.below FR1.out)).mono ?_
      rintro e w2 ⟨rfl, b2⟩
      have FR2 := Lib.hid (FR1.out.trans (b2.mono FR1.out.size))
      have hs2 : w1.heap.size ≤ w2.heap.size := b2.size
      have q0 : w2.cell? ⟨bp, op, none⟩ = some (.string BA) := (b2.cell hbp).trans p0
      have hbp2 : bp < w2.heap.size := by omega
      clear p0 p1 b2
      obtain ⟨k0, k1, k2, k3, kfz⟩ := blk4 (BK.out.below FR2.out hgd)
      obtain ⟨gn, hgn⟩ : ∃ gn, gn = w2.heap.size := ⟨_, rfl⟩
      obtain ⟨w3, hw3⟩ : ∃ w3, w3 = w2.alloc (.cells #[.int .i64 P.mx, .slice A0 P.ids.length a0, .slice B0 P.hs.length b0, .slice C0 P.wt.length c0] 26) := ⟨_, rfl⟩
      have hs3 : w3.heap.size = gn + 1 := by rw [hw3, hgn]; simp
      have BN3 := Lib.hid (show Blk w3 gn 26 #[.int .i64 P.mx, .slice A0 P.ids.length a0, .slice B0 P.hs.length b0, .slice C0 P.wt.length c0] by rw [hw3, hgn]; exact Blk.new w2 _ _)
      have FR3 := Lib.hid (show Below w.heap.size w w3 by rw [hw3]; exact FR2.out.alloc (by omega) _)
      have q3 : w3.cell? ⟨bp, op, none⟩ = some (.string BA) := by rw [hw3]; exact (World.cell?_alloc_lt w2 _ _ hbp2).trans q0
      have hgn3 : gn < w3.heap.size := by omega
      have hgn0 : w.heap.size ≤ gn := by omega
      have hgd3 : gd < w3.heap.size := by omega
      have hne3 : ¬ gn = gd := by omega
      have hne3' : ¬ gd = gn := by omega
      clear k0 k1 k2 k3 kfz q0
      obtain ⟨k0, k1, k2, k3, kfz⟩ := blk4 (BK.out.below FR2.out hgd)
      go_upto_region 10 with fail
      rw [← hw3, ← hgn]
      clear hw3 hgn k0 k1 k2 k3 kfz
      obtain ⟨k0, k1, k2, k3, kfz⟩ := blk4 (BK.out.below FR3.out hgd)
      obtain ⟨n0, n1, n2, n3, nfz⟩ := blk4 BN3.out
      go_wp2_with fail
      obtain ⟨w4, hw4⟩ : ∃ w4, w4 = w3.setCell ⟨gn, 0, none⟩ (.int .i64 (x)) := ⟨_, rfl⟩
      have h4s : w4.heap.size = w3.heap.size := by rw [hw4]; simp [World.setCell]
      have BN4 := Lib.hid (show Blk w4 gn 26 #[.int .i64 x, .slice A0 P.ids.length a0, .slice B0 P.hs.length b0, .slice C0 P.wt.length c0] by rw [hw4]; exact BN3.out.set_ 0 _)
      have FR4 := Lib.hid (show Below w.heap.size w w4 by rw [hw4]; exact FR3.out.setCell hgn0 _)
      have hgn4 : gn < w4.heap.size := by omega
      clear k0 k1 k2 k3 kfz
      go_upto_region 31 with fail
      rw [← hw4]
      clear hw4 n0 n1 n2 n3 nfz BN3 FR3
      obtain ⟨n0, n1, n2, n3, nfz⟩ := blk4 BN4.out
      go_wp2_with fail
      refine (HV.out w4 (PR.out.below FR4.out).1.rd (PR.out.below FR4.out).2.1.rd (PR.out.below FR4.out).2.2.1.rd).mono ?_
      rintro e w5 ⟨rfl, bl5⟩
      have BN5 := Lib.hid (BN4.out.below bl5 hgn4)
      have FR5 := Lib.hid (FR4.out.trans (bl5.mono FR4.out.size))
      have hgn5 : gn < w5.heap.size := BN5.out.lt
      have hgd5 : gd < w5.heap.size := by omega
      clear bl5 n0 n1 n2 n3 nfz
      obtain ⟨n0, n1, n2, n3, nfz⟩ := blk4 BN5.out
      obtain ⟨k0, k1, k2, k3, kfz⟩ := blk4 (BK.out.below FR5.out hgd)
      go_wp2_with fail
      go_ret
      exact ⟨rfl, ⟨A0, a0, B0, b0, C0, c0, ((((BK.out.below FR5.out hgd).set_ 0 _).set_ 1 _).set_ 2 _).set_ 3 _, ((((show PRow w5 0 ⟨x, P.ids, P.hs, P.wt⟩ A0 a0 B0 b0 C0 c0 from PR.out.below FR5.out).set (q := ⟨gd, 0, none⟩) OFP.out _).set (q := ⟨gd, 1, none⟩) OFP.out _).set (q := ⟨gd, 2, none⟩) OFP.out _).set (q := ⟨gd, 3, none⟩) OFP.out _, OFP.out⟩, only_setCell (only_setCell (only_setCell (only_setCell (only_of_below FR5.out (some gd)) (.inl rfl) _) (.inl rfl) _) (.inl rfl) _) (.inl rfl) _⟩
set_option maxRecDepth 100000 in
set_option maxHeartbeats 16000000 in
theorem l_held_c (gd : Nat) (P : Pl) (g : P.Good) (s : ByteArray) (w : World) (hs : s.size ≤ 1048576) (E : Env w) (h : Desk 26 w gd P) (a b : List UInt8) (hps : spl 32 s.data.toList = [a, b]) (hk : a = heldT) :
    Calls Tryz.prog 64 #[.pointer (some ⟨gd, 0, none⟩), .string s] w (RetD 26 gd (heldA P (pI b)) w) := by
  have hgd := h.lt
  have H := Lib.hid h
  have hsm := g.small
  have hlen : s.data.toList.length = s.size := by rw [Array.length_toList]; rfl
  have HSP0 := splitC_c 32 s w (by omega) E
  rw [hps] at HSP0
  have hbl : b.length ≤ 1048576 := by
    have hpl := spl_piece_len 32 s.data.toList
    rw [hps, hlen] at hpl
    have := hpl b (by simp); omega
  have hnp : ¬ s.toList = [112, 111, 111, 108] := fun h => by
    rw [ByteArray.toList_eq] at h
    rw [show s.data.toList = poolT from h, spl_pool] at hps
    injection hps with _ h9
    cases h9
  have hnp2 : (s.toList == [112, 111, 111, 108]) = false := beq_eq_false_iff_ne.2 hnp
  obtain ⟨BA, hBA⟩ : ∃ BA, BA = bsof a := ⟨_, rfl⟩
  obtain ⟨BB, hBB⟩ : ∃ BB, BB = bsof b := ⟨_, rfl⟩
  have HSP := Lib.hid (show Calls Tryz.prog 36 #[.string s, .string ⟨#[32]⟩] w (fun e w' => ∃ A cc, e = .returned (.slice A 2 cc) ∧ Rd w' A [.string BA, .string BB] ∧ Below w.heap.size w w') from by rw [hBA, hBB]; exact HSP0)
  have HE := Lib.hid E
  have HNM := Lib.hid (fun W (hW : Env W) => number_c BB W (by rw [hBB, bsof_size]; omega) hW)
  rw [hBB, data_bsof, ← hBB] at HNM
  obtain ⟨A0, a0, B0, b0, C0, c0, hkk, hpp, hoo⟩ := id h
  have BK := Lib.hid hkk; have PR := Lib.hid hpp; have OFP := Lib.hid hoo
  have hxc := num_cases b
  obtain ⟨x0, hx0⟩ : ∃ x0, x0 = numI b := ⟨_, rfl⟩
  obtain ⟨x, hx⟩ : ∃ x, x = pI b := ⟨_, rfl⟩
  rw [← hx0] at HNM
  rw [← hx0, ← hx] at hxc
  rw [← hx]
  have e_acquire : ¬ BA.toList = [97, 99, 113, 117, 105, 114, 101] := by rw [hBA, toList_bsof, hk]; decide
  have e_release : ¬ BA.toList = [114, 101, 108, 101, 97, 115, 101] := by rw [hBA, toList_bsof, hk]; decide
  have e_close : ¬ BA.toList = [99, 108, 111, 115, 101] := by rw [hBA, toList_bsof, hk]; decide
  have e_size : ¬ BA.toList = [115, 105, 122, 101] := by rw [hBA, toList_bsof, hk]; decide
  have e_held : BA.toList = [104, 101, 108, 100] := by rw [hBA, toList_bsof, hk]; rfl
  obtain ⟨zs, hzs⟩ : ∃ zs, zs = heldV P x := ⟨_, rfl⟩
  have hz := heldV_small (p := P) x
  rw [← hzs] at hz
  have HHB := Lib.hid (fun W (q : Below w.heap.size w W) => (show Calls Tryz.prog 100 #[.agg #[.int .i64 P.mx, .slice A0 P.ids.length a0, .slice B0 P.hs.length b0, .slice C0 P.wt.length c0], .int .i64 x] W (RetR zs W) from by rw [hzs]; exact iHeldBy_c P.mx P.ids P.hs P.wt A0 _ a0 B0 _ b0 C0 _ c0 W rfl rfl rfl (PR.out.below q).1.rd (PR.out.below q).2.1.rd (PR.out.below q).2.2.1.rd (by omega) (by omega) (by omega) PR.out.1.le x))
  have HCM := Lib.hid (fun A n c W hN q => commas_c zs A n c W hN q (by omega) hz.1)
  have HR : Hid (heldA P x = (P, listL zs)) := by show _ = _; unfold heldA; rw [← hzs]
  rw [HR.out]
  obtain ⟨TX, hTX⟩ : ∃ TX, TX = bsof (listL zs) := ⟨_, rfl⟩
  rw [← hTX] at HCM
  have HTX := Lib.hid hTX
  clear hzs hTX hz hk hps hbl hlen HSP0 hBA hBB hkk hpp hoo hx0 hx E h hnp
  rcases hxc with ⟨hd, rfl⟩ | ⟨hd, rfl⟩
  all_goals
    go_enter Tryz.func64, Tryz.ntmps64
    go_wp2_with fail
    refine HSP.out.mono ?_
    rintro e w1 ⟨AS, cS, rfl, rdS, b1⟩
    obtain ⟨bp, op, hAP, hbp, hcp⟩ := rdS.block (by simp)
    subst hAP
    have p0 : w1.cell? ⟨bp, op, none⟩ = some (.string BA) := by have := hcp 0 _ rfl; simpa using this
    have p1 : w1.cell? ⟨bp, op + 1, none⟩ = some (.string BB) := hcp 1 _ rfl
    have FR1 := Lib.hid b1
    have hs1 : w.heap.size ≤ w1.heap.size := b1.size
    clear rdS hcp b1
    go_wp2_with fail
    refine (HNM.out w1 (HE.out.below FR1.out)).mono ?_
    rintro e w2 ⟨rfl, b2⟩
    have FR2 := Lib.hid (FR1.out.trans (b2.mono FR1.out.size))
    have hs2 : w1.heap.size ≤ w2.heap.size := b2.size
    have q0 : w2.cell? ⟨bp, op, none⟩ = some (.string BA) := (b2.cell hbp).trans p0
    have hbp2 : bp < w2.heap.size := by omega
    clear p0 p1 b2
    obtain ⟨k0, k1, k2, k3, kfz⟩ := blk4 (BK.out.below FR2.out hgd)
    obtain ⟨gn, hgn⟩ : ∃ gn, gn = w2.heap.size := ⟨_, rfl⟩
    obtain ⟨w3, hw3⟩ : ∃ w3, w3 = w2.alloc (.cells #[.int .i64 P.mx, .slice A0 P.ids.length a0, .slice B0 P.hs.length b0, .slice C0 P.wt.length c0] 26) := ⟨_, rfl⟩
    have hs3 : w3.heap.size = gn + 1 := by rw [hw3, hgn]; simp
    have BN3 := Lib.hid (show Blk w3 gn 26 #[.int .i64 P.mx, .slice A0 P.ids.length a0, .slice B0 P.hs.length b0, .slice C0 P.wt.length c0] by rw [hw3, hgn]; exact Blk.new w2 _ _)
    have FR3 := Lib.hid (show Below w.heap.size w w3 by rw [hw3]; exact FR2.out.alloc (by omega) _)
    have q3 : w3.cell? ⟨bp, op, none⟩ = some (.string BA) := by rw [hw3]; exact (World.cell?_alloc_lt w2 _ _ hbp2).trans q0
    have hgn3 : gn < w3.heap.size := by omega
    have hgn0 : w.heap.size ≤ gn := by omega
    have hgd3 : gd < w3.heap.size := by omega
    have hne3 : ¬ gn = gd := by omega
    have hne3' : ¬ gd = gn := by omega
    clear k0 k1 k2 k3 kfz q0
    obtain ⟨k0, k1, k2, k3, kfz⟩ := blk4 (BK.out.below FR2.out hgd)
    go_upto_region 10 with fail
    rw [← hw3, ← hgn]
    clear hw3 hgn k0 k1 k2 k3 kfz
    obtain ⟨k0, k1, k2, k3, kfz⟩ := blk4 (BK.out.below FR3.out hgd)
    obtain ⟨n0, n1, n2, n3, nfz⟩ := blk4 BN3.out
    go_wp2_with fail
    refine (HHB.out w3 FR3.out).mono ?_
    rintro e w4 ⟨Y, y, rfl, rY, bl4⟩
    have FR4 := Lib.hid (FR3.out.trans (bl4.mono FR3.out.size))
    have RY := Lib.hid rY.rd
    clear rY bl4
    go_wp2_with fail
    refine (HCM.out _ _ _ w4 (by omega) RY.out).mono ?_
    rintro e w5 ⟨rfl, bl5⟩
    have FR5 := Lib.hid (FR4.out.trans (bl5.mono FR4.out.size))
    clear bl5
    go_wp2_with fail
    go_ret
    exact ⟨congrArg (fun z => Ending.returned (.string z)) HTX.out, H.out.below FR5.out, only_of_below FR5.out _⟩
set_option maxRecDepth 100000 in
set_option maxHeartbeats 16000000 in
theorem l_what_c (gd : Nat) (P : Pl) (g : P.Good) (s : ByteArray) (w : World) (hs : s.size ≤ 1048576) (E : Env w) (h : Desk 26 w gd P) (a b : List UInt8) (hps : spl 32 s.data.toList = [a, b]) (n_acquire : ¬ a = acquireT) (n_release : ¬ a = releaseT) (n_close : ¬ a = closeT) (n_size : ¬ a = sizeT) (n_held : ¬ a = heldT) :
    Calls Tryz.prog 64 #[.pointer (some ⟨gd, 0, none⟩), .string s] w (RetD 26 gd (P, whatT) w) := by
  have hgd := h.lt
  have H := Lib.hid h
  have hsm := g.small
  have hlen : s.data.toList.length = s.size := by rw [Array.length_toList]; rfl
  have HSP0 := splitC_c 32 s w (by omega) E
  rw [hps] at HSP0
  have hbl : b.length ≤ 1048576 := by
    have hpl := spl_piece_len 32 s.data.toList
    rw [hps, hlen] at hpl
    have := hpl b (by simp); omega
  have hnp : ¬ s.toList = [112, 111, 111, 108] := fun h => by
    rw [ByteArray.toList_eq] at h
    rw [show s.data.toList = poolT from h, spl_pool] at hps
    injection hps with _ h9
    cases h9
  have hnp2 : (s.toList == [112, 111, 111, 108]) = false := beq_eq_false_iff_ne.2 hnp
  obtain ⟨BA, hBA⟩ : ∃ BA, BA = bsof a := ⟨_, rfl⟩
  obtain ⟨BB, hBB⟩ : ∃ BB, BB = bsof b := ⟨_, rfl⟩
  have HSP := Lib.hid (show Calls Tryz.prog 36 #[.string s, .string ⟨#[32]⟩] w (fun e w' => ∃ A cc, e = .returned (.slice A 2 cc) ∧ Rd w' A [.string BA, .string BB] ∧ Below w.heap.size w w') from by rw [hBA, hBB]; exact HSP0)
  have HE := Lib.hid E
  have HNM := Lib.hid (fun W (hW : Env W) => number_c BB W (by rw [hBB, bsof_size]; omega) hW)
  rw [hBB, data_bsof, ← hBB] at HNM
  obtain ⟨A0, a0, B0, b0, C0, c0, hkk, hpp, hoo⟩ := id h
  have BK := Lib.hid hkk; have PR := Lib.hid hpp; have OFP := Lib.hid hoo
  have hxc := num_cases b
  obtain ⟨x0, hx0⟩ : ∃ x0, x0 = numI b := ⟨_, rfl⟩
  obtain ⟨x, hx⟩ : ∃ x, x = pI b := ⟨_, rfl⟩
  rw [← hx0] at HNM
  rw [← hx0, ← hx] at hxc
  have e_acquire : ¬ BA.toList = [97, 99, 113, 117, 105, 114, 101] := by rw [hBA, toList_bsof]; exact n_acquire
  have f_acquire : (BA.toList == [97, 99, 113, 117, 105, 114, 101]) = false := beq_eq_false_iff_ne.2 e_acquire
  have e_release : ¬ BA.toList = [114, 101, 108, 101, 97, 115, 101] := by rw [hBA, toList_bsof]; exact n_release
  have f_release : (BA.toList == [114, 101, 108, 101, 97, 115, 101]) = false := beq_eq_false_iff_ne.2 e_release
  have e_close : ¬ BA.toList = [99, 108, 111, 115, 101] := by rw [hBA, toList_bsof]; exact n_close
  have f_close : (BA.toList == [99, 108, 111, 115, 101]) = false := beq_eq_false_iff_ne.2 e_close
  have e_size : ¬ BA.toList = [115, 105, 122, 101] := by rw [hBA, toList_bsof]; exact n_size
  have f_size : (BA.toList == [115, 105, 122, 101]) = false := beq_eq_false_iff_ne.2 e_size
  have e_held : ¬ BA.toList = [104, 101, 108, 100] := by rw [hBA, toList_bsof]; exact n_held
  have f_held : (BA.toList == [104, 101, 108, 100]) = false := beq_eq_false_iff_ne.2 e_held
  clear n_acquire n_release n_close n_size n_held hps hbl hlen HSP0 hBA hBB hkk hpp hoo hx0 hx E h hnp
  rcases hxc with ⟨hd, rfl⟩ | ⟨hd, rfl⟩
  all_goals
    go_enter Tryz.func64, Tryz.ntmps64
    go_wp2_with fail
    refine HSP.out.mono ?_
    rintro e w1 ⟨AS, cS, rfl, rdS, b1⟩
    obtain ⟨bp, op, hAP, hbp, hcp⟩ := rdS.block (by simp)
    subst hAP
    have p0 : w1.cell? ⟨bp, op, none⟩ = some (.string BA) := by have := hcp 0 _ rfl; simpa using this
    have p1 : w1.cell? ⟨bp, op + 1, none⟩ = some (.string BB) := hcp 1 _ rfl
    have FR1 := Lib.hid b1
    have hs1 : w.heap.size ≤ w1.heap.size := b1.size
    clear rdS hcp b1
    go_wp2_with fail
    refine (HNM.out w1 (HE.out.below FR1.out)).mono ?_
    rintro e w2 ⟨rfl, b2⟩
    have FR2 := Lib.hid (FR1.out.trans (b2.mono FR1.out.size))
    have hs2 : w1.heap.size ≤ w2.heap.size := b2.size
    have q0 : w2.cell? ⟨bp, op, none⟩ = some (.string BA) := (b2.cell hbp).trans p0
    have hbp2 : bp < w2.heap.size := by omega
    clear p0 p1 b2
    obtain ⟨k0, k1, k2, k3, kfz⟩ := blk4 (BK.out.below FR2.out hgd)
    obtain ⟨gn, hgn⟩ : ∃ gn, gn = w2.heap.size := ⟨_, rfl⟩
    obtain ⟨w3, hw3⟩ : ∃ w3, w3 = w2.alloc (.cells #[.int .i64 P.mx, .slice A0 P.ids.length a0, .slice B0 P.hs.length b0, .slice C0 P.wt.length c0] 26) := ⟨_, rfl⟩
    have hs3 : w3.heap.size = gn + 1 := by rw [hw3, hgn]; simp
    have BN3 := Lib.hid (show Blk w3 gn 26 #[.int .i64 P.mx, .slice A0 P.ids.length a0, .slice B0 P.hs.length b0, .slice C0 P.wt.length c0] by rw [hw3, hgn]; exact Blk.new w2 _ _)
    have FR3 := Lib.hid (show Below w.heap.size w w3 by rw [hw3]; exact FR2.out.alloc (by omega) _)
    have q3 : w3.cell? ⟨bp, op, none⟩ = some (.string BA) := by rw [hw3]; exact (World.cell?_alloc_lt w2 _ _ hbp2).trans q0
    have hgn3 : gn < w3.heap.size := by omega
    have hgn0 : w.heap.size ≤ gn := by omega
    have hgd3 : gd < w3.heap.size := by omega
    have hne3 : ¬ gn = gd := by omega
    have hne3' : ¬ gd = gn := by omega
    clear k0 k1 k2 k3 kfz q0
    obtain ⟨k0, k1, k2, k3, kfz⟩ := blk4 (BK.out.below FR2.out hgd)
    go_upto_region 10 with fail
    rw [← hw3, ← hgn]
    clear hw3 hgn k0 k1 k2 k3 kfz
    obtain ⟨k0, k1, k2, k3, kfz⟩ := blk4 (BK.out.below FR3.out hgd)
    obtain ⟨n0, n1, n2, n3, nfz⟩ := blk4 BN3.out
    go_wp2_with fail
    go_ret
    exact ⟨rfl, H.out.below FR3.out, only_of_below FR3.out _⟩
set_option maxRecDepth 100000 in
set_option maxHeartbeats 16000000 in
theorem l_pool_c (gd : Nat) (P : Pl) (g : P.Good) (s : ByteArray) (w : World) (h : Desk 26 w gd P) (hp : s.data.toList = poolT) :
    Calls Tryz.prog 64 #[.pointer (some ⟨gd, 0, none⟩), .string s] w (RetD 26 gd (P, P.text) w) := by
  have hgd := h.lt
  have H := Lib.hid h
  have hsm := g.small
  obtain ⟨A0, a0, B0, b0, C0, c0, hkk, hpp, hoo⟩ := id h
  have BK := Lib.hid hkk
  have hnp : s.toList = [112, 111, 111, 108] := by rw [ByteArray.toList_eq]; exact hp
  have hnp2 : (s.toList == [112, 111, 111, 108]) = true := by rw [hnp]; rfl
  obtain ⟨TX, hTX⟩ : ∃ TX, TX = Pl.fmt ⟨P.mx, P.ids, P.hs, P.wt⟩ := ⟨_, rfl⟩
  have HF := Lib.hid (formatPool_c P.mx P.ids P.hs P.wt A0 _ a0 B0 _ b0 C0 _ c0 w rfl rfl rfl hpp.1.rd hpp.2.1.rd hpp.2.2.1.rd (by omega) (by omega) (by omega) hpp.1.le)
  rw [← hTX] at HF
  have HTX : Hid (TX = bsof P.text) := by show _ = _; rw [hTX]; exact if_pos (valid_good.2 g)
  clear h hkk hpp hoo hp hTX
  obtain ⟨k0, k1, k2, k3, kfz⟩ := blk4 BK.out
  go_enter Tryz.func64, Tryz.ntmps64
  go_wp2_with fail
  refine HF.out.mono ?_
  rintro e w1 ⟨rfl, b1⟩
  have FR1 := Lib.hid b1
  clear b1
  go_wp2_with fail
  go_ret
  exact ⟨congrArg (fun z => Ending.returned (.string z)) HTX.out, H.out.below FR1.out, only_of_below FR1.out _⟩
set_option maxRecDepth 100000 in
set_option maxHeartbeats 16000000 in
theorem l_other_c (gd : Nat) (P : Pl) (s : ByteArray) (w : World) (hs : s.size ≤ 1048576) (E : Env w) (h : Desk 26 w gd P) (hn : ¬ s.data.toList = poolT) (h2 : (spl 32 s.data.toList).length ≠ 2) :
    Calls Tryz.prog 64 #[.pointer (some ⟨gd, 0, none⟩), .string s] w (RetD 26 gd (P, whatT) w) := by
  have H := Lib.hid h
  have hnp : ¬ s.toList = [112, 111, 111, 108] := by rw [ByteArray.toList_eq]; exact hn
  have hnp2 : (s.toList == [112, 111, 111, 108]) = false := beq_eq_false_iff_ne.2 hnp
  have HSP := Lib.hid (splitC_c 32 s w (by omega) E)
  obtain ⟨q, hq⟩ : ∃ q, q = (spl 32 s.data.toList).length := ⟨_, rfl⟩
  rw [← hq] at HSP h2
  have hq2 : ((q : Int) == 2) = false := beq_eq_false_iff_ne.2 (by omega)
  have hq3 : ¬ (q : Int) = 2 := by omega
  clear hn hnp h E hq
  go_enter Tryz.func64, Tryz.ntmps64
  go_wp2_with fail
  refine HSP.out.mono ?_
  rintro e w1 ⟨AS, cS, rfl, rdS, b1⟩
  have FR1 := Lib.hid b1
  clear b1 rdS
  go_wp2_with fail
  go_ret
  exact ⟨rfl, H.out.below FR1.out, only_of_below FR1.out _⟩
theorem i_line_c (gd : Nat) (P : Pl) (g : P.Good) (s : ByteArray) (w : World) (hs : s.size ≤ 1048576) (E : Env w) (h : Desk 26 w gd P) :
    Calls Tryz.prog 64 #[.pointer (some ⟨gd, 0, none⟩), .string s] w (RetD 26 gd (cmdV P s.data.toList) w) := by
  by_cases h2 : (spl 32 s.data.toList).length = 2
  · obtain ⟨a, b, hps⟩ : ∃ a b, spl 32 s.data.toList = [a, b] := by
      obtain ⟨ps, hps⟩ : ∃ ps, ps = spl 32 s.data.toList := ⟨_, rfl⟩
      rw [← hps] at h2 ⊢
      rcases ps with _ | ⟨a, _ | ⟨b, _ | ⟨d, q⟩⟩⟩ <;> simp at h2
      exact ⟨a, b, rfl⟩
    rw [cmd_pair hps]
    by_cases h_acquire : a = acquireT
    · rw [if_pos h_acquire]; exact l_acquire_c gd P g s w hs E h a b hps h_acquire
    rw [if_neg h_acquire]
    by_cases h_release : a = releaseT
    · rw [if_pos h_release]; exact l_release_c gd P g s w hs E h a b hps h_release
    rw [if_neg h_release]
    by_cases h_close : a = closeT
    · rw [if_pos h_close]; exact l_close_c gd P g s w hs E h a b hps h_close
    rw [if_neg h_close]
    by_cases h_size : a = sizeT
    · rw [if_pos h_size]; exact l_size_c gd P g s w hs E h a b hps h_size
    rw [if_neg h_size]
    by_cases h_held : a = heldT
    · rw [if_pos h_held]; exact l_held_c gd P g s w hs E h a b hps h_held
    rw [if_neg h_held]
    exact l_what_c gd P g s w hs E h a b hps h_acquire h_release h_close h_size h_held
  · rw [cmd_other h2]
    by_cases hp : s.data.toList = poolT
    · rw [if_pos hp]; exact l_pool_c gd P g s w h hp
    · rw [if_neg hp]; exact l_other_c gd P s w hs E h hp h2
end
end Go.Proofs.YtnmgnhpagnjhlaaGreatDoor
