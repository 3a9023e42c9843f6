/- A line of a session: the reference. -/
import Derived.Test.YtnmgnhpagnjhlaaGreatDoorDesk
import Derived.Test.YtnmgnhpagnjhlaaGreatDoorPoolFmt
import Derived.Deep.Cut
set_option linter.unusedVariables false
set_option linter.unusedSimpArgs false
set_option linter.unnecessarySimpa false
namespace Go.Proofs.YtnmgnhpagnjhlaaGreatDoor
open Go.RowKit

theorem w_acquire : bsof acquireT = (⟨#[97, 99, 113, 117, 105, 114, 101]⟩ : ByteArray) := rfl
theorem w_release : bsof releaseT = (⟨#[114, 101, 108, 101, 97, 115, 101]⟩ : ByteArray) := rfl
theorem w_close : bsof closeT = (⟨#[99, 108, 111, 115, 101]⟩ : ByteArray) := rfl
theorem w_size : bsof sizeT = (⟨#[115, 105, 122, 101]⟩ : ByteArray) := rfl
theorem w_held : bsof heldT = (⟨#[104, 101, 108, 100]⟩ : ByteArray) := rfl
theorem w_pool : bsof poolT = (⟨#[112, 111, 111, 108]⟩ : ByteArray) := rfl
theorem bsof_inj {a b : List UInt8} (h : bsof a = bsof b) : a = b := by
  have := congrArg (fun z : ByteArray => z.data.toList) h
  simpa [data_bsof] using this
theorem w_eq {B : ByteArray} {K : ByteArray} (h : B = K) : (B.toList == K.toList) = true := by rw [h]; simp
theorem toList_bsof (a : List UInt8) : (bsof a).toList = a := by rw [ByteArray.toList_eq]; rfl
theorem spl_pool : spl 32 poolT = [poolT] := by decide +kernel
theorem cmd_pair {P : Pl} {l a b : List UInt8} (h : spl 32 l = [a, b]) : cmdV P l = if a = acquireT then acqA P (pI b) else if a = releaseT then relA P (pI b) else if a = closeT then closeA P (pI b) else if a = sizeT then sizeA P (pI b) else if a = heldT then heldA P (pI b) else (P, whatT) := by
  unfold cmdV
  rw [h]
theorem cmd_other {P : Pl} {l : List UInt8} (h : (spl 32 l).length ≠ 2) : cmdV P l = if l = poolT then (P, P.text) else (P, whatT) := by
  unfold cmdV
  split
  · rename_i a b hs
    rw [hs] at h
    exact absurd rfl h
  · rfl
set_option maxRecDepth 100000 in
set_option maxHeartbeats 16000000 in
theorem d_line_c (gd : Nat) (P : Pl) (g : P.Good) (s : ByteArray) (w : World) (hs : s.size ≤ 1048576) (h : Desk 78 w gd P) :
    Calls Tryz.prog 62 #[.pointer (some ⟨gd, 0, none⟩), .string s] w (RetD 78 gd (cmdV P s.data.toList) w) := by
  have hgd := h.lt
  have H := Lib.hid h
  have hsm := g.small
  have hlen : s.data.toList.length = s.size := by rw [Array.length_toList]; rfl
  have HS1 := Lib.hid (splitAt_c s 32 32 rfl)
  obtain ⟨L, hL⟩ : ∃ L, L = s.data.toList := ⟨_, rfl⟩
  rw [← hL] at hlen HS1
  rw [← hL]
  obtain ⟨ps, hps⟩ : ∃ ps, ps = spl 32 L := ⟨_, rfl⟩
  rw [← hps] at HS1
  have hpl := spl_piece_len 32 L
  rw [← hps, hlen] at hpl
  have hsb : s = bsof L := by rw [hL, bsof_data]
  clear h
  by_cases h2 : ps.length = 2
  · obtain ⟨a, b, rfl⟩ : ∃ a b, ps = [a, b] := by
      rcases ps with _ | ⟨a, _ | ⟨b, _ | ⟨d, q⟩⟩⟩ <;> simp at h2
      exact ⟨a, b, rfl⟩
    have hbl : b.length ≤ 1048576 := by have := hpl b (by simp); omega
    have hcmd := cmd_pair (P := P) hps.symm
    have hl2 : (((([a, b] : List (List UInt8)).length : Nat) : Int) == 2) = true := rfl
    obtain ⟨BA, hBA⟩ : ∃ BA, BA = bsof a := ⟨_, rfl⟩
    obtain ⟨BB, hBB⟩ : ∃ BB, BB = bsof b := ⟨_, rfl⟩
    have ST1 : Hid (strs [a, b] = [.string BA, .string BB]) := by show _ = _; rw [hBA, hBB]; rfl
    by_cases hk : a = acquireT
    · have HN := Lib.hid hcmd
      have HC : Hid (cmdV P L = acqA P (pI b)) := by show _ = _; rw [HN.out, if_pos hk]
      rw [HC.out]
      have e_acquire : BA.toList = [97, 99, 113, 117, 105, 114, 101] := by rw [hBA, toList_bsof, hk]; rfl
      have e_release : ¬ BA.toList = [114, 101, 108, 101, 97, 115, 101] := by rw [hBA, toList_bsof, hk]; decide
      have e_close : ¬ BA.toList = [99, 108, 111, 115, 101] := by rw [hBA, toList_bsof, hk]; decide
      have e_size : ¬ BA.toList = [115, 105, 122, 101] := by rw [hBA, toList_bsof, hk]; decide
      have e_held : ¬ BA.toList = [104, 101, 108, 100] := by rw [hBA, toList_bsof, hk]; decide
      have HK := Lib.hid (fun W (h : Desk 78 W gd P) => (show Calls Tryz.prog 91 #[.pointer (some ⟨gd, 0, none⟩), .string BB] W (RetD 78 gd (acqA P (pI b)) W) from by have := d_acquire_c gd P g BB W (by rw [hBB, bsof_size]; exact hbl) h; rw [hBB, data_bsof, ← hBB] at this; exact this))
      clear hcmd hk hBA hBB hps hpl hlen hL hsb h2 HN HC
      go_enter Tryz.func62, Tryz.ntmps62
      go_wp2_with fail
      refine (HS1.out _ (by omega)).mono ?_
      rintro e w1 ⟨AS, cS, rfl, rowS, b1⟩
      have FR1 := Lib.hid b1
      have hs1 : w.heap.size ≤ w1.heap.size := b1.size
      have D1 := Lib.hid (H.out.below b1)
      rw [ST1.out] at rowS
      obtain ⟨bp, op, hAP, hBp, hlp, hrb⟩ := rowS.form (by simp)
      subst hAP
      have p0 : w1.cell? ⟨bp, op, none⟩ = some (.string BA) := by have := rowS.cell (j := 0) (u := .string BA) rfl; simpa using this
      have p1 : w1.cell? ⟨bp, op + 1, none⟩ = some (.string BB) := rowS.cell (j := 1) (u := .string BB) rfl
      clear rowS b1 hrb hBp
      go_wp2_with fail
      refine (HK.out _ D1.out).mono ?_
      rintro e w2 ⟨rfl, rd, rg⟩
      go_wp2_with fail
      go_ret
      exact ⟨rfl, rd, only_trans (only_of_below FR1.out _) rg⟩
    have n_acquire := hk
    clear hk
    by_cases hk : a = releaseT
    · have HN := Lib.hid hcmd
      have HC : Hid (cmdV P L = relA P (pI b)) := by show _ = _; rw [HN.out, if_neg (show ¬ a = acquireT by rw [hk]; decide), if_pos hk]
      rw [HC.out]
      have e_acquire : ¬ BA.toList = [97, 99, 113, 117, 105, 114, 101] := by rw [hBA, toList_bsof, hk]; decide
      have e_release : BA.toList = [114, 101, 108, 101, 97, 115, 101] := by rw [hBA, toList_bsof, hk]; rfl
      have e_close : ¬ BA.toList = [99, 108, 111, 115, 101] := by rw [hBA, toList_bsof, hk]; decide
      have e_size : ¬ BA.toList = [115, 105, 122, 101] := by rw [hBA, toList_bsof, hk]; decide
      have e_held : ¬ BA.toList = [104, 101, 108, 100] := by rw [hBA, toList_bsof, hk]; decide
      have HK := Lib.hid (fun W (h : Desk 78 W gd P) => (show Calls Tryz.prog 92 #[.pointer (some ⟨gd, 0, none⟩), .string BB] W (RetD 78 gd (relA P (pI b)) W) from by have := d_release_c gd P g BB W (by rw [hBB, bsof_size]; exact hbl) h; rw [hBB, data_bsof, ← hBB] at this; exact this))
      clear hcmd hk hBA hBB hps hpl hlen hL hsb h2 HN HC
      go_enter Tryz.func62, Tryz.ntmps62
      go_wp2_with fail
      refine (HS1.out _ (by omega)).mono ?_
      rintro e w1 ⟨AS, cS, rfl, rowS, b1⟩
      have FR1 := Lib.hid b1
      have hs1 : w.heap.size ≤ w1.heap.size := b1.size
      have D1 := Lib.hid (H.out.below b1)
      rw [ST1.out] at rowS
      obtain ⟨bp, op, hAP, hBp, hlp, hrb⟩ := rowS.form (by simp)
      subst hAP
      have p0 : w1.cell? ⟨bp, op, none⟩ = some (.string BA) := by have := rowS.cell (j := 0) (u := .string BA) rfl; simpa using this
      have p1 : w1.cell? ⟨bp, op + 1, none⟩ = some (.string BB) := rowS.cell (j := 1) (u := .string BB) rfl
      clear rowS b1 hrb hBp
      go_wp2_with fail
      refine (HK.out _ D1.out).mono ?_
      rintro e w2 ⟨rfl, rd, rg⟩
      go_wp2_with fail
      go_ret
      exact ⟨rfl, rd, only_trans (only_of_below FR1.out _) rg⟩
    have n_release := hk
    clear hk
    by_cases hk : a = closeT
    · have HN := Lib.hid hcmd
      have HC : Hid (cmdV P L = closeA P (pI b)) := by show _ = _; rw [HN.out, if_neg (show ¬ a = acquireT by rw [hk]; decide), if_neg (show ¬ a = releaseT by rw [hk]; decide), if_pos hk]
      rw [HC.out]
      have e_acquire : ¬ BA.toList = [97, 99, 113, 117, 105, 114, 101] := by rw [hBA, toList_bsof, hk]; decide
      have e_release : ¬ BA.toList = [114, 101, 108, 101, 97, 115, 101] := by rw [hBA, toList_bsof, hk]; decide
      have e_close : BA.toList = [99, 108, 111, 115, 101] := by rw [hBA, toList_bsof, hk]; rfl
      have e_size : ¬ BA.toList = [115, 105, 122, 101] := by rw [hBA, toList_bsof, hk]; decide
      have e_held : ¬ BA.toList = [104, 101, 108, 100] := by rw [hBA, toList_bsof, hk]; decide
      have HK := Lib.hid (fun W (h : Desk 78 W gd P) => (show Calls Tryz.prog 93 #[.pointer (some ⟨gd, 0, none⟩), .string BB] W (RetD 78 gd (closeA P (pI b)) W) from by have := d_close_c gd P g BB W (by rw [hBB, bsof_size]; exact hbl) h; rw [hBB, data_bsof, ← hBB] at this; exact this))
      clear hcmd hk hBA hBB hps hpl hlen hL hsb h2 HN HC
      go_enter Tryz.func62, Tryz.ntmps62
      go_wp2_with fail
      refine (HS1.out _ (by omega)).mono ?_
      rintro e w1 ⟨AS, cS, rfl, rowS, b1⟩
      have FR1 := Lib.hid b1
      have hs1 : w.heap.size ≤ w1.heap.size := b1.size
      have D1 := Lib.hid (H.out.below b1)
      rw [ST1.out] at rowS
      obtain ⟨bp, op, hAP, hBp, hlp, hrb⟩ := rowS.form (by simp)
      subst hAP
      have p0 : w1.cell? ⟨bp, op, none⟩ = some (.string BA) := by have := rowS.cell (j := 0) (u := .string BA) rfl; simpa using this
      have p1 : w1.cell? ⟨bp, op + 1, none⟩ = some (.string BB) := rowS.cell (j := 1) (u := .string BB) rfl
      clear rowS b1 hrb hBp
      go_wp2_with fail
      refine (HK.out _ D1.out).mono ?_
      rintro e w2 ⟨rfl, rd, rg⟩
      go_wp2_with fail
      go_ret
      exact ⟨rfl, rd, only_trans (only_of_below FR1.out _) rg⟩
    have n_close := hk
    clear hk
    by_cases hk : a = sizeT
    · have HN := Lib.hid hcmd
      have HC : Hid (cmdV P L = sizeA P (pI b)) := by show _ = _; rw [HN.out, if_neg (show ¬ a = acquireT by rw [hk]; decide), if_neg (show ¬ a = releaseT by rw [hk]; decide), if_neg (show ¬ a = closeT by rw [hk]; decide), if_pos hk]
      rw [HC.out]
      have e_acquire : ¬ BA.toList = [97, 99, 113, 117, 105, 114, 101] := by rw [hBA, toList_bsof, hk]; decide
      have e_release : ¬ BA.toList = [114, 101, 108, 101, 97, 115, 101] := by rw [hBA, toList_bsof, hk]; decide
      have e_close : ¬ BA.toList = [99, 108, 111, 115, 101] := by rw [hBA, toList_bsof, hk]; decide
      have e_size : BA.toList = [115, 105, 122, 101] := by rw [hBA, toList_bsof, hk]; rfl
      have e_held : ¬ BA.toList = [104, 101, 108, 100] := by rw [hBA, toList_bsof, hk]; decide
      have HK := Lib.hid (fun W (h : Desk 78 W gd P) => (show Calls Tryz.prog 94 #[.pointer (some ⟨gd, 0, none⟩), .string BB] W (RetD 78 gd (sizeA P (pI b)) W) from by have := d_size_c gd P g BB W (by rw [hBB, bsof_size]; exact hbl) h; rw [hBB, data_bsof, ← hBB] at this; exact this))
      clear hcmd hk hBA hBB hps hpl hlen hL hsb h2 HN HC
      go_enter Tryz.func62, Tryz.ntmps62
      go_wp2_with fail
      refine (HS1.out _ (by omega)).mono ?_
      rintro e w1 ⟨AS, cS, rfl, rowS, b1⟩
      have FR1 := Lib.hid b1
      have hs1 : w.heap.size ≤ w1.heap.size := b1.size
      have D1 := Lib.hid (H.out.below b1)
      rw [ST1.out] at rowS
      obtain ⟨bp, op, hAP, hBp, hlp, hrb⟩ := rowS.form (by simp)
      subst hAP
      have p0 : w1.cell? ⟨bp, op, none⟩ = some (.string BA) := by have := rowS.cell (j := 0) (u := .string BA) rfl; simpa using this
      have p1 : w1.cell? ⟨bp, op + 1, none⟩ = some (.string BB) := rowS.cell (j := 1) (u := .string BB) rfl
      clear rowS b1 hrb hBp
      go_wp2_with fail
      refine (HK.out _ D1.out).mono ?_
      rintro e w2 ⟨rfl, rd, rg⟩
      go_wp2_with fail
      go_ret
      exact ⟨rfl, rd, only_trans (only_of_below FR1.out _) rg⟩
    have n_size := hk
    clear hk
    by_cases hk : a = heldT
    · have HN := Lib.hid hcmd
      have HC : Hid (cmdV P L = heldA P (pI b)) := by show _ = _; rw [HN.out, if_neg (show ¬ a = acquireT by rw [hk]; decide), if_neg (show ¬ a = releaseT by rw [hk]; decide), if_neg (show ¬ a = closeT by rw [hk]; decide), if_neg (show ¬ a = sizeT by rw [hk]; decide), if_pos hk]
      rw [HC.out]
      have e_acquire : ¬ BA.toList = [97, 99, 113, 117, 105, 114, 101] := by rw [hBA, toList_bsof, hk]; decide
      have e_release : ¬ BA.toList = [114, 101, 108, 101, 97, 115, 101] := by rw [hBA, toList_bsof, hk]; decide
      have e_close : ¬ BA.toList = [99, 108, 111, 115, 101] := by rw [hBA, toList_bsof, hk]; decide
      have e_size : ¬ BA.toList = [115, 105, 122, 101] := by rw [hBA, toList_bsof, hk]; decide
      have e_held : BA.toList = [104, 101, 108, 100] := by rw [hBA, toList_bsof, hk]; rfl
      have HPI := Lib.hid (fun W => parseInt_c BB W (by rw [hBB, bsof_size]; omega))
      rw [hBB, data_bsof, ← hBB] at HPI
      obtain ⟨x, hx⟩ : ∃ x, x = pI b := ⟨_, rfl⟩
      rw [← hx] at HPI
      obtain ⟨zs, hzs⟩ : ∃ zs, zs = heldV P x := ⟨_, rfl⟩
      have hz := heldV_small (p := P) x
      rw [← hzs] at hz
      have HHB := Lib.hid (fun A a B b C c W (q : PRow W 0 P A a B b C c) => (show Calls Tryz.prog 95 #[.agg #[.int .i64 P.mx, .slice A P.ids.length a, .slice B P.hs.length b, .slice C P.wt.length c], .int .i64 x] W (RetR zs W) from by rw [hzs]; exact sHeldBy_c P.mx P.ids P.hs P.wt A _ a B _ b C _ c W rfl rfl rfl q.1.rd q.2.1.rd q.2.2.1.rd (by omega) (by omega) (by omega) x))
      have HLT := Lib.hid (fun A n c W hN q => listText_c zs A n c W hN q (by omega) hz.1)
      have HR : Hid (heldA P x = (P, listL zs)) := by show _ = _; unfold heldA; rw [← hzs]
      rw [← hx, HR.out]
      obtain ⟨TX, hTX⟩ : ∃ TX, TX = bsof (listL zs) := ⟨_, rfl⟩
      rw [← hTX] at HLT
      have HTX := Lib.hid hTX
      clear hcmd hk hBA hBB hps hpl hlen hL hsb h2 HN HC hx hzs hTX hz
      go_enter Tryz.func62, Tryz.ntmps62
      go_wp2_with fail
      refine (HS1.out _ (by omega)).mono ?_
      rintro e w1 ⟨AS, cS, rfl, rowS, b1⟩
      have FR1 := Lib.hid b1
      have hs1 : w.heap.size ≤ w1.heap.size := b1.size
      have D1 := Lib.hid (H.out.below b1)
      rw [ST1.out] at rowS
      obtain ⟨bp, op, hAP, hBp, hlp, hrb⟩ := rowS.form (by simp)
      subst hAP
      have p0 : w1.cell? ⟨bp, op, none⟩ = some (.string BA) := by have := rowS.cell (j := 0) (u := .string BA) rfl; simpa using this
      have p1 : w1.cell? ⟨bp, op + 1, none⟩ = some (.string BB) := rowS.cell (j := 1) (u := .string BB) rfl
      clear rowS b1 hrb hBp
      obtain ⟨A0, a0, B0, b0, C0, c0, hkk, hpp, hoo⟩ := id D1.out
      have BK := Lib.hid hkk; have PR := Lib.hid hpp
      have hgd1 : gd < w1.heap.size := by omega
      obtain ⟨k0, k1, k2, k3, kfz⟩ := blk4 hkk
      clear hkk hpp hoo
      go_wp2_with fail
      go_region_held3 (fun w' => w'.cell? ⟨gd, 0, none⟩ = some (.int .i64 P.mx) ∧ w'.cell? ⟨gd, 1, none⟩ = some (.slice A0 P.ids.length a0) ∧ w'.cell? ⟨gd, 2, none⟩ = some (.slice B0 P.hs.length b0) ∧ w'.cell? ⟨gd, 3, none⟩ = some (.slice C0 P.wt.length c0) ∧ w'.cell? ⟨bp, op + 1, none⟩ = some (.string BB)) (go_keep) ((first
        | (go_at_call 47; (with_reducible refine (HPI.out _).mono ?_); rintro e wA ⟨rfl, bA⟩; have BBA := Lib.hid ((Below.refl w1.heap.size w1).drew.trans bA); have hsA : w1.heap.size ≤ wA.heap.size := BBA.out.size; obtain ⟨a0', a1', a2', a3', afz⟩ := blk4 (BK.out.below BBA.out hgd1); have q1 := (BBA.out.cell (p := ⟨bp, op + 1, none⟩) hlp).trans p1)
        | (go_at_call 95; (with_reducible refine (HHB.out _ _ _ _ _ _ _ (PR.out.below BBA.out)).mono ?_); rintro e wB ⟨Y, y, rfl, rY, bB⟩; have BBB := Lib.hid (BBA.out.trans (bB.mono hsA)); have hsB : wA.heap.size ≤ wB.heap.size := bB.size; have RYY := Lib.hid rY.rd; obtain ⟨b0', b1', b2', b3', bfz⟩ := blk4 (BK.out.below BBB.out hgd1); have v1 := (BBB.out.cell (p := ⟨bp, op + 1, none⟩) hlp).trans p1)
        | (go_at_call 75; (with_reducible refine (HLT.out _ _ _ _ rfl RYY.out).mono ?_); rintro e wC ⟨rfl, bC⟩; have BBC := Lib.hid (BBB.out.trans (bC.mono (Nat.le_trans hsA hsB))); obtain ⟨c0', c1', c2', c3', cfz⟩ := blk4 (BK.out.below BBC.out hgd1); have u1 := (BBC.out.cell (p := ⟨bp, op + 1, none⟩) hlp).trans p1)
        | fail))
      all_goals
        clear bA bB bC rY
        go_wp2_with fail
        go_ret
        exact ⟨congrArg (fun z => Ending.returned (.string z)) HTX.out, D1.out.below BBC.out, only_of_below (FR1.out.trans (BBC.out.mono hs1)) _⟩
    have n_held := hk
    clear hk
    have HC : Hid (cmdV P L = (P, whatT)) := by show _ = _; rw [hcmd, if_neg n_acquire, if_neg n_release, if_neg n_close, if_neg n_size, if_neg n_held]
    rw [HC.out]
    have e_acquire : ¬ BA.toList = [97, 99, 113, 117, 105, 114, 101] := by rw [hBA, toList_bsof]; exact n_acquire
    have e_release : ¬ BA.toList = [114, 101, 108, 101, 97, 115, 101] := by rw [hBA, toList_bsof]; exact n_release
    have e_close : ¬ BA.toList = [99, 108, 111, 115, 101] := by rw [hBA, toList_bsof]; exact n_close
    have e_size : ¬ BA.toList = [115, 105, 122, 101] := by rw [hBA, toList_bsof]; exact n_size
    have e_held : ¬ BA.toList = [104, 101, 108, 100] := by rw [hBA, toList_bsof]; exact n_held
    have e_pool : ¬ s.toList = [112, 111, 111, 108] := fun h => by
      rw [hsb, toList_bsof] at h
      rw [show L = poolT from h, spl_pool] at hps
      injection hps with _ h9
      cases h9
    have e_pool2 : (s.toList == [112, 111, 111, 108]) = false := beq_eq_false_iff_ne.2 e_pool
    clear hcmd hBA hBB hps hpl hlen hL hsb h2 HC n_acquire n_release n_close n_size n_held
    go_enter Tryz.func62, Tryz.ntmps62
    go_wp2_with fail
    refine (HS1.out _ (by omega)).mono ?_
    rintro e w1 ⟨AS, cS, rfl, rowS, b1⟩
    have FR1 := Lib.hid b1
    have hs1 : w.heap.size ≤ w1.heap.size := b1.size
    have D1 := Lib.hid (H.out.below b1)
    rw [ST1.out] at rowS
    obtain ⟨bp, op, hAP, hBp, hlp, hrb⟩ := rowS.form (by simp)
    subst hAP
    have p0 : w1.cell? ⟨bp, op, none⟩ = some (.string BA) := by have := rowS.cell (j := 0) (u := .string BA) rfl; simpa using this
    have p1 : w1.cell? ⟨bp, op + 1, none⟩ = some (.string BB) := rowS.cell (j := 1) (u := .string BB) rfl
    clear rowS b1 hrb hBp
    go_wp2_with fail
    go_ret
    exact ⟨rfl, D1.out, only_of_below FR1.out _⟩
  · have hcmd := cmd_other (P := P) (l := L) (by rw [← hps]; exact h2)
    have hl2 : ((ps.length : Int) == 2) = false := beq_eq_false_iff_ne.2 (by omega)
    have hl2' : ¬ ps.length = 2 := h2
    have hpos : 0 < ps.length := by
      rcases ps with _ | ⟨a, q⟩
      · exact absurd hps.symm (spl_ne 32 L)
      · simp
    obtain ⟨a, ha⟩ : ∃ a, ps[0]? = some a := ⟨_, List.getElem?_eq_getElem hpos⟩
    obtain ⟨BA, hBA⟩ : ∃ BA, BA = bsof a := ⟨_, rfl⟩
    have ST0 : Hid ((strs ps)[0]? = some (.string BA)) := by show _ = _; unfold strs; rw [List.getElem?_map, ha, hBA]; rfl
    by_cases hk : a = acquireT
    · have hnp : L ≠ poolT := fun h => by rw [h, spl_pool] at hps; rw [hps] at ha; injection ha with ha; rw [← ha] at hk; exact absurd hk (by decide)
      have HC : Hid (cmdV P L = (P, whatT)) := by show _ = _; rw [hcmd, if_neg hnp]
      rw [HC.out]
      have e_acquire : BA.toList = [97, 99, 113, 117, 105, 114, 101] := by rw [hBA, toList_bsof, hk]; rfl
      have e_release : ¬ BA.toList = [114, 101, 108, 101, 97, 115, 101] := by rw [hBA, toList_bsof, hk]; decide
      have e_close : ¬ BA.toList = [99, 108, 111, 115, 101] := by rw [hBA, toList_bsof, hk]; decide
      have e_size : ¬ BA.toList = [115, 105, 122, 101] := by rw [hBA, toList_bsof, hk]; decide
      have e_held : ¬ BA.toList = [104, 101, 108, 100] := by rw [hBA, toList_bsof, hk]; decide
      have e_pool : ¬ s.toList = [112, 111, 111, 108] := by rw [hsb, toList_bsof]; exact hnp
      have e_pool2 : (s.toList == [112, 111, 111, 108]) = false := beq_eq_false_iff_ne.2 e_pool
      clear hcmd hk hBA hps hpl hlen hL hsb h2 HC hnp ha
      go_enter Tryz.func62, Tryz.ntmps62
      go_wp2_with fail
      refine (HS1.out _ (by omega)).mono ?_
      rintro e w1 ⟨AS, cS, rfl, rowS, b1⟩
      have FR1 := Lib.hid b1
      have hs1 : w.heap.size ≤ w1.heap.size := b1.size
      have D1 := Lib.hid (H.out.below b1)
      obtain ⟨bp, op, hAP, hBp, hlp, hrb⟩ := rowS.form (by omega)
      subst hAP
      have p0 : w1.cell? ⟨bp, op, none⟩ = some (.string BA) := by have := rowS.cell (j := 0) (u := .string BA) ST0.out; simpa using this
      clear rowS b1 hrb hBp
      go_wp2_with fail
      go_ret
      exact ⟨rfl, D1.out, only_of_below FR1.out _⟩
    have n_acquire := hk
    clear hk
    by_cases hk : a = releaseT
    · have hnp : L ≠ poolT := fun h => by rw [h, spl_pool] at hps; rw [hps] at ha; injection ha with ha; rw [← ha] at hk; exact absurd hk (by decide)
      have HC : Hid (cmdV P L = (P, whatT)) := by show _ = _; rw [hcmd, if_neg hnp]
      rw [HC.out]
      have e_acquire : ¬ BA.toList = [97, 99, 113, 117, 105, 114, 101] := by rw [hBA, toList_bsof, hk]; decide
      have e_release : BA.toList = [114, 101, 108, 101, 97, 115, 101] := by rw [hBA, toList_bsof, hk]; rfl
      have e_close : ¬ BA.toList = [99, 108, 111, 115, 101] := by rw [hBA, toList_bsof, hk]; decide
      have e_size : ¬ BA.toList = [115, 105, 122, 101] := by rw [hBA, toList_bsof, hk]; decide
      have e_held : ¬ BA.toList = [104, 101, 108, 100] := by rw [hBA, toList_bsof, hk]; decide
      have e_pool : ¬ s.toList = [112, 111, 111, 108] := by rw [hsb, toList_bsof]; exact hnp
      have e_pool2 : (s.toList == [112, 111, 111, 108]) = false := beq_eq_false_iff_ne.2 e_pool
      clear hcmd hk hBA hps hpl hlen hL hsb h2 HC hnp ha
      go_enter Tryz.func62, Tryz.ntmps62
      go_wp2_with fail
      refine (HS1.out _ (by omega)).mono ?_
      rintro e w1 ⟨AS, cS, rfl, rowS, b1⟩
      have FR1 := Lib.hid b1
      have hs1 : w.heap.size ≤ w1.heap.size := b1.size
      have D1 := Lib.hid (H.out.below b1)
      obtain ⟨bp, op, hAP, hBp, hlp, hrb⟩ := rowS.form (by omega)
      subst hAP
      have p0 : w1.cell? ⟨bp, op, none⟩ = some (.string BA) := by have := rowS.cell (j := 0) (u := .string BA) ST0.out; simpa using this
      clear rowS b1 hrb hBp
      go_wp2_with fail
      go_ret
      exact ⟨rfl, D1.out, only_of_below FR1.out _⟩
    have n_release := hk
    clear hk
    by_cases hk : a = closeT
    · have hnp : L ≠ poolT := fun h => by rw [h, spl_pool] at hps; rw [hps] at ha; injection ha with ha; rw [← ha] at hk; exact absurd hk (by decide)
      have HC : Hid (cmdV P L = (P, whatT)) := by show _ = _; rw [hcmd, if_neg hnp]
      rw [HC.out]
      have e_acquire : ¬ BA.toList = [97, 99, 113, 117, 105, 114, 101] := by rw [hBA, toList_bsof, hk]; decide
      have e_release : ¬ BA.toList = [114, 101, 108, 101, 97, 115, 101] := by rw [hBA, toList_bsof, hk]; decide
      have e_close : BA.toList = [99, 108, 111, 115, 101] := by rw [hBA, toList_bsof, hk]; rfl
      have e_size : ¬ BA.toList = [115, 105, 122, 101] := by rw [hBA, toList_bsof, hk]; decide
      have e_held : ¬ BA.toList = [104, 101, 108, 100] := by rw [hBA, toList_bsof, hk]; decide
      have e_pool : ¬ s.toList = [112, 111, 111, 108] := by rw [hsb, toList_bsof]; exact hnp
      have e_pool2 : (s.toList == [112, 111, 111, 108]) = false := beq_eq_false_iff_ne.2 e_pool
      clear hcmd hk hBA hps hpl hlen hL hsb h2 HC hnp ha
      go_enter Tryz.func62, Tryz.ntmps62
      go_wp2_with fail
      refine (HS1.out _ (by omega)).mono ?_
      rintro e w1 ⟨AS, cS, rfl, rowS, b1⟩
      have FR1 := Lib.hid b1
      have hs1 : w.heap.size ≤ w1.heap.size := b1.size
      have D1 := Lib.hid (H.out.below b1)
      obtain ⟨bp, op, hAP, hBp, hlp, hrb⟩ := rowS.form (by omega)
      subst hAP
      have p0 : w1.cell? ⟨bp, op, none⟩ = some (.string BA) := by have := rowS.cell (j := 0) (u := .string BA) ST0.out; simpa using this
      clear rowS b1 hrb hBp
      go_wp2_with fail
      go_ret
      exact ⟨rfl, D1.out, only_of_below FR1.out _⟩
    have n_close := hk
    clear hk
    by_cases hk : a = sizeT
    · have hnp : L ≠ poolT := fun h => by rw [h, spl_pool] at hps; rw [hps] at ha; injection ha with ha; rw [← ha] at hk; exact absurd hk (by decide)
      have HC : Hid (cmdV P L = (P, whatT)) := by show _ = _; rw [hcmd, if_neg hnp]
      rw [HC.out]
      have e_acquire : ¬ BA.toList = [97, 99, 113, 117, 105, 114, 101] := by rw [hBA, toList_bsof, hk]; decide
      have e_release : ¬ BA.toList = [114, 101, 108, 101, 97, 115, 101] := by rw [hBA, toList_bsof, hk]; decide
      have e_close : ¬ BA.toList = [99, 108, 111, 115, 101] := by rw [hBA, toList_bsof, hk]; decide
      have e_size : BA.toList = [115, 105, 122, 101] := by rw [hBA, toList_bsof, hk]; rfl
      have e_held : ¬ BA.toList = [104, 101, 108, 100] := by rw [hBA, toList_bsof, hk]; decide
      have e_pool : ¬ s.toList = [112, 111, 111, 108] := by rw [hsb, toList_bsof]; exact hnp
      have e_pool2 : (s.toList == [112, 111, 111, 108]) = false := beq_eq_false_iff_ne.2 e_pool
      clear hcmd hk hBA hps hpl hlen hL hsb h2 HC hnp ha
      go_enter Tryz.func62, Tryz.ntmps62
      go_wp2_with fail
      refine (HS1.out _ (by omega)).mono ?_
      rintro e w1 ⟨AS, cS, rfl, rowS, b1⟩
      have FR1 := Lib.hid b1
      have hs1 : w.heap.size ≤ w1.heap.size := b1.size
      have D1 := Lib.hid (H.out.below b1)
      obtain ⟨bp, op, hAP, hBp, hlp, hrb⟩ := rowS.form (by omega)
      subst hAP
      have p0 : w1.cell? ⟨bp, op, none⟩ = some (.string BA) := by have := rowS.cell (j := 0) (u := .string BA) ST0.out; simpa using this
      clear rowS b1 hrb hBp
      go_wp2_with fail
      go_ret
      exact ⟨rfl, D1.out, only_of_below FR1.out _⟩
    have n_size := hk
    clear hk
    by_cases hk : a = heldT
    · have hnp : L ≠ poolT := fun h => by rw [h, spl_pool] at hps; rw [hps] at ha; injection ha with ha; rw [← ha] at hk; exact absurd hk (by decide)
      have HC : Hid (cmdV P L = (P, whatT)) := by show _ = _; rw [hcmd, if_neg hnp]
      rw [HC.out]
      have e_acquire : ¬ BA.toList = [97, 99, 113, 117, 105, 114, 101] := by rw [hBA, toList_bsof, hk]; decide
      have e_release : ¬ BA.toList = [114, 101, 108, 101, 97, 115, 101] := by rw [hBA, toList_bsof, hk]; decide
      have e_close : ¬ BA.toList = [99, 108, 111, 115, 101] := by rw [hBA, toList_bsof, hk]; decide
      have e_size : ¬ BA.toList = [115, 105, 122, 101] := by rw [hBA, toList_bsof, hk]; decide
      have e_held : BA.toList = [104, 101, 108, 100] := by rw [hBA, toList_bsof, hk]; rfl
      have e_pool : ¬ s.toList = [112, 111, 111, 108] := by rw [hsb, toList_bsof]; exact hnp
      have e_pool2 : (s.toList == [112, 111, 111, 108]) = false := beq_eq_false_iff_ne.2 e_pool
      clear hcmd hk hBA hps hpl hlen hL hsb h2 HC hnp ha
      go_enter Tryz.func62, Tryz.ntmps62
      go_wp2_with fail
      refine (HS1.out _ (by omega)).mono ?_
      rintro e w1 ⟨AS, cS, rfl, rowS, b1⟩
      have FR1 := Lib.hid b1
      have hs1 : w.heap.size ≤ w1.heap.size := b1.size
      have D1 := Lib.hid (H.out.below b1)
      obtain ⟨bp, op, hAP, hBp, hlp, hrb⟩ := rowS.form (by omega)
      subst hAP
      have p0 : w1.cell? ⟨bp, op, none⟩ = some (.string BA) := by have := rowS.cell (j := 0) (u := .string BA) ST0.out; simpa using this
      clear rowS b1 hrb hBp
      go_wp2_with fail
      go_ret
      exact ⟨rfl, D1.out, only_of_below FR1.out _⟩
    have n_held := hk
    clear hk
    by_cases hp : L = poolT
    · have HC : Hid (cmdV P L = (P, P.text)) := by show _ = _; rw [hcmd, if_pos hp]
      rw [HC.out]
      have e_acquire : ¬ BA.toList = [97, 99, 113, 117, 105, 114, 101] := by rw [hBA, toList_bsof]; exact n_acquire
      have e_release : ¬ BA.toList = [114, 101, 108, 101, 97, 115, 101] := by rw [hBA, toList_bsof]; exact n_release
      have e_close : ¬ BA.toList = [99, 108, 111, 115, 101] := by rw [hBA, toList_bsof]; exact n_close
      have e_size : ¬ BA.toList = [115, 105, 122, 101] := by rw [hBA, toList_bsof]; exact n_size
      have e_held : ¬ BA.toList = [104, 101, 108, 100] := by rw [hBA, toList_bsof]; exact n_held
      have e_pool : s.toList = [112, 111, 111, 108] := by rw [hsb, toList_bsof, hp]; rfl
      have e_pool2 : (s.toList == [112, 111, 111, 108]) = true := beq_iff_eq.2 e_pool
      obtain ⟨TX, hTX⟩ : ∃ TX, TX = bsof P.text := ⟨_, rfl⟩
      have HTX := Lib.hid hTX
      have sI := g.smallIds
      have sH := g.smallHs
      have sW := g.smallWt
      have hmx := g.2.2.1
      clear hcmd hBA hps hpl hlen hL hsb h2 HC ha hp n_acquire n_release n_close n_size n_held hTX
      go_enter Tryz.func62, Tryz.ntmps62
      go_wp2_with fail
      refine (HS1.out _ (by omega)).mono ?_
      rintro e w1 ⟨AS, cS, rfl, rowS, b1⟩
      have FR1 := Lib.hid b1
      have hs1 : w.heap.size ≤ w1.heap.size := b1.size
      have D1 := Lib.hid (H.out.below b1)
      obtain ⟨bp, op, hAP, hBp, hlp, hrb⟩ := rowS.form (by omega)
      subst hAP
      have p0 : w1.cell? ⟨bp, op, none⟩ = some (.string BA) := by have := rowS.cell (j := 0) (u := .string BA) ST0.out; simpa using this
      clear rowS b1 hrb hBp
      obtain ⟨A0, a0, B0, b0, C0, c0, hkk, hpp, hoo⟩ := id D1.out
      have HFP := Lib.hid (show Calls Tryz.prog 34 #[.agg #[.int .i64 P.mx, .slice A0 P.ids.length a0, .slice B0 P.hs.length b0, .slice C0 P.wt.length c0]] w1 (fun e w' => e = .returned (.string TX) ∧ Below w1.heap.size w1 w') from by rw [HTX.out]; exact formatPoolR_c P.mx P.ids P.hs P.wt A0 _ a0 B0 _ b0 C0 _ c0 w1 rfl rfl rfl hpp.1.rd hpp.2.1.rd hpp.2.2.1.rd (by omega) (by omega) (by omega) g)
      obtain ⟨k0, k1, k2, k3, kfz⟩ := blk4 hkk
      clear hkk hpp hoo
      go_wp2_with fail
      refine HFP.out.mono ?_
      rintro e w2 ⟨rfl, b2⟩
      have B2 := Lib.hid b2
      clear b2
      go_wp2_with fail
      go_ret
      exact ⟨congrArg (fun z => Ending.returned (.string z)) HTX.out, D1.out.below B2.out, only_of_below (FR1.out.trans (B2.out.mono hs1)) _⟩
    · have HC : Hid (cmdV P L = (P, whatT)) := by show _ = _; rw [hcmd, if_neg hp]
      rw [HC.out]
      have e_acquire : ¬ BA.toList = [97, 99, 113, 117, 105, 114, 101] := by rw [hBA, toList_bsof]; exact n_acquire
      have e_release : ¬ BA.toList = [114, 101, 108, 101, 97, 115, 101] := by rw [hBA, toList_bsof]; exact n_release
      have e_close : ¬ BA.toList = [99, 108, 111, 115, 101] := by rw [hBA, toList_bsof]; exact n_close
      have e_size : ¬ BA.toList = [115, 105, 122, 101] := by rw [hBA, toList_bsof]; exact n_size
      have e_held : ¬ BA.toList = [104, 101, 108, 100] := by rw [hBA, toList_bsof]; exact n_held
      have e_pool : ¬ s.toList = [112, 111, 111, 108] := by rw [hsb, toList_bsof]; exact hp
      have e_pool2 : (s.toList == [112, 111, 111, 108]) = false := beq_eq_false_iff_ne.2 e_pool
      clear hcmd hBA hps hpl hlen hL hsb h2 HC ha hp n_acquire n_release n_close n_size n_held
      go_enter Tryz.func62, Tryz.ntmps62
      go_wp2_with fail
      refine (HS1.out _ (by omega)).mono ?_
      rintro e w1 ⟨AS, cS, rfl, rowS, b1⟩
      have FR1 := Lib.hid b1
      have hs1 : w.heap.size ≤ w1.heap.size := b1.size
      have D1 := Lib.hid (H.out.below b1)
      obtain ⟨bp, op, hAP, hBp, hlp, hrb⟩ := rowS.form (by omega)
      subst hAP
      have p0 : w1.cell? ⟨bp, op, none⟩ = some (.string BA) := by have := rowS.cell (j := 0) (u := .string BA) ST0.out; simpa using this
      clear rowS b1 hrb hBp
      go_wp2_with fail
      go_ret
      exact ⟨rfl, D1.out, only_of_below FR1.out _⟩
end Go.Proofs.YtnmgnhpagnjhlaaGreatDoor
