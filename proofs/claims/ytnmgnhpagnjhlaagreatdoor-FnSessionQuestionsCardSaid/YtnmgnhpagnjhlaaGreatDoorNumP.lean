/- The program cuts and splits texts and reads lists of numbers. -/
import Derived.Test.YtnmgnhpagnjhlaaGreatDoorNumG
import Derived.Test.YtnmgnhpagnjhlaaGreatDoorAcq
import Derived.Test.YtnmgnhpagnjhlaaGreatDoorCloneP
set_option linter.unusedVariables false
set_option linter.unusedSimpArgs false
set_option linter.unnecessarySimpa false
namespace Go.Proofs.YtnmgnhpagnjhlaaGreatDoor
open Go.RowKit

theorem cutC_c (c : UInt8) (s : ByteArray) (w : World) (hs : s.size ≤ 1073741824) (E : Env w) :
    Calls Tryz.prog 35 #[.string s, .string ⟨#[c]⟩] w fun e w' => (∃ f, e = .returned (.tuple #[.string (bsof (cut1 c s.data.toList).1), .string (bsof (cut1 c s.data.toList).2), .bool f])) ∧ Below w.heap.size w w' := by
  obtain ⟨_, ⟨m, hm⟩, _, _⟩ := E
  exact (Tryz.strings_Cut s ⟨#[c]⟩ m w (by omega) hm).mono fun e w' ⟨he, n, hw⟩ => ⟨⟨(Lib.cut s.data.toList [c]).2.2, by rw [he]; rfl⟩, by rw [hw]; exact below_drewN (Below.refl _ _) _⟩
theorem splitC_c (c : UInt8) (s : ByteArray) (w : World) (hs : s.size ≤ 1073741824) (E : Env w) :
    Calls Tryz.prog 36 #[.string s, .string ⟨#[c]⟩] w fun e w' => ∃ A cc, e = .returned (.slice A (spl c s.data.toList).length cc) ∧ Rd w' A (strs (spl c s.data.toList)) ∧ Below w.heap.size w w' := by
  obtain ⟨_, ⟨m, hm⟩, _, _⟩ := E
  obtain ⟨h1, h2⟩ := split_pieces s c
  have hsp := Tryz.strings_Split s ⟨#[c]⟩ m w (by omega) hm (Nat.le_refl 1)
  rw [h1, h2, List.map_map] at hsp
  obtain ⟨ps, hps⟩ : ∃ ps, ps = spl c s.data.toList := ⟨_, rfl⟩
  rw [← hps] at hsp ⊢
  refine hsp.mono fun e w' ⟨he, hw⟩ => ⟨_, _, he, ?_, ?_⟩
  · subst hw
    refine fun _ => ⟨w.heap.size, 0, rfl, fun j u hu => ?_⟩
    rw [Nat.zero_add, cell_new, ← Array.getElem?_toList]
    exact hu
  · rw [hw]; exact (Below.refl _ _).alloc (Nat.le_refl _) _
/-- Numbers that were read, in memory of their own. -/
def RetNI (zs : List Int) (w : World) (e : Ending) (w' : World) : Prop :=
  ∃ A, e = .returned (.slice A zs.length zs.length) ∧ Row w' w.heap.size 3 1 A zs.length zs.length (zs.map (.int .i64)) ∧ Below w.heap.size w w'
set_option maxRecDepth 100000 in
set_option maxHeartbeats 8000000 in
theorem numbers_c (s : ByteArray) (w : World) (hs : s.size ≤ 1048576) (E : Env w) :
    Calls Tryz.prog 38 #[.string s] w (RetNI (numsI s.data.toList) w) := by
  obtain ⟨i0, i0_i, i0_z0, i0_z1, i0_z2⟩ := info_parts poolIntInfo
  have hlen : s.data.toList.length = s.size := by rw [Array.length_toList]; rfl
  have HEL := Lib.hid (elements_c s w (by omega) E)
  obtain ⟨L, hL⟩ : ∃ L, L = s.data.toList := ⟨_, rfl⟩
  rw [← hL] at hlen HEL
  rw [← hL]
  obtain ⟨ps, hps⟩ : ∃ ps, ps = elsOf L := ⟨_, rfl⟩
  rw [← hps] at HEL
  obtain ⟨zs, hzs⟩ : ∃ zs, zs = numsI L := ⟨_, rfl⟩
  have hzp : zs = ps.map numI := by rw [hzs, hps]; rfl
  rw [← hzs]
  have hzl : zs.length = ps.length := by rw [hzp, List.length_map]
  have hpn : ps.length ≤ 1048577 := by
    rw [hps]; unfold elsOf
    split
    · simp
    · have := spl_len 44 L; omega
  have hpl : ∀ p ∈ ps, p.length ≤ 1048576 := by
    intro p hp
    rw [hps] at hp
    unfold elsOf at hp
    split at hp
    · simp at hp
    · have := spl_piece_len 44 L p hp; omega
  have HPL := Lib.hid hpl; have HZP := Lib.hid hzp; have HZL := Lib.hid hzl
  have HE := Lib.hid E
  clear hpl hlen hL hps hzs hzp hzl E
  go_enter Tryz.func38, Tryz.ntmps38
  go_wp2_with fail
  refine HEL.out.mono ?_
  rintro e w2 ⟨AS, cS, rfl, rdS, b2⟩
  have B2 := Lib.hid b2; have RS := Lib.hid rdS; have E2 := Lib.hid (HE.out.below b2)
  have hs2 := b2.size
  clear rdS b2 HEL
  go_wp2_with fail
  go_loopw [3, 9] (fun o i wr => ∃ (j : Nat) (A2 : Option Addr) (c2 : Nat), j ≤ ps.length ∧ i = .int .i64 j ∧ o = .slice A2 j c2 ∧ Row wr w2.heap.size 3 1 A2 j c2 ((zs.take j).map (.int .i64)) ∧ Below w2.heap.size w2 wr) (fun _ i _ => ps.length - (intOf i).toNat)
  case atStart => exact ⟨0, none, 0, Nat.zero_le _, rfl, rfl, Row.nil _ _ _ _ _, Below.refl _ _⟩
  case round =>
    obtain ⟨j, A2, c2, hj, rfl, rfl, row, hb⟩ := hrel
    have HB := Lib.hid hb
    have hsz := hb.size
    obtain ⟨LL, hLL⟩ : ∃ LL, LL = (zs.take j).map (Value.int .i64) := ⟨_, rfl⟩
    rw [← hLL] at row
    have ROW := Lib.hid row
    have HLL := Lib.hid hLL
    clear hb row hLL
    by_cases hlt : j < ps.length
    · obtain ⟨b, off, hA, hbl, hc⟩ := (RS.out.below HB.out).block (by simp [strs]; omega)
      subst hA
      obtain ⟨q, hQ⟩ : ∃ q, q = ps[j] := ⟨_, rfl⟩
      have hcq : wr.cell? ⟨b, off + j, none⟩ = some (.string (bsof q)) := hc j _ (by unfold strs; rw [List.getElem?_map, List.getElem?_eq_getElem hlt, hQ]; rfl)
      have hql : q.length ≤ 1048576 := by rw [hQ]; exact HPL.out _ (List.getElem_mem hlt)
      have h2 := number_c (bsof q) wr (by rw [bsof_size]; omega) (E2.out.below HB.out)
      rw [data_bsof] at h2
      obtain ⟨x, hx⟩ : ∃ x, x = numI q := ⟨_, rfl⟩
      rw [← hx] at h2
      have hjz : j < zs.length := by have := HZL.out; omega
      have hnx : (zs.take (j + 1)).map (Value.int .i64) = LL ++ [.int .i64 x] := by
        rw [take_snoc zs j hjz, List.map_append, HLL.out]
        congr 1
        have : zs[j] = x := by
          have e : ∀ (M : List Int) (h : j < M.length), M = ps.map numI → M[j] = x := fun M h e => by subst e; rw [List.getElem_map, hx, hQ]
          exact e zs hjz HZP.out
        rw [this]; rfl
      have H2 := Lib.hid h2; have HNX := Lib.hid hnx
      clear hc hQ h2 hx hnx
      go_wp2_with fail
      refine H2.out.mono ?_
      rintro e w4 ⟨rfl, b4⟩
      have row4 := ROW.out.below b4
      have hs4 := b4.size
      have hb4 : Below w2.heap.size w2 w4 := HB.out.trans (b4.mono HB.out.size)
      have ROW4 := Lib.hid row4; have B4 := Lib.hid hb4
      clear b4 row4 hb4
      go_wp2_with (at_builtin; (refine wpList_append_row _ rfl (.tmp 13) (.tmp 16) 23 rfl w2.heap.size 3 i0 (.int .i64 0) 1 8 Tryz.underlying23 i0_i i0_z0 i0_z1 i0_z2 rfl A2 j c2 LL rfl (ROW4.out.alloc _) (some ⟨w4.heap.size, 0, none⟩) 1 1 [.int .i64 x] rfl rfl (Rd.one (cell_new _ _ _ 0)) (one1 _ rfl) (by omega) (by unfold maxLen; omega) (by omega) (by simp <;> omega) ?_))
      intro A3 c3 w5 row5 hg5 _
      have b5 : Below w2.heap.size w2 w5 := (B4.out.alloc (by omega) _).grown hg5 (by simp <;> omega) (fun y hy => (ROW4.out.lt y hy).1)
      have row6 : Row w5 w2.heap.size 3 1 A3 (j + 1) c3 ((zs.take (j + 1)).map (.int .i64)) := by rw [HNX.out]; exact row5
      have B5 := Lib.hid b5; have ROW6 := Lib.hid row6
      clear row5 hg5 b5 row6
      go_wp2_with fail
      go_roundw
      case rel => exact ⟨j + 1, A3, c3, by omega, by go_num, rfl, ROW6.out, B5.out⟩
      case measure => simp [intOf]; omega
    · obtain rfl : j = ps.length := by omega
      have hfull : LL = zs.map (.int .i64) := by rw [HLL.out, ← HZL.out, List.take_length]
      have hrow : Row wr w2.heap.size 3 1 A2 zs.length c2 (zs.map (.int .i64)) := by
        have := ROW.out
        rw [hfull] at this
        rw [HZL.out]; exact this
      have hcl : ∀ W, Calls Tryz.prog 80 #[.slice A2 ps.length c2] W fun e w' => e = .returned (.slice A2 ps.length ps.length) ∧ W = w' := fun W => clip_c A2 ps.length c2 W ROW.out.le ROW.out.max
      have HCL := Lib.hid hcl
      have fin : RetNI zs w (.returned (.slice A2 ps.length ps.length)) wr := ⟨A2, by rw [HZL.out], hrow.clip.mono hs2, B2.out.trans (HB.out.mono hs2)⟩
      have FIN := Lib.hid fin
      clear hfull hrow hcl fin
      go_wp2_with fail
      refine (HCL.out _).mono ?_
      rintro e w7 ⟨rfl, rfl⟩
      go_wp2_with fail
      go_ret
      exact FIN.out
end Go.Proofs.YtnmgnhpagnjhlaaGreatDoor
