/- Sessions, in plain Lean: what the laws on sessions ask. No program in sight. The lines that the laws draw. -/
import Derived.Test.YtnmgnhpagnjhlaaGreatDoorPlainS
import Derived.Test.YtnmgnhpagnjhlaaGreatDoorPlainT
import Derived.Test.YtnmgnhpagnjhlaaGreatDoorDrawM
import Derived.Test.YtnmgnhpagnjhlaaGreatDoorParsePP
import Derived.Deep.Cut
set_option linter.unusedVariables false
set_option linter.unusedSimpArgs false
set_option linter.unnecessarySimpa false
namespace Go.Proofs.YtnmgnhpagnjhlaaGreatDoor
section
open Go.RowKit

def waitL : List (List UInt8) := [[97, 99, 113, 117, 105, 114, 101, 32, 49], [97, 99, 113, 117, 105, 114, 101, 32, 50], [97, 99, 113, 117, 105, 114, 101, 32, 51], [112, 111, 111, 108], [114, 101, 108, 101, 97, 115, 101, 32, 48], [104, 101, 108, 100, 32, 51], [114, 101, 108, 101, 97, 115, 101, 32, 48], [114, 101, 108, 101, 97, 115, 101, 32, 49], [112, 111, 111, 108], [97, 99, 113, 117, 105, 114, 101, 32, 52], [99, 108, 111, 115, 101, 32, 53], [112, 111, 111, 108], [114, 101, 108, 101, 97, 115, 101, 32, 48]]
def waitO : List UInt8 := [48, 10, 49, 10, 119, 97, 105, 116, 10, 50, 32, 124, 48, 58, 49, 44, 49, 58, 50, 124, 51, 10, 116, 111, 32, 51, 10, 48, 10, 105, 100, 108, 101, 10, 105, 100, 108, 101, 10, 50, 32, 48, 44, 49, 124, 124, 10, 49, 10, 49, 10, 50, 32, 124, 49, 58, 52, 124, 10, 110, 111, 10]
def sizeL : List (List UInt8) := [[97, 99, 113, 117, 105, 114, 101, 32, 48], [97, 99, 113, 117, 105, 114, 101, 32, 48], [115, 105, 122, 101, 32, 51], [97, 99, 113, 117, 105, 114, 101, 32, 48], [97, 99, 113, 117, 105, 114, 101, 32, 49], [115, 105, 122, 101, 32, 52], [104, 101, 108, 100, 32, 48], [115, 105, 122, 101, 32, 50], [114, 101, 108, 101, 97, 115, 101, 32, 49], [104, 101, 108, 100, 32, 49], [115, 105, 122, 101, 32, 55], [115, 105, 122, 101, 32, 48]]
def sizeO : List UInt8 := [48, 10, 49, 10, 111, 107, 10, 50, 10, 119, 97, 105, 116, 10, 110, 111, 10, 48, 44, 49, 44, 50, 10, 110, 111, 10, 116, 111, 32, 49, 10, 49, 10, 110, 111, 10, 110, 111, 10]
def quesL : List (List UInt8) := [[104, 101, 108, 100, 32, 50], [99, 108, 111, 115, 101, 32, 48], [97, 99, 113, 117, 105, 114, 101, 32, 57], [112, 111, 111, 108]]
theorem wait_text : sessV waitL = waitO := by decide +kernel
theorem size_text : sessV sizeL = sizeO := by decide +kernel
theorem ques_1 (P : Pl) : cmdV P [104, 101, 108, 100, 32, 50] = heldA P 2 := by
  have h : spl 32 [104, 101, 108, 100, 32, 50] = [heldT, [50]] := by decide +kernel
  have h2 : pI [50] = 2 := by decide +kernel
  unfold cmdV
  rw [h]
  simp only
  rw [if_neg (by decide), if_neg (by decide), if_neg (by decide), if_neg (by decide), if_pos trivial, h2]
theorem ques_2 (P : Pl) : cmdV P [99, 108, 111, 115, 101, 32, 48] = closeA P 0 := by
  have h : spl 32 [99, 108, 111, 115, 101, 32, 48] = [closeT, [48]] := by decide +kernel
  have h2 : pI [48] = 0 := by decide +kernel
  unfold cmdV
  rw [h]
  simp only
  rw [if_neg (by decide), if_neg (by decide), if_pos trivial, h2]
theorem ques_3 (P : Pl) : cmdV P [97, 99, 113, 117, 105, 114, 101, 32, 57] = acqA P 9 := by
  have h : spl 32 [97, 99, 113, 117, 105, 114, 101, 32, 57] = [acquireT, [57]] := by decide +kernel
  have h2 : pI [57] = 9 := by decide +kernel
  unfold cmdV
  rw [h]
  simp only
  rw [if_pos trivial, h2]
theorem ques_4 (P : Pl) : cmdV P poolT = (P, P.text) := by
  have h : spl 32 poolT = [poolT] := by decide +kernel
  unfold cmdV
  rw [h]
  simp
/-- Questions change no pool. -/
theorem ques_run {P : Pl} (g : P.Good) : ∃ y, runV P quesL = y ++ runV P [poolT] ∧ 0 < y.length := by
  have hv : P.valid = true := valid_good.2 g
  have h2 : closeA P 0 = (P, intL 0) := by
    have e : closeR P 0 = (P, 0) := by
      unfold closeR
      rw [if_pos ⟨hv, by omega⟩]
      simp
    unfold closeA
    rw [e]
    rfl
  have h3 : acqA P 9 = (P, noT) := by
    have e : acqR P 9 = (Pl.zero, -1, false) := by
      unfold acqR
      rw [if_neg (fun h => by have := h.2.1.2; omega)]
    unfold acqA
    rw [e]
    rfl
  have h1 : heldA P 2 = (P, listL (heldV P 2)) := rfl
  refine ⟨listL (heldV P 2) ++ 10 :: (intL 0 ++ 10 :: (noT ++ [10])), ?_, by rw [List.length_append, List.length_cons]; omega⟩
  show runV P [[104, 101, 108, 100, 32, 50], [99, 108, 111, 115, 101, 32, 48], [97, 99, 113, 117, 105, 114, 101, 32, 57], poolT] = _
  simp only [runV, ques_1, ques_2, ques_3, ques_4, h1, h2, h3]
  simp
theorem sess_short {ls : List (List UInt8)} (h : ls.length ≤ 20) : sessV ls = runV Pl.new ls := by
  unfold sessV
  rw [List.take_of_length_le h]
theorem sess_more {ls ms : List (List UInt8)} (h : ls.length + ms.length ≤ 20) : sessV (ls ++ ms) = sessV ls ++ runV (endV Pl.new ls) ms := by
  rw [sess_short (by rw [List.length_append]; exact h), sess_short (by omega), runV_append]
theorem ext_left (a b : List UInt8) : (bsof (a ++ b)).extract 0 (bsof a).size = bsof a := by
  apply ByteArray.ext
  simp [bsof, ByteArray.size]
theorem ext_right (a b : List UInt8) : (bsof (a ++ b)).extract (bsof a).size (bsof (a ++ b)).size = bsof b := by
  apply ByteArray.ext
  simp [bsof, ByteArray.size]
end
-- merged
section
open Go.RowKit

theorem snocT (ls : List (List UInt8)) (T : ByteArray) : strs (ls ++ [T.data.toList]) = strs ls ++ [.string T] := by
  unfold strs
  rw [List.map_append]
  simp [bsof_data]
theorem snoc_all {m : Nat} {ls : List (List UInt8)} (h : ∀ l ∈ ls, l.length ≤ m) (T : ByteArray) (hT : T.size ≤ m) : ∀ l ∈ ls ++ [T.data.toList], l.length ≤ m := by
  intro l hl
  rcases List.mem_append.1 hl with hl | hl
  · exact h l hl
  · simp only [List.mem_singleton] at hl
    subst hl
    rw [Array.length_toList]; exact hT
def of10 : List ByteArray := [⟨#[112, 111, 111, 108]⟩, ⟨#[104, 101, 108, 100, 32, 49]⟩, ⟨#[99, 108, 111, 115, 101, 32, 49]⟩, ⟨#[99, 108, 111, 115, 101, 32, 48]⟩, ⟨#[115, 105, 122, 101, 32, 51]⟩, ⟨#[115, 105, 122, 101, 32, 49]⟩, ⟨#[97, 99, 113, 117, 105, 114, 101, 32, 57]⟩, ⟨#[]⟩, ⟨#[104, 101, 108, 112]⟩, ⟨#[104, 101, 108, 100, 32, 120]⟩]
theorem of10_le : ∀ x ∈ of10, x.size ≤ 9 := by decide
/-- A few short lines in new memory. -/
def RetL (w : World) (e : Ending) (w' : World) : Prop :=
  ∃ (ls : List (List UInt8)) (A : Option Addr) (c : Nat), ls.length ≤ 16 ∧ (∀ l ∈ ls, l.length ≤ 100) ∧ e = .returned (.slice A ls.length c) ∧ Row w' w.heap.size 9 1 A ls.length c (strs ls) ∧ Below w.heap.size w w'
set_option maxRecDepth 100000 in
set_option maxHeartbeats 8000000 in
theorem drawRun_c (zs : List Int) (A0 : Option Addr) (n c0 : Nat) (w : World) (hN : zs.length = n) (hc : n ≤ c0) (hm : c0 ≤ maxLen) (h : Rd w A0 (zs.map (.int .u8))) (hz : ∀ z ∈ zs, 0 ≤ z ∧ z ≤ 255) :
    Calls Tryz.prog 27 #[.slice A0 n c0] w (RetL w) := by
  obtain ⟨i0, i0_i, i0_z0, i0_z1, i0_z2⟩ := info_parts strInfo
  have HR := Lib.hid (newReader_c zs A0 n c0 w hN hc hm h hz)
  clear h hz hN
  go_enter Tryz.func27, Tryz.ntmps27
  go_wp2_with fail
  refine HR.out.mono ?_
  rintro e w1 ⟨rfl, hr, hb⟩
  have FR1 := Lib.hid hb
  have HR1 := Lib.hid hr
  have hs1 : w.heap.size + 1 ≤ w1.heap.size := hr.2.1
  clear hr hb HR
  go_wp2_with fail
  refine (one_c _ _ _ [8, 12, 6, 16, 3, 0] _ _ _ _ ((HR1.out.alloc _).alloc _) (by omega) rfl (by simp) (by simp) (Rd.lit (Value.int .i64) [8, 12, 6, 16, 3, 0] rfl (by simp) rfl) (fun b off e => by injection e with e; injection e with e; (try simp at e); omega)).mono ?_
  rintro e w2 ⟨v, hv, rfl, hr2, hg2⟩
  obtain ⟨k0, rfl⟩ : ∃ k : Nat, v = k := by
    simp only [List.mem_cons, List.not_mem_nil, or_false] at hv
    rcases hv with rfl | rfl | rfl | rfl | rfl | rfl
    · exact ⟨8, rfl⟩
    · exact ⟨12, rfl⟩
    · exact ⟨6, rfl⟩
    · exact ⟨16, rfl⟩
    · exact ⟨3, rfl⟩
    · exact ⟨0, rfl⟩
  have hk0 : k0 ≤ 16 := by
    simp only [List.mem_cons, List.not_mem_nil, or_false] at hv
    omega
  have HR2 := Lib.hid hr2
  have FR2 : Hid (Below w.heap.size w w2) := ((FR1.out.alloc (by omega) _).alloc (by simp <;> omega) _).grown hg2 (by simp <;> omega) (fun y hy => by injection hy with hy; omega)
  have hs2 : w.heap.size + 1 ≤ w2.heap.size := hr2.2.1
  have ROW2 := Lib.hid (Row.nil w2 (w.heap.size + 1) 9 1 (some ⟨w1.heap.size, 0, none⟩))
  clear hr2 hg2 hv FR1 HR1
  go_wp2_with fail
  go_loopw [4, 5] (fun v4 v5 wr => ∃ (ls : List (List UInt8)) (A : Option Addr) (c k q : Nat), ls.length + k ≤ 16 ∧ v5 = .int .i64 k ∧ v4 = .slice A ls.length c ∧ (∀ l ∈ ls, l.length ≤ 40) ∧ Row wr (w.heap.size + 1) 9 1 A ls.length c (strs ls) ∧ Rdr wr (w.heap.size + 1) w.heap.size q ∧ q + 2 * k ≤ 40 ∧ Below w.heap.size w wr) (fun _ v5 _ => (intOf v5).toNat)
  case atStart => exact ⟨[], _, 0, k0, _, by simpa using hk0, rfl, rfl, by simp, ROW2.out, HR2.out, by omega, FR2.out⟩
  case round =>
    obtain ⟨ls, A, c, k, q, hlk, rfl, rfl, hb, row, hr, hq, fr⟩ := hrel
    have HB := Lib.hid hb; have ROW := Lib.hid row; have HR := Lib.hid hr; have FR := Lib.hid fr
    have hs_ : w.heap.size < wr.heap.size := by have := hr.2.1; omega
    clear hb row hr fr ROW2 HR2 FR2
    by_cases hk : 0 < k
    · obtain ⟨kk, rfl⟩ : ∃ kk, k = kk + 1 := ⟨k - 1, by omega⟩
      have hd : decide ((0 : Int) < ((kk + 1 : Nat) : Int)) = true := decide_eq_true (by omega)
      have hkw : IntKind.i64.wrap (((kk + 1 : Nat) : Int) - 1) = (kk : Int) := by rw [show (((kk + 1 : Nat) : Int) - 1) = (kk : Int) by omega]; exact IntWalk.i64_in _ ⟨by omega, by omega⟩
      have hkw2 : IntKind.i64.wrap ((kk : Int) + 1 - 1) = (kk : Int) := by rw [show ((kk : Int) + 1 - 1) = (kk : Int) by omega]; exact IntWalk.i64_in _ ⟨by omega, by omega⟩
      clear hk
      go_wp2_with fail
      refine (pick_c _ _ _ 4 _ HR.out (by omega) (by omega) (by omega)).mono ?_
      rintro e w3 ⟨t, ht, rfl, hr3, hg3⟩
      have HR3 := Lib.hid hr3
      have ROW3 := Lib.hid (ROW.out.keep hg3 (by omega))
      have FR3 := Lib.hid (FR.out.grown hg3 (by omega) (fun y hy => by injection hy with hy; omega))
      have hs3 : w.heap.size < w3.heap.size := by have := hr3.2.1; omega
      clear hr3 hg3 ROW HR FR
      have hbt : ∀ k : Nat, t ≠ k → ((t : Int) == (k : Int)) = false := fun k h => beq_eq_false_iff_ne.2 (by omega)
      have HBT := Lib.hid hbt
      clear hbt
      by_cases t0 : t = 0
      · subst t0
        go_wp2_with fail
        refine (pick_c _ _ _ 5 _ HR3.out (by omega) (by omega) (by omega)).mono ?_
        rintro e w4 ⟨u, hu, rfl, hr4, hg4⟩
        have HR4 := Lib.hid hr4
        have ROW4 := Lib.hid (ROW3.out.keep hg4 (by omega))
        have FR4 := Lib.hid (FR3.out.grown hg4 (by omega) (fun y hy => by injection hy with hy; omega))
        have hs4 : w.heap.size < w4.heap.size := by have := hr4.2.1; omega
        clear hr4 hg4 HR3 ROW3 FR3
        go_wp2_with fail
        refine (decimal_c u (by omega) w4).mono ?_
        rintro e w5 ⟨rfl, b5⟩
        have HR5 := Lib.hid (HR4.out.below b5)
        have ROW5 := Lib.hid (ROW4.out.below b5)
        have FR5 := Lib.hid (FR4.out.trans (b5.mono (by omega)))
        have hs5 : w.heap.size < w5.heap.size := by have := b5.size; omega
        have hds : (decB u).size ≤ 7 := decB_le u (by omega)
        obtain ⟨DB, hDB⟩ : ∃ DB, DB = decB u := ⟨_, rfl⟩
        rw [← hDB] at hds ⊢
        have hz1 : ¬ 9223372036854775807 < 8 + DB.size := by omega
        clear hDB b5 HR4 ROW4 FR4
        go_wp2_with (at_builtin; (refine wpList_append_row _ rfl (.tmp 28) (.tmp 33) 37 rfl (w.heap.size + 1) 9 i0 (.string ByteArray.empty) 1 16 Tryz.underlying37 i0_i i0_z0 i0_z1 i0_z2 rfl A ls.length c (strs ls) (by first | rfl | simp) (ROW5.out.alloc _) (some ⟨w5.heap.size, 0, none⟩) 1 1 [.string ((⟨#[97, 99, 113, 117, 105, 114, 101, 32]⟩ : ByteArray) ++ DB)] rfl rfl (Rd.one (cell_new _ _ _ 0)) (one1 _ rfl) (by omega) (by unfold maxLen; omega) (by omega) (by simp <;> omega) ?_))
        intro A2 c2 w9 row9 hg9 hat9
        have row9' : Row w9 (w.heap.size + 1) 9 1 A2 (ls ++ [((⟨#[97, 99, 113, 117, 105, 114, 101, 32]⟩ : ByteArray) ++ DB).data.toList]).length c2 (strs (ls ++ [((⟨#[97, 99, 113, 117, 105, 114, 101, 32]⟩ : ByteArray) ++ DB).data.toList])) := by rw [snocT ls ((⟨#[97, 99, 113, 117, 105, 114, 101, 32]⟩ : ByteArray) ++ DB), List.length_append]; exact row9
        have hlt9 := ROW5.out.lt
        have HR9 := Lib.hid ((HR5.out.alloc _).grown hg9 (fun y hy => (hlt9 y hy).1))
        have FR9 := Lib.hid ((FR5.out.alloc (Nat.le_of_lt hs5) _).grown hg9 (by simp <;> omega) (fun y hy => by have := (hlt9 y hy).1; omega))
        have ROW9 := Lib.hid row9'
        have HB9 := Lib.hid (snoc_all HB.out ((⟨#[97, 99, 113, 117, 105, 114, 101, 32]⟩ : ByteArray) ++ DB) (by rw [ByteArray.size_append]; simp only [ByteArray.size]; simp; omega))
        clear row9 row9' hg9 hat9 hlt9
        go_wp2_with fail
        go_roundw
        case rel => exact ⟨ls ++ [((⟨#[97, 99, 113, 117, 105, 114, 101, 32]⟩ : ByteArray) ++ DB).data.toList], A2, c2, kk, _, by rw [List.length_append]; simp only [List.length_singleton]; omega, by go_num, by rw [List.length_append]; rfl, HB9.out, ROW9.out, HR9.out, by omega, FR9.out⟩
        case measure => simp [intOf]
      by_cases t1 : t = 1
      · subst t1
        go_wp2_with fail
        refine (pick_c _ _ _ 5 _ HR3.out (by omega) (by omega) (by omega)).mono ?_
        rintro e w4 ⟨u, hu, rfl, hr4, hg4⟩
        have HR4 := Lib.hid hr4
        have ROW4 := Lib.hid (ROW3.out.keep hg4 (by omega))
        have FR4 := Lib.hid (FR3.out.grown hg4 (by omega) (fun y hy => by injection hy with hy; omega))
        have hs4 : w.heap.size < w4.heap.size := by have := hr4.2.1; omega
        clear hr4 hg4 HR3 ROW3 FR3
        go_wp2_with fail
        refine (decimal_c u (by omega) w4).mono ?_
        rintro e w5 ⟨rfl, b5⟩
        have HR5 := Lib.hid (HR4.out.below b5)
        have ROW5 := Lib.hid (ROW4.out.below b5)
        have FR5 := Lib.hid (FR4.out.trans (b5.mono (by omega)))
        have hs5 : w.heap.size < w5.heap.size := by have := b5.size; omega
        have hds : (decB u).size ≤ 7 := decB_le u (by omega)
        obtain ⟨DB, hDB⟩ : ∃ DB, DB = decB u := ⟨_, rfl⟩
        rw [← hDB] at hds ⊢
        have hz1 : ¬ 9223372036854775807 < 8 + DB.size := by omega
        clear hDB b5 HR4 ROW4 FR4
        go_wp2_with (at_builtin; (refine wpList_append_row _ rfl (.tmp 28) (.tmp 33) 37 rfl (w.heap.size + 1) 9 i0 (.string ByteArray.empty) 1 16 Tryz.underlying37 i0_i i0_z0 i0_z1 i0_z2 rfl A ls.length c (strs ls) (by first | rfl | simp) (ROW5.out.alloc _) (some ⟨w5.heap.size, 0, none⟩) 1 1 [.string ((⟨#[97, 99, 113, 117, 105, 114, 101, 32]⟩ : ByteArray) ++ DB)] rfl rfl (Rd.one (cell_new _ _ _ 0)) (one1 _ rfl) (by omega) (by unfold maxLen; omega) (by omega) (by simp <;> omega) ?_))
        intro A2 c2 w9 row9 hg9 hat9
        have row9' : Row w9 (w.heap.size + 1) 9 1 A2 (ls ++ [((⟨#[97, 99, 113, 117, 105, 114, 101, 32]⟩ : ByteArray) ++ DB).data.toList]).length c2 (strs (ls ++ [((⟨#[97, 99, 113, 117, 105, 114, 101, 32]⟩ : ByteArray) ++ DB).data.toList])) := by rw [snocT ls ((⟨#[97, 99, 113, 117, 105, 114, 101, 32]⟩ : ByteArray) ++ DB), List.length_append]; exact row9
        have hlt9 := ROW5.out.lt
        have HR9 := Lib.hid ((HR5.out.alloc _).grown hg9 (fun y hy => (hlt9 y hy).1))
        have FR9 := Lib.hid ((FR5.out.alloc (Nat.le_of_lt hs5) _).grown hg9 (by simp <;> omega) (fun y hy => by have := (hlt9 y hy).1; omega))
        have ROW9 := Lib.hid row9'
        have HB9 := Lib.hid (snoc_all HB.out ((⟨#[97, 99, 113, 117, 105, 114, 101, 32]⟩ : ByteArray) ++ DB) (by rw [ByteArray.size_append]; simp only [ByteArray.size]; simp; omega))
        clear row9 row9' hg9 hat9 hlt9
        go_wp2_with fail
        go_roundw
        case rel => exact ⟨ls ++ [((⟨#[97, 99, 113, 117, 105, 114, 101, 32]⟩ : ByteArray) ++ DB).data.toList], A2, c2, kk, _, by rw [List.length_append]; simp only [List.length_singleton]; omega, by go_num, by rw [List.length_append]; rfl, HB9.out, ROW9.out, HR9.out, by omega, FR9.out⟩
        case measure => simp [intOf]
      by_cases t2 : t = 2
      · subst t2
        go_wp2_with fail
        refine (pick_c _ _ _ 3 _ HR3.out (by omega) (by omega) (by omega)).mono ?_
        rintro e w4 ⟨u, hu, rfl, hr4, hg4⟩
        have HR4 := Lib.hid hr4
        have ROW4 := Lib.hid (ROW3.out.keep hg4 (by omega))
        have FR4 := Lib.hid (FR3.out.grown hg4 (by omega) (fun y hy => by injection hy with hy; omega))
        have hs4 : w.heap.size < w4.heap.size := by have := hr4.2.1; omega
        clear hr4 hg4 HR3 ROW3 FR3
        go_wp2_with fail
        refine (decimal_c u (by omega) w4).mono ?_
        rintro e w5 ⟨rfl, b5⟩
        have HR5 := Lib.hid (HR4.out.below b5)
        have ROW5 := Lib.hid (ROW4.out.below b5)
        have FR5 := Lib.hid (FR4.out.trans (b5.mono (by omega)))
        have hs5 : w.heap.size < w5.heap.size := by have := b5.size; omega
        have hds : (decB u).size ≤ 7 := decB_le u (by omega)
        obtain ⟨DB, hDB⟩ : ∃ DB, DB = decB u := ⟨_, rfl⟩
        rw [← hDB] at hds ⊢
        have hz1 : ¬ 9223372036854775807 < 8 + DB.size := by omega
        clear hDB b5 HR4 ROW4 FR4
        go_wp2_with (at_builtin; (refine wpList_append_row _ rfl (.tmp 37) (.tmp 42) 37 rfl (w.heap.size + 1) 9 i0 (.string ByteArray.empty) 1 16 Tryz.underlying37 i0_i i0_z0 i0_z1 i0_z2 rfl A ls.length c (strs ls) (by first | rfl | simp) (ROW5.out.alloc _) (some ⟨w5.heap.size, 0, none⟩) 1 1 [.string ((⟨#[114, 101, 108, 101, 97, 115, 101, 32]⟩ : ByteArray) ++ DB)] rfl rfl (Rd.one (cell_new _ _ _ 0)) (one1 _ rfl) (by omega) (by unfold maxLen; omega) (by omega) (by simp <;> omega) ?_))
        intro A2 c2 w9 row9 hg9 hat9
        have row9' : Row w9 (w.heap.size + 1) 9 1 A2 (ls ++ [((⟨#[114, 101, 108, 101, 97, 115, 101, 32]⟩ : ByteArray) ++ DB).data.toList]).length c2 (strs (ls ++ [((⟨#[114, 101, 108, 101, 97, 115, 101, 32]⟩ : ByteArray) ++ DB).data.toList])) := by rw [snocT ls ((⟨#[114, 101, 108, 101, 97, 115, 101, 32]⟩ : ByteArray) ++ DB), List.length_append]; exact row9
        have hlt9 := ROW5.out.lt
        have HR9 := Lib.hid ((HR5.out.alloc _).grown hg9 (fun y hy => (hlt9 y hy).1))
        have FR9 := Lib.hid ((FR5.out.alloc (Nat.le_of_lt hs5) _).grown hg9 (by simp <;> omega) (fun y hy => by have := (hlt9 y hy).1; omega))
        have ROW9 := Lib.hid row9'
        have HB9 := Lib.hid (snoc_all HB.out ((⟨#[114, 101, 108, 101, 97, 115, 101, 32]⟩ : ByteArray) ++ DB) (by rw [ByteArray.size_append]; simp only [ByteArray.size]; simp; omega))
        clear row9 row9' hg9 hat9 hlt9
        go_wp2_with fail
        go_roundw
        case rel => exact ⟨ls ++ [((⟨#[114, 101, 108, 101, 97, 115, 101, 32]⟩ : ByteArray) ++ DB).data.toList], A2, c2, kk, _, by rw [List.length_append]; simp only [List.length_singleton]; omega, by go_num, by rw [List.length_append]; rfl, HB9.out, ROW9.out, HR9.out, by omega, FR9.out⟩
        case measure => simp [intOf]
      have q0 : ((t : Int) == 0) = false := HBT.out 0 t0
      have q1 : ((t : Int) == 1) = false := HBT.out 1 t1
      have q2 : ((t : Int) == 2) = false := HBT.out 2 t2
      have HOF := Lib.hid (of_c (w.heap.size + 1) w.heap.size (q + 1) 9 of10 _ 10 10 (w3.alloc (.cells #[.string ⟨#[112, 111, 111, 108]⟩, .string ⟨#[104, 101, 108, 100, 32, 49]⟩, .string ⟨#[99, 108, 111, 115, 101, 32, 49]⟩, .string ⟨#[99, 108, 111, 115, 101, 32, 48]⟩, .string ⟨#[115, 105, 122, 101, 32, 51]⟩, .string ⟨#[115, 105, 122, 101, 32, 49]⟩, .string ⟨#[97, 99, 113, 117, 105, 114, 101, 32, 57]⟩, .string ⟨#[]⟩, .string ⟨#[104, 101, 108, 112]⟩, .string ⟨#[104, 101, 108, 100, 32, 120]⟩] 9)) (HR3.out.alloc _) (by omega) rfl (by omega) (by omega) of10_le (Rd.litS of10 w3 _) (fun b off e => by injection e with e; injection e with e; omega))
      go_wp2_with fail
      refine HOF.out.mono ?_
      rintro e w5 ⟨DB, q5, hds, rfl, hr5, hq5, hg5⟩
      have HR5 := Lib.hid hr5
      have ROW5 := Lib.hid ((ROW3.out.alloc _).keep hg5 (by omega))
      have FR5 := Lib.hid ((FR3.out.alloc (by omega) _).grown hg5 (by simp <;> omega) (fun y hy => by injection hy with hy; omega))
      have hs5 : w.heap.size < w5.heap.size := by have := hr5.2.1; omega
      clear hr5 hg5 HR3 ROW3 FR3 HOF
      go_wp2_with (at_builtin; (refine wpList_append_row _ rfl (.tmp 19) (.tmp 23) 37 rfl (w.heap.size + 1) 9 i0 (.string ByteArray.empty) 1 16 Tryz.underlying37 i0_i i0_z0 i0_z1 i0_z2 rfl A ls.length c (strs ls) (by first | rfl | simp) (ROW5.out.alloc _) (some ⟨w5.heap.size, 0, none⟩) 1 1 [.string (DB)] rfl rfl (Rd.one (cell_new _ _ _ 0)) (one1 _ rfl) (by omega) (by unfold maxLen; omega) (by omega) (by simp <;> omega) ?_))
      intro A2 c2 w9 row9 hg9 hat9
      have row9' : Row w9 (w.heap.size + 1) 9 1 A2 (ls ++ [(DB).data.toList]).length c2 (strs (ls ++ [(DB).data.toList])) := by rw [snocT ls (DB), List.length_append]; exact row9
      have hlt9 := ROW5.out.lt
      have HR9 := Lib.hid ((HR5.out.alloc _).grown hg9 (fun y hy => (hlt9 y hy).1))
      have FR9 := Lib.hid ((FR5.out.alloc (Nat.le_of_lt hs5) _).grown hg9 (by simp <;> omega) (fun y hy => by have := (hlt9 y hy).1; omega))
      have ROW9 := Lib.hid row9'
      have HB9 := Lib.hid (snoc_all HB.out (DB) (by omega))
      clear row9 row9' hg9 hat9 hlt9
      go_wp2_with fail
      go_roundw
      case rel => exact ⟨ls ++ [(DB).data.toList], A2, c2, kk, _, by rw [List.length_append]; simp only [List.length_singleton]; omega, by go_num, by rw [List.length_append]; rfl, HB9.out, ROW9.out, HR9.out, by omega, FR9.out⟩
      case measure => simp [intOf]
    · obtain rfl : k = 0 := by omega
      have hq0 : q ≤ 40 := by omega
      have hll : ls.length ≤ 16 := by omega
      clear hk hlk hq
      obtain ⟨m, hm⟩ : ∃ m, ls.length = m := ⟨_, rfl⟩
      have ROWm := Lib.hid (show Row wr (w.heap.size + 1) 9 1 A m c (strs ls) by rw [← hm]; exact ROW.out)
      rw [hm] at hll ⊢
      have HM := Lib.hid hm
      have fin0 : ∀ (W : World) (A : Option Addr) (c : Nat) (ms : List (List UInt8)), ms.length = m → (∀ l ∈ ms, l.length ≤ 100) → Row W (w.heap.size + 1) 9 1 A m c (strs ms) → Below w.heap.size w W → RetL w (.returned (.slice A m c)) W :=
        fun W A c ms h1 h2 h3 h4 => ⟨ms, A, c, by omega, h2, by rw [h1], by rw [h1]; exact h3.mono (by omega), h4⟩
      have FIN0 := Lib.hid fin0
      clear fin0
      have HB100 : Hid (∀ l ∈ ls, l.length ≤ 100) := fun l hl => Nat.le_trans (HB.out l hl) (by omega)
      clear hm ROW
      by_cases hl0 : m = 0
      · have hd0 : decide ((0 : Int) < (m : Int)) = false := decide_eq_false (by omega)
        have hd1 : decide (0 < m) = false := decide_eq_false (by omega)
        clear hl0
        go_wp2_with fail
        go_ret
        exact FIN0.out _ A c ls HM.out HB100.out ROWm.out FR.out
      · have hlp : 0 < m := by omega
        have hd0 : decide ((0 : Int) < (m : Int)) = true := decide_eq_true (by omega)
        have hd1 : decide (0 < m) = true := decide_eq_true hlp
        clear hl0
        go_wp2_with fail
        refine (pick_c _ _ _ 5 _ HR.out (by omega) (by omega) (by omega)).mono ?_
        rintro e w3 ⟨t, ht, rfl, hr3, hg3⟩
        have HR3 := Lib.hid hr3
        have ROW3 := Lib.hid (ROWm.out.keep hg3 (by omega))
        have FR3 := Lib.hid (FR.out.grown hg3 (by omega) (fun y hy => by injection hy with hy; omega))
        have hs3 : w.heap.size < w3.heap.size := by have := hr3.2.1; omega
        clear hr3 hg3 ROWm HR FR
        by_cases t0 : t = 0
        · subst t0
          go_wp2_with fail
          refine (pick_c _ _ _ m _ HR3.out (by omega) (by omega) (by omega)).mono ?_
          rintro e w4 ⟨j, hj, rfl, hr4, hg4⟩
          have HR4 := Lib.hid hr4
          have ROW4 := Lib.hid (ROW3.out.keep hg4 (by omega))
          have FR4 := Lib.hid (FR3.out.grown hg4 (by omega) (fun y hy => by injection hy with hy; omega))
          have hs4 : w.heap.size < w4.heap.size := by have := hr4.2.1; omega
          clear hr4 hg4 HR3 ROW3 FR3
          obtain ⟨b, off, hA, hbB, hbw, hrb⟩ := ROW4.out.form hlp
          subst hA
          have hjl : j < ls.length := by have := HM.out; omega
          have hlj : (ls[j]'hjl).length ≤ 40 := HB.out _ (List.getElem_mem hjl)
          obtain ⟨L, hL⟩ : ∃ L, L = bsof (ls[j]'hjl) := ⟨_, rfl⟩
          have hLs : L.size ≤ 40 := by rw [hL, bsof_size]; exact hlj
          have hcj : w4.cell? ⟨b, off + j, none⟩ = some (.string L) := by
            have := ROW4.out.cell (j := j) (u := .string L) (by unfold strs; rw [List.getElem?_map, List.getElem?_eq_getElem hjl, hL]; rfl)
            exact this
          have hjI : (j : Int) < (m : Int) := by omega
          have hj0 : (0 : Int) ≤ (j : Int) := by omega
          clear hL hlj
          go_wp2_with fail
          refine (mutate_c _ _ _ L _ HR4.out (by omega) (by omega)).mono ?_
          rintro e w5 ⟨T, q5, hT, rfl, hr5, hq5, hg5⟩
          have ROW5 := Lib.hid (ROW4.out.keep hg5 (by omega))
          have FR5 := Lib.hid (FR4.out.grown hg5 (by omega) (fun y hy => by injection hy with hy; omega))
          have hs5 : w.heap.size < w5.heap.size := by have := hr5.2.1; omega
          have hcj5 : w5.cell? ⟨b, off + j, none⟩ = some (.string L) := hg5.cell hcj (fun e => by injection e with e; change b = _ at e; omega)
          have hfz5 : w5.frozen? ⟨b, off + j, none⟩ = false := ROW5.out.frozen hlp _
          have FIN : Hid (RetL w (.returned (.slice (some ⟨b, off, none⟩) m c)) (w5.setCell ⟨b, off + j, none⟩ (.string T))) := by
            refine FIN0.out _ _ c (ls.set j T.data.toList) (by rw [List.length_set]; exact HM.out) ?_ ?_ (FR5.out.setCell (by simp <;> omega) _)
            · intro l hl
              rcases List.mem_or_eq_of_mem_set hl with hl | hl
              · exact HB100.out l hl
              · subst hl; rw [Array.length_toList]; show T.size ≤ 100; omega
            · have h1 := ROW5.out.store j (.string T) (by omega)
              have h2 : (strs ls).set j (.string T) = strs (ls.set j T.data.toList) := by unfold strs; rw [List.map_set, bsof_data]
              rw [h2] at h1
              exact h1
          clear hr5 hg5 hcj HR4 ROW4 FR4 ROW5 FR5
          go_wp2_with fail
          go_ret
          exact FIN.out
        · have e0 : ((t : Int) == 0) = false := beq_eq_false_iff_ne.2 (by omega)
          go_wp2_with fail
          go_ret
          exact FIN0.out _ A c ls HM.out HB100.out ROW3.out FR3.out
end
end Go.Proofs.YtnmgnhpagnjhlaaGreatDoor
