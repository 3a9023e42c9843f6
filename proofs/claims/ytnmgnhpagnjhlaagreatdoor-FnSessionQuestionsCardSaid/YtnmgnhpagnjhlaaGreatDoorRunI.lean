/- strings.Builder: its WriteString and String at this program, and that a builder stands while a pool in another block is written. A session: the program. -/
import Derived.Test.YtnmgnhpagnjhlaaGreatDoorBase
import Derived.Test.YtnmgnhpagnjhlaaGreatDoorReader
import Derived.Shelf.Strings.BuilderK
import Derived.Test.YtnmgnhpagnjhlaaGreatDoorLineI
import Derived.Test.YtnmgnhpagnjhlaaGreatDoorRun
import Derived.Deep.Cut
set_option linter.unusedVariables false
set_option linter.unusedSimpArgs false
set_option linter.unnecessarySimpa false
namespace Go.Proofs.YtnmgnhpagnjhlaaGreatDoor
section
open Go.RowKit Go.Shelf

def bren : Go.Shelf.Ren := ⟨fun | 166 => 63 | 240 => 96 | 276 => 117 | 169 => 65 | n => n, fun | 70 => 81 | 72 => 83 | 37 => 22 | 164 => 113 | 75 => 85 | 80 => 88 | 127 => 106 | 9 => 9 | 20 => 20 | 5 => 5 | 4 => 4 | 3 => 3 | n => n, fun | n => n⟩
theorem blays166 : Go.Proofs.Lays.n166 Tryz.prog bren := {
  mixed := by kernel_rfl
  f166 := Tryz.func63.trans (congrArg some (by kernel_rfl))
  f240 := Tryz.func96.trans (congrArg some (by kernel_rfl))
  f276 := Tryz.func117.trans (congrArg some (by kernel_rfl))
  t0 := Tryz.underlying0
  a0 := Tryz.isAgg0
  z0 := Tryz.sizeOf0
  v0 := Tryz.zeroValue0
  t3 := Tryz.underlying3
  a3 := Tryz.isAgg3
  z3 := Tryz.sizeOf3
  v3 := Tryz.zeroValue3
  t4 := Tryz.underlying4
  a4 := Tryz.isAgg4
  z4 := Tryz.sizeOf4
  v4 := Tryz.zeroValue4
  t9 := Tryz.underlying9
  a9 := Tryz.isAgg9
  z9 := Tryz.sizeOf9
  v9 := Tryz.zeroValue9
  t20 := Tryz.underlying20
  a20 := Tryz.isAgg20
  z20 := Tryz.sizeOf20
  v20 := Tryz.zeroValue20
  t37 := Tryz.underlying22
  a37 := Tryz.isAgg22
  z37 := Tryz.sizeOf22
  v37 := Tryz.zeroValue22
  t70 := Tryz.underlying81
  a70 := Tryz.isAgg81
  z70 := Tryz.sizeOf81
  v70 := Tryz.zeroValue81
  t72 := Tryz.underlying83
  a72 := Tryz.isAgg83
  z72 := Tryz.sizeOf83
  v72 := Tryz.zeroValue83
  t75 := Tryz.underlying85
  a75 := Tryz.isAgg85
  z75 := Tryz.sizeOf85
  v75 := Tryz.zeroValue85
  t164 := Tryz.underlying113
  a164 := Tryz.isAgg113
  z164 := Tryz.sizeOf113
  v164 := Tryz.zeroValue113 }
theorem blays169 : Go.Proofs.Lays.n169 Tryz.prog bren := {
  mixed := by kernel_rfl
  f169 := Tryz.func65.trans (congrArg some (by kernel_rfl))
  t0 := Tryz.underlying0
  a0 := Tryz.isAgg0
  z0 := Tryz.sizeOf0
  v0 := Tryz.zeroValue0
  t3 := Tryz.underlying3
  a3 := Tryz.isAgg3
  z3 := Tryz.sizeOf3
  v3 := Tryz.zeroValue3
  t9 := Tryz.underlying9
  a9 := Tryz.isAgg9
  z9 := Tryz.sizeOf9
  v9 := Tryz.zeroValue9
  t37 := Tryz.underlying22
  a37 := Tryz.isAgg22
  z37 := Tryz.sizeOf22
  v37 := Tryz.zeroValue22
  t70 := Tryz.underlying81
  a70 := Tryz.isAgg81
  z70 := Tryz.sizeOf81
  v70 := Tryz.zeroValue81
  t72 := Tryz.underlying83
  a72 := Tryz.isAgg83
  z72 := Tryz.sizeOf83
  v72 := Tryz.zeroValue83
  t127 := Tryz.underlying106
  a127 := Tryz.isAgg106
  z127 := Tryz.sizeOf106
  v127 := Tryz.zeroValue106 }
theorem bextra : Builder.Extra Tryz.prog bren := {
  sizeBuilder := by kernel_rfl
  liesBuilder := by kernel_rfl
  t5 := Tryz.underlying5
  a5 := Tryz.isAgg5
  z5 := Tryz.sizeOf5
  v5 := Tryz.zeroValue5
  infoByte := by kernel_rfl
  cellsByte := by kernel_rfl
  sizeByte := by kernel_rfl
  neB5 := by decide }
/-- A builder that holds these bytes. -/
def Bld (B b : Nat) (l : List UInt8) (w : World) : Prop := Lib.IsBuilderF 83 5 B b (Lib.byteCells l) w
theorem cells_append (l m : List UInt8) : Lib.byteCells l ++ Lib.strCells (⟨m.toArray⟩ : ByteArray) = Lib.byteCells (l ++ m) := by
  unfold Lib.byteCells Lib.strCells
  rw [List.map_append]
theorem bWrite_c (B b : Nat) (l m : List UInt8) (w : World) (h : Bld B b l w) (hlen : l.length + m.length ≤ 140737488355328) (hBw : B ≤ w.heap.size) :
    Calls Tryz.prog 63 #[.pointer (some ⟨b, 0, none⟩), .string ⟨m.toArray⟩] w fun e w' => (∃ n, e = .returned (.tuple #[.int .i64 n, .nilIface])) ∧ Bld B b (l ++ m) w' ∧ Below B w w' ∧ Lib.OthersKept 5 (some b) w w' :=
  (Any.Builder_WriteString_k blays166 bextra B b (Lib.byteCells l) ⟨m.toArray⟩ w h (by rw [Lib.byteCells_length]; simpa [ByteArray.size] using hlen) hBw).mono fun e w' ⟨he, h1, h2, h3⟩ => ⟨⟨_, he⟩, .inr (by rw [← cells_append]; exact h1), h2, h3⟩
theorem bString_c (B b : Nat) (l : List UInt8) (w : World) (h : Bld B b l w) (hBw : B ≤ w.heap.size) :
    Calls Tryz.prog 65 #[.pointer (some ⟨b, 0, none⟩)] w fun e w' => e = .returned (.string ⟨l.toArray⟩) ∧ Below B w w' :=
  (Any.Builder_String_any_k blays169 bextra B b l w h hBw).mono fun e w' ⟨he, _, h2, _⟩ => ⟨he, h2⟩
theorem Bld.grown {B b : Nat} {l : List UInt8} {w w' : World} {g : Nat} {t : TypeId} {cs : Array Value} (h : Bld B b l w) (hg : w.grownBy w' (some g)) (hk : Blk w g t cs) (h1 : t ≠ 83) (h2 : t ≠ 5) : Bld B b l w' := by
  have key : ∀ p, Lib.BuilderAtF 83 5 B b p (Lib.byteCells l) w → Lib.BuilderAtF 83 5 B b p (Lib.byteCells l) w' := by
    rintro p ⟨hB, v, hb, hown, hne⟩
    have hlt : b < w.heap.size := by
      rcases Nat.lt_or_ge b w.heap.size with h' | h'
      · exact h'
      · rw [Array.getElem?_eq_none h'] at hb; cases hb
    have hbg : b ≠ g := by
      rintro rfl
      have hk' : w.heap[b]? = _ := hk
      rw [hb] at hk'
      injection hk' with hk'
      injection hk' with _ e _
      exact h1 e.symm
    refine ⟨hB, v, (hg.block b hlt (fun e => hbg (by injection e))).trans hb, hown.kept hg (.inr (fun e => ?_)), hne⟩
    obtain ⟨c, fz, hc⟩ := Lib.ownsRowF_kind hown g e
    have hk' : w.heap[g]? = _ := hk
    rw [hc] at hk'
    injection hk' with hk'
    injection hk' with _ e _
    exact h2 e.symm
  rcases h with h | h
  · exact .inl (key _ h)
  · exact .inr (key _ h)
theorem Blk.kept_ {w w' : World} {b g : Nat} {t : TypeId} {cs : Array Value} (h : Blk w g t cs) (hk : Lib.OthersKept 5 (some b) w w') (hb : g ≠ b) (ht : t ≠ 5) : Blk w' g t cs :=
  hk g _ h (fun e => hb (by injection e)) (fun c fz e => ht (by injection e))
end
-- merged
section
open Go.RowKit

theorem Row.kept_ {w w' : World} {B : Nat} {e : TypeId} {size n c b : Nat} {A : Option Addr} {xs : List Value} (h : Row w B e size A n c xs) (hk : Lib.OthersKept 5 (some b) w w') (hb : ∃ cs fz, w.heap[b]? = some (.cells cs 83 fz))
    (h1 : e ≠ 83) (h2 : e ≠ 5) : Row w' B e size A n c xs :=
  ⟨h.1, h.2.1, h.2.2.1, fun hc => by
    obtain ⟨g, off, cur, hA, hB, hg, r⟩ := h.2.2.2 hc
    refine ⟨g, off, cur, hA, hB, hk g _ hg (fun e9 => ?_) (fun c fz e9 => h2 (by injection e9)), r⟩
    injection e9 with e9
    subst e9
    obtain ⟨cs, fz, hb⟩ := hb
    rw [hg] at hb
    injection hb with hb
    injection hb with _ e9 _
    exact h1 e9⟩
theorem Desk.kept_ {w w' : World} {gd b : Nat} {P : Pl} (h : Desk 26 w gd P) (hk : Lib.OthersKept 5 (some b) w w') (hb : ∃ cs fz, w.heap[b]? = some (.cells cs 83 fz)) : Desk 26 w' gd P := by
  obtain ⟨A, a, B, b', C, c, hbk, hp, ho⟩ := h
  have hne : gd ≠ b := by
    rintro rfl
    obtain ⟨cs, fz, hb⟩ := hb
    have hbk' : w.heap[gd]? = _ := hbk
    rw [hbk'] at hb
    injection hb with hb
    injection hb with _ e9 _
    exact absurd e9 (by decide)
  exact ⟨A, a, B, b', C, c, hbk.kept_ hk hne (by decide), ⟨hp.1.kept_ hk hb (by decide) (by decide), hp.2.1.kept_ hk hb (by decide) (by decide), hp.2.2.1.kept_ hk hb (by decide) (by decide), hp.2.2.2⟩, ho⟩
theorem Bld.blk {B b : Nat} {l : List UInt8} {w : World} (h : Bld B b l w) : ∃ cs fz, w.heap[b]? = some (.cells cs 83 fz) := by
  rcases h with h | h
  · obtain ⟨_, v, hb, _⟩ := h; exact ⟨_, _, hb⟩
  · obtain ⟨_, v, hb, _⟩ := h; exact ⟨_, _, hb⟩
theorem Bld.fresh {w : World} {B b : Nat} (hB : B ≤ b) (h : Blk w b 83 #[.pointer none, .slice none 0 0]) : Bld B b [] w :=
  .inl ⟨hB, _, h, World.ownsRowF_nil _ _ _ _, by simp [Value.ownBlock]⟩
theorem Desk.blk {T : TypeId} {w : World} {gd : Nat} {P : Pl} (h : Desk T w gd P) : ∃ cs, Blk w gd T cs := by
  obtain ⟨A, a, B, b, C, c, hk, _⟩ := h
  exact ⟨_, hk⟩
set_option maxRecDepth 100000 in
set_option maxHeartbeats 8000000 in
theorem iRun_c (ls : List (List UInt8)) (A : Option Addr) (n c : Nat) (w : World) (hN : ls.length = n) (h : Rd w A (strs ls)) (hn : n ≤ 1073741824) (hnc : n ≤ c) (hl : ∀ l ∈ ls, l.length ≤ 1048576) (E : Env w) :
    Calls Tryz.prog 25 #[.slice A n c] w fun e w' => e = .returned (.string (bsof (sessV ls))) ∧ Below w.heap.size w w' := by
  have HN := Lib.hid hN; have H := Lib.hid h; have HLS := Lib.hid hl; have HE := Lib.hid E
  obtain ⟨RES, hRES⟩ : ∃ RES, RES = bsof (sessV ls) := ⟨_, rfl⟩
  rw [← hRES]
  have HRES := Lib.hid hRES
  obtain ⟨k, hk⟩ : ∃ k, k = min 20 n := ⟨_, rfl⟩
  have hk20 : k ≤ 20 := by omega
  have hkn : k ≤ n := by omega
  have hkI : min (20 : Int) (n : Int) = (k : Int) := by omega
  have hkI2 : (if (n : Int) < 20 then (n : Int) else 20) = (k : Int) := by split <;> omega
  have hkI3 : (if (20 : Int) < (n : Int) then (20 : Int) else (n : Int)) = (k : Int) := by split <;> omega
  have hkI4 : (if (20 : Int) ≤ (n : Int) then (20 : Int) else (n : Int)) = (k : Int) := by split <;> omega
  have hkI5 : (if (n : Int) ≤ 20 then (n : Int) else 20) = (k : Int) := by split <;> omega
  have hkc : (k : Int) ≤ (c : Int) := by omega
  have hk0 : (0 : Int) ≤ (k : Int) := by omega
  have hkc2 : k ≤ c := by omega
  obtain ⟨gd, hgd⟩ : ∃ gd, gd = w.heap.size := ⟨_, rfl⟩
  obtain ⟨w1, hw1⟩ : ∃ w1, w1 = (w.alloc (.cells #[.int .i64 2, .slice none 0 0, .slice none 0 0, .slice none 0 0] 26)).alloc (.cells #[.pointer none, .slice none 0 0] 83) := ⟨_, rfl⟩
  have FR1 := Lib.hid (show Below w.heap.size w w1 by rw [hw1]; exact ((Below.refl _ _).alloc (Nat.le_refl _) _).alloc (by simp) _)
  have DK1 : Hid (Desk 26 w1 gd Pl.new) := by
    rw [hw1, hgd]
    refine ⟨none, 0, none, 0, none, 0, (Blk.new w _ _).alloc _, ⟨Row.nil _ _ _ _ _, Row.nil _ _ _ _ _, Row.nil _ _ _ _ _, ⟨.inl rfl, .inl rfl⟩, ⟨.inl rfl, .inl rfl⟩, ⟨.inl rfl, .inl rfl⟩⟩, ⟨by simp [rb], by simp [rb], by simp [rb]⟩⟩
  have BB1 : Hid (Bld gd (gd + 1) [] w1) := by
    refine Bld.fresh (by omega) ?_
    rw [hw1, hgd]
    have := Blk.new (w.alloc (.cells #[.int .i64 2, .slice none 0 0, .slice none 0 0, .slice none 0 0] 26)) 83 #[.pointer none, .slice none 0 0]
    simpa using this
  have hs1 : w1.heap.size = gd + 1 + 1 := by rw [hw1, hgd]; simp
  have HG := Lib.hid hgd.symm
  rw [← hgd] at FR1 ⊢
  clear hN h hl hRES E
  go_enter Tryz.func25, Tryz.ntmps25
  go_upto_region 3 with fail
  rw [← hw1, ← hgd]
  clear hw1 hgd
  go_wp2_with fail
  rw [← hk]
  have hk9 : k = n ∨ k = 20 := by omega
  clear hk
  go_loopw [15] (fun i wr => ∃ j : Nat, j ≤ k ∧ i = .int .i64 j ∧ Bld gd (gd + 1) (runV Pl.new (ls.take j)) wr ∧ Desk 26 wr gd (endV Pl.new (ls.take j)) ∧ Below gd w wr) (fun i _ => k - (intOf i).toNat)
  case atStart => exact ⟨0, Nat.zero_le _, rfl, BB1.out, DK1.out, FR1.out⟩
  case round =>
    obtain ⟨j, hj, rfl, hb, dk, fr⟩ := hrel
    have HB := Lib.hid hb; have DK := Lib.hid dk; have FR := Lib.hid fr
    have hTl : (runV Pl.new (ls.take j)).length ≤ j * 50001 := by
      have h1 := runV_len new_good (ls.take j)
      have h2 := List.length_take_le j ls
      exact Nat.le_trans h1 (Nat.mul_le_mul_right _ h2)
    have hgdr : gd < wr.heap.size := dk.lt
    obtain ⟨csd, hcsd⟩ := dk.blk
    have BKD := Lib.hid hcsd
    clear hb dk fr DK1 FR1 BB1 hcsd
    by_cases hlt : j < k
    · have hd1 : decide ((j : Int) < (k : Int)) = true := decide_eq_true (by omega)
      have hjl : j < ls.length := by have := HN.out; omega
      obtain ⟨b, off, hA, hbl, hc⟩ := (H.out.below (by rw [HG.out]; exact FR.out)).block (by simp [strs]; omega)
      obtain ⟨q, hQ⟩ : ∃ q, q = ls[j] := ⟨_, rfl⟩
      have hcq : wr.cell? ⟨b, off + j, none⟩ = some (.string (bsof q)) := hc j _ (by unfold strs; rw [List.getElem?_map, List.getElem?_eq_getElem hjl, hQ]; rfl)
      have hql : q.length ≤ 1048576 := by rw [hQ]; exact HLS.out _ (List.getElem_mem hjl)
      have hst := runV_step ls j hjl
      rw [← hQ] at hst
      obtain ⟨P, hP⟩ : ∃ P, P = endV Pl.new (ls.take j) := ⟨_, rfl⟩
      have hg : P.Good := by rw [hP]; exact endV_good new_good _
      rw [← hP] at hst DK
      have hl := i_line_c gd P hg (bsof q) wr (by rw [bsof_size]; omega) (HE.out.below (by rw [HG.out]; exact FR.out)) DK.out
      rw [data_bsof] at hl
      have hol := cmdV_len hg q
      obtain ⟨R, hR⟩ : ∃ R, R = cmdV P q := ⟨_, rfl⟩
      rw [← hR] at hl hst hol
      obtain ⟨T0, hT0⟩ : ∃ T0, T0 = runV Pl.new (ls.take j) := ⟨_, rfl⟩
      rw [← hT0] at hst HB hTl
      obtain ⟨TX, hTX⟩ : ∃ TX, TX = bsof R.2 := ⟨_, rfl⟩
      have hTXs : TX.size ≤ 50000 := by rw [hTX, bsof_size]; exact hol
      have HL : Hid (Calls Tryz.prog 64 #[.pointer (some ⟨gd, 0, none⟩), .string (bsof q)] wr (fun e w' => e = .returned (.string TX) ∧ Desk 26 w' gd R.1 ∧ wr.grownBy w' (some gd))) := by rw [hTX]; exact hl
      have HST := Lib.hid hst.1
      have HEN := Lib.hid hst.2
      have HWR : Hid (∀ W, Bld gd (gd + 1) T0 W → gd ≤ W.heap.size → Calls Tryz.prog 63 #[.pointer (some ⟨gd + 1, 0, none⟩), .string (TX ++ ⟨#[10]⟩)] W fun e w' => (∃ n, e = .returned (.tuple #[.int .i64 n, .nilIface])) ∧ Bld gd (gd + 1) (T0 ++ (R.2 ++ [10])) w' ∧ Below gd W w' ∧ Lib.OthersKept 5 (some (gd + 1)) W w') := by
        intro W hW hs
        have h9 : TX ++ ⟨#[10]⟩ = bsof (R.2 ++ [10]) := by rw [hTX]; exact (bsof_append R.2 [10]).symm
        rw [h9]
        exact bWrite_c gd (gd + 1) T0 (R.2 ++ [10]) W hW (by rw [List.length_append]; simp; omega) hs
      obtain ⟨BQ, hBQ⟩ : ∃ BQ, BQ = bsof q := ⟨_, rfl⟩
      rw [← hBQ] at hcq HL
      have z1 : ¬ 9223372036854775807 < TX.size + 1 := by omega
      have z3 : ¬ 9223372036854775807 ≤ TX.size := by omega
      have hjk : (j : Int) < (k : Int) := by omega
      have hj0 : (0 : Int) ≤ (j : Int) := by omega
      clear hc hQ hst hP hl hR hTX hBQ hol hg hT0
      subst hA
      go_wp2_with fail
      refine HL.out.mono ?_
      rintro e w4 ⟨rfl, dk4, g4⟩
      have DK4 := Lib.hid dk4
      have FR4 := Lib.hid (FR.out.grown g4 (Nat.le_of_lt hgdr) (fun k hk => by injection hk with hk; omega))
      have HB4 := Lib.hid (HB.out.grown g4 BKD.out (by decide) (by decide))
      have hs4 : gd ≤ w4.heap.size := Nat.le_of_lt dk4.lt
      clear dk4 g4
      go_wp2_with fail
      refine (HWR.out w4 HB4.out hs4).mono ?_
      rintro e w5 ⟨⟨nn, rfl⟩, hb5, bl5, ok5⟩
      have HB5 := Lib.hid hb5
      have DK5 := Lib.hid (DK4.out.kept_ ok5 HB4.out.blk)
      have FR5 := Lib.hid (FR4.out.trans (bl5.mono (Nat.le_refl _)))
      clear hb5 bl5 ok5
      go_wp2_with fail
      go_roundw
      case rel => exact ⟨j + 1, by omega, by go_num, by rw [HST.out]; exact HB5.out, by rw [HEN.out]; exact DK5.out, FR5.out⟩
      case measure => simp [intOf]; omega
    · have hd1 : decide ((j : Int) < (k : Int)) = false := decide_eq_false (by omega)
      have hTR : runV Pl.new (ls.take j) = sessV ls := run_full ls j (by have := HN.out; omega) (by omega) (by have := HN.out; omega)
      have HTR : Hid (Bld gd (gd + 1) (sessV ls) wr) := by show Bld _ _ _ _; rw [← hTR]; exact HB.out
      have HSTR := Lib.hid (bString_c gd (gd + 1) (sessV ls) wr HTR.out (by omega))
      clear hTR HB
      go_wp2_with fail
      refine HSTR.out.mono ?_
      rintro e w6 ⟨rfl, bl6⟩
      have FR6 := Lib.hid (FR.out.trans (bl6.mono (Nat.le_refl _)))
      clear bl6
      go_wp2_with fail
      go_ret
      exact ⟨congrArg (fun z => Ending.returned (.string z)) HRES.out.symm, FR6.out⟩
end
end Go.Proofs.YtnmgnhpagnjhlaaGreatDoor
