/- Lists of texts: the laws' own functions on them, and that they come in as such lists. -/
import Derived.Test.YtnmgnhpagnjhlaaGreatDoorRunI
import Derived.Test.YtnmgnhpagnjhlaaGreatDoorLists
import Derived.Test.YtnmgnhpagnjhlaaGreatDoorOpen
import Derived.Deep.Cut
set_option linter.unusedVariables false
set_option linter.unusedSimpArgs false
set_option linter.unnecessarySimpa false
namespace Go.Proofs.YtnmgnhpagnjhlaaGreatDoor
open Go.RowKit

theorem strs_map (ls : List (List UInt8)) : strs ls = (ls.map bsof).map Value.string := by
  unfold strs
  rw [List.map_map]
  rfl
theorem set_mid_toStrs_c (a b : List ByteArray) (v : ByteArray) (k : Nat) (hk : a.length = k) (hb : 0 < b.length) :
    ((a ++ b).map Value.string).set k (Value.string v) = ((a ++ [v]) ++ b.drop 1).map Value.string := by
  subst hk
  cases b with
  | nil => simp at hb
  | cons x b => simp
/-- New memory that reads as this list is handed back; what was there is as it was. -/
def Ret_toStrs_c (zs : List ByteArray) (w : World) (e : Ending) (w' : World) : Prop :=
  ∃ A c, e = .returned (.slice A zs.length c) ∧ w'.ownsRow w.heap.size 9 1 (.slice A zs.length c) zs.length (zs.map Value.string) ∧ Below w.heap.size w w'
theorem info_toStrs_c : (Tryz.prog.info? 9).map (fun i => (i.zero, i.size, i.bytes)) = some (some (Value.string ByteArray.empty), 1, 16) := by kernel_rfl
set_option maxHeartbeats 1000000 in
theorem toStrs_c (xs : List ByteArray) (A : Option Addr) (n c : Nat) (w : World) (hN : xs.length = n) (h : Rd w A (xs.map Value.string)) (hn : n ≤ 1073741824) :
    Calls Tryz.prog 24 #[.slice A n c] w (Ret_toStrs_c xs w) := by
  have HN := Lib.hid hN; clear hN
  have H := Lib.hid h; clear h
  obtain ⟨i0, hi, hz0, hz1, hz2⟩ := info_parts info_toStrs_c
  go_enter Tryz.func24, Tryz.ntmps24
  go_wp2_with (at_make; refine wpList_make_full _ rfl (.tmp 6) (.tmp 6) 37 rfl w.heap.size 9 i0 (Value.string ByteArray.empty) 1 Tryz.underlying37 hi hz0 hz1 .i64 .i64 n n n rfl rfl rfl rfl ?b2 ?b3 ?b4 ?_)
  case b2 => rw [hz2]; omega
  case b3 => unfold maxLen; omega
  case b4 => exact Nat.le_refl _
  intro w1 hown1 hg1
  have hown1' : w1.ownsRow w.heap.size 9 1 (.slice (some ⟨w.heap.size, 0, none⟩) n n) n ((xs.take 0 ++ List.replicate (n - 0) ByteArray.empty).map Value.string) := by
    have e : ((xs.take 0 ++ List.replicate (n - 0) ByteArray.empty).map Value.string) = (madeCells #[Value.string ByteArray.empty] n).toList := by
      rw [toList_madeCells_one]; simp
    rw [e]; exact hown1
  have hb1 : Below w.heap.size w w1 := (Below.refl _ _).grown hg1 (Nat.le_refl _) (fun k hk => by cases hk)
  clear hown1 hg1
  go_wp2_with fail
  go_loopw [4] (fun i wr => ∃ k : Nat, k ≤ n ∧ i = .int .i64 k ∧ wr.ownsRow w.heap.size 9 1 (.slice (some ⟨w.heap.size, 0, none⟩) n n) n ((xs.take k ++ List.replicate (n - k) ByteArray.empty).map Value.string) ∧ Below w.heap.size w wr) (fun i _ => n - (intOf i).toNat)
  case atStart => exact ⟨0, Nat.zero_le _, rfl, hown1', hb1⟩
  case round =>
    clear hown1' hb1
    obtain ⟨k, hk, rfl, hown, hb⟩ := hrel
    by_cases hlt : k < n
    · have hkx : k < xs.length := by have := HN.out; omega
      obtain ⟨b, off, hA, hc⟩ := (H.out.below hb) (by simp; omega)
      subst hA
      obtain ⟨x, hX⟩ : ∃ x, x = xs[k] := ⟨_, rfl⟩
      have hx : wr.cell? ⟨b, off + k, none⟩ = some (Value.string x) := hc _ _ (by simp [hX])
      clear hc
      have hlen : (xs.take k).length = k := by simp; omega
      have ho : wr.cell? ⟨w.heap.size, k, none⟩ = some (Value.string ByteArray.empty) := by
        rw [hown.cellAt k (by omega)]
        rw [List.getElem?_map, List.getElem?_append_right (by omega), hlen, List.getElem?_replicate, if_pos (by omega)]
        rfl
      have hfr : wr.frozen? ⟨w.heap.size, k, none⟩ = false := hown.frozenAt k
      have fin : (wr.setCell ⟨w.heap.size, k, none⟩ (Value.string x)).ownsRow w.heap.size 9 1 (.slice (some ⟨w.heap.size, 0, none⟩) n n) n ((xs.take (k + 1) ++ List.replicate (n - (k + 1)) ByteArray.empty).map Value.string) ∧ Below w.heap.size w (wr.setCell ⟨w.heap.size, k, none⟩ (Value.string x)) := by
        refine ⟨?_, hb.setCell (Nat.le_refl _) _⟩
        have h1 := (hown.stored k (Value.string x)).1
        rw [set_mid_toStrs_c _ _ x k hlen (by simp; omega)] at h1
        rw [List.take_succ_eq_append_getElem hkx, ← hX]
        rw [show n - (k + 1) = n - k - 1 by omega]
        simpa using h1
      have FIN := Lib.hid fin; clear fin hown hb hX hlen
      go_wp2
      go_roundw
      case rel => exact ⟨k + 1, by omega, by go_num, FIN.out⟩
      case measure => simp [intOf]; omega
    · obtain rfl : k = n := by omega
      have fin : Ret_toStrs_c xs w (.returned (.slice (some ⟨w.heap.size, 0, none⟩) k k)) wr := by
        refine ⟨some ⟨w.heap.size, 0, none⟩, k, by rw [HN.out], ?_, hb⟩
        rw [HN.out]
        rw [List.take_of_length_le (by rw [HN.out]; omega)] at hown
        simpa using hown
      have FIN := Lib.hid fin; clear fin hown hb
      go_wp2
      go_ret
      exact FIN.out

set_option maxHeartbeats 2000000 in
theorem szStrs_c (ls : List (List UInt8)) (A : Option Addr) (n c : Nat) (w : World) (hN : ls.length = n) (h : Rd w A (strs ls)) (hn : n ≤ maxLen) (hl : ∀ l ∈ ls, l.length ≤ maxLen) :
    Calls Tryz.prog 22 #[.slice A n c, .int .i64 1048576] w fun e w' => (∃ r : Int, e = .returned (.int .i64 r) ∧ (0 ≤ r → n ≤ 1048576 ∧ ∀ l ∈ ls, l.length ≤ 1048576)) ∧ w = w' := by
  unfold maxLen at hn
  by_cases hbig : 1048576 < n
  · have hd : decide ((1048576 : Int) - (n : Int) < 0) = true := decide_eq_true (by omega)
    have hw : IntKind.i64.wrap ((1048576 : Int) - (n : Int)) = (1048576 : Int) - (n : Int) := IntWalk.i64_in _ ⟨by omega, by omega⟩
    clear h hl hN
    go_enter Tryz.func22, Tryz.ntmps22
    go_wp2_with fail
    go_ret
    exact ⟨⟨-1, rfl, fun h => absurd h (by omega)⟩, rfl⟩
  · have hd : decide ((1048576 : Int) - (n : Int) < 0) = false := decide_eq_false (by omega)
    have hw : IntKind.i64.wrap ((1048576 : Int) - (n : Int)) = (1048576 : Int) - (n : Int) := IntWalk.i64_in _ ⟨by omega, by omega⟩
    have HN := Lib.hid hN; have H := Lib.hid h; have HL := Lib.hid hl
    clear hN h hl
    go_enter Tryz.func22, Tryz.ntmps22
    go_wp2_with fail
    go_loopw [1, 5] (fun v i wr => ∃ (j : Nat) (r : Int), j ≤ n ∧ i = .int .i64 j ∧ v = .int .i64 r ∧ 0 ≤ r ∧ r ≤ 1048576 ∧ (∀ l ∈ ls.take j, l.length ≤ 1048576) ∧ wr = w) (fun _ i _ => n - (intOf i).toNat)
    case atStart => exact ⟨0, _, Nat.zero_le _, rfl, rfl, by omega, by omega, by simp, rfl⟩
    case round =>
      obtain ⟨j, r, hj, rfl, rfl, hr0, hr1, hs, rfl⟩ := hrel
      have HS := Lib.hid hs; clear hs
      by_cases hlt : j < n
      · have hjl : j < ls.length := by have := HN.out; omega
        obtain ⟨b, off, hA, hbl, hc⟩ := H.out.block (by simp [strs]; omega)
        subst hA
        obtain ⟨q, hQ⟩ : ∃ q, q = ls[j] := ⟨_, rfl⟩
        obtain ⟨B, hB⟩ : ∃ B, B = bsof q := ⟨_, rfl⟩
        have hcq : wr.cell? ⟨b, off + j, none⟩ = some (.string B) := hc j _ (by unfold strs; rw [List.getElem?_map, List.getElem?_eq_getElem hjl, hB, hQ]; rfl)
        have hql : q.length ≤ maxLen := by rw [hQ]; exact HL.out _ (List.getElem_mem hjl)
        have hBs : B.size = q.length := by rw [hB, bsof_size]
        unfold maxLen at hql
        rw [← hBs] at hql
        have hd1 : decide ((j : Int) < (n : Int)) = true := decide_eq_true (by omega)
        have hw1 : IntKind.i64.wrap (r - (B.size : Int)) = r - (B.size : Int) := IntWalk.i64_in _ ⟨by omega, by omega⟩
        have HST : Hid (B.size ≤ 1048576 → ∀ l ∈ ls.take (j + 1), l.length ≤ 1048576) := by
          intro hq l hl
          rw [take_snoc ls j hjl] at hl
          rcases List.mem_append.1 hl with hl | hl
          · exact HS.out l hl
          · simp only [List.mem_singleton] at hl
            subst hl
            rw [← hQ, ← hBs]; exact hq
        clear hc hQ hB hBs
        by_cases hneg : r - (B.size : Int) < 0
        · have hd2 : decide (r - (B.size : Int) < 0) = true := decide_eq_true hneg
          clear hneg
          go_wp2_with fail
          go_ret
          exact ⟨⟨-1, rfl, fun h => absurd h (by omega)⟩, rfl⟩
        · have hd2 : decide (r - (B.size : Int) < 0) = false := decide_eq_false hneg
          have hqs : B.size ≤ 1048576 := by omega
          go_wp2_with fail
          go_roundw
          case rel => exact ⟨j + 1, _, by omega, by go_num, rfl, by omega, by omega, HST.out hqs, by first | rfl | trivial⟩
          case measure => simp [intOf]; omega
      · obtain rfl : j = n := by omega
        have HST : Hid (∀ l ∈ ls, l.length ≤ 1048576) := by
          intro l hl
          have := HS.out l
          rw [List.take_of_length_le (by have := HN.out; omega)] at this
          exact this hl
        clear HS
        go_wp2_with fail
        go_ret
        exact ⟨⟨r, rfl, fun _ => ⟨by omega, HST.out⟩⟩, rfl⟩
set_option maxHeartbeats 2000000 in
theorem eqStrs_c (ls : List (List UInt8)) (A : Option Addr) (n c : Nat) (B : Option Addr) (d : Nat) (w : World) (hN : ls.length = n) (h : Rd w A (strs ls)) (h' : Rd w B (strs ls)) (hn : n ≤ 1073741824) :
    Calls Tryz.prog 26 #[.slice A n c, .slice B n d] w fun e w' => e = .returned (.bool true) ∧ ∃ k, w' = w.drewN k := by
  have HN := Lib.hid hN; have H := Lib.hid h; have H' := Lib.hid h'
  clear hN h h'
  go_enter Tryz.func26, Tryz.ntmps26
  go_wp2_with fail
  go_loopw [5] (fun i wr => ∃ k q : Nat, k ≤ n ∧ i = .int .i64 k ∧ wr = w.drewN q) (fun i _ => n - (intOf i).toNat)
  case atStart => exact ⟨0, 0, Nat.zero_le _, rfl, rfl⟩
  case round =>
    obtain ⟨k, q, hk, rfl, rfl⟩ := hrel
    by_cases hlt : k < n
    · have hkl : k < ls.length := by have := HN.out; omega
      obtain ⟨b, off, hA, hbl, hc⟩ := H.out.block (by simp [strs]; omega)
      obtain ⟨b', off', hB, hbl', hc'⟩ := H'.out.block (by simp [strs]; omega)
      subst hA hB
      obtain ⟨x, hX⟩ : ∃ x, x = bsof (ls[k]'hkl) := ⟨_, rfl⟩
      have hx : w.cell? ⟨b, off + k, none⟩ = some (.string x) := hc k _ (by unfold strs; rw [List.getElem?_map, List.getElem?_eq_getElem hkl, hX]; rfl)
      have hy : w.cell? ⟨b', off' + k, none⟩ = some (.string x) := hc' k _ (by unfold strs; rw [List.getElem?_map, List.getElem?_eq_getElem hkl, hX]; rfl)
      clear hc hc' hX
      go_wp2
      go_quiet (fail)
      go_wp2
      go_roundw
      case rel => exact ⟨k + 1, q + nq, by omega, by go_num, rfl⟩
      case measure => simp [intOf]; omega
    · obtain rfl : k = n := by omega
      go_wp2
      go_ret
      exact ⟨rfl, q, rfl⟩
section
variable {H : Type} {enc : TypeId × Value → H} {P : Program} {w : World} {base : Nat} {spare : Nat → Bool} {held : Bool}
theorem open_rd_strs {t e : TypeId} {len cap : Nat} {A : Option Addr} {d : DataW H} {p : List MemPlace}
    (ht : P.underlying t = some (.slice e)) (he : P.underlying e = some .string) (hC : P.cellsOf e = 1)
    (h : DataW.Trod enc P w base spare held t (.slice A len cap) d p) :
    ∃ xs : List (List UInt8), xs.length = len ∧ len ≤ cap ∧ cap ≤ maxLen ∧ Rd w A (strs xs) ∧ ∀ x ∈ xs, x.length ≤ maxLen := by
  obtain ⟨fuel, hf⟩ := h
  exact open_rd (α := List UInt8) (fun p => Value.string (bsof p)) (fun x => x.length ≤ maxLen) ht hC (fun n v y hy => by
    obtain ⟨s, hs, _, hw⟩ := DataW.trod_string he hy
    refine ⟨s.data.toList, ?_, by rw [Array.length_toList]; exact hw⟩
    rw [bsof_data]
    simpa using hs) hf
end
end Go.Proofs.YtnmgnhpagnjhlaaGreatDoor
