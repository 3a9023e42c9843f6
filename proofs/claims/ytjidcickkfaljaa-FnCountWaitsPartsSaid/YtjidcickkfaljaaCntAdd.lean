/- Contract of AddCounts of the program. -/
import Derived.Test.YtjidcickkfaljaaCounts
set_option linter.unusedVariables false
set_option linter.unusedSimpArgs false
set_option linter.unnecessarySimpa false
namespace Go.Proofs.Ytjidcickkfaljaa
open Go.RowKit

/-- Eight zeros made anew. -/
theorem make8 : ∀ w : World, (Instr.makeSlice 22 (.int .i64 8) (.int .i64 8)).run Try.prog w = .ok (.slice (some ⟨w.heap.size, 0, none⟩) 8 8) (w.alloc (.cells #[.int .i64 0, .int .i64 0, .int .i64 0, .int .i64 0, .int .i64 0, .int .i64 0, .int .i64 0, .int .i64 0] 3)) := fun _ => by kernel_rfl
theorem own8 (w : World) {B : Nat} (hB : B ≤ w.heap.size) : (w.alloc (.cells #[.int .i64 0, .int .i64 0, .int .i64 0, .int .i64 0, .int .i64 0, .int .i64 0, .int .i64 0, .int .i64 0] 3)).ownsRow B 3 1 (.slice (some ⟨w.heap.size, 0, none⟩) 8 8) 8 ((List.replicate 8 (0 : Int)).map (.int .i64)) :=
  World.ownsRow_lit w _ 8 hB (by simp [maxLen]) rfl
theorem set_at (a b : List Int) (k : Nat) (v : Int) (ha : a.length = k) (hb : 0 < b.length) : ((a ++ b).map (Value.int .i64)).set k (.int .i64 v) = ((a ++ [v]) ++ b.drop 1).map (.int .i64) := by
  subst ha
  cases b with
  | nil => simp at hb
  | cons x b => simp
theorem addL_rep (xs ys : List Int) (k : Nat) (hx : k < xs.length) (hy : k < ys.length) (h8 : k < 8) :
    ((addL (xs.take k) (ys.take k) ++ List.replicate (8 - k) 0).map (Value.int .i64)).set k (.int .i64 (xs[k] + ys[k])) = (addL (xs.take (k + 1)) (ys.take (k + 1)) ++ List.replicate (8 - (k + 1)) 0).map (.int .i64) := by
  rw [set_at _ _ _ _ (addL_len xs ys k (by omega) (by omega)) (by simp; omega), addL_take xs ys k hx hy]
  congr 2
  simp
  omega

set_option maxRecDepth 100000 in
set_option maxHeartbeats 2000000 in
theorem addCounts_c (xs ys : List Int) (A : Option Addr) (n c : Nat) (A' : Option Addr) (n' c' : Nat) (w : World) (hN : xs.length = n) (h : Rd w A (xs.map (.int .i64))) (hn : n ≤ 1073741824) (hN' : ys.length = n') (h' : Rd w A' (ys.map (.int .i64))) (hn' : n' ≤ 1073741824) :
    Calls Try.prog 14 #[.slice A n c, .slice A' n' c'] w (RetIntsB (addCounts xs ys) (addOk xs ys) w) := by
  have HN := Lib.hid hN; clear hN
  have HN' := Lib.hid hN'; clear hN'
  have H := Lib.hid h; clear h
  have H' := Lib.hid h'; clear h'
  obtain ⟨ka, hka⟩ : ∃ k, k = validCounts xs := ⟨_, rfl⟩
  obtain ⟨kb, hkb⟩ : ∃ k, k = validCounts ys := ⟨_, rfl⟩
  have bad : (ka = false ∨ kb = false ∨ validCounts (addL xs ys) = false) → ∀ W, Below w.heap.size w W → RetIntsB (addCounts xs ys) (addOk xs ys) w (.returned (.tuple #[.slice none 0 0, .bool false])) W := by
    intro hk W hW
    have ho : addOk xs ys = false := by
      unfold addOk
      rw [← hka, ← hkb]
      rcases hk with rfl | rfl | hk
      · simp
      · simp
      · simp [hk]
    have hz : addCounts xs ys = [] := by unfold addCounts; rw [ho]; rfl
    rw [hz, ho]
    exact ⟨none, 0, rfl, World.ownsRow_nil _ _ _ _, hW⟩
  have BAD := Lib.hid bad
  have HKA := Lib.hid hka
  have HKB := Lib.hid hkb
  clear bad hka hkb
  cases ka
  · go_enter Try.func14, Try.ntmps14
    go_wp2_with fail
    refine (validCounts_c xs _ _ _ _ HN.out H.out hn).mono ?_
    rw [← HKA.out]
    rintro e w1 ⟨rfl, b1⟩
    go_wp2_with fail
    go_ret2
    exact BAD.out (by simp) _ b1
  · cases kb
    · go_enter Try.func14, Try.ntmps14
      go_wp2_with fail
      refine (validCounts_c xs _ _ _ _ HN.out H.out hn).mono ?_
      rw [← HKA.out]
      rintro e w1 ⟨rfl, b1⟩
      go_wp2_with fail
      refine (validCounts_c ys _ _ _ _ HN'.out (H'.out.below b1) hn').mono ?_
      rw [← HKB.out]
      rintro e w2 ⟨rfl, b2⟩
      go_wp2_with fail
      go_ret2
      exact BAD.out (by simp) _ (b1.trans (b2.mono b1.size))
    · obtain ⟨hx8, hxb⟩ := (validCounts_iff xs).1 HKA.out.symm
      obtain ⟨hy8, hyb⟩ := (validCounts_iff ys).1 HKB.out.symm
      obtain rfl : n = 8 := by rw [← HN.out, hx8]
      obtain rfl : n' = 8 := by rw [← HN'.out, hy8]
      have HX8 := Lib.hid hx8; have HY8 := Lib.hid hy8; have HXB := Lib.hid hxb; have HYB := Lib.hid hyb
      clear hx8 hy8 hxb hyb
      have hmk := make8
      go_enter Try.func14, Try.ntmps14
      go_wp2_with fail
      refine (validCounts_c xs _ _ _ _ HN.out H.out hn).mono ?_
      rw [← HKA.out]
      rintro e w1 ⟨rfl, b1⟩
      go_wp2_with fail
      refine (validCounts_c ys _ _ _ _ HN'.out (H'.out.below b1) hn').mono ?_
      rw [← HKB.out]
      rintro e w2 ⟨rfl, b2'⟩
      have b2 := b1.trans (b2'.mono b1.size)
      have hs2 := b2.size
      clear b1 b2'
      go_wp2_with fail
      go_loopw [19] (fun i wr => ∃ (k : Nat), k ≤ 8 ∧ i = .int .i64 k ∧ wr.ownsRow w.heap.size 3 1 (.slice (some ⟨w2.heap.size, 0, none⟩) 8 8) 8 ((addL (xs.take k) (ys.take k) ++ List.replicate (8 - k) 0).map (.int .i64)) ∧ Below w.heap.size w wr) (fun i _ => 8 - (intOf i).toNat)
      case atStart => exact ⟨0, by omega, rfl, own8 w2 hs2, b2.alloc hs2 _⟩
      case round =>
        obtain ⟨k, hk, rfl, own, bb⟩ := hrel
        clear b2
        have hsb := bb.size
        by_cases hlt : k < 8
        · have hkx : k < xs.length := by rw [HX8.out]; exact hlt
          have hky : k < ys.length := by rw [HY8.out]; exact hlt
          obtain ⟨b, off, hA, hbw, hc⟩ := H.out.block (by simp; omega)
          obtain ⟨b', off', hA', hbw', hc'⟩ := H'.out.block (by simp; omega)
          subst hA hA'
          obtain ⟨x, hX⟩ : ∃ x, x = xs[k] := ⟨_, rfl⟩
          obtain ⟨y, hY⟩ : ∃ y, y = ys[k] := ⟨_, rfl⟩
          have hx : wr.cell? ⟨b, off + k, none⟩ = some (.int .i64 x) := (bb.cell (by exact hbw)).trans (hc _ _ (by simp [hX, hkx]))
          have hy : wr.cell? ⟨b', off' + k, none⟩ = some (.int .i64 y) := (bb.cell (by exact hbw')).trans (hc' _ _ (by simp [hY, hky]))
          have hxr := HXB.out x (by rw [hX]; exact List.getElem_mem hkx)
          have hyr := HYB.out y (by rw [hY]; exact List.getElem_mem hky)
          obtain ⟨hx0, hx1⟩ := hxr
          obtain ⟨hy0, hy1⟩ := hyr
          have ho : ∃ u, wr.cell? ⟨w2.heap.size, k, none⟩ = some u := ⟨_, (own.cellAt k (by omega)).trans (List.getElem?_eq_getElem (by rw [List.length_map, List.length_append, addL_len xs ys k (by omega) (by omega)]; simp; omega))⟩
          obtain ⟨u, ho⟩ := ho
          have hfr : wr.frozen? ⟨w2.heap.size, k, none⟩ = false := own.frozenAt k
          have fin : ((wr.setCell ⟨w2.heap.size, k, none⟩ (.int .i64 (x + y))).drew).ownsRow w.heap.size 3 1 (.slice (some ⟨w2.heap.size, 0, none⟩) 8 8) 8 ((addL (xs.take (k + 1)) (ys.take (k + 1)) ++ List.replicate (8 - (k + 1)) 0).map (.int .i64)) ∧ Below w.heap.size w ((wr.setCell ⟨w2.heap.size, k, none⟩ (.int .i64 (x + y))).drew) := by
            refine ⟨?_, (bb.setCell hs2 _).drew⟩
            have h1 := (own.stored k (.int .i64 (x + y))).1
            rw [hX, hY, addL_rep xs ys k hkx hky hlt] at h1
            rw [hX, hY]
            exact h1
          have FIN := Lib.hid fin
          clear fin hX hY hc hc' own bb
          go_wp2
          go_region
          go_wp2
          go_roundw
          case rel => exact ⟨k + 1, by omega, by go_num, FIN.out⟩
          case measure => simp [intOf]; omega
        · obtain rfl : k = 8 := by omega
          rw [List.take_of_length_le (by rw [HX8.out]; omega), List.take_of_length_le (by rw [HY8.out]; omega)] at own
          simp only [Nat.sub_self, List.replicate_zero, List.append_nil] at own
          have hl : (addL xs ys).length = 8 := by unfold addL; rw [List.length_zipWith, HX8.out, HY8.out]; rfl
          obtain ⟨kc, hkc⟩ : ∃ k, k = validCounts (addL xs ys) := ⟨_, rfl⟩
          have good : kc = true → ∀ W, Below wr.heap.size wr W → RetIntsB (addCounts xs ys) (addOk xs ys) w (.returned (.tuple #[.slice (some ⟨w2.heap.size, 0, none⟩) 8 8, .bool true])) W := by
            intro e W hW
            subst e
            have ho : addOk xs ys = true := by
              unfold addOk
              rw [← HKA.out, ← HKB.out, ← hkc]; rfl
            have hz : addCounts xs ys = addL xs ys := by unfold addCounts; rw [ho]; rfl
            rw [hz, ho]
            exact ⟨_, 8, by rw [hl], by rw [hl]; exact own_below own hW, bb.trans (hW.mono bb.size)⟩
          have GOOD := Lib.hid good
          have HKC := Lib.hid hkc
          have HV := Lib.hid (validCounts_c (addL xs ys) (some ⟨w2.heap.size, 0, none⟩) 8 8 wr hl (Rd.of_own own) (by omega))
          clear good hkc own hl
          cases kc
          · go_wp2_with fail
            refine HV.out.mono ?_
            rw [← HKC.out]
            rintro e w1 ⟨rfl, b4⟩
            go_wp2_with fail
            go_ret2
            exact BAD.out (.inr (.inr HKC.out.symm)) _ (bb.trans (b4.mono bb.size))
          · go_wp2_with fail
            refine HV.out.mono ?_
            rw [← HKC.out]
            rintro e w1 ⟨rfl, b4⟩
            go_wp2_with fail
            go_ret2
            exact GOOD.out trivial _ b4
end Go.Proofs.Ytjidcickkfaljaa
