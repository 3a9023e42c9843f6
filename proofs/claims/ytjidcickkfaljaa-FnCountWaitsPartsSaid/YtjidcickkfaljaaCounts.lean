/- Contracts of the functions on waits that make lists: AddCounts, CountWaits, WaitUnder. -/
import Derived.Test.YtjidcickkfaljaaWaits
import Derived.Test.YtjidcickkfaljaaInts
import Derived.Deep.RegionHeld3
set_option linter.unusedVariables false
set_option linter.unusedSimpArgs false
set_option linter.unnecessarySimpa false
namespace Go.Proofs.Ytjidcickkfaljaa
open Go.RowKit

/-- New memory that reads as these numbers is handed back, and a bool; what was there is as it was. -/
def RetIntsB (zs : List Int) (b : Bool) (w : World) (e : Ending) (w' : World) : Prop :=
  ∃ A c, e = .returned (.tuple #[.slice A zs.length c, .bool b]) ∧ w'.ownsRow w.heap.size 3 1 (.slice A zs.length c) zs.length (zs.map (.int .i64)) ∧ Below w.heap.size w w'
section
variable {P : Program} (w : World)
theorem step_append_any {ops : Array Oper} {o : Oper} {a : Act} {K : Act → World → Prop} {Q : Exit → Act → World → Prop} {E : Prop} (hgd : o.guard = none) (s x : Operand) (t : TypeId)
    (ho : o.op = .call { callee := .builtin .append, args := #[s, x], argTypes := #[t, t] })
    (base : Nat) (e : TypeId) (i : TypeInfo) (z : Value) (bytes : Nat) (ht : P.underlying t = some (.slice e)) (hi : P.info? e = some i) (hz : i.zero = some z)
    (hsize : i.size = 1) (hby : i.bytes = bytes) (hzs : z.cells.size = 1)
    (v : Value) (n : Nat) (xs : List Value) (hs : a.eval s = v) (hown : w.ownsRow base e 1 v n xs)
    (A : Option Addr) (m c : Nat) (news : List Value) (hx : a.eval x = .slice A m c) (hm : news.length = m) (hr : Rd w A news) (h1 : ∀ u ∈ news, u.oneCell' = true)
    (h63 : n + m ≤ maxLen) (hbytes : (n + m) * bytes ≤ 140737488355328) (hbase : base ≤ w.heap.size)
    (h : ∀ A' c' w', w'.ownsRow base e 1 (.slice A' (n + m) c') (n + m) (xs ++ news) → w.grownBy w' v.ownBlock → ((Value.slice A' (n + m) c').ownBlock = v.ownBlock ∨ (Value.slice A' (n + m) c').ownBlock = some w.heap.size) → K (a.put o.dst (.slice A' (n + m) c')) w') :
    if Region.wanted o (yielded ops a.tmps) = true then Oper.wp P o a w K Q else E := by
  have hw : Region.wanted o (yielded ops a.tmps) = true := by simp [Region.wanted, hgd]
  rw [if_pos hw]
  exact wp_append_any w s x t ho base e i z bytes ht hi hz hsize hby hzs v n xs hs hown A m c news hx hm hr h1 h63 hbytes hbase h
end

theorem addL_take (a b : List Int) (k : Nat) (ha : k < a.length) (hb : k < b.length) : addL (a.take (k + 1)) (b.take (k + 1)) = addL (a.take k) (b.take k) ++ [a[k] + b[k]] := by
  rw [List.take_succ_eq_append_getElem ha, List.take_succ_eq_append_getElem hb]
  unfold addL
  rw [List.zipWith_append (by simp; omega)]
  rfl
theorem addL_len (a b : List Int) (k : Nat) (ha : k ≤ a.length) (hb : k ≤ b.length) : (addL (a.take k) (b.take k)).length = k := by simp [addL]; omega

set_option maxRecDepth 100000 in
set_option maxHeartbeats 2000000 in
theorem sAddCounts_c (xs ys : List Int) (A : Option Addr) (n c : Nat) (A' : Option Addr) (n' c' : Nat) (w : World) (hN : xs.length = n) (h : Rd w A (xs.map (.int .i64))) (hn : n ≤ 1073741824) (hN' : ys.length = n') (h' : Rd w A' (ys.map (.int .i64))) (hn' : n' ≤ 1073741824) :
    Calls Try.prog 12 #[.slice A n c, .slice A' n' c'] w (RetIntsB (addCounts xs ys) (addOk xs ys) w) := by
  obtain ⟨i0, i0_i, i0_z0, i0_z1, i0_z2⟩ := info_parts intInfo
  have HN := Lib.hid hN; clear hN
  have HN' := Lib.hid hN'; clear hN'
  have H := Lib.hid h; clear h
  have H' := Lib.hid h'; clear h'
  obtain ⟨ka, hka⟩ : ∃ k, k = validCounts xs := ⟨_, rfl⟩
  obtain ⟨kb, hkb⟩ : ∃ k, k = validCounts ys := ⟨_, rfl⟩
  have bad : (ka = false ∨ kb = false ∨ validCounts (addL xs ys) = false) → ∀ W, Below w.heap.size w W → RetIntsB (addCounts xs ys) (addOk xs ys) w (.returned (.tuple #[.slice none 0 0, .bool false])) W := by
    intro hk W hW
    have ho : addOk xs ys = false := by
      unfold addOk
      rw [← hka, ← hkb]
      rcases hk with rfl | rfl | hk
      · simp
      · simp
      · simp [hk]
    have hz : addCounts xs ys = [] := by unfold addCounts; rw [ho]; rfl
    rw [hz, ho]
    exact ⟨none, 0, rfl, World.ownsRow_nil _ _ _ _, hW⟩
  have BAD := Lib.hid bad
  have HKA := Lib.hid hka
  have HKB := Lib.hid hkb
  clear bad hka hkb
  cases ka
  · go_enter Try.func12, Try.ntmps12
    go_wp2_with fail
    refine (svalidCounts_c xs _ _ _ _ HN.out (H.out.alloc _) hn).mono ?_
    rw [← HKA.out]
    rintro e w1 ⟨rfl, rfl⟩
    go_wp2_with fail
    go_ret2
    exact BAD.out (by simp) _ ((Below.refl _ _).alloc (Nat.le_refl _) _)
  · cases kb
    · go_enter Try.func12, Try.ntmps12
      go_wp2_with fail
      refine (svalidCounts_c xs _ _ _ _ HN.out (H.out.alloc _) hn).mono ?_
      rw [← HKA.out]
      rintro e w1 ⟨rfl, rfl⟩
      go_wp2_with fail
      refine (svalidCounts_c ys _ _ _ _ HN'.out (H'.out.alloc _) hn').mono ?_
      rw [← HKB.out]
      rintro e w1 ⟨rfl, rfl⟩
      go_wp2_with fail
      go_ret2
      exact BAD.out (by simp) _ ((Below.refl _ _).alloc (Nat.le_refl _) _)
    · obtain ⟨hx8, hxb⟩ := (validCounts_iff xs).1 HKA.out.symm
      obtain ⟨hy8, hyb⟩ := (validCounts_iff ys).1 HKB.out.symm
      obtain rfl : n = 8 := by rw [← HN.out, hx8]
      obtain rfl : n' = 8 := by rw [← HN'.out, hy8]
      have HX8 := Lib.hid hx8; have HY8 := Lib.hid hy8; have HXB := Lib.hid hxb; have HYB := Lib.hid hyb
      clear hx8 hy8 hxb hyb
      go_enter Try.func12, Try.ntmps12
      go_wp2_with fail
      refine (svalidCounts_c xs _ _ _ _ HN.out (H.out.alloc _) hn).mono ?_
      rw [← HKA.out]
      rintro e w1 ⟨rfl, rfl⟩
      go_wp2_with fail
      refine (svalidCounts_c ys _ _ _ _ HN'.out (H'.out.alloc _) hn').mono ?_
      rw [← HKB.out]
      rintro e w1 ⟨rfl, rfl⟩
      go_wp2_with fail
      go_loopw [6, 7] (fun v i wr => ∃ (k : Nat) (A2 : Option Addr) (c2 : Nat), k ≤ 8 ∧ i = .int .i64 k ∧ v = .slice A2 k c2 ∧ wr.ownsRow w.heap.size 3 1 (.slice A2 k c2) k ((addL (xs.take k) (ys.take k)).map (.int .i64)) ∧ Below w.heap.size w wr) (fun _ i _ => 8 - (intOf i).toNat)
      case atStart => exact ⟨0, _, _, by omega, rfl, rfl, World.ownsRow_lit _ _ _ (Nat.le_refl _) (by simp [maxLen]) rfl, (Below.refl _ _).alloc (Nat.le_refl _) _⟩
      case round =>
        obtain ⟨k, A2, c2, hk, rfl, rfl, own, bb⟩ := hrel
        have hsb := bb.size
        by_cases hlt : k < 8
        · have hkx : k < xs.length := by rw [HX8.out]; exact hlt
          have hky : k < ys.length := by rw [HY8.out]; exact hlt
          obtain ⟨b, off, hA, hbw, hc⟩ := H.out.block (by simp; omega)
          obtain ⟨b', off', hA', hbw', hc'⟩ := H'.out.block (by simp; omega)
          subst hA hA'
          obtain ⟨x, hX⟩ : ∃ x, x = xs[k] := ⟨_, rfl⟩
          obtain ⟨y, hY⟩ : ∃ y, y = ys[k] := ⟨_, rfl⟩
          have hx : wr.cell? ⟨b, off + k, none⟩ = some (.int .i64 x) := (bb.cell (by exact hbw)).trans (hc _ _ (by simp [hX, hkx]))
          have hy : wr.cell? ⟨b', off' + k, none⟩ = some (.int .i64 y) := (bb.cell (by exact hbw')).trans (hc' _ _ (by simp [hY, hky]))
          have hxr := HXB.out x (by rw [hX]; exact List.getElem_mem hkx)
          have hyr := HYB.out y (by rw [hY]; exact List.getElem_mem hky)
          have hstep := addL_take xs ys k hkx hky
          rw [← hX, ← hY] at hstep
          have HST := Lib.hid hstep
          obtain ⟨hx0, hx1⟩ := hxr
          obtain ⟨hy0, hy1⟩ := hyr
          clear hstep hX hY hc hc'
          have hw : IntKind.i64.wrap (x + y) = x + y := IntWalk.i64_in _ ⟨by omega, by omega⟩
          have HW := Lib.hid hw; clear hw
          go_wp2
          go_region_held3 (fun w' => w'.cell? ⟨b, off + k, none⟩ = some (.int .i64 x) ∧ w'.cell? ⟨b', off' + k, none⟩ = some (.int .i64 y)) (first | go_keep | exact ⟨hg3.cell (by go_simp) (fun e => by have h9 : w.heap.size ≤ b := (own.lt _ e.symm).1; omega), hg3.cell (by go_simp) (fun e => by have h9 : w.heap.size ≤ b' := (own.lt _ e.symm).1; omega)⟩) ((refine step_append_any _ (by rfl) (.tmp 21) (.tmp 31) 22 (by rfl) w.heap.size 3 i0 (.int .i64 0) 8 Try.underlying22 i0_i i0_z0 i0_z1 i0_z2 rfl (.slice A2 k c2) k ((addL (xs.take k) (ys.take k)).map (.int .i64)) (by rfl) (own.alloc _).drew (some ⟨wr.heap.size, 0, none⟩) 1 1 [.int .i64 (IntKind.i64.wrap (x + y))] (by rfl) rfl (Rd.one (cell_new wr _ _ 0)) (one1 _ rfl) (by unfold maxLen; omega) (by omega) (by simp <;> omega) ?_; intro A3 c3 w3 own3 hg3 hat3))
          have b3 : Below w.heap.size w w3 := ((bb.alloc hsb _).drew).grown hg3 (by simp; omega) (fun y hy => (own.lt y hy).1)
          rw [HW.out] at own3
          rw [← List.map_singleton (f := Value.int .i64), ← List.map_append, ← HST.out] at own3
          clear hg3 hat3 own
          go_wp2
          go_round
          case rel => exact ⟨k + 1, A3, c3, by omega, by go_num, rfl, own3, b3⟩
          case measure => simp [intOf]; omega
        · obtain rfl : k = 8 := by omega
          rw [List.take_of_length_le (by rw [HX8.out]; omega), List.take_of_length_le (by rw [HY8.out]; omega)] at own
          have hl : (addL xs ys).length = 8 := by unfold addL; rw [List.length_zipWith, HX8.out, HY8.out]; rfl
          obtain ⟨kc, hkc⟩ : ∃ k, k = validCounts (addL xs ys) := ⟨_, rfl⟩
          have good : kc = true → RetIntsB (addCounts xs ys) (addOk xs ys) w (.returned (.tuple #[.slice A2 8 c2, .bool true])) wr := by
            intro e
            subst e
            have ho : addOk xs ys = true := by
              unfold addOk
              rw [← HKA.out, ← HKB.out, ← hkc]; rfl
            have hz : addCounts xs ys = addL xs ys := by unfold addCounts; rw [ho]; rfl
            rw [hz, ho]
            exact ⟨A2, c2, by rw [hl], by rw [hl]; exact own, bb⟩
          have GOOD := Lib.hid good
          have HKC := Lib.hid hkc
          have HV := Lib.hid (svalidCounts_c (addL xs ys) A2 8 c2 wr hl (Rd.of_own own) (by omega))
          clear good hkc own hl
          cases kc
          · go_wp2_with fail
            refine HV.out.mono ?_
            rw [← HKC.out]
            rintro e w1 ⟨rfl, rfl⟩
            go_wp2_with fail
            go_ret2
            exact BAD.out (.inr (.inr HKC.out.symm)) _ bb
          · go_wp2_with fail
            refine HV.out.mono ?_
            rw [← HKC.out]
            rintro e w1 ⟨rfl, rfl⟩
            go_wp2_with fail
            go_ret2
            exact GOOD.out trivial
end Go.Proofs.Ytjidcickkfaljaa
