/- Lists of settings: slices of slices of pairs. Contracts of the laws' own functions on them. -/
import Derived.Test.YtmphjojhfmikeaaSets
set_option linter.unusedVariables false
set_option linter.unusedSimpArgs false
set_option linter.unnecessarySimpa false
namespace Go.Proofs.Ytmphjojhfmikeaa
open Go.RowKit

/-- One list: its address, its room, its pairs. -/
abbrev El := Option Addr × Nat × List Pr
def cellE (e : El) : Value := .slice e.1 e.2.2.length e.2.1
/-- The slice address A reads as these lists. -/
def RdN (w : World) (A : Option Addr) (es : List El) : Prop := Rd w A (es.map cellE) ∧ ∀ e ∈ es, Rd w e.1 (sc e.2.2)
theorem RdN.below {w w' : World} {A : Option Addr} {es : List El} (h : RdN w A es) (hb : Below w.heap.size w w') : RdN w' A es := ⟨h.1.below hb, fun e he => (h.2 e he).below hb⟩
theorem RdN.at_ {w : World} {A : Option Addr} {es : List El} (h : RdN w A es) (hn : 0 < es.length) :
    ∃ b off, A = some ⟨b, off, none⟩ ∧ b < w.heap.size ∧ ∀ j (hj : j < es.length), w.cell? ⟨b, off + j, none⟩ = some (.slice es[j].1 es[j].2.2.length es[j].2.1) := by
  obtain ⟨b, off, e, hlt, hc⟩ := h.1.block (by simpa using hn)
  exact ⟨b, off, e, hlt, fun j hj => hc j _ (by rw [List.getElem?_map, List.getElem?_eq_getElem hj]; rfl)⟩
set_option maxRecDepth 100000 in
set_option maxHeartbeats 2000000 in
theorem szSS_c (es : List El) (A : Option Addr) (n c : Nat) (w : World) (hN : es.length = n) (h : RdN w A es) (hn : n ≤ 9223372036854775807) (hes : ∀ e ∈ es, e.2.2.length ≤ 9223372036854775807) :
    Calls Try.prog 4 #[.slice A n c, .int .i64 1048576] w fun e w' => (∃ r : Int, e = .returned (.int .i64 r) ∧ (r < 0 ∨ (0 ≤ r ∧ r ≤ 1048576 ∧ n ≤ 1048576 ∧ ∀ x ∈ es, x.2.2.length ≤ 1048576))) ∧ w = w' := by
  have HN := Lib.hid hN; have H := Lib.hid h; have HES := Lib.hid hes; clear hN h hes
  by_cases hbig : (1048576 : Int) < (n : Int)
  · go_enter Try.func4, Try.ntmps4
    go_wp2_with fail
    go_ret
    exact ⟨⟨-1, rfl, .inl (by omega)⟩, rfl⟩
  · have hn2 : n ≤ 1048576 := by omega
    have hd0 : decide (1048576 - (n : Int) < 0) = false := decide_eq_false (by omega)
    go_enter Try.func4, Try.ntmps4
    go_wp2_with fail
    go_loopw [1, 5] (fun l i wr => ∃ (j : Nat) (v : Int), j ≤ n ∧ i = .int .i64 j ∧ l = .int .i64 v ∧ 0 ≤ v ∧ v ≤ 1048576 ∧ (∀ x ∈ es.take j, x.2.2.length ≤ 1048576) ∧ wr = w) (fun _ i _ => n - (intOf i).toNat)
    case atStart => exact ⟨0, 1048576 - (n : Int), Nat.zero_le _, rfl, rfl, by omega, by omega, by simp, rfl⟩
    case round =>
      obtain ⟨j, v, hj, rfl, rfl, hv0, hv1, hall, hw⟩ := hrel
      subst hw
      have HA := Lib.hid hall; clear hall
      by_cases hlt : j < n
      · have hjx : j < es.length := by have := HN.out; omega
        obtain ⟨b, off, hA, hbl, hc⟩ := H.out.at_ (by omega)
        subst hA
        have hcj := hc j hjx
        obtain ⟨x, hX⟩ : ∃ x, x = es[j] := ⟨_, rfl⟩
        rw [← hX] at hcj
        have hxl : x.2.2.length ≤ 9223372036854775807 := by rw [hX]; exact HES.out _ (List.getElem_mem hjx)
        obtain ⟨m, hm⟩ : ∃ m, m = x.2.2.length := ⟨_, rfl⟩
        rw [← hm] at hcj hxl
        have htk : es.take (j + 1) = es.take j ++ [x] := by rw [take_snoc es j hjx, hX]
        have HTK := Lib.hid htk; have HM := Lib.hid hm
        have hcall := szS_c x.1 m x.2.1 v wr hxl hv0 hv1
        clear hc hX htk hm
        by_cases hov : v < (m : Int)
        · rw [if_pos hov] at hcall
          have HC := Lib.hid hcall
          clear hcall hov
          go_wp2_with fail
          refine HC.out.mono ?_
          rintro e w1 ⟨rfl, rfl⟩
          go_wp2_with fail
          go_ret
          exact ⟨⟨-1, rfl, .inl (by omega)⟩, rfl⟩
        · rw [if_neg hov] at hcall
          obtain ⟨u, hu⟩ : ∃ u, u = v - (m : Int) := ⟨_, rfl⟩
          rw [← hu] at hcall
          have hu0 : 0 ≤ u := by omega
          have hu1 : u ≤ 1048576 := by omega
          have hm1 : m ≤ 1048576 := by omega
          have hd : decide (u < 0) = false := decide_eq_false (by omega)
          have HC := Lib.hid hcall
          clear hcall hov hu
          go_wp2_with fail
          refine HC.out.mono ?_
          rintro e w1 ⟨rfl, rfl⟩
          go_wp2_with fail
          go_roundw
          case rel => exact ⟨j + 1, u, by omega, by go_num, rfl, hu0, hu1, by
            rw [HTK.out]
            intro y hy
            rcases List.mem_append.1 hy with hy | hy
            · exact HA.out y hy
            · simp only [List.mem_singleton] at hy; subst hy; rw [← HM.out]; exact hm1, by first | rfl | trivial⟩
          case measure => simp [intOf]; omega
      · obtain rfl : j = n := by omega
        have hall := HA.out
        rw [List.take_of_length_le (by rw [HN.out]; exact Nat.le_refl _)] at hall
        have HA2 := Lib.hid hall
        clear hall
        go_wp2_with fail
        go_ret
        exact ⟨⟨v, rfl, .inr ⟨hv0, hv1, hn2, HA2.out⟩⟩, by first | rfl | trivial⟩
theorem ssInfo : (Try.prog.info? 29).map (fun i => (i.zero, i.size, i.bytes)) = some (some (.slice none 0 0), 1, 24) := by kernel_rfl
/-- Copies of these lists in new memory. -/
def RetSS (xss : List (List Pr)) (w : World) (e : Ending) (w' : World) : Prop :=
  ∃ A c es, e = .returned (.slice A xss.length c) ∧ es.map (·.2.2) = xss ∧ RdN w' A es ∧ Below w.heap.size w w'
theorem set_one {α : Type} : ∀ (a : List α) (z u : α) (r : List α), (a ++ z :: r).set a.length u = (a ++ [u]) ++ r
  | [], z, u, r => rfl
  | x :: a, z, u, r => by simp only [List.cons_append, List.length_cons, List.set_cons_succ]; rw [set_one a z u r]
set_option maxRecDepth 100000 in
set_option maxHeartbeats 2000000 in
theorem toSS_c (es : List El) (A : Option Addr) (n c : Nat) (w : World) (hN : es.length = n) (h : RdN w A es) (hn : n ≤ 1073741824) (hes : ∀ e ∈ es, e.2.2.length ≤ 1073741824) :
    Calls Try.prog 7 #[.slice A n c] w (RetSS (es.map (·.2.2)) w) := by
  have HN := Lib.hid hN; have H := Lib.hid h; have HES := Lib.hid hes; clear hN h hes
  obtain ⟨i0, hi, hz0, hz1, hz2⟩ := info_parts ssInfo
  go_enter Try.func7, Try.ntmps7
  go_wp2_with (at_make; refine wpList_make_full _ rfl (.tmp 6) (.tmp 6) 27 rfl w.heap.size 29 i0 (.slice none 0 0) 1 Try.underlying27 hi hz0 hz1 .i64 .i64 n n n rfl rfl rfl rfl ?b2 ?b3 ?b4 ?_)
  case b2 => rw [hz2]; omega
  case b3 => unfold maxLen; omega
  case b4 => exact Nat.le_refl _
  intro w1 hown1 hg1
  obtain ⟨Z, hZ⟩ : ∃ Z, Z = (madeCells #[.slice none 0 0] n).toList := ⟨_, rfl⟩
  have hown2 : w1.ownsRow w.heap.size 29 1 (.slice (some ⟨w.heap.size, 0, none⟩) n n) n Z := by
    rw [hZ]; first | exact hown1 | (rw [Nat.mul_one] at hown1; exact hown1)
  have row1 := Row.of_own hown2
  have hzl : Z.length = n := by have := row1.len; omega
  have hs1 : w.heap.size + 1 ≤ w1.heap.size ∨ n = 0 := by
    rcases Nat.eq_zero_or_pos n with h | h
    · exact .inr h
    · obtain ⟨g, off, hA, _, hlt, _⟩ := row1.form h
      injection hA with hA; injection hA with h1 h2
      exact .inl (by omega)
  have ROW1 := Lib.hid row1
  have hb1 : Below w.heap.size w w1 := (Below.refl _ _).grown hg1 (Nat.le_refl _) (fun k hk => by cases hk)
  have HB1 := Lib.hid hb1; have HZL := Lib.hid hzl; have HS1 := Lib.hid hs1
  clear hown1 hown2 hg1 hZ row1 hb1 hzl hs1
  go_wp2_with fail
  go_loopw [4] (fun i wr => ∃ (k : Nat) (ds : List El), k ≤ n ∧ i = .int .i64 k ∧ ds.map (·.2.2) = (es.take k).map (·.2.2) ∧ Row wr w.heap.size 29 1 (some ⟨w.heap.size, 0, none⟩) n n (ds.map cellE ++ Z.drop k) ∧ (∀ d ∈ ds, Frd wr (w.heap.size + 1) d.1 (sc d.2.2)) ∧ w1.heap.size ≤ wr.heap.size ∧ Below w.heap.size w wr) (fun i _ => n - (intOf i).toNat)
  case atStart => exact ⟨0, [], Nat.zero_le _, rfl, rfl, by simpa using ROW1.out, by simp, Nat.le_refl _, HB1.out⟩
  case round =>
    clear ROW1 HB1
    obtain ⟨k, ds, hk, rfl, hds, row, hfd, hsw, hb⟩ := hrel
    have hdl : ds.length = k := by
      have := congrArg List.length hds
      rw [List.length_map, List.length_map, List.length_take, HN.out] at this
      omega
    have HDS := Lib.hid hds; have HFD := Lib.hid hfd; have HDL := Lib.hid hdl
    have HB := Lib.hid hb; have ROW := Lib.hid row
    clear hds hfd hdl
    by_cases hlt : k < n
    · have hkx : k < es.length := by have := HN.out; omega
      obtain ⟨b, off, hA, hbl, hc⟩ := (H.out.below hb).at_ (by omega)
      subst hA
      obtain ⟨x, hX⟩ : ∃ x, x = es[k] := ⟨_, rfl⟩
      have hcx := hc k hkx
      rw [← hX] at hcx
      have hxl : x.2.2.length ≤ 1073741824 := by rw [hX]; exact HES.out _ (List.getElem_mem hkx)
      have hrd : Rd wr x.1 (sc x.2.2) := by rw [hX]; exact (H.out.below hb).2 _ (List.getElem_mem hkx)
      have HC := Lib.hid (toSets_c x.2.2 x.1 x.2.2.length x.2.1 wr rfl hrd hxl)
      have HX := Lib.hid hX
      have hsz := hb.size
      clear hc row hb hX hrd
      go_wp2_with fail
      refine HC.out.mono ?_
      rintro e w2 ⟨A2, c2, rfl, r2, b2⟩
      have row2 := ROW.out.below b2
      have hb2 : Below w.heap.size w w2 := HB.out.trans (b2.mono HB.out.size)
      have hs2 := b2.size
      have hs3 : w.heap.size + 1 ≤ wr.heap.size := by
        rcases HS1.out with h | h
        · omega
        · omega
      obtain ⟨z, r, hz⟩ : ∃ z r, Z.drop k = z :: Z.drop (k + 1) ∧ r = Z.drop (k + 1) := by
        have hzk : k < Z.length := by rw [HZL.out]; exact hlt
        exact ⟨Z[k], _, List.drop_eq_getElem_cons hzk, rfl⟩
      have hsl : (ds.map cellE).length = k := by rw [List.length_map]; exact HDL.out
      have ho1 : w2.cell? ⟨w.heap.size, k, none⟩ = some z := by
        have := row2.cell (j := k) (u := z) (by rw [List.getElem?_append_right (by omega), hsl, hz.1]; simp)
        simpa using this
      have hf1 : w2.frozen? ⟨w.heap.size, k, none⟩ = false := row2.frozen (by omega) _
      obtain ⟨m, hm⟩ : ∃ m, m = x.2.2.length := ⟨_, rfl⟩
      rw [← hm]
      have fin : Row (w2.setCell ⟨w.heap.size, k, none⟩ (.slice A2 m c2)) w.heap.size 29 1 (some ⟨w.heap.size, 0, none⟩) n n ((ds ++ [(A2, c2, x.2.2)]).map cellE ++ Z.drop (k + 1)) ∧
          (∀ d ∈ ds ++ [(A2, c2, x.2.2)], Frd (w2.setCell ⟨w.heap.size, k, none⟩ (.slice A2 m c2)) (w.heap.size + 1) d.1 (sc d.2.2)) ∧ Below w.heap.size w (w2.setCell ⟨w.heap.size, k, none⟩ (.slice A2 m c2)) := by
        refine ⟨?_, ?_, hb2.setCell (Nat.le_refl _) _⟩
        · have h1 := row2.store k (.slice A2 m c2) (by omega)
          have h2 := set_one (ds.map cellE) z (.slice A2 m c2) (Z.drop (k + 1))
          rw [hsl] at h2
          rw [hz.1, h2] at h1
          have e : (ds ++ [(A2, c2, x.2.2)]).map cellE = ds.map cellE ++ [.slice A2 m c2] := by rw [List.map_append, hm]; rfl
          rw [e]
          simpa using h1
        · intro d hd
          have hst : w2.grownBy (w2.setCell ⟨w.heap.size, k, none⟩ (.slice A2 m c2)) (some w.heap.size) := only_setCell (World.grownBy.refl _ _) (.inl rfl) _
          rcases List.mem_append.1 hd with hd | hd
          · exact ((HFD.out d hd).below b2).grown hst (fun y hy => by injection hy; omega)
          · simp only [List.mem_singleton] at hd
            subst hd
            exact (r2.frd.mono hs3).grown hst (fun y hy => by injection hy; omega)
      have hnm : (ds ++ [(A2, c2, x.2.2)]).map (·.2.2) = (es.take (k + 1)).map (·.2.2) := by
        rw [List.map_append, HDS.out, take_snoc es k hkx, List.map_append, ← HX.out]; rfl
      have hs4 : w1.heap.size ≤ (w2.setCell ⟨w.heap.size, k, none⟩ (.slice A2 m c2)).heap.size := by simp [World.setCell]; omega
      have FIN := Lib.hid fin; have HNM := Lib.hid hnm; have HS4 := Lib.hid hs4
      clear fin row2 hb2 b2 ROW HB hsl hz r2 hm hnm hs4 hs2 hs3
      go_wp2_with fail
      go_roundw
      case rel => exact ⟨k + 1, _, by omega, by go_num, HNM.out, FIN.out.1, FIN.out.2.1, HS4.out, FIN.out.2.2⟩
      case measure => simp [intOf]; omega
    · obtain rfl : k = n := by omega
      have fin : RetSS (es.map (·.2.2)) w (.returned (.slice (some ⟨w.heap.size, 0, none⟩) k k)) wr := by
        have hds := HDS.out
        rw [List.take_of_length_le (by rw [HN.out]; omega)] at hds
        rw [List.drop_of_length_le (by rw [HZL.out]; omega), List.append_nil] at row
        exact ⟨some ⟨w.heap.size, 0, none⟩, k, ds, by rw [List.length_map, HN.out], hds, ⟨row.rd, fun d hd => (HFD.out d hd).rd⟩, hb⟩
      have FIN := Lib.hid fin; clear fin row hb
      go_wp2_with fail
      go_ret
      exact FIN.out
end Go.Proofs.Ytmphjojhfmikeaa
