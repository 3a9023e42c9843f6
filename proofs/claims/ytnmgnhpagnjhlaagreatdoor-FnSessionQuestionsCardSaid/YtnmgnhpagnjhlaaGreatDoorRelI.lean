/- What is held is taken out of a row: slices.Delete. A connection is given back: the program. -/
import Derived.Test.YtnmgnhpagnjhlaaGreatDoorAcqI
import Derived.Test.YtnmgnhpagnjhlaaGreatDoorRel
import Derived.Deep.RegionLaw
set_option linter.unusedVariables false
set_option linter.unusedSimpArgs false
set_option linter.unnecessarySimpa false
namespace Go.Proofs.YtnmgnhpagnjhlaaGreatDoor
section
open Go.RowKit

section
variable {P : Program} (w : World)
theorem run_append_none (t ty e : TypeId) (i : TypeInfo) (ht : P.underlying t = some (.slice e)) (hi : P.info? e = some i) (A : Option Addr) (n c : Nat) (hc0 : n ≤ c) (A' : Option Addr) (c' : Nat) :
    (Builtin.append_ #[t, t] ty #[.slice A n c, .slice A' 0 c']).run P w = .ok (.slice A n c) w := by
  have key : ∀ A' : Option Addr, (Builtin.firstCells i.size 0 (.slice A' 0 c')).run P w = .ok #[] w := by
    intro A'
    cases A' with
    | none => simp [Builtin.firstCells]
    | some a => simp [Builtin.firstCells, loadCells, loadCellsFrom]
  cases A with
  | none =>
    rcases A' with _ | a'
    · simp [Builtin.append_, run_underlying ht, sizeOf, typeInfo, hi, Builtin.lenOf, Builtin.firstCells, hc0, storeCells]
    · simp [Builtin.append_, run_underlying ht, sizeOf, typeInfo, hi, Builtin.lenOf, Builtin.firstCells, hc0, storeCells, loadCells, loadCellsFrom]
  | some a =>
    rcases A' with _ | a'
    · simp [Builtin.append_, run_underlying ht, sizeOf, typeInfo, hi, Builtin.lenOf, Builtin.firstCells, hc0, storeCells]
    · simp [Builtin.append_, run_underlying ht, sizeOf, typeInfo, hi, Builtin.lenOf, Builtin.firstCells, hc0, storeCells, loadCells, loadCellsFrom]
/-- append onto a row that has room. -/
theorem run_append_fit (B : Nat) (t ty e : TypeId) (i : TypeInfo) (z : Value) (size bytes : Nat) (ht : P.underlying t = some (.slice e)) (hi : P.info? e = some i) (hz : i.zero = some z)
    (hsize : i.size = size) (hby : i.bytes = bytes) (hzs : z.cells.size = size)
    (A : Option Addr) (n c : Nat) (xs : List Value) (hrow : Row w B e size A n c xs)
    (A' : Option Addr) (m c' : Nat) (news : List Value) (hl : news.length = m * size) (hr : Rd w A' news) (h1 : ∀ u ∈ news, u.oneCell' = true) (hsz : 0 < size)
    (h63 : n + m ≤ maxLen) (hbytes : (n + m) * bytes ≤ 140737488355328) (hbase : B ≤ w.heap.size) (hroom : n + m ≤ c) :
    ∃ w2, (Builtin.append_ #[t, t] ty #[.slice A n c, .slice A' m c']).run P w = .ok (.slice A (n + m) c) w2 ∧ Row w2 B e size A (n + m) c (xs ++ news) ∧ w.grownBy w2 (rb A c) := by
  rcases Nat.eq_zero_or_pos m with hm0 | hm0
  · subst hm0
    have hn : news = [] := List.eq_nil_of_length_eq_zero (by simpa using hl)
    subst hn
    exact ⟨w, run_append_none w t ty e i ht hi A n c hrow.2.1 A' c', by simpa using hrow, World.grownBy.refl _ _⟩
  · obtain ⟨A2, c2, w2, hrun, h2, h3, _, h5⟩ := run_append_row (P := P) w B t ty e i z size bytes ht hi hz hsize hby hzs A n c xs hrow A' m c' news hl hr h1 hsz h63 hbytes hbase
    obtain ⟨rfl, rfl⟩ := h5 hm0 hroom
    exact ⟨w2, hrun, h2, h3⟩
theorem step_append_fit {ops : Array Oper} {o : Oper} {a : Act} {K : Act → World → Prop} {Q : Exit → Act → World → Prop} {E : Prop} (hgd : o.guard = none) (s x : Operand) (t : TypeId)
    (ho : o.op = .call { callee := .builtin .append, args := #[s, x], argTypes := #[t, t] })
    (B : Nat) (e : TypeId) (i : TypeInfo) (z : Value) (size bytes : Nat) (ht : P.underlying t = some (.slice e)) (hi : P.info? e = some i) (hz : i.zero = some z)
    (hsize : i.size = size) (hby : i.bytes = bytes) (hzs : z.cells.size = size)
    (A : Option Addr) (n c : Nat) (xs : List Value) (hs : a.eval s = .slice A n c) (hrow : Row w B e size A n c xs)
    (A' : Option Addr) (m c' : Nat) (news : List Value) (hx : a.eval x = .slice A' m c') (hl : news.length = m * size) (hr : Rd w A' news) (h1 : ∀ u ∈ news, u.oneCell' = true) (hsz : 0 < size)
    (h63 : n + m ≤ maxLen) (hbytes : (n + m) * bytes ≤ 140737488355328) (hbase : B ≤ w.heap.size) (hroom : n + m ≤ c)
    (h : ∀ w2, Row w2 B e size A (n + m) c (xs ++ news) → w.grownBy w2 (rb A c) → K (a.put o.dst (.slice A (n + m) c)) w2) :
    if Region.wanted o (yielded ops a.tmps) = true then Oper.wp P o a w K Q else E := by
  have hw : Region.wanted o (yielded ops a.tmps) = true := by simp [Region.wanted, hgd]
  rw [if_pos hw]
  obtain ⟨w2, hrun, h2, h3⟩ := run_append_fit (P := P) w B t o.type e i z size bytes ht hi hz hsize hby hzs A n c xs hrow A' m c' news hl hr h1 hsz h63 hbytes hbase hroom
  unfold Oper.wp execOp
  simp only [ho, resolve, invoke, builtin, Sem.run_bind, Sem.run_pure, Result.andThen_ok, List.map_toArray, List.map_cons, List.map_nil, hs, hx, hrun]
  exact h w2 h2 h3
end
theorem list_ahead {α : Type} (L news : List α) (o k : Nat) (h : o + k ≤ L.length) (R : List α) : ((L.take (o + k) ++ news ++ R).drop o).take k = (L.drop o).take k := by
  have e1 : (L.take (o + k)).length = o + k := by rw [List.length_take]; omega
  rw [List.append_assoc, List.drop_append_of_le_length (by omega), List.drop_take, show o + k - o = k by omega]
  have e2 : ((L.drop o).take k).length = k := by rw [List.length_take, List.length_drop]; omega
  rw [List.take_append_of_le_length (by omega), List.take_take, Nat.min_self]
/-- The element behind a row is cleared: the row is as it was. -/
theorem run_clear_behind {P : Program} (w : World) (B : Nat) (t ty e : TypeId) (ht : P.underlying t = some (.slice e)) (hv : ∀ w, (zeroValue e).run P w = .ok (.agg #[.int .i64 0, .int .i64 0]) w)
    (g off n c : Nat) (xs : List Value) (hrow : Row w B e 2 (some ⟨g, off, none⟩) n c xs) (k c9 : Nat) (hk : k = 1) (hc : n + 1 ≤ c) :
    ∃ w2, (Builtin.clear_ #[t] ty #[.slice (some ⟨g, off + n * 2, none⟩) k c9]).run P w = .ok (.tuple #[]) w2 ∧ Row w2 B e 2 (some ⟨g, off, none⟩) n c xs ∧ w.grownBy w2 (some g) := by
  subst hk
  obtain ⟨g', off', cur, hA, hB, hg, hs, hx⟩ := hrow.2.2.2 (by omega)
  injection hA with hA; injection hA with e1 e2
  subst e1 e2
  have hfit : off + n * 2 + 2 ≤ cur.size := by omega
  have hst := run_storeCells_at P g (off + n * 2) e [.int .i64 0, .int .i64 0] 0 cur w hg (by simpa using hfit) (by simp [Value.oneCell'])
  simp only [Nat.add_zero] at hst
  have hzc : (Builtin.zeroCells (Value.agg #[.int .i64 0, .int .i64 0]).cells 1).toList = [.int .i64 0, .int .i64 0] := by simp [Builtin.zeroCells, Value.cells, Array.range, List.range, List.range.loop] <;> rfl
  refine ⟨w.setRow g (cur.toList.take (off + n * 2) ++ [Value.int .i64 0, Value.int .i64 0] ++ cur.toList.drop (off + n * 2 + 2)).toArray, ?_, ⟨hrow.1, hrow.2.1, hrow.2.2.1, fun _ => ⟨g, off, _, rfl, hB, setRow_heap w g cur _ e _ hg, ?_, ?_⟩⟩, ⟨rfl, rfl, rfl, by simp, fun k _ hk => setRow_other w g k _ (fun e => hk (by rw [e]))⟩⟩
  · simp [Builtin.clear_, run_underlying ht, hv, hzc, hst]
  · simp only [List.size_toArray, List.length_append, List.length_take, List.length_drop, Array.length_toList, List.length_cons, List.length_nil]
    omega
  · rw [← hx]
    exact list_ahead _ _ _ _ (by simp; omega) _
/-- What a deletion leaves. -/
def RetDel (B : Nat) (A : Option Addr) (c : Nat) (zs : List Pr) (w : World) (e : Ending) (w' : World) : Prop :=
  e = .returned (.slice A zs.length c) ∧ Row w' B 48 2 A zs.length c (sc zs) ∧ w.grownBy w' (rb A c)
set_option maxRecDepth 100000 in
set_option maxHeartbeats 4000000 in
theorem deleteH_c (hs : List Pr) (B : Nat) (A : Option Addr) (n c j : Nat) (w : World) (hN : hs.length = n) (hj : j < n) (hrow : Row w B 48 2 A n c (sc hs)) (hn : n ≤ 1000) (hB : B ≤ w.heap.size) :
    Calls Tryz.prog 118 #[.slice A n c, .int .i64 (j : Int), .int .i64 ((j : Int) + 1)] w (RetDel B A c (without hs j) w) := by
  obtain ⟨i0, i0_i, i0_z0, i0_z1, i0_z2⟩ := info_parts poolHoldInfo
  obtain ⟨b, off, hAe, hBb, hlt, hrb⟩ := hrow.form (by omega)
  subst hAe
  have hcm := hrow.max
  have hnc := hrow.le
  unfold maxLen at hcm
  have wl := without_len (hs := hs) (j := j) (by omega)
  obtain ⟨L1, hL1⟩ : ∃ L1, L1 = hs.take j := ⟨_, rfl⟩
  obtain ⟨L2, hL2⟩ : ∃ L2, L2 = hs.drop (j + 1) := ⟨_, rfl⟩
  have hw : without hs j = L1 ++ L2 := by rw [hL1, hL2]; rfl
  have hL1l : L1.length = j := by rw [hL1, List.length_take]; omega
  have hL2l : L2.length = n - (j + 1) := by rw [hL2, List.length_drop]; omega
  have R1 := Lib.hid (show Row w B 48 2 (some ⟨b, off, none⟩) j c (sc L1) by
    have := hrow.take j c (by omega) (by omega) (Nat.le_refl _)
    rw [hL1, ← sc_take]; exact this)
  obtain ⟨AD, hAD⟩ : ∃ AD, (if c = j + 1 then some (⟨b, off, none⟩ : Addr) else some ⟨b, off + (j + 1) * 2, none⟩) = AD := ⟨_, rfl⟩
  have CUT := Lib.hid (show Rd w AD (sc L2) by
    rw [← hAD]
    have h1 := (hrow.rd).cutH (k := j + 1) (n := n) (cap := c) (by omega) (by omega) (by omega)
    rw [hL2]
    simpa [add_none] using h1)
  obtain ⟨q, hq⟩ : ∃ q, q = n - (j + 1) := ⟨_, rfl⟩
  have hq1 : j + q + 1 = n := by omega
  have RES : Hid (∀ W, Row W B 48 2 (some ⟨b, off, none⟩) (j + q) c (sc L1 ++ sc L2) → w.grownBy W (rb (some ⟨b, off, none⟩) c) → RetDel B (some ⟨b, off, none⟩) c (without hs j) w (.returned (.slice (some ⟨b, off, none⟩) (j + q) c)) W) := by
    intro W h1 h2
    have e : (without hs j).length = j + q := by rw [hw, List.length_append]; omega
    refine ⟨by rw [e], ?_, h2⟩
    rw [e, hw, sc_append]; exact h1
  have hL2q : (sc L2).length = q * 2 := by rw [sc_len, hL2l, hq]
  have n1 := Lib.hid hL2q
  have HRB := Lib.hid hrb
  have hji : (0 : Int) ≤ (j : Int) := by omega
  have hjc : (j : Int) ≤ (c : Int) := by omega
  have hjn : (j : Int) + 1 ≤ (n : Int) := by omega
  have hncI : (n : Int) ≤ (c : Int) := by omega
  have hw1 : IntKind.i64.wrap ((j : Int) + 1) = (j : Int) + 1 := IntWalk.i64_in _ ⟨by omega, by omega⟩
  have heq : ((j : Int) == (j : Int) + 1) = false := beq_eq_false_iff_ne.2 (by omega)
  have hjj : (j : Int) ≤ (j : Int) + 1 := by omega
  have hj0 : (0 : Int) ≤ (j : Int) + 1 := by omega
  clear hL1 hL2 hw hL1l hL2l hrow hN wl hL2q hrb hq
  go_enter Tryz.func118, Tryz.ntmps118
  go_wp2_with fail
  go_region_law (refine step_append_fit _ (by rfl) (.tmp 22) (.tmp 25) 24 (by rfl) B 48 i0 (.agg #[.int .i64 0, .int .i64 0]) 2 16 Tryz.underlying24 i0_i i0_z0 i0_z1 i0_z2 rfl (some ⟨b, off, none⟩) j c (sc L1) (by rfl) R1.out.drew AD (n - (j + 1)) (c - (j + 1)) (sc L2) (by rfl) (by rw [n1.out, ← hq1]; omega) (CUT.out.drewN 1) (sc_one _) (by omega) (by unfold maxLen; omega) (by omega) (by simpa using hB) (by omega) ?_; intro w2 row2 hg2)
  have e1 : j + (n - (j + 1)) = j + q := by omega
  rw [e1] at row2 ⊢
  have hz : ∀ W : World, (zeroValue 48).run Tryz.prog W = .ok (.agg #[.int .i64 0, .int .i64 0]) W := fun W => by simp [zeroValue, typeInfo, i0_i, i0_z0]
  have ROW2 := Lib.hid row2
  have HG2 := Lib.hid hg2
  have hcl : ∀ ty, ∃ w3, (Builtin.clear_ #[24] ty #[.slice (some ⟨b, off + (j + q) * 2, none⟩) (n - (j + q)) (c - (j + q))]).run Tryz.prog w2 = .ok (.tuple #[]) w3 ∧ Row w3 B 48 2 (some ⟨b, off, none⟩) (j + q) c (sc L1 ++ sc L2) ∧ w2.grownBy w3 (some b) :=
    fun ty => run_clear_behind w2 B _ ty _ Tryz.underlying24 hz b off (j + q) c _ row2 _ _ (by omega) (by omega)
  obtain ⟨w3, hcl3, row3, hg3⟩ := hcl 0
  have GG := Lib.hid (show w.grownBy w3 (rb (some ⟨b, off, none⟩) c) by rw [HRB.out] at hg2 ⊢; exact only_trans (only_drew (World.grownBy.refl w (some b))) (only_trans hg2 hg3))
  have ROW3 := Lib.hid row3
  have g1 : ((j : Int) + (q : Int)) ≤ (n : Int) := by omega
  have g2 : (0 : Int) ≤ (j : Int) + (q : Int) := by omega
  clear row2 hg2 row3 hg3 hcl
  go_wp2
  go_ret
  exact RES.out _ ROW3.out GG.out
end
-- merged
section
open Go.RowKit

theorem relR_ok {p : Pl} {v : Int} (h : p.valid = true) (h2 : 0 ≤ hfind p.hs v) : relR p v = ((relV p v).1, (relV p v).2, true) := if_pos ⟨h, h2⟩
theorem relR_no {p : Pl} {v : Int} (h : ¬ (p.valid = true ∧ 0 ≤ hfind p.hs v)) : relR p v = (Pl.zero, -1, false) := if_neg h
theorem rb_cut (A : Option Addr) (c k : Nat) (hk : k ≤ c) : rb (if c = k then A else A.map (·.add (k * 1))) (c - k) = none ∨ rb (if c = k then A else A.map (·.add (k * 1))) (c - k) = rb A c := by
  unfold rb
  by_cases h : c = k
  · subst h; left; simp
  · have h1 : ¬ c - k = 0 := by omega
    have h2 : ¬ c = 0 := by omega
    rw [if_neg h1, if_neg h, if_neg h2]
    right
    cases A with
    | none => rfl
    | some a =>
      simp only [Option.map_some, Addr.add]
      congr 1
      split <;> rfl
theorem apart_cut {X Y Z : Option Addr} {x y z : Nat} (h : Apart X x Y y) (hz : rb Z z = none ∨ rb Z z = rb Y y) : Apart X x Z z := by
  rcases hz with hz | hz
  · unfold Apart
    rw [hz]
    cases rb X x with
    | none => exact ⟨.inl rfl, .inl rfl⟩
    | some k => exact ⟨.inr (by simp), .inl rfl⟩
  · unfold Apart
    rw [hz]; exact h
theorem PRow.cutW {w : World} {base : Nat} {p : Pl} {A B C : Option Addr} {a b c : Nat} (h : PRow w base p A a B b C c) (k : Nat) (hk : k ≤ p.wt.length) :
    PRow w base ⟨p.mx, p.ids, p.hs, p.wt.drop k⟩ A a B b (if c = k then C else C.map (·.add (k * 1))) (c - k) := by
  have hr := h.2.2.1.cut k hk
  have hle := h.2.2.1.le
  have hrb := rb_cut C c k (by omega)
  refine ⟨h.1, h.2.1, ?_, h.2.2.2.1, apart_cut h.2.2.2.2.1 hrb, apart_cut h.2.2.2.2.2 hrb⟩
  have e : (p.wt.drop k).length = p.wt.length - k := List.length_drop
  simp only
  rw [e, List.map_drop]
  rw [Nat.mul_one] at hr ⊢
  exact hr
set_option maxRecDepth 100000 in
set_option maxHeartbeats 16000000 in
theorem iReleaseConn_c (mx : Int) (ids : List Int) (hs : List Pr) (wt : List Int) (A : Option Addr) (n c : Nat) (B : Option Addr) (m d : Nat) (C : Option Addr) (k f : Nat) (w : World) (hA : ids.length = n) (hB : hs.length = m) (hC : wt.length = k)
    (h1 : Rd w A (ids.map (.int .i64))) (h2 : Rd w B (sc hs)) (h3 : Rd w C (wt.map (.int .i64))) (l1 : n ≤ 1073741824) (l2 : m ≤ 1073741824) (l3 : k ≤ 1073741824) (hcA : n ≤ c) (hkf : k ≤ f) (v : Int) :
    Calls Tryz.prog 98 #[.agg #[.int .i64 mx, .slice A n c, .slice B m d, .slice C k f], .int .i64 v] w (RetPCB (relR ⟨mx, ids, hs, wt⟩ v).1 (relR ⟨mx, ids, hs, wt⟩ v).2.1 (relR ⟨mx, ids, hs, wt⟩ v).2.2 w) := by
  obtain ⟨i0, i0_i, i0_z0, i0_z1, i0_z2⟩ := info_parts poolHoldInfo
  obtain ⟨j0, j0_i, j0_z0, j0_z1, j0_z2⟩ := info_parts poolIntInfo
  obtain ⟨w1, hw1⟩ : ∃ w1, w1 = (w.alloc (.cells #[.int .i64 mx, .slice A n c, .slice B m d, .slice C k f] 26)).alloc (.cells #[.int .i64 0, .slice none 0 0, .slice none 0 0, .slice none 0 0] 26) := ⟨_, rfl⟩
  have hg : w1.heap.size = w.heap.size + 1 + 1 := by rw [hw1]; simp
  have H1 := Lib.hid (show Rd w1 A _ by rw [hw1]; exact (h1.alloc _).alloc _)
  have H2 := Lib.hid (show Rd w1 B _ by rw [hw1]; exact (h2.alloc _).alloc _)
  have H3 := Lib.hid (show Rd w1 C _ by rw [hw1]; exact (h3.alloc _).alloc _)
  have BX := Lib.hid (show Blk w1 w.heap.size 26 #[.int .i64 mx, .slice A n c, .slice B m d, .slice C k f] by rw [hw1]; exact (Blk.new w _ _).alloc _)
  have BR := Lib.hid (show Blk w1 (w.heap.size + 1) 26 #[.int .i64 0, .slice none 0 0, .slice none 0 0, .slice none 0 0] by rw [hw1]; have := Blk.new (w.alloc (.cells #[.int .i64 mx, .slice A n c, .slice B m d, .slice C k f] 26)) 26 #[.int .i64 0, .slice none 0 0, .slice none 0 0, .slice none 0 0]; simpa using this)
  have B01 := Lib.hid (show Below w.heap.size w w1 by rw [hw1]; exact ((Below.refl _ _).alloc (Nat.le_refl _) _).alloc (by simp) _)
  have hgl : w.heap.size < w1.heap.size := by omega
  have hgr : w.heap.size + 1 < w1.heap.size := by omega
  have HV := Lib.hid (fun W q1 q2 q3 => validPool_c mx ids hs wt A n c B m d C k f W hA hB hC q1 q2 q3 l1 l2 l3 hcA)
  have HCP := Lib.hid (fun W q1 q2 q3 => copyOf_c mx ids hs wt A n c B m d C k f W hA hB hC q1 q2 q3 l1 l2 l3)
  have HH := Lib.hid (fun W q => held_c hs mx v A n c B m d C k f W hB q l2)
  have HA := Lib.hid hA; have HB := Lib.hid hB; have HC := Lib.hid hC
  have H3o := Lib.hid h3
  clear h1 h2 h3
  obtain ⟨k0, k1, k2, k3, _⟩ := blk4 BX.out
  obtain ⟨vd, hv⟩ : ∃ vd, vd = Pl.valid ⟨mx, ids, hs, wt⟩ := ⟨_, rfl⟩
  obtain ⟨Z, hZ⟩ : ∃ Z, Z = hfind hs v := ⟨_, rfl⟩
  rw [← hv] at HV
  rw [← hZ] at HH
  cases vd
  · have HRES : Hid (relR ⟨mx, ids, hs, wt⟩ v = (Pl.zero, -1, false)) := relR_no (fun h => by rw [← hv] at h; cases h.1)
    rw [HRES.out]
    clear hA hB hC hv hZ
    go_enter Tryz.func98, Tryz.ntmps98
    go_wp2_with fail
    rw [← hw1]
    clear hw1
    refine (HH.out _ H2.out).mono ?_
    rintro e wZ ⟨rfl, bZ⟩
    have FRZ := Lib.hid bZ
    have hsZ : w1.heap.size ≤ wZ.heap.size := bZ.size
    clear k0 k1 k2 k3 bZ
    obtain ⟨k0, k1, k2, k3, _⟩ := blk4 (BX.out.below FRZ.out hgl)
    obtain ⟨r0, r1, r2, r3, rfz⟩ := blk4 (BR.out.below FRZ.out hgr)
    go_wp2_with fail
    refine (HV.out _ (H1.out.below FRZ.out) (H2.out.below FRZ.out) (H3.out.below FRZ.out)).mono ?_
    rintro e wA ⟨rfl, bA⟩
    have FR0 := Lib.hid (FRZ.out.trans (bA.mono FRZ.out.size))
    have hsA : w1.heap.size ≤ wA.heap.size := FR0.out.size
    clear k0 k1 k2 k3 r0 r1 r2 r3 rfz bA
    obtain ⟨k0, k1, k2, k3, _⟩ := blk4 (BX.out.below FR0.out hgl)
    obtain ⟨r0, r1, r2, r3, rfz⟩ := blk4 (BR.out.below FR0.out hgr)
    go_wp2_with fail
    refine bodyPost_ret (v := .tuple #[.agg #[.int .i64 0, .slice none 0 0, .slice none 0 0, .slice none 0 0], .int .i64 (-1), .bool false]) (by simp [results, Tryz.results98, go_sem, r0, r1, r2, r3, rfz]) rfl ?_
    refine ⟨none, 0, none, 0, none, 0, rfl, PRow.zero _ _, ?_⟩
    repeat (with_reducible refine Below.setCell ?_ (by simp <;> omega) _)
    exact B01.out.trans (FR0.out.mono (by omega))
  · by_cases hz : Z < 0
    · have hzd : decide (Z < 0) = true := decide_eq_true hz
      have HRES : Hid (relR ⟨mx, ids, hs, wt⟩ v = (Pl.zero, -1, false)) := relR_no (fun h => by have h2 := h.2; simp only at h2; omega)
      rw [HRES.out]
      clear hA hB hC hv hZ hz
      go_enter Tryz.func98, Tryz.ntmps98
      go_wp2_with fail
      rw [← hw1]
      clear hw1
      refine (HH.out _ H2.out).mono ?_
      rintro e wZ ⟨rfl, bZ⟩
      have FRZ := Lib.hid bZ
      have hsZ : w1.heap.size ≤ wZ.heap.size := bZ.size
      clear k0 k1 k2 k3 bZ
      obtain ⟨k0, k1, k2, k3, _⟩ := blk4 (BX.out.below FRZ.out hgl)
      obtain ⟨r0, r1, r2, r3, rfz⟩ := blk4 (BR.out.below FRZ.out hgr)
      go_wp2_with fail
      refine (HV.out _ (H1.out.below FRZ.out) (H2.out.below FRZ.out) (H3.out.below FRZ.out)).mono ?_
      rintro e wA ⟨rfl, bA⟩
      have FR0 := Lib.hid (FRZ.out.trans (bA.mono FRZ.out.size))
      have hsA : w1.heap.size ≤ wA.heap.size := FR0.out.size
      clear k0 k1 k2 k3 r0 r1 r2 r3 rfz bA
      obtain ⟨k0, k1, k2, k3, _⟩ := blk4 (BX.out.below FR0.out hgl)
      obtain ⟨r0, r1, r2, r3, rfz⟩ := blk4 (BR.out.below FR0.out hgr)
      go_wp2_with fail
      refine bodyPost_ret (v := .tuple #[.agg #[.int .i64 0, .slice none 0 0, .slice none 0 0, .slice none 0 0], .int .i64 (-1), .bool false]) (by simp [results, Tryz.results98, go_sem, r0, r1, r2, r3, rfz]) rfl ?_
      refine ⟨none, 0, none, 0, none, 0, rfl, PRow.zero _ _, ?_⟩
      repeat (with_reducible refine Below.setCell ?_ (by simp <;> omega) _)
      exact B01.out.trans (FR0.out.mono (by omega))
    · have hzd : decide (Z < 0) = false := decide_eq_false hz
      have hsm := (valid_good.1 hv.symm).small
      simp only at hsm
      have lA : ids.length ≤ 6 := by omega
      have lB : hs.length ≤ 6 := by omega
      have lC : wt.length ≤ 12 := by omega
      obtain ⟨j, hj, hjl, _⟩ := hfind_place (hs := hs) (v := v) (by omega)
      obtain rfl : Z = (j : Nat) := hZ.trans hj
      have hw1' : IntKind.i64.wrap ((j : Int) + 1) = (j : Int) + 1 := IntWalk.i64_in _ ⟨by omega, by omega⟩
      have RELV : Hid (relR ⟨mx, ids, hs, wt⟩ v = ((relV ⟨mx, ids, hs, wt⟩ v).1, (relV ⟨mx, ids, hs, wt⟩ v).2, true)) := relR_ok hv.symm (by simp only; omega)
      rw [RELV.out]
      have HW : Hid ((hfind hs v).toNat = j) := by show _ = _; rw [hj]; simp
      obtain ⟨WO, hWO⟩ : ∃ WO, WO = without hs j := ⟨_, rfl⟩
      have hWl : WO.length + 1 = hs.length := by rw [hWO]; exact without_len hjl
      have HWO := Lib.hid hWO
      have HDEL := Lib.hid (fun A c W B hr hB => (show Calls Tryz.prog 118 #[.slice A hs.length c, .int .i64 (j : Int), .int .i64 ((j : Int) + 1)] W (RetDel B A c WO W) from by rw [hWO]; exact deleteH_c hs B A hs.length c j W rfl hjl hr (by omega) hB))
      have wl6 : WO.length ≤ 6 := by omega
      by_cases hk0 : k = 0
      · obtain ⟨ZI, hZI⟩ : ∃ ZI, ZI = ids ++ [v] := ⟨_, rfl⟩
        have HR2 : Hid (relV ⟨mx, ids, hs, wt⟩ v = (⟨mx, ZI, WO, wt⟩, -1)) := by
          show _ = _
          unfold relV
          simp only [HW.out]
          rw [if_pos (by omega), ← hWO, hZI]
        rw [HR2.out]
        have HZI := Lib.hid hZI
        have HZIl : Hid (ZI.length = ids.length + 1) := by show _ = _; rw [hZI, List.length_append]; rfl
        have hzil : ZI.length ≤ 7 := by have := HZIl.out; omega
        have HCP2 := Lib.hid (fun A a B b C c W q1 q2 q3 => copyOf_c mx ZI WO wt A _ a B _ b C _ c W rfl rfl rfl q1 q2 q3 (by omega) (by omega) (by omega))
        have hke : ((k : Int) == 0) = true := by rw [hk0]; rfl
        have hke2 : (k == 0) = true := by rw [hk0]; rfl
        clear hk0 hA hB hC hz hZ hv hsm hj hWO hZI hWl
        go_enter Tryz.func98, Tryz.ntmps98
        go_wp2_with fail
        rw [← hw1]
        clear hw1
        refine (HH.out _ H2.out).mono ?_
        rintro e wZ ⟨rfl, bZ⟩
        have FRZ := Lib.hid bZ
        have hsZ : w1.heap.size ≤ wZ.heap.size := bZ.size
        clear k0 k1 k2 k3 bZ
        obtain ⟨k0, k1, k2, k3, _⟩ := blk4 (BX.out.below FRZ.out hgl)
        obtain ⟨r0, r1, r2, r3, rfz⟩ := blk4 (BR.out.below FRZ.out hgr)
        go_wp2_with fail
        refine (HV.out _ (H1.out.below FRZ.out) (H2.out.below FRZ.out) (H3.out.below FRZ.out)).mono ?_
        rintro e wA ⟨rfl, bA⟩
        have FR0 := Lib.hid (FRZ.out.trans (bA.mono FRZ.out.size))
        have hsA : w1.heap.size ≤ wA.heap.size := FR0.out.size
        clear k0 k1 k2 k3 r0 r1 r2 r3 rfz bA
        obtain ⟨k0, k1, k2, k3, _⟩ := blk4 (BX.out.below FR0.out hgl)
        obtain ⟨r0, r1, r2, r3, rfz⟩ := blk4 (BR.out.below FR0.out hgr)
        go_wp2_with fail
        refine (HCP.out _ (H1.out.below FR0.out) (H2.out.below FR0.out) (H3.out.below FR0.out)).mono ?_
        rintro e wB ⟨A1, a1, A2, a2, A3, a3, rfl, pr, bB⟩
        simp only at pr ⊢
        obtain ⟨wO, hwO⟩ : ∃ wO, wO = wB.alloc (.cells #[.int .i64 mx, .slice A1 ids.length a1, .slice A2 hs.length a2, .slice A3 wt.length a3] 26) := ⟨_, rfl⟩
        have hsO : wO.heap.size = wB.heap.size + 1 := by rw [hwO]; simp
        have FR1 := Lib.hid (FR0.out.trans (bB.mono FR0.out.size))
        have hsB : w1.heap.size ≤ wB.heap.size := FR1.out.size
        have BO2 := Lib.hid (show Blk wO wB.heap.size 26 #[.int .i64 mx, .slice A1 ids.length a1, .slice A2 hs.length a2, .slice A3 wt.length a3] by rw [hwO]; exact Blk.new wB _ _)
        have FR2 := Lib.hid (show Below w1.heap.size w1 wO by rw [hwO]; exact FR1.out.alloc hsB _)
        have PR2 := Lib.hid (show PRow wO w1.heap.size ⟨mx, ids, hs, wt⟩ A1 a1 A2 a2 A3 a3 by rw [hwO]; exact (pr.mono hsA).alloc _)
        have OF2 := Lib.hid (show Off wB.heap.size A1 a1 A2 a2 A3 a3 from pr.off (Nat.le_refl _))
        have hgO : wB.heap.size < wO.heap.size := by omega
        clear pr bB k0 k1 k2 k3 r0 r1 r2 r3 rfz
        go_upto_region 5 with fail
        rw [← hwO]
        clear hwO hsO
        obtain ⟨k0, k1, k2, k3, _⟩ := blk4 (BX.out.below FR2.out hgl)
        obtain ⟨r0, r1, r2, r3, rfz⟩ := blk4 (BR.out.below FR2.out hgr)
        obtain ⟨o0, o1, o2, o3, ofz⟩ := blk4 BO2.out
        go_wp2_with fail
        refine (HDEL.out A2 a2 wO w1.heap.size PR2.out.2.1 FR2.out.size).mono ?_
        rintro e wD ⟨rfl, rowD, hgD⟩
        have BOD := Lib.hid (BO2.out.grown hgD (fun e => OF2.out.2.1 e.symm))
        have FRD := Lib.hid (FR2.out.grown hgD FR2.out.size (fun y hy => (PR2.out.2.1.lt y hy).1))
        have PD := Lib.hid (PRow.pushH PR2.out hgD rowD (.inl rfl))
        have hsD : wO.heap.size ≤ wD.heap.size := hgD.size
        clear rowD hgD
        obtain ⟨w6, hw6⟩ : ∃ w6, w6 = wD.setCell ⟨wB.heap.size, 2, none⟩ (.slice A2 WO.length a2) := ⟨_, rfl⟩
        have h6s : w6.heap.size = wD.heap.size := by rw [hw6]; simp [World.setCell]
        have BO6 := Lib.hid (show Blk w6 wB.heap.size 26 #[.int .i64 mx, .slice A1 ids.length a1, .slice A2 WO.length a2, .slice A3 wt.length a3] by rw [hw6]; exact BOD.out.set_ 2 _)
        have FR6 := Lib.hid (show Below w1.heap.size w1 w6 by rw [hw6]; exact FRD.out.setCell (by simp <;> omega) _)
        have PR6 := Lib.hid (show PRow w6 w1.heap.size ⟨mx, ids, WO, wt⟩ A1 a1 A2 a2 A3 a3 by rw [hw6]; exact PD.out.set (q := ⟨wB.heap.size, _, none⟩) OF2.out _)
        have hg6 : wB.heap.size < w6.heap.size := by omega
        clear k0 k1 k2 k3 r0 r1 r2 r3 rfz o0 o1 o2 o3 ofz
        obtain ⟨o0, o1, o2, o3, ofz⟩ := blk4 BOD.out
        go_upto_region 6 with fail
        rw [← hw6]
        clear hw6 h6s o0 o1 o2 o3 ofz
        obtain ⟨k0, k1, k2, k3, _⟩ := blk4 (BX.out.below FR6.out hgl)
        obtain ⟨r0, r1, r2, r3, rfz⟩ := blk4 (BR.out.below FR6.out hgr)
        obtain ⟨o0, o1, o2, o3, ofz⟩ := blk4 BO6.out
        go_wp2_with (at_builtin; (refine wpList_append_row _ rfl (.tmp 35) (.tmp 37) 23 rfl w1.heap.size 3 j0 (.int .i64 0) 1 8 Tryz.underlying23 j0_i j0_z0 j0_z1 j0_z2 rfl A1 ids.length a1 (ids.map (.int .i64)) (by first | rfl | simp) (PR6.out.1.alloc _) (some ⟨w6.heap.size, 0, none⟩) 1 1 [.int .i64 v] rfl rfl (Rd.one (cell_new _ _ _ 0)) (one1 _ rfl) (by omega) (by unfold maxLen; omega) (by omega) (by have := FR6.out.size; simp <;> omega) ?_))
        intro X3 x3 wG rowG hgG hatG
        have rowG' : Row wG w1.heap.size 3 1 X3 ZI.length x3 (ZI.map (.int .i64)) := by rw [HZI.out, ← snocI ids v _ rfl, List.length_append, hg]; exact rowG
        have hlt9 := PR6.out.1.lt
        have hatG' : rb X3 x3 = rb A1 a1 ∨ rb X3 x3 = some (w6.heap.size + 1) := by simpa using hatG
        have PG := Lib.hid (PRow.pushI (PR6.out.alloc _) hgG rowG' (by simpa using hatG))
        have hoX : rb X3 x3 ≠ some wB.heap.size := rb_new hatG' OF2.out.1 (by omega)
        have OFG := Lib.hid (show Off wB.heap.size X3 x3 A2 a2 A3 a3 from ⟨hoX, OF2.out.2.1, OF2.out.2.2⟩)
        have BOG := Lib.hid ((BO6.out.alloc _).grown hgG (fun e => OF2.out.1 e.symm))
        have FRG := Lib.hid ((FR6.out.alloc FR6.out.size _).grown hgG (by have := FR6.out.size; simp <;> omega) (fun y hy => (hlt9 y hy).1))
        have hsG : w6.heap.size < wG.heap.size := by have := hgG.size; simp at this; omega
        obtain ⟨w7, hw7⟩ : ∃ w7, w7 = wG.setCell ⟨wB.heap.size, 1, none⟩ (.slice X3 ZI.length x3) := ⟨_, rfl⟩
        have h7s : w7.heap.size = wG.heap.size := by rw [hw7]; simp [World.setCell]
        have BO7 := Lib.hid (show Blk w7 wB.heap.size 26 #[.int .i64 mx, .slice X3 ZI.length x3, .slice A2 WO.length a2, .slice A3 wt.length a3] by rw [hw7]; exact BOG.out.set_ 1 _)
        have FR7 := Lib.hid (show Below w1.heap.size w1 w7 by rw [hw7]; exact FRG.out.setCell (by simp <;> omega) _)
        have PR7 := Lib.hid (show PRow w7 w1.heap.size ⟨mx, ZI, WO, wt⟩ X3 x3 A2 a2 A3 a3 by rw [hw7]; exact PG.out.set (q := ⟨wB.heap.size, _, none⟩) OFG.out _)
        have hg7 : wB.heap.size < w7.heap.size := by omega
        clear rowG rowG' hgG hatG hatG' hlt9 hoX
        clear k0 k1 k2 k3 r0 r1 r2 r3 rfz o0 o1 o2 o3 ofz
        obtain ⟨o0, o1, o2, o3, ofz⟩ := blk4 BOG.out
        go_upto_region 8 with fail
        rw [HZIl.out.symm]
        rw [← hw7]
        clear hw7 h7s o0 o1 o2 o3 ofz
        obtain ⟨k0, k1, k2, k3, _⟩ := blk4 (BX.out.below FR7.out hgl)
        obtain ⟨r0, r1, r2, r3, rfz⟩ := blk4 (BR.out.below FR7.out hgr)
        obtain ⟨o0, o1, o2, o3, ofz⟩ := blk4 BO7.out
        go_wp2_with fail
        refine (HCP2.out _ _ _ _ _ _ w7 PR7.out.1.rd PR7.out.2.1.rd PR7.out.2.2.1.rd).mono ?_
        rintro e wK ⟨A9, a9, B9, b9, C9, c9, rfl, prK, bK⟩
        simp only at prK ⊢
        have FRK := Lib.hid (FR7.out.trans (bK.mono FR7.out.size))
        have PRK := Lib.hid prK
        have hsK : w7.heap.size ≤ wK.heap.size := bK.size
        have hWs : w1.heap.size ≤ w7.heap.size := FR7.out.size
        clear prK bK k0 k1 k2 k3 r0 r1 r2 r3 rfz o0 o1 o2 o3 ofz
        obtain ⟨k0, k1, k2, k3, _⟩ := blk4 (BX.out.below FRK.out hgl)
        obtain ⟨r0, r1, r2, r3, rfz⟩ := blk4 (BR.out.below FRK.out hgr)
        go_wp2_with fail
        refine bodyPost_ret (v := .tuple #[.agg #[.int .i64 mx, .slice A9 (ZI).length a9, .slice B9 (WO).length b9, .slice C9 (wt).length c9], .int .i64 (-1), .bool true]) (by simp [results, Tryz.results98, go_sem, r0, r1, r2, r3, rfz]) rfl ?_
        refine ⟨_, _, _, _, _, _, rfl, ?_, ?_⟩
        · refine PRow.mono (base := w7.heap.size) ?_ (by omega)
          iterate 4 (with_reducible refine PRow.setFar ?_ (by simp <;> omega) _)
          exact PRK.out
        · iterate 4 (with_reducible refine Below.setCell ?_ (by simp <;> omega) _)
          exact B01.out.trans (FRK.out.mono (by omega))
      · have hke : ((k : Int) == 0) = false := beq_eq_false_iff_ne.2 (by omega)
        have hke2 : (k == 0) = false := beq_eq_false_iff_ne.2 (by omega)
        obtain ⟨W0, hW0⟩ : ∃ W0, W0 = wt.getD 0 0 := ⟨_, rfl⟩
        obtain ⟨L3, hL3⟩ : ∃ L3, L3 = wt.drop 1 := ⟨_, rfl⟩
        obtain ⟨ZH, hZH⟩ : ∃ ZH, ZH = WO ++ [(v, W0)] := ⟨_, rfl⟩
        have HR2 : Hid (relV ⟨mx, ids, hs, wt⟩ v = (⟨mx, ids, ZH, L3⟩, W0)) := by
          show _ = _
          unfold relV
          simp only [HW.out]
          rw [if_neg (by omega), ← hWO, ← hW0, ← hL3, hZH]
        rw [HR2.out]
        have HZH := Lib.hid hZH
        have HL3 := Lib.hid hL3
        have HZHl : Hid (ZH.length = WO.length + 1) := by show _ = _; rw [hZH, List.length_append]; rfl
        have hzhl : ZH.length ≤ 7 := by have := HZHl.out; omega
        have HL3l : Hid (L3.length = wt.length - 1) := by show _ = _; rw [hL3, List.length_drop]
        have hl3l : L3.length ≤ 12 := by have := HL3l.out; omega
        obtain ⟨b3, off3, hCe, hbl3, hc3⟩ := H3o.out.block (by simp <;> omega)
        have CELL3 : Hid (∀ W, Below w1.heap.size w1 W → W.cell? ⟨b3, off3, none⟩ = some (.int .i64 W0)) := by
          intro W hW
          have h9 := hc3 0 (.int .i64 W0) (by rw [List.getElem?_map, hW0, List.getD_eq_getElem?_getD, List.getElem?_eq_getElem (by omega)]; rfl)
          rw [Nat.add_zero] at h9
          exact (B01.out.trans (hW.mono (by omega))).cell hbl3 |>.trans h9
        clear hc3
        subst hCe
        have hk1 : 1 ≤ wt.length := by omega
        have hkp : 0 < k := by omega
        have hkpI : (0 : Int) < (k : Int) := by omega
        have hk1I : (1 : Int) ≤ ((wt.length : Nat) : Int) := by omega
        have HCP2 := Lib.hid (fun A a B b C c W q1 q2 q3 => copyOf_c mx ids ZH L3 A _ a B _ b C _ c W rfl rfl rfl q1 q2 q3 (by omega) (by omega) (by omega))
        clear hk0 hA hB hC hz hZ hv hsm hj hWO hZH hL3 hW0 hWl
        go_enter Tryz.func98, Tryz.ntmps98
        go_wp2_with fail
        rw [← hw1]
        clear hw1
        refine (HH.out _ H2.out).mono ?_
        rintro e wZ ⟨rfl, bZ⟩
        have FRZ := Lib.hid bZ
        have hsZ : w1.heap.size ≤ wZ.heap.size := bZ.size
        clear k0 k1 k2 k3 bZ
        obtain ⟨k0, k1, k2, k3, _⟩ := blk4 (BX.out.below FRZ.out hgl)
        obtain ⟨r0, r1, r2, r3, rfz⟩ := blk4 (BR.out.below FRZ.out hgr)
        go_wp2_with fail
        refine (HV.out _ (H1.out.below FRZ.out) (H2.out.below FRZ.out) (H3.out.below FRZ.out)).mono ?_
        rintro e wA ⟨rfl, bA⟩
        have FR0 := Lib.hid (FRZ.out.trans (bA.mono FRZ.out.size))
        have hsA : w1.heap.size ≤ wA.heap.size := FR0.out.size
        clear k0 k1 k2 k3 r0 r1 r2 r3 rfz bA
        obtain ⟨k0, k1, k2, k3, _⟩ := blk4 (BX.out.below FR0.out hgl)
        obtain ⟨r0, r1, r2, r3, rfz⟩ := blk4 (BR.out.below FR0.out hgr)
        go_wp2_with fail
        refine (HCP.out _ (H1.out.below FR0.out) (H2.out.below FR0.out) (H3.out.below FR0.out)).mono ?_
        rintro e wB ⟨A1, a1, A2, a2, A3, a3, rfl, pr, bB⟩
        simp only at pr ⊢
        obtain ⟨wO, hwO⟩ : ∃ wO, wO = wB.alloc (.cells #[.int .i64 mx, .slice A1 ids.length a1, .slice A2 hs.length a2, .slice A3 wt.length a3] 26) := ⟨_, rfl⟩
        have hsO : wO.heap.size = wB.heap.size + 1 := by rw [hwO]; simp
        have FR1 := Lib.hid (FR0.out.trans (bB.mono FR0.out.size))
        have hsB : w1.heap.size ≤ wB.heap.size := FR1.out.size
        have BO2 := Lib.hid (show Blk wO wB.heap.size 26 #[.int .i64 mx, .slice A1 ids.length a1, .slice A2 hs.length a2, .slice A3 wt.length a3] by rw [hwO]; exact Blk.new wB _ _)
        have FR2 := Lib.hid (show Below w1.heap.size w1 wO by rw [hwO]; exact FR1.out.alloc hsB _)
        have PR2 := Lib.hid (show PRow wO w1.heap.size ⟨mx, ids, hs, wt⟩ A1 a1 A2 a2 A3 a3 by rw [hwO]; exact (pr.mono hsA).alloc _)
        have OF2 := Lib.hid (show Off wB.heap.size A1 a1 A2 a2 A3 a3 from pr.off (Nat.le_refl _))
        have hgO : wB.heap.size < wO.heap.size := by omega
        clear pr bB k0 k1 k2 k3 r0 r1 r2 r3 rfz
        go_upto_region 5 with fail
        rw [← hwO]
        clear hwO hsO
        obtain ⟨k0, k1, k2, k3, _⟩ := blk4 (BX.out.below FR2.out hgl)
        obtain ⟨r0, r1, r2, r3, rfz⟩ := blk4 (BR.out.below FR2.out hgr)
        obtain ⟨o0, o1, o2, o3, ofz⟩ := blk4 BO2.out
        go_wp2_with fail
        refine (HDEL.out A2 a2 wO w1.heap.size PR2.out.2.1 FR2.out.size).mono ?_
        rintro e wD ⟨rfl, rowD, hgD⟩
        have BOD := Lib.hid (BO2.out.grown hgD (fun e => OF2.out.2.1 e.symm))
        have FRD := Lib.hid (FR2.out.grown hgD FR2.out.size (fun y hy => (PR2.out.2.1.lt y hy).1))
        have PD := Lib.hid (PRow.pushH PR2.out hgD rowD (.inl rfl))
        have hsD : wO.heap.size ≤ wD.heap.size := hgD.size
        clear rowD hgD
        obtain ⟨w6, hw6⟩ : ∃ w6, w6 = wD.setCell ⟨wB.heap.size, 2, none⟩ (.slice A2 WO.length a2) := ⟨_, rfl⟩
        have h6s : w6.heap.size = wD.heap.size := by rw [hw6]; simp [World.setCell]
        have BO6 := Lib.hid (show Blk w6 wB.heap.size 26 #[.int .i64 mx, .slice A1 ids.length a1, .slice A2 WO.length a2, .slice A3 wt.length a3] by rw [hw6]; exact BOD.out.set_ 2 _)
        have FR6 := Lib.hid (show Below w1.heap.size w1 w6 by rw [hw6]; exact FRD.out.setCell (by simp <;> omega) _)
        have PR6 := Lib.hid (show PRow w6 w1.heap.size ⟨mx, ids, WO, wt⟩ A1 a1 A2 a2 A3 a3 by rw [hw6]; exact PD.out.set (q := ⟨wB.heap.size, _, none⟩) OF2.out _)
        have hg6 : wB.heap.size < w6.heap.size := by omega
        clear k0 k1 k2 k3 r0 r1 r2 r3 rfz o0 o1 o2 o3 ofz
        obtain ⟨o0, o1, o2, o3, ofz⟩ := blk4 BOD.out
        go_upto_region 6 with fail
        rw [← hw6]
        clear hw6 h6s o0 o1 o2 o3 ofz
        obtain ⟨k0, k1, k2, k3, _⟩ := blk4 (BX.out.below FR6.out hgl)
        obtain ⟨r0, r1, r2, r3, rfz⟩ := blk4 (BR.out.below FR6.out hgr)
        obtain ⟨o0, o1, o2, o3, ofz⟩ := blk4 BO6.out
        have hc3 := CELL3.out _ FR6.out
        go_wp2_with (at_builtin; (refine wpList_append_row _ rfl (.tmp 47) (.tmp 51) 24 rfl w1.heap.size 48 i0 (.agg #[.int .i64 0, .int .i64 0]) 2 16 Tryz.underlying24 i0_i i0_z0 i0_z1 i0_z2 rfl A2 WO.length a2 (sc WO) (by first | rfl | simp) (PR6.out.2.1.alloc _) (some ⟨w6.heap.size, 0, none⟩) 1 1 [.int .i64 v, .int .i64 W0] rfl rfl (Rd.two_ _ _ _ _) (two1_ _ _) (by omega) (by unfold maxLen; omega) (by omega) (by have := FR6.out.size; simp <;> omega) ?_))
        intro X x wG rowG hgG hatG
        have rowG' : Row wG w1.heap.size 48 2 X ZH.length x (sc ZH) := by rw [HZH.out, ← snocH WO v W0 _ rfl, List.length_append, hg]; exact rowG
        have hlt9 := PR6.out.2.1.lt
        have hatG' : rb X x = rb A2 a2 ∨ rb X x = some (w6.heap.size + 1) := by simpa using hatG
        have PG := Lib.hid (PRow.pushH (PR6.out.alloc _) hgG rowG' (by simpa using hatG))
        have hoX : rb X x ≠ some wB.heap.size := rb_new hatG' OF2.out.2.1 (by omega)
        have OFG := Lib.hid (show Off wB.heap.size A1 a1 X x A3 a3 from ⟨OF2.out.1, hoX, OF2.out.2.2⟩)
        have BOG := Lib.hid ((BO6.out.alloc _).grown hgG (fun e => OF2.out.2.1 e.symm))
        have FRG := Lib.hid ((FR6.out.alloc FR6.out.size _).grown hgG (by have := FR6.out.size; simp <;> omega) (fun y hy => (hlt9 y hy).1))
        have hsG : w6.heap.size < wG.heap.size := by have := hgG.size; simp at this; omega
        obtain ⟨w7, hw7⟩ : ∃ w7, w7 = wG.setCell ⟨wB.heap.size, 2, none⟩ (.slice X ZH.length x) := ⟨_, rfl⟩
        have h7s : w7.heap.size = wG.heap.size := by rw [hw7]; simp [World.setCell]
        have BO7 := Lib.hid (show Blk w7 wB.heap.size 26 #[.int .i64 mx, .slice A1 ids.length a1, .slice X ZH.length x, .slice A3 wt.length a3] by rw [hw7]; exact BOG.out.set_ 2 _)
        have FR7 := Lib.hid (show Below w1.heap.size w1 w7 by rw [hw7]; exact FRG.out.setCell (by simp <;> omega) _)
        have PR7 := Lib.hid (show PRow w7 w1.heap.size ⟨mx, ids, ZH, wt⟩ A1 a1 X x A3 a3 by rw [hw7]; exact PG.out.set (q := ⟨wB.heap.size, _, none⟩) OFG.out _)
        have hg7 : wB.heap.size < w7.heap.size := by omega
        clear rowG rowG' hgG hatG hatG' hlt9 hoX
        clear k0 k1 k2 k3 r0 r1 r2 r3 rfz o0 o1 o2 o3 ofz
        obtain ⟨o0, o1, o2, o3, ofz⟩ := blk4 BOG.out
        go_upto_region 11 with fail
        rw [HZHl.out.symm]
        rw [← hw7]
        clear hw7 h7s o0 o1 o2 o3 ofz
        obtain ⟨k0, k1, k2, k3, _⟩ := blk4 (BX.out.below FR7.out hgl)
        obtain ⟨r0, r1, r2, r3, rfz⟩ := blk4 (BR.out.below FR7.out hgr)
        obtain ⟨o0, o1, o2, o3, ofz⟩ := blk4 BO7.out
        have ha3 : wt.length ≤ a3 := PR7.out.2.2.1.le
        have ha3I : ((wt.length : Nat) : Int) ≤ (a3 : Int) := by omega
        obtain ⟨bq, oq, hA3, _, _, _⟩ := PR7.out.2.2.1.form (by simp only; omega)
        subst hA3
        obtain ⟨AD, hAD⟩ : ∃ AD, (if a3 = 1 then (some ⟨bq, oq, none⟩ : Option Addr) else some ⟨bq, oq + 1, none⟩) = AD := ⟨_, rfl⟩
        have PC7 := Lib.hid (show PRow w7 w1.heap.size ⟨mx, ids, ZH, L3⟩ A1 a1 X x AD (a3 - 1) by
          have h := PR7.out.cutW 1 (by simp only; omega)
          rw [← hAD, HL3.out]
          simpa [add_none] using h)
        have OF8 := Lib.hid (show Off wB.heap.size A1 a1 X x AD (a3 - 1) from ⟨OFG.out.1, OFG.out.2.1, by
          have h := rb_cut (some ⟨bq, oq, none⟩) a3 1 (by omega)
          have e : rb AD (a3 - 1) = none ∨ rb AD (a3 - 1) = rb (some ⟨bq, oq, none⟩) a3 := by rw [← hAD]; simpa [add_none] using h
          rcases e with e | e
          · rw [e]; simp
          · rw [e]; exact OFG.out.2.2⟩)
        obtain ⟨w8, hw8⟩ : ∃ w8, w8 = w7.setCell ⟨wB.heap.size, 3, none⟩ (.slice AD L3.length (a3 - 1)) := ⟨_, rfl⟩
        have h8s : w8.heap.size = w7.heap.size := by rw [hw8]; simp [World.setCell]
        have BO8 := Lib.hid (show Blk w8 wB.heap.size 26 #[.int .i64 mx, .slice A1 ids.length a1, .slice X ZH.length x, .slice AD L3.length (a3 - 1)] by rw [hw8]; exact BO7.out.set_ 3 _)
        have FR8 := Lib.hid (show Below w1.heap.size w1 w8 by rw [hw8]; exact FR7.out.setCell (by simp <;> omega) _)
        have PR8 := Lib.hid (show PRow w8 w1.heap.size ⟨mx, ids, ZH, L3⟩ A1 a1 X x AD (a3 - 1) by rw [hw8]; exact PC7.out.set (q := ⟨wB.heap.size, _, none⟩) OF8.out _)
        have hg8 : wB.heap.size < w8.heap.size := by omega
        clear k0 k1 k2 k3 r0 r1 r2 r3 rfz
        go_upto_region 12 with fail
        rw [HL3l.out.symm]
        rw [← hw8]
        clear hw8 h8s o0 o1 o2 o3 ofz
        obtain ⟨k0, k1, k2, k3, _⟩ := blk4 (BX.out.below FR8.out hgl)
        obtain ⟨r0, r1, r2, r3, rfz⟩ := blk4 (BR.out.below FR8.out hgr)
        obtain ⟨o0, o1, o2, o3, ofz⟩ := blk4 BO8.out
        go_wp2_with fail
        refine (HCP2.out _ _ _ _ _ _ w8 PR8.out.1.rd PR8.out.2.1.rd PR8.out.2.2.1.rd).mono ?_
        rintro e wK ⟨A9, a9, B9, b9, C9, c9, rfl, prK, bK⟩
        simp only at prK ⊢
        have FRK := Lib.hid (FR8.out.trans (bK.mono FR8.out.size))
        have PRK := Lib.hid prK
        have hsK : w8.heap.size ≤ wK.heap.size := bK.size
        have hWs : w1.heap.size ≤ w8.heap.size := FR8.out.size
        clear prK bK k0 k1 k2 k3 r0 r1 r2 r3 rfz o0 o1 o2 o3 ofz
        obtain ⟨k0, k1, k2, k3, _⟩ := blk4 (BX.out.below FRK.out hgl)
        obtain ⟨r0, r1, r2, r3, rfz⟩ := blk4 (BR.out.below FRK.out hgr)
        go_wp2_with fail
        refine bodyPost_ret (v := .tuple #[.agg #[.int .i64 mx, .slice A9 (ids).length a9, .slice B9 (ZH).length b9, .slice C9 (L3).length c9], .int .i64 (W0), .bool true]) (by simp [results, Tryz.results98, go_sem, r0, r1, r2, r3, rfz]) rfl ?_
        refine ⟨_, _, _, _, _, _, rfl, ?_, ?_⟩
        · refine PRow.mono (base := w8.heap.size) ?_ (by omega)
          iterate 4 (with_reducible refine PRow.setFar ?_ (by simp <;> omega) _)
          exact PRK.out
        · iterate 4 (with_reducible refine Below.setCell ?_ (by simp <;> omega) _)
          exact B01.out.trans (FRK.out.mono (by omega))
end
end Go.Proofs.YtnmgnhpagnjhlaaGreatDoor
