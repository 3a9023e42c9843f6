/- Copies of pools, the holder of a connection, the first closed one: the reference's own. -/
import Derived.Test.YtnmgnhpagnjhlaaGreatDoorPoolLaw
import Derived.Test.YtnmgnhpagnjhlaaGreatDoorPlainQ
import Derived.Test.YtnmgnhpagnjhlaaGreatDoorDec
set_option linter.unusedVariables false
set_option linter.unusedSimpArgs false
set_option linter.unnecessarySimpa false
namespace Go.Proofs.YtnmgnhpagnjhlaaGreatDoor
open Go.RowKit

/-- Two rows share no block. -/
def Apart (A : Option Addr) (a : Nat) (B : Option Addr) (b : Nat) : Prop := (rb A a = none ∨ rb A a ≠ rb B b) ∧ (rb B b = none ∨ rb B b ≠ rb A a)
theorem Apart.symm {A B : Option Addr} {a b : Nat} (h : Apart A a B b) : Apart B b A a := ⟨h.2, h.1⟩
/-- The three slices of a pool: rows of their own. -/
def PRow (w : World) (base : Nat) (p : Pl) (A : Option Addr) (a : Nat) (B : Option Addr) (b : Nat) (C : Option Addr) (c : Nat) : Prop :=
  Row w base 3 1 A p.ids.length a (p.ids.map (.int .i64)) ∧ Row w base 48 2 B p.hs.length b (sc p.hs) ∧ Row w base 3 1 C p.wt.length c (p.wt.map (.int .i64)) ∧
    Apart A a B b ∧ Apart A a C c ∧ Apart B b C c
theorem PRow.below {w w' : World} {base : Nat} {p : Pl} {A B C : Option Addr} {a b c : Nat} (h : PRow w base p A a B b C c) (hb : Below w.heap.size w w') : PRow w' base p A a B b C c :=
  ⟨h.1.below hb, h.2.1.below hb, h.2.2.1.below hb, h.2.2.2⟩
theorem PRow.keep {w w' : World} {base g : Nat} {p : Pl} {A B C : Option Addr} {a b c : Nat} (h : PRow w base p A a B b C c) (hg : w.grownBy w' (some g)) (hlt : g < base) : PRow w' base p A a B b C c :=
  ⟨h.1.keep hg hlt, h.2.1.keep hg hlt, h.2.2.1.keep hg hlt, h.2.2.2⟩
theorem PRow.mono {w : World} {base base' : Nat} {p : Pl} {A B C : Option Addr} {a b c : Nat} (h : PRow w base p A a B b C c) (hb : base' ≤ base) : PRow w base' p A a B b C c :=
  ⟨h.1.mono hb, h.2.1.mono hb, h.2.2.1.mono hb, h.2.2.2⟩
theorem PRow.setFar {w : World} {base : Nat} {p : Pl} {A B C : Option Addr} {a b c : Nat} (h : PRow w base p A a B b C c) {q : Addr} (hq : q.block < base) (u : Value) : PRow (w.setCell q u) base p A a B b C c :=
  h.keep (only_setCell (World.grownBy.refl _ _) (.inl rfl) _) hq
theorem PRow.alloc {w : World} {base : Nat} {p : Pl} {A B C : Option Addr} {a b c : Nat} (h : PRow w base p A a B b C c) (o : Obj) : PRow (w.alloc o) base p A a B b C c :=
  h.below ((Below.refl _ _).alloc (Nat.le_refl _) _)
/-- A pool in rows of its own; what was there is as it was. -/
def RetP (p : Pl) (w : World) (e : Ending) (w' : World) : Prop :=
  ∃ A a B b C c, e = .returned (.agg #[.int .i64 p.mx, .slice A p.ids.length a, .slice B p.hs.length b, .slice C p.wt.length c]) ∧ PRow w' w.heap.size p A a B b C c ∧ Below w.heap.size w w'
def RetR (zs : List Int) (w : World) (e : Ending) (w' : World) : Prop :=
  ∃ A c, e = .returned (.slice A zs.length c) ∧ Row w' w.heap.size 3 1 A zs.length c (zs.map (.int .i64)) ∧ Below w.heap.size w w'
theorem poolHoldInfo : (Tryz.prog.info? 48).map (fun i => (i.zero, i.size, i.bytes)) = some (some (.agg #[.int .i64 0, .int .i64 0]), 2, 16) := by kernel_rfl
set_option maxHeartbeats 1000000 in
theorem copyInts_c (zs : List Int) (A : Option Addr) (n c : Nat) (w : World) (hN : zs.length = n) (h : Rd w A (zs.map (.int .i64))) (hn : n ≤ 1073741824) :
    Calls Tryz.prog 69 #[.slice A n c] w (RetR zs w) := by
  subst hN
  obtain ⟨i0, i0_i, i0_z0, i0_z1, i0_z2⟩ := info_parts poolIntInfo
  have H := Lib.hid h; clear h
  go_enter Tryz.func69, Tryz.ntmps69
  go_wp2_with (at_builtin; (refine wpList_append_row _ rfl (.tmp 3) (.tmp 4) 23 rfl w.heap.size 3 i0 (.int .i64 0) 1 8 Tryz.underlying23 i0_i i0_z0 i0_z1 i0_z2 rfl (some ⟨w.heap.size, 0, none⟩) 0 0 [] rfl (Row.nil _ _ _ _ _) A zs.length c (zs.map (.int .i64)) rfl (by simp) (H.out.alloc _) (int1 .i64 zs) (by omega) (by unfold maxLen; omega) (by omega) (by simp <;> omega) ?_))
  intro A2 c2 w2 row2 hg2 _
  have hb : Below w.heap.size w w2 := ((Below.refl _ _).alloc (Nat.le_refl _) _).grown hg2 (by simp) (fun y hy => by simp [rb] at hy)
  try simp only [Nat.zero_add, List.nil_append] at row2
  clear hg2
  go_wp2_with fail
  go_ret
  exact ⟨A2, c2, rfl, row2, hb⟩
set_option maxRecDepth 100000 in
set_option maxHeartbeats 1000000 in
theorem holder_c (hs : List Pr) (mx : Int) (v : Int) (A : Option Addr) (n c : Nat) (B : Option Addr) (m d : Nat) (C : Option Addr) (k f : Nat) (w : World) (hB : hs.length = m) (h2 : Rd w B (sc hs)) (l2 : m ≤ 1073741824) :
    Calls Tryz.prog 113 #[.agg #[.int .i64 mx, .slice A n c, .slice B m d, .slice C k f], .int .i64 v] w fun e w' => e = .returned (.int .i64 (hfind hs v)) ∧ Below w.heap.size w w' := by
  have HB := Lib.hid hB; clear hB
  obtain ⟨r, hr⟩ : ∃ r, r = hfind hs v := ⟨_, rfl⟩
  rw [← hr]
  have HR := Lib.hid hr; clear hr
  obtain ⟨w1, hw1⟩ : ∃ w1, w1 = w.alloc (.cells #[.int .i64 mx, .slice A n c, .slice B m d, .slice C k f] 26) := ⟨_, rfl⟩
  have H2 := Lib.hid (show Rd w1 B _ by rw [hw1]; exact h2.alloc _)
  have BX := Lib.hid (show Blk w1 w.heap.size 26 #[.int .i64 mx, .slice A n c, .slice B m d, .slice C k f] by rw [hw1]; exact Blk.new w _ _)
  have B01 := Lib.hid (show Below w.heap.size w w1 by rw [hw1]; exact (Below.refl _ _).alloc (Nat.le_refl _) _)
  have k2 : w1.cell? ⟨w.heap.size, 2, none⟩ = some (.slice B m d) := BX.out.cell 2
  clear h2
  go_enter Tryz.func113, Tryz.ntmps113
  go_wp2_with fail
  rw [← hw1]
  clear hw1
  go_loop [5] (fun i => ∃ j : Nat, j ≤ m ∧ i = .int .i64 j ∧ ∀ q (hq : q < hs.length), q < j → (hs[q].1 == v) = false) (fun i => m - (intOf i).toNat)
  case atStart => exact ⟨0, Nat.zero_le _, rfl, fun q hq h => absurd h (by omega)⟩
  case round =>
    obtain ⟨j, hj, rfl, hs'⟩ := hrel
    have HS := Lib.hid hs'
    clear hs'
    by_cases hlt : j < m
    · have hjz : j < hs.length := by have := HB.out; omega
      obtain ⟨b, off, hA, hbl, hc⟩ := sc_pair H2.out (by omega)
      subst hA
      obtain ⟨hc1, hc2⟩ := hc j hjz
      obtain ⟨⟨x, y⟩, hX⟩ : ∃ x, x = hs[j] := ⟨_, rfl⟩
      rw [← hX] at hc1 hc2
      simp only at hc1 hc2
      have HX := Lib.hid hX
      clear hX hc
      by_cases he : x = v
      · have he' : (x == v) = true := beq_iff_eq.2 he
        have hr : r = (j : Nat) := HR.out.trans (fidx_some _ hs j hjz (by rw [← HX.out]; exact he') (fun q hq h => HS.out q hq h))
        have HR' := Lib.hid hr.symm
        clear hr he
        go_wp2_with fail
        go_ret
        exact ⟨ret_int HR'.out, B01.out⟩
      · have he' : (x == v) = false := beq_eq_false_iff_ne.2 he
        have HE := Lib.hid he'
        clear he
        go_wp2_with fail
        go_round
        case rel =>
          refine ⟨j + 1, by omega, by go_num, fun q hq h => ?_⟩
          rcases Nat.lt_or_ge q j with h' | h'
          · exact HS.out q hq h'
          · obtain rfl : q = j := by omega
            rw [← HX.out]; exact HE.out
        case measure => simp [intOf]; omega
    · obtain rfl : j = m := by omega
      have HR' : Hid (r = -1) := HR.out.trans (fidx_none _ hs (fun q hq => HS.out q hq (by have := HB.out; omega)))
      go_wp2_with fail
      go_ret
      exact ⟨ret_int HR'.out.symm, B01.out⟩
set_option maxRecDepth 100000 in
set_option maxHeartbeats 2000000 in
theorem closed_c (M : Nat) (ids : List Int) (hs : List Pr) (A : Option Addr) (n c : Nat) (B : Option Addr) (m d : Nat) (C : Option Addr) (k f : Nat) (w : World) (hA : ids.length = n) (hB : hs.length = m) (h1 : Rd w A (ids.map (.int .i64))) (h2 : Rd w B (sc hs)) (l1 : n ≤ 1073741824) (l2 : m ≤ 1073741824) (hM : M ≤ 1000) :
    Calls Tryz.prog 136 #[.agg #[.int .i64 (M : Int), .slice A n c, .slice B m d, .slice C k f]] w fun e w' => e = .returned (.int .i64 (closedV M ids hs)) ∧ Below w.heap.size w w' := by
  have HA := Lib.hid hA; have HB := Lib.hid hB; clear hA hB
  obtain ⟨r, hr⟩ : ∃ r, r = closedV M ids hs := ⟨_, rfl⟩
  rw [← hr]
  have HR := Lib.hid hr; clear hr
  obtain ⟨w1, hw1⟩ : ∃ w1, w1 = w.alloc (.cells #[.int .i64 (M : Int), .slice A n c, .slice B m d, .slice C k f] 26) := ⟨_, rfl⟩
  have hg : w1.heap.size = w.heap.size + 1 := by rw [hw1]; simp
  have H1 := Lib.hid (show Rd w1 A _ by rw [hw1]; exact h1.alloc _)
  have H2 := Lib.hid (show Rd w1 B _ by rw [hw1]; exact h2.alloc _)
  have BX := Lib.hid (show Blk w1 w.heap.size 26 #[.int .i64 (M : Int), .slice A n c, .slice B m d, .slice C k f] by rw [hw1]; exact Blk.new w _ _)
  have B01 := Lib.hid (show Below w.heap.size w w1 by rw [hw1]; exact (Below.refl _ _).alloc (Nat.le_refl _) _)
  have FIN := Lib.hid (fun (W : World) (hW : Below (w.heap.size + 1) w1 W) => (B01.out.trans (hW.mono (Nat.le_succ _)) : Below w.heap.size w W))
  have HH := Lib.hid (fun (v : Int) (W : World) (hW : Rd W B (sc hs)) => holder_c hs (M : Int) v A n c B m d C k f W HB.out hW l2)
  clear h1 h2
  go_enter Tryz.func136, Tryz.ntmps136
  go_wp2_with fail
  rw [← hw1]
  clear hw1
  go_loopw [3] (fun i wr => ∃ (j : Nat), j ≤ M ∧ i = .int .i64 j ∧ Below (w.heap.size + 1) w1 wr ∧ ∀ q, q < j → ¬ ((q : Int) ∉ ids ∧ (q : Int) ∉ conns hs)) (fun i _ => M - (intOf i).toNat)
  case atStart => exact ⟨0, Nat.zero_le _, rfl, Below.refl _ _, fun q h => absurd h (Nat.not_lt_zero _)⟩
  case round =>
    obtain ⟨j, hj, rfl, hb, hs'⟩ := hrel
    have HS := Lib.hid hs'; have HB1 := Lib.hid hb
    have bxr := BX.out.below hb (by omega)
    have k0 : wr.cell? ⟨w.heap.size, 0, none⟩ = some (.int .i64 (M : Int)) := bxr.cell 0
    have k1 : wr.cell? ⟨w.heap.size, 1, none⟩ = some (.slice A n c) := bxr.cell 1
    have k2 : wr.cell? ⟨w.heap.size, 2, none⟩ = some (.slice B m d) := bxr.cell 2
    have k3 : wr.cell? ⟨w.heap.size, 3, none⟩ = some (.slice C k f) := bxr.cell 3
    have hsz : w.heap.size + 1 ≤ wr.heap.size := by have := hb.size; omega
    clear hs' bxr
    by_cases hlt : j < M
    · have hd1 : decide ((j : Int) < (M : Int)) = true := decide_eq_true (by omega)
      have HC1 := Lib.hid (sIsIn_c ids (j : Int) A n c wr HA.out (H1.out.below (hb.mono (by omega))) (by omega))
      have HC2 := Lib.hid (HH.out (j : Int) wr (H2.out.below (hb.mono (by omega))))
      have hlt2 := hfind_lt hs (j : Int)
      obtain ⟨F, hF⟩ : ∃ F, F = hfind hs (j : Int) := ⟨_, rfl⟩
      rw [← hF] at HC2 hlt2
      clear hb hF
      by_cases hi : (j : Int) ∈ ids
      · rw [decide_eq_true hi] at HC1
        have HN : Hid (¬ ((j : Int) ∉ ids ∧ (j : Int) ∉ conns hs)) := fun h => h.1 hi
        clear hi hlt2
        go_wp2_with fail
        refine HC1.out.mono ?_
        rintro e w2 ⟨rfl, rfl⟩
        go_wp2_with fail
        go_roundw
        case rel =>
          refine ⟨j + 1, by omega, by go_num, HB1.out, fun q h => ?_⟩
          rcases Nat.lt_or_ge q j with h' | h'
          · exact HS.out q h'
          · obtain rfl : q = j := by omega
            exact HN.out
        case measure => simp [intOf]; omega
      · rw [decide_eq_false hi] at HC1
        by_cases hc : (j : Int) ∈ conns hs
        · have hlt3 : decide (F < 0) = false := hlt2.trans (decide_eq_false (fun h => h hc))
          clear hlt2
          have HN : Hid (¬ ((j : Int) ∉ ids ∧ (j : Int) ∉ conns hs)) := fun h => h.2 hc
          clear hi hc
          go_wp2_with fail
          refine HC1.out.mono ?_
          rintro e w2 ⟨rfl, rfl⟩
          go_wp2_with fail
          refine HC2.out.mono ?_
          rintro e w3 ⟨rfl, b3⟩
          have B3 := Lib.hid (HB1.out.trans (b3.mono hsz))
          clear b3
          go_wp2_with fail
          go_roundw
          case rel =>
            refine ⟨j + 1, by omega, by go_num, B3.out, fun q h => ?_⟩
            rcases Nat.lt_or_ge q j with h' | h'
            · exact HS.out q h'
            · obtain rfl : q = j := by omega
              exact HN.out
          case measure => simp [intOf]; omega
        · have hlt3 : decide (F < 0) = true := hlt2.trans (decide_eq_true hc)
          clear hlt2
          have HR' : Hid (r = (j : Nat)) := HR.out.trans (by
            have := fidx_some (fun c : Nat => decide ((c : Int) ∉ ids ∧ (c : Int) ∉ conns hs)) (List.range M) j (by simpa using hlt) (by simp [hi, hc]) (fun q hq h => by
              have := HS.out q h
              simpa using this)
            simpa [closedV] using this)
          clear hi hc
          go_wp2_with fail
          refine HC1.out.mono ?_
          rintro e w2 ⟨rfl, rfl⟩
          go_wp2_with fail
          refine HC2.out.mono ?_
          rintro e w3 ⟨rfl, b3⟩
          have B3 := Lib.hid (HB1.out.trans (b3.mono hsz))
          clear b3
          go_wp2_with fail
          go_ret
          exact ⟨ret_int HR'.out.symm, FIN.out _ B3.out⟩
    · obtain rfl : j = M := by omega
      have hd1 : decide ((j : Int) < (j : Int)) = false := decide_eq_false (by omega)
      have HR' : Hid (r = -1) := HR.out.trans (fidx_none _ _ (fun q hq => by
        have h1 : q < j := by simpa using hq
        have := HS.out q h1
        simpa using this))
      clear hb
      go_wp2_with fail
      go_ret
      exact ⟨ret_int HR'.out.symm, FIN.out _ HB1.out⟩
theorem arm_new {w w1 : World} {o : Obj} (b : Below (w.alloc o).drew.heap.size (w.alloc o).drew w1) : Below w.heap.size w w1 := ((Below.refl w.heap.size w).alloc (Nat.le_refl _) o).drew.trans (b.mono ((Below.refl w.heap.size w).alloc (Nat.le_refl _) o).drew.size)
set_option maxRecDepth 100000 in
set_option maxHeartbeats 8000000 in
theorem copyPool_c (mx : Int) (ids : List Int) (hs : List Pr) (wt : List Int) (A : Option Addr) (n c : Nat) (B : Option Addr) (m d : Nat) (C : Option Addr) (k f : Nat) (w : World) (hA : ids.length = n) (hB : hs.length = m) (hC : wt.length = k)
    (h1 : Rd w A (ids.map (.int .i64))) (h2 : Rd w B (sc hs)) (h3 : Rd w C (wt.map (.int .i64))) (l1 : n ≤ 1073741824) (l2 : m ≤ 1073741824) (l3 : k ≤ 1073741824) :
    Calls Tryz.prog 114 #[.agg #[.int .i64 mx, .slice A n c, .slice B m d, .slice C k f]] w (RetP ⟨mx, ids, hs, wt⟩ w) := by
  obtain ⟨i0, i0_i, i0_z0, i0_z1, i0_z2⟩ := info_parts poolHoldInfo
  obtain ⟨w1, hw1⟩ : ∃ w1, w1 = (w.alloc (.cells #[.int .i64 mx, .slice A n c, .slice B m d, .slice C k f] 26)).alloc (.cells #[.int .i64 0, .slice none 0 0, .slice none 0 0, .slice none 0 0] 26) := ⟨_, rfl⟩
  have hg : w1.heap.size = w.heap.size + 1 + 1 := by rw [hw1]; simp
  have H1 := Lib.hid (show Rd w1 A _ by rw [hw1]; exact (h1.alloc _).alloc _)
  have H2 := Lib.hid (show Rd w1 B _ by rw [hw1]; exact (h2.alloc _).alloc _)
  have H3 := Lib.hid (show Rd w1 C _ by rw [hw1]; exact (h3.alloc _).alloc _)
  have BX := Lib.hid (show Blk w1 w.heap.size 26 #[.int .i64 mx, .slice A n c, .slice B m d, .slice C k f] by rw [hw1]; exact (Blk.new w _ _).alloc _)
  have BR := Lib.hid (show Blk w1 (w.heap.size + 1) 26 #[.int .i64 0, .slice none 0 0, .slice none 0 0, .slice none 0 0] by rw [hw1]; have := Blk.new (w.alloc (.cells #[.int .i64 mx, .slice A n c, .slice B m d, .slice C k f] 26)) 26 #[.int .i64 0, .slice none 0 0, .slice none 0 0, .slice none 0 0]; simpa using this)
  have B01 := Lib.hid (show Below w.heap.size w w1 by rw [hw1]; exact ((Below.refl _ _).alloc (Nat.le_refl _) _).alloc (by simp) _)
  have HC1 := Lib.hid (fun W hW => copyInts_c ids A n c W hA hW l1)
  have HC3 := Lib.hid (fun W hW => copyInts_c wt C k f W hC hW l3)
  have hgl : w.heap.size < w1.heap.size := by omega
  have hgr : w.heap.size + 1 < w1.heap.size := by omega
  have HB := Lib.hid hB
  obtain ⟨k0, k1, k2, k3, _⟩ := blk4 BX.out
  clear h1 h2 h3 hA hB hC
  go_enter Tryz.func114, Tryz.ntmps114
  go_wp2_with fail
  rw [← hw1]
  clear hw1
  go_region_held3 (fun w' => w'.cell? ⟨w.heap.size, 0, none⟩ = some (.int .i64 mx) ∧ w'.cell? ⟨w.heap.size, 1, none⟩ = some (.slice A n c) ∧ w'.cell? ⟨w.heap.size, 2, none⟩ = some (.slice B m d) ∧ w'.cell? ⟨w.heap.size, 3, none⟩ = some (.slice C k f)) (go_keep) ((first
    | (go_at_call 69; (with_reducible refine (HC1.out _ (by first | exact H1.out.drew | exact (H1.out.alloc _).drew)).mono ?_); rintro e wA ⟨A1, a1, rfl, rA, bA⟩; have BA : Hid (Below w1.heap.size w1 wA) := (by first | exact Lib.hid (arm_drew bA).1 | exact Lib.hid (arm_new bA)); have ka0 := (BA.out.cell (p := ⟨w.heap.size, 0, none⟩) hgl).trans k0; have ka1 := (BA.out.cell (p := ⟨w.heap.size, 1, none⟩) hgl).trans k1; have ka2 := (BA.out.cell (p := ⟨w.heap.size, 2, none⟩) hgl).trans k2; have ka3 := (BA.out.cell (p := ⟨w.heap.size, 3, none⟩) hgl).trans k3)
    | (refine step_append_row _ (by rfl) (.tmp 8) (.tmp 10) 24 (by rfl) wA.heap.size 48 i0 (.agg #[.int .i64 0, .int .i64 0]) 2 16 Tryz.underlying24 i0_i i0_z0 i0_z1 i0_z2 rfl _ 0 0 [] rfl (Row.nil _ _ _ _ _) B m d (sc hs) (by rfl) (by rw [sc_len, HB.out]) (by first | exact (H2.out.below BA.out).alloc _ | exact H2.out.below BA.out) (sc_one hs) (by omega) (by unfold maxLen; omega) (by omega) (by simp <;> omega) ?_; intro A2 a2 w2 row2 hg2 _; have b2 : Below wA.heap.size wA w2 := (by first | exact ((Below.refl _ _).alloc (Nat.le_refl _) _).grown hg2 (by simp) (fun y hy => by simp [rb] at hy) | exact (Below.refl _ _).grown hg2 (by simp) (fun y hy => by simp [rb] at hy)); have B2 := Lib.hid (BA.out.trans (b2.mono BA.out.size)); have k20 := (B2.out.cell (p := ⟨w.heap.size, 0, none⟩) hgl).trans k0; have k21 := (B2.out.cell (p := ⟨w.heap.size, 1, none⟩) hgl).trans k1; have k22 := (B2.out.cell (p := ⟨w.heap.size, 2, none⟩) hgl).trans k2; have k23 := (B2.out.cell (p := ⟨w.heap.size, 3, none⟩) hgl).trans k3)
    | (go_at_call 69; (with_reducible refine (HC3.out _ (H3.out.below B2.out)).mono ?_); rintro e wC ⟨A3, a3, rfl, rC, bC⟩; have BC := Lib.hid (B2.out.trans (bC.mono B2.out.size)); obtain ⟨r0, r1, r2, r3, rfz⟩ := blk4 (BR.out.below BC.out hgr); have kc0 := (BC.out.cell (p := ⟨w.heap.size, 0, none⟩) hgl).trans k0; have kc1 := (BC.out.cell (p := ⟨w.heap.size, 1, none⟩) hgl).trans k1; have kc2 := (BC.out.cell (p := ⟨w.heap.size, 2, none⟩) hgl).trans k2; have kc3 := (BC.out.cell (p := ⟨w.heap.size, 3, none⟩) hgl).trans k3)
    | fail))
  all_goals
    have hbA := BA.out.size
    have hb2' := b2.size
    have hap1 := row_apart rA row2 (Nat.le_refl _)
    have hap2 := row_apart rA rC (by omega)
    have hap3 := row_apart row2 rC (Nat.le_refl _)
    have rr1 : Row wC (w.heap.size + 2) 3 1 A1 ids.length a1 (ids.map (.int .i64)) := (((rA.below b2).below bC).mono (by simp <;> omega))
    have rr2 : Row wC (w.heap.size + 2) 48 2 A2 hs.length a2 (sc hs) := by
      have h9 := (row2.below bC).mono (B' := w.heap.size + 2) (by omega)
      rw [HB.out]; simpa using h9
    have rr3 : Row wC (w.heap.size + 2) 3 1 A3 wt.length a3 (wt.map (.int .i64)) := rC.mono (by omega)
    have PP := Lib.hid (show PRow wC (w.heap.size + 2) ⟨mx, ids, hs, wt⟩ A1 a1 A2 a2 A3 a3 from ⟨rr1, rr2, rr3, hap1, hap2, hap3⟩)
    have FB := Lib.hid (B01.out.trans (BC.out.mono (by omega)))
    have hmm : hs.length = m := HB.out
    clear rr1 rr2 rr3 hap1 hap2 hap3 rA row2 rC bA b2 bC hg2 BA B2 BC
    go_wp2_with fail
    refine bodyPost_ret (v := .agg #[.int .i64 mx, .slice A1 ids.length a1, .slice A2 m a2, .slice A3 wt.length a3]) (by simp [results, Tryz.results114, go_sem, r0, r1, r2, r3, rfz]) rfl ?_
    refine ⟨A1, a1, A2, a2, A3, a3, by rw [hmm], ?_, ?_⟩
    · refine PRow.mono (base := w.heap.size + 2) ?_ (by omega)
      repeat (with_reducible refine PRow.setFar ?_ (by simp <;> omega) _)
      exact PP.out
    · repeat (with_reducible refine Below.setCell ?_ (by simp <;> omega) _)
      exact FB.out
end Go.Proofs.YtnmgnhpagnjhlaaGreatDoor
