/- A pool after an owner has asked for a connection: plain law, and the reference. -/
import Derived.Test.YtnmgnhpagnjhlaaGreatDoorCopy
import Derived.Deep.Cut
set_option linter.unusedVariables false
set_option linter.unusedSimpArgs false
set_option linter.unnecessarySimpa false
namespace Go.Proofs.YtnmgnhpagnjhlaaGreatDoor
open Go.RowKit

section
variable {w w' : World} {base : Nat} {p : Pl} {A B C : Option Addr} {a b c : Nat}
theorem apart_new {w : World} {B0 : Nat} {e : TypeId} {s n : Nat} {xs : List Value} {X Y : Option Addr} {x y : Nat} {Z : Option Addr} {z : Nat} (h : Row w B0 e s X n x xs) (hz : Apart X x Z z) (hy : rb Y y = rb Z z ∨ rb Y y = some w.heap.size) : Apart X x Y y := by
  rcases hy with hy | hy
  · unfold Apart; rw [hy]; exact hz
  · unfold Apart
    rw [hy]
    cases hx : rb X x with
    | none => exact ⟨.inl rfl, .inr (by simp)⟩
    | some k =>
      have := (h.lt k hx).2
      exact ⟨.inr (fun e => by injection e; omega), .inr (fun e => by injection e; omega)⟩
theorem PRow.newI (h : PRow w base p A a B b C c) (hb : Below w.heap.size w w') {zs : List Int} {X : Option Addr} {x : Nat} (r : Row w' w.heap.size 3 1 X zs.length x (zs.map (.int .i64))) (hB : base ≤ w.heap.size) : PRow w' base ⟨p.mx, zs, p.hs, p.wt⟩ X x B b C c :=
  ⟨r.mono hB, h.2.1.below hb, h.2.2.1.below hb, Apart.symm (row_apart h.2.1 r (Nat.le_refl _)), Apart.symm (row_apart h.2.2.1 r (Nat.le_refl _)), h.2.2.2.2.2⟩
theorem PRow.newH (h : PRow w base p A a B b C c) (hb : Below w.heap.size w w') {zs : List Pr} {X : Option Addr} {x : Nat} (r : Row w' w.heap.size 48 2 X zs.length x (sc zs)) (hB : base ≤ w.heap.size) : PRow w' base ⟨p.mx, p.ids, zs, p.wt⟩ A a X x C c :=
  ⟨h.1.below hb, r.mono hB, h.2.2.1.below hb, row_apart h.1 r (Nat.le_refl _), h.2.2.2.2.1, Apart.symm (row_apart h.2.2.1 r (Nat.le_refl _))⟩
theorem PRow.newW (h : PRow w base p A a B b C c) (hb : Below w.heap.size w w') {zs : List Int} {X : Option Addr} {x : Nat} (r : Row w' w.heap.size 3 1 X zs.length x (zs.map (.int .i64))) (hB : base ≤ w.heap.size) : PRow w' base ⟨p.mx, p.ids, p.hs, zs⟩ A a B b X x :=
  ⟨h.1.below hb, h.2.1.below hb, r.mono hB, h.2.2.2.1, row_apart h.1 r (Nat.le_refl _), row_apart h.2.1 r (Nat.le_refl _)⟩
theorem PRow.pushI (h : PRow w base p A a B b C c) {zs : List Int} {X : Option Addr} {x : Nat} (hg : w.grownBy w' (rb A a)) (r : Row w' base 3 1 X zs.length x (zs.map (.int .i64))) (hx : rb X x = rb A a ∨ rb X x = some w.heap.size) : PRow w' base ⟨p.mx, zs, p.hs, p.wt⟩ X x B b C c :=
  ⟨r, h.2.1.kept hg h.2.2.2.1.2, h.2.2.1.kept hg h.2.2.2.2.1.2, Apart.symm (apart_new h.2.1 h.2.2.2.1.symm hx), Apart.symm (apart_new h.2.2.1 h.2.2.2.2.1.symm hx), h.2.2.2.2.2⟩
theorem PRow.pushH (h : PRow w base p A a B b C c) {zs : List Pr} {X : Option Addr} {x : Nat} (hg : w.grownBy w' (rb B b)) (r : Row w' base 48 2 X zs.length x (sc zs)) (hx : rb X x = rb B b ∨ rb X x = some w.heap.size) : PRow w' base ⟨p.mx, p.ids, zs, p.wt⟩ A a X x C c :=
  ⟨h.1.kept hg h.2.2.2.1.1, r, h.2.2.1.kept hg h.2.2.2.2.2.2, apart_new h.1 h.2.2.2.1 hx, h.2.2.2.2.1, Apart.symm (apart_new h.2.2.1 h.2.2.2.2.2.symm hx)⟩
theorem PRow.pushW (h : PRow w base p A a B b C c) {zs : List Int} {X : Option Addr} {x : Nat} (hg : w.grownBy w' (rb C c)) (r : Row w' base 3 1 X zs.length x (zs.map (.int .i64))) (hx : rb X x = rb C c ∨ rb X x = some w.heap.size) : PRow w' base ⟨p.mx, p.ids, p.hs, zs⟩ A a B b X x :=
  ⟨h.1.kept hg h.2.2.2.2.1.1, h.2.1.kept hg h.2.2.2.2.2.1, r, h.2.2.2.1, apart_new h.1 h.2.2.2.2.1 hx, apart_new h.2.1 h.2.2.2.2.2 hx⟩
theorem PRow.setOff (h : PRow w base p A a B b C c) {q : Addr} (hA : rb A a ≠ some q.block) (hB : rb B b ≠ some q.block) (hC : rb C c ≠ some q.block) (u : Value) : PRow (w.setCell q u) base p A a B b C c :=
  ⟨h.1.kept (only_setCell (World.grownBy.refl _ _) (.inl rfl) u) (.inr hA), h.2.1.kept (only_setCell (World.grownBy.refl _ _) (.inl rfl) u) (.inr hB), h.2.2.1.kept (only_setCell (World.grownBy.refl _ _) (.inl rfl) u) (.inr hC), h.2.2.2⟩
/-- A block that no row lies in. -/
def Off (g : Nat) (A : Option Addr) (a : Nat) (B : Option Addr) (b : Nat) (C : Option Addr) (c : Nat) : Prop := rb A a ≠ some g ∧ rb B b ≠ some g ∧ rb C c ≠ some g
theorem PRow.off (h : PRow w base p A a B b C c) {g : Nat} (hg : w.heap.size ≤ g) : Off g A a B b C c :=
  ⟨fun e => by have := (h.1.lt _ e).2; omega, fun e => by have := (h.2.1.lt _ e).2; omega, fun e => by have := (h.2.2.1.lt _ e).2; omega⟩
theorem PRow.offLow (h : PRow w base p A a B b C c) {g : Nat} (hg : g < base) : Off g A a B b C c :=
  ⟨fun e => by have := (h.1.lt _ e).1; omega, fun e => by have := (h.2.1.lt _ e).1; omega, fun e => by have := (h.2.2.1.lt _ e).1; omega⟩
theorem rb_new {X : Option Addr} {x g z : Nat} {Y : Option Addr} {y : Nat} (h : rb X x = rb Y y ∨ rb X x = some z) (hY : rb Y y ≠ some g) (hz : g < z) : rb X x ≠ some g := by
  rcases h with h | h
  · rw [h]; exact hY
  · rw [h]; intro e; injection e; omega
theorem Row.offNew {e : TypeId} {s n : Nat} {xs : List Value} {X : Option Addr} {x g : Nat} (r : Row w base e s X n x xs) (hg : g < base) : rb X x ≠ some g := fun e => by have := (r.lt _ e).1; omega
theorem PRow.set (h : PRow w base p A a B b C c) {q : Addr} (ho : Off q.block A a B b C c) (u : Value) : PRow (w.setCell q u) base p A a B b C c := h.setOff ho.1 ho.2.1 ho.2.2 u
theorem PRow.drewN (h : PRow w base p A a B b C c) (n : Nat) : PRow (w.drewN n) base p A a B b C c := h
theorem PRow.drew (h : PRow w base p A a B b C c) : PRow w.drew base p A a B b C c := h
end
theorem Rd.two_ (w : World) (a b : Value) (t : TypeId) : Rd (w.alloc (.cells #[a, b] t)) (some ⟨w.heap.size, 0, none⟩) [a, b] := fun _ => ⟨w.heap.size, 0, rfl, fun j u hu => by
  rw [Nat.zero_add, cell_new]
  match j, hu with
  | 0, hu => simpa using hu
  | 1, hu => simpa using hu
  | (n + 2), hu => simp at hu⟩
theorem two1_ (a b : Int) : ∀ u ∈ [Value.int .i64 a, .int .i64 b], u.oneCell' = true := fun u hu => by
  simp at hu
  rcases hu with rfl | rfl <;> rfl
theorem snocI (xs : List Int) (x : Int) (L : List Value) (h : L = xs.map (Value.int .i64)) : L ++ [Value.int .i64 x] = (xs ++ [x]).map (Value.int .i64) := by rw [h]; simp
theorem snocH (xs : List Pr) (x y : Int) (L : List Value) (h : L = sc xs) : L ++ [Value.int .i64 x, Value.int .i64 y] = sc (xs ++ [(x, y)]) := by rw [h, sc_append]; rfl
theorem PRow.zero (w : World) (base : Nat) : PRow w base Pl.zero none 0 none 0 none 0 :=
  ⟨Row.nil _ _ _ _ _, Row.nil _ _ _ _ _, Row.nil _ _ _ _ _, ⟨.inl rfl, .inl rfl⟩, ⟨.inl rfl, .inl rfl⟩, ⟨.inl rfl, .inl rfl⟩⟩
/-- A pool in rows of its own, and a number; what was there is as it was. -/
def RetPC (p : Pl) (n : Int) (w : World) (e : Ending) (w' : World) : Prop :=
  ∃ A a B b C c, e = .returned (.tuple #[.agg #[.int .i64 p.mx, .slice A p.ids.length a, .slice B p.hs.length b, .slice C p.wt.length c], .int .i64 n]) ∧ PRow w' w.heap.size p A a B b C c ∧ Below w.heap.size w w'
def RetPCB (p : Pl) (n : Int) (ok : Bool) (w : World) (e : Ending) (w' : World) : Prop :=
  ∃ A a B b C c, e = .returned (.tuple #[.agg #[.int .i64 p.mx, .slice A p.ids.length a, .slice B p.hs.length b, .slice C p.wt.length c], .int .i64 n, .bool ok]) ∧ PRow w' w.heap.size p A a B b C c ∧ Below w.heap.size w w'
set_option maxRecDepth 100000 in
set_option maxHeartbeats 8000000 in
theorem sAcquire_c (M : Nat) (ids : List Int) (hs : List Pr) (wt : List Int) (A : Option Addr) (n c : Nat) (B : Option Addr) (m d : Nat) (C : Option Addr) (k f : Nat) (w : World) (hA : ids.length = n) (hB : hs.length = m) (hC : wt.length = k)
    (h1 : Rd w A (ids.map (.int .i64))) (h2 : Rd w B (sc hs)) (h3 : Rd w C (wt.map (.int .i64))) (l1 : n ≤ 1073741824) (l2 : m ≤ 1073741824) (l3 : k ≤ 1073741824) (hcA : n ≤ c) (o : Int) (hgood : Pl.Good ⟨M, ids, hs, wt⟩) :
    Calls Tryz.prog 112 #[.agg #[.int .i64 M, .slice A n c, .slice B m d, .slice C k f], .int .i64 o] w (RetPC (acqV ⟨M, ids, hs, wt⟩ o).1 (acqV ⟨M, ids, hs, wt⟩ o).2 w) := by
  obtain ⟨i0, i0_i, i0_z0, i0_z1, i0_z2⟩ := info_parts poolHoldInfo
  obtain ⟨j0, j0_i, j0_z0, j0_z1, j0_z2⟩ := info_parts poolIntInfo
  have hmx := hgood.2.2.1
  simp only at hmx
  have hsm := hgood.small
  simp only at hsm
  have hid := hgood.2.2.2.1
  simp only at hid
  obtain ⟨Z, hZ⟩ : ∃ Z, Z = closedV M ids hs := ⟨_, rfl⟩
  have HCC := Lib.hid (fun W q1 q2 => closed_c M ids hs A n c B m d C k f W hA hB q1 q2 l1 l2 (by omega))
  rw [← hZ] at HCC
  have HCP := Lib.hid (fun W q1 q2 q3 => copyPool_c M ids hs wt A n c B m d C k f W hA hB hC q1 q2 q3 l1 l2 l3)
  obtain ⟨w1, hw1⟩ : ∃ w1, w1 = (w.alloc (.cells #[.int .i64 M, .slice A n c, .slice B m d, .slice C k f] 26)).alloc (.cells #[.int .i64 0, .slice none 0 0, .slice none 0 0, .slice none 0 0] 26) := ⟨_, rfl⟩
  have hg : w1.heap.size = w.heap.size + 1 + 1 := by rw [hw1]; simp
  have H1 := Lib.hid (show Rd w1 A _ by rw [hw1]; exact (h1.alloc _).alloc _)
  have H2 := Lib.hid (show Rd w1 B _ by rw [hw1]; exact (h2.alloc _).alloc _)
  have H3 := Lib.hid (show Rd w1 C _ by rw [hw1]; exact (h3.alloc _).alloc _)
  have BX := Lib.hid (show Blk w1 w.heap.size 26 #[.int .i64 M, .slice A n c, .slice B m d, .slice C k f] by rw [hw1]; exact (Blk.new w _ _).alloc _)
  have BR := Lib.hid (show Blk w1 (w.heap.size + 1) 26 #[.int .i64 0, .slice none 0 0, .slice none 0 0, .slice none 0 0] by rw [hw1]; have := Blk.new (w.alloc (.cells #[.int .i64 M, .slice A n c, .slice B m d, .slice C k f] 26)) 26 #[.int .i64 0, .slice none 0 0, .slice none 0 0, .slice none 0 0]; simpa using this)
  have B01 := Lib.hid (show Below w.heap.size w w1 by rw [hw1]; exact ((Below.refl _ _).alloc (Nat.le_refl _) _).alloc (by simp) _)
  have hgl : w.heap.size < w1.heap.size := by omega
  have hgr : w.heap.size + 1 < w1.heap.size := by omega
  have HA := Lib.hid hA; have HB := Lib.hid hB; have HC := Lib.hid hC
  have HID := Lib.hid hid
  have hn6 : n ≤ 6 := by omega
  have hm6 : m ≤ 6 := by omega
  have hk6 : k ≤ 12 := by omega
  have lA : ids.length ≤ 6 := by omega
  have lB : hs.length ≤ 6 := by omega
  have lC : wt.length ≤ 12 := by omega
  have HZ := Lib.hid hZ
  clear h1 h2 h3 hsm hid hgood hmx hZ
  obtain ⟨k0, k1, k2, k3, _⟩ := blk4 BX.out
  by_cases hn : 0 < n
  · have hnd : decide ((0 : Int) < (n : Int)) = true := decide_eq_true (by omega)
    have hnd2 : decide (0 < n) = true := decide_eq_true (by omega)
    obtain ⟨j, rfl⟩ : ∃ j, n = j + 1 := ⟨n - 1, by omega⟩
    obtain ⟨X0, hX0⟩ : ∃ X0, X0 = ids.getD j 0 := ⟨_, rfl⟩
    obtain ⟨L, hL⟩ : ∃ L, L = ids.take j := ⟨_, rfl⟩
    have hLl : L.length = j := by rw [hL, List.length_take]; omega
    have hge : ids[j]? = some X0 := by rw [hX0, List.getD_eq_getElem?_getD, List.getElem?_eq_getElem (by omega), Option.getD_some]
    have hx0 : 0 ≤ X0 := (HID.out X0 (List.mem_append_left _ (List.mem_of_getElem? hge))).1
    have hxd : decide (X0 < 0) = false := decide_eq_false (by omega)
    have HRES : Hid (acqV ⟨M, ids, hs, wt⟩ o = (⟨M, L, hs ++ [(X0, o)], wt⟩, X0)) := by
      show _ = _
      have e : ids.length - 1 = j := by omega
      unfold acqV
      simp only [e]
      rw [if_pos (by omega), ← hX0, ← hL]
    rw [HRES.out]
    have HCI := Lib.hid (fun W q => copyInts_c L A j c W hLl q (by omega))
    have HGE := Lib.hid hge; have HL := Lib.hid hL
    have hjw : IntKind.i64.wrap (j : Int) = (j : Int) := IntWalk.i64_in _ ⟨by omega, by omega⟩
    have hjc : (j : Int) ≤ (c : Int) := by omega
    have hj0 : (0 : Int) ≤ (j : Int) := by omega
    have lL : L.length ≤ 6 := by omega
    clear hX0 hL hge hx0 hLl
    clear hA hB hC
    go_enter Tryz.func112, Tryz.ntmps112
    go_wp2_with fail
    rw [← hw1]
    clear hw1
    refine (HCP.out _ H1.out H2.out H3.out).mono ?_
    rintro e wA ⟨A1, a1, A2, a2, A3, a3, rfl, pr, bA⟩
    simp only at pr ⊢
    obtain ⟨wO, hwO⟩ : ∃ wO, wO = wA.alloc (.cells #[.int .i64 (M : Int), .slice A1 ids.length a1, .slice A2 hs.length a2, .slice A3 wt.length a3] 26) := ⟨_, rfl⟩
    have hsO : wO.heap.size = wA.heap.size + 1 := by rw [hwO]; simp
    have hsA : w1.heap.size ≤ wA.heap.size := bA.size
    have BO0 := Lib.hid (show Blk wO wA.heap.size 26 #[.int .i64 (M : Int), .slice A1 ids.length a1, .slice A2 hs.length a2, .slice A3 wt.length a3] by rw [hwO]; exact Blk.new wA _ _)
    have FR0 := Lib.hid (show Below w1.heap.size w1 wO by rw [hwO]; exact bA.alloc hsA _)
    have PR0 := Lib.hid (show PRow wO w1.heap.size _ A1 a1 A2 a2 A3 a3 by rw [hwO]; exact pr.alloc _)
    have OF1 := Lib.hid (show Off wA.heap.size A1 a1 A2 a2 A3 a3 from pr.off (Nat.le_refl _))
    have BA := Lib.hid bA
    clear pr bA k0 k1 k2 k3
    obtain ⟨k0, k1, k2, k3, _⟩ := blk4 (BX.out.below BA.out hgl)
    have hgA : w.heap.size < wA.heap.size := by omega
    go_wp2_with fail
    rw [← hwO]
    clear hwO k0 k1 k2 k3
    refine (HCC.out _ (H1.out.below FR0.out) (H2.out.below FR0.out)).mono ?_
    rintro e wB ⟨rfl, bB⟩
    have hsB : wO.heap.size ≤ wB.heap.size := bB.size
    have hgB : wA.heap.size < wB.heap.size := by omega
    have FR1 := Lib.hid (FR0.out.trans (bB.mono FR0.out.size))
    have PR1 := Lib.hid (PR0.out.below bB)
    have BO1 := Lib.hid (BO0.out.below bB (by omega))
    clear bB
    obtain ⟨k0, k1, k2, k3, _⟩ := blk4 (BX.out.below FR1.out hgl)
    obtain ⟨r0, r1, r2, r3, rfz⟩ := blk4 (BR.out.below FR1.out hgr)
    obtain ⟨o0, o1, o2, o3, ofz⟩ := blk4 BO1.out
    obtain ⟨b, off, hAe, hbl, hc⟩ := (H1.out.below FR1.out).block (by simp <;> have := HA.out <;> omega)
    have hcj : wB.cell? ⟨b, off + j, none⟩ = some (.int .i64 X0) := hc j _ (by rw [List.getElem?_map, HGE.out]; rfl)
    subst hAe
    clear hc
    go_wp2_with fail
    refine (HCI.out _ (by rw [HL.out, List.map_take]; exact (H1.out.below FR1.out).take j)).mono ?_
    rintro e wC ⟨Y, y, rfl, rY, bC⟩
    obtain ⟨w5, hw5⟩ : ∃ w5, w5 = wC.setCell ⟨wA.heap.size, 1, none⟩ (.slice Y L.length y) := ⟨_, rfl⟩
    have h5s : w5.heap.size = wC.heap.size := by rw [hw5]; simp [World.setCell]
    have hsC : wB.heap.size ≤ wC.heap.size := bC.size
    have hgC : wA.heap.size < wC.heap.size := by omega
    have BOC := Lib.hid (BO1.out.below bC hgB)
    have FRC := Lib.hid (FR1.out.trans (bC.mono FR1.out.size))
    have BO2 := Lib.hid (show Blk w5 wA.heap.size 26 #[.int .i64 (M : Int), .slice Y L.length y, .slice A2 hs.length a2, .slice A3 wt.length a3] by rw [hw5]; exact BOC.out.set_ 1 _)
    have FR2 := Lib.hid (show Below w1.heap.size w1 w5 by rw [hw5]; exact FRC.out.setCell (by simp <;> omega) _)
    have OF2 := Lib.hid (show Off wA.heap.size Y y A2 a2 A3 a3 from ⟨rY.offNew hgB, OF1.out.2.1, OF1.out.2.2⟩)
    have PR2 := Lib.hid (show PRow w5 w1.heap.size ⟨M, L, hs, wt⟩ Y y A2 a2 A3 a3 by rw [hw5]; exact (PR1.out.newI bC rY FR1.out.size).set (q := ⟨wA.heap.size, _, none⟩) OF2.out _)
    clear rY bC k0 k1 k2 k3 r0 r1 r2 r3 rfz o0 o1 o2 o3 ofz
    obtain ⟨k0, k1, k2, k3, _⟩ := blk4 (BX.out.below FRC.out hgl)
    obtain ⟨o0, o1, o2, o3, ofz⟩ := blk4 BOC.out
    go_upto_region 7 with fail
    rw [← hw5]
    clear hw5 k0 k1 k2 k3 o0 o1 o2 o3 ofz
    have hg5 : wA.heap.size < w5.heap.size := by omega
    clear h5s
    obtain ⟨k0, k1, k2, k3, _⟩ := blk4 (BX.out.below FR2.out hgl)
    obtain ⟨r0, r1, r2, r3, rfz⟩ := blk4 (BR.out.below FR2.out hgr)
    obtain ⟨o0, o1, o2, o3, ofz⟩ := blk4 BO2.out

    go_wp2_with (at_builtin; (refine wpList_append_row _ rfl (.tmp 41) (.tmp 45) 24 rfl w1.heap.size 48 i0 (.agg #[.int .i64 0, .int .i64 0]) 2 16 Tryz.underlying24 i0_i i0_z0 i0_z1 i0_z2 rfl A2 hs.length a2 (sc hs) (by first | rfl | simp) (PR2.out.2.1.alloc _) (some ⟨w5.heap.size, 0, none⟩) 1 1 [.int .i64 X0, .int .i64 o] rfl rfl (Rd.two_ _ _ _ _) (two1_ _ _) (by omega) (by unfold maxLen; omega) (by omega) (by simp <;> omega) ?_))
    intro X x wD rowD hgD hatD
    have rowD' : Row wD w1.heap.size 48 2 X (hs ++ [(X0, o)]).length x (sc (hs ++ [(X0, o)])) := by rw [← snocH hs X0 o _ rfl, List.length_append, hg]; exact rowD
    have hlt9 := PR2.out.2.1.lt
    have hatD' : rb X x = rb A2 a2 ∨ rb X x = some (w5.heap.size + 1) := by simpa using hatD
    have PD := Lib.hid (PRow.pushH (PR2.out.alloc _) hgD rowD' (by simpa using hatD))
    have hoX : rb X x ≠ some wA.heap.size := rb_new hatD' OF2.out.2.1 (by omega)
    have OFD := Lib.hid (show Off wA.heap.size _ _ _ _ _ _ from ⟨OF2.out.1, hoX, OF2.out.2.2⟩)
    have BOD := Lib.hid ((BO2.out.alloc _).grown hgD (fun e => OF2.out.2.1 e.symm))
    have FRD := Lib.hid ((FR2.out.alloc FR2.out.size _).grown hgD (by have := FR2.out.size; simp <;> omega) (fun y hy => (hlt9 y hy).1))
    have hsD : w5.heap.size < wD.heap.size := by have := hgD.size; simp at this; omega
    have hgD2 : wA.heap.size < wD.heap.size := by omega
    clear rowD rowD' hgD hatD hatD' hlt9 hoX k0 k1 k2 k3 r0 r1 r2 r3 rfz o0 o1 o2 o3 ofz
    obtain ⟨k0, k1, k2, k3, _⟩ := blk4 (BX.out.below FRD.out hgl)
    obtain ⟨r0, r1, r2, r3, rfz⟩ := blk4 (BR.out.below FRD.out hgr)
    obtain ⟨o0, o1, o2, o3, ofz⟩ := blk4 BOD.out
    have hoo : ¬ w.heap.size + 1 = wA.heap.size := by omega
    have hoo' : ¬ wA.heap.size = w.heap.size + 1 := by omega
    go_wp2_with fail

    refine bodyPost_ret (v := .tuple #[.agg #[.int .i64 M, .slice Y L.length y, .slice X (hs.length + 1) x, .slice A3 wt.length a3], .int .i64 (X0)]) (by simp [results, Tryz.results112, go_sem, r0, r1, r2, r3, rfz, o0, o1, o2, o3, ofz, hoo, hoo']) rfl ?_
    refine ⟨Y, y, X, x, A3, a3, by simp only [List.length_append]; rfl, ?_, ?_⟩
    · refine PRow.mono (base := w1.heap.size) ?_ (by omega)
      iterate 4 (with_reducible refine PRow.setFar ?_ (by simp <;> omega) _)
      exact PD.out.set (q := ⟨wA.heap.size, _, none⟩) OFD.out _
    · repeat (with_reducible refine Below.setCell ?_ (by simp <;> omega) _)
      exact B01.out.trans (FRD.out.mono (by omega))

  · have hnd : decide ((0 : Int) < (n : Int)) = false := decide_eq_false (by omega)
    have hnd2 : decide (0 < n) = false := decide_eq_false (by omega)
    by_cases hz : Z < 0
    · have hzd : decide (Z < 0) = true := decide_eq_true hz
      have HRES : Hid (acqV ⟨M, ids, hs, wt⟩ o = (⟨M, ids, hs, wt ++ [o]⟩, -1)) := by show _ = _; unfold acqV; simp only [Int.toNat_natCast]; rw [if_neg (by omega), ← HZ.out, if_pos hz]
      rw [HRES.out]
      clear hz hn
      clear hA hB hC
      go_enter Tryz.func112, Tryz.ntmps112
      go_wp2_with fail
      rw [← hw1]
      clear hw1
      refine (HCP.out _ H1.out H2.out H3.out).mono ?_
      rintro e wA ⟨A1, a1, A2, a2, A3, a3, rfl, pr, bA⟩
      simp only at pr ⊢
      obtain ⟨wO, hwO⟩ : ∃ wO, wO = wA.alloc (.cells #[.int .i64 (M : Int), .slice A1 ids.length a1, .slice A2 hs.length a2, .slice A3 wt.length a3] 26) := ⟨_, rfl⟩
      have hsO : wO.heap.size = wA.heap.size + 1 := by rw [hwO]; simp
      have hsA : w1.heap.size ≤ wA.heap.size := bA.size
      have BO0 := Lib.hid (show Blk wO wA.heap.size 26 #[.int .i64 (M : Int), .slice A1 ids.length a1, .slice A2 hs.length a2, .slice A3 wt.length a3] by rw [hwO]; exact Blk.new wA _ _)
      have FR0 := Lib.hid (show Below w1.heap.size w1 wO by rw [hwO]; exact bA.alloc hsA _)
      have PR0 := Lib.hid (show PRow wO w1.heap.size _ A1 a1 A2 a2 A3 a3 by rw [hwO]; exact pr.alloc _)
      have OF1 := Lib.hid (show Off wA.heap.size A1 a1 A2 a2 A3 a3 from pr.off (Nat.le_refl _))
      have BA := Lib.hid bA
      clear pr bA k0 k1 k2 k3
      obtain ⟨k0, k1, k2, k3, _⟩ := blk4 (BX.out.below BA.out hgl)
      have hgA : w.heap.size < wA.heap.size := by omega
      go_wp2_with fail
      rw [← hwO]
      clear hwO k0 k1 k2 k3
      refine (HCC.out _ (H1.out.below FR0.out) (H2.out.below FR0.out)).mono ?_
      rintro e wB ⟨rfl, bB⟩
      have hsB : wO.heap.size ≤ wB.heap.size := bB.size
      have hgB : wA.heap.size < wB.heap.size := by omega
      have FR1 := Lib.hid (FR0.out.trans (bB.mono FR0.out.size))
      have PR1 := Lib.hid (PR0.out.below bB)
      have BO1 := Lib.hid (BO0.out.below bB (by omega))
      clear bB
      obtain ⟨k0, k1, k2, k3, _⟩ := blk4 (BX.out.below FR1.out hgl)
      obtain ⟨r0, r1, r2, r3, rfz⟩ := blk4 (BR.out.below FR1.out hgr)
      obtain ⟨o0, o1, o2, o3, ofz⟩ := blk4 BO1.out

      go_wp2_with (at_builtin; (refine wpList_append_row _ rfl (.tmp 34) (.tmp 36) 23 rfl w1.heap.size 3 j0 (.int .i64 0) 1 8 Tryz.underlying23 j0_i j0_z0 j0_z1 j0_z2 rfl A3 wt.length a3 (wt.map (.int .i64)) (by first | rfl | simp) (PR1.out.2.2.1.alloc _) (some ⟨wB.heap.size, 0, none⟩) 1 1 [.int .i64 o] rfl rfl (Rd.one (cell_new _ _ _ 0)) (one1 _ rfl) (by omega) (by unfold maxLen; omega) (by omega) (by simp <;> omega) ?_))
      intro X x wD rowD hgD hatD
      have rowD' : Row wD w1.heap.size 3 1 X (wt ++ [o]).length x ((wt ++ [o]).map (.int .i64)) := by rw [← snocI wt o _ rfl, List.length_append, hg]; exact rowD
      have hlt9 := PR1.out.2.2.1.lt
      have hatD' : rb X x = rb A3 a3 ∨ rb X x = some (wB.heap.size + 1) := by simpa using hatD
      have PD := Lib.hid (PRow.pushW (PR1.out.alloc _) hgD rowD' (by simpa using hatD))
      have hoX : rb X x ≠ some wA.heap.size := rb_new hatD' OF1.out.2.2 (by omega)
      have OFD := Lib.hid (show Off wA.heap.size _ _ _ _ _ _ from ⟨OF1.out.1, OF1.out.2.1, hoX⟩)
      have BOD := Lib.hid ((BO1.out.alloc _).grown hgD (fun e => OF1.out.2.2 e.symm))
      have FRD := Lib.hid ((FR1.out.alloc FR1.out.size _).grown hgD (by have := FR1.out.size; simp <;> omega) (fun y hy => (hlt9 y hy).1))
      have hsD : wB.heap.size < wD.heap.size := by have := hgD.size; simp at this; omega
      have hgD2 : wA.heap.size < wD.heap.size := by omega
      clear rowD rowD' hgD hatD hatD' hlt9 hoX k0 k1 k2 k3 r0 r1 r2 r3 rfz o0 o1 o2 o3 ofz
      obtain ⟨k0, k1, k2, k3, _⟩ := blk4 (BX.out.below FRD.out hgl)
      obtain ⟨r0, r1, r2, r3, rfz⟩ := blk4 (BR.out.below FRD.out hgr)
      obtain ⟨o0, o1, o2, o3, ofz⟩ := blk4 BOD.out
      have hoo : ¬ w.heap.size + 1 = wA.heap.size := by omega
      have hoo' : ¬ wA.heap.size = w.heap.size + 1 := by omega
      go_wp2_with fail

      refine bodyPost_ret (v := .tuple #[.agg #[.int .i64 M, .slice A1 ids.length a1, .slice A2 hs.length a2, .slice X (wt.length + 1) x], .int .i64 (-1)]) (by simp [results, Tryz.results112, go_sem, r0, r1, r2, r3, rfz, o0, o1, o2, o3, ofz, hoo, hoo']) rfl ?_
      refine ⟨A1, a1, A2, a2, X, x, by simp only [List.length_append]; rfl, ?_, ?_⟩
      · refine PRow.mono (base := w1.heap.size) ?_ (by omega)
        iterate 4 (with_reducible refine PRow.setFar ?_ (by simp <;> omega) _)
        exact PD.out.set (q := ⟨wA.heap.size, _, none⟩) OFD.out _
      · repeat (with_reducible refine Below.setCell ?_ (by simp <;> omega) _)
        exact B01.out.trans (FRD.out.mono (by omega))

    · have hzd : decide (Z < 0) = false := decide_eq_false hz
      have HRES : Hid (acqV ⟨M, ids, hs, wt⟩ o = (⟨M, ids, hs ++ [(Z, o)], wt⟩, Z)) := by show _ = _; unfold acqV; simp only [Int.toNat_natCast]; rw [if_neg (by omega), ← HZ.out, if_neg hz]
      rw [HRES.out]
      clear hz hn
      clear hA hB hC
      go_enter Tryz.func112, Tryz.ntmps112
      go_wp2_with fail
      rw [← hw1]
      clear hw1
      refine (HCP.out _ H1.out H2.out H3.out).mono ?_
      rintro e wA ⟨A1, a1, A2, a2, A3, a3, rfl, pr, bA⟩
      simp only at pr ⊢
      obtain ⟨wO, hwO⟩ : ∃ wO, wO = wA.alloc (.cells #[.int .i64 (M : Int), .slice A1 ids.length a1, .slice A2 hs.length a2, .slice A3 wt.length a3] 26) := ⟨_, rfl⟩
      have hsO : wO.heap.size = wA.heap.size + 1 := by rw [hwO]; simp
      have hsA : w1.heap.size ≤ wA.heap.size := bA.size
      have BO0 := Lib.hid (show Blk wO wA.heap.size 26 #[.int .i64 (M : Int), .slice A1 ids.length a1, .slice A2 hs.length a2, .slice A3 wt.length a3] by rw [hwO]; exact Blk.new wA _ _)
      have FR0 := Lib.hid (show Below w1.heap.size w1 wO by rw [hwO]; exact bA.alloc hsA _)
      have PR0 := Lib.hid (show PRow wO w1.heap.size _ A1 a1 A2 a2 A3 a3 by rw [hwO]; exact pr.alloc _)
      have OF1 := Lib.hid (show Off wA.heap.size A1 a1 A2 a2 A3 a3 from pr.off (Nat.le_refl _))
      have BA := Lib.hid bA
      clear pr bA k0 k1 k2 k3
      obtain ⟨k0, k1, k2, k3, _⟩ := blk4 (BX.out.below BA.out hgl)
      have hgA : w.heap.size < wA.heap.size := by omega
      go_wp2_with fail
      rw [← hwO]
      clear hwO k0 k1 k2 k3
      refine (HCC.out _ (H1.out.below FR0.out) (H2.out.below FR0.out)).mono ?_
      rintro e wB ⟨rfl, bB⟩
      have hsB : wO.heap.size ≤ wB.heap.size := bB.size
      have hgB : wA.heap.size < wB.heap.size := by omega
      have FR1 := Lib.hid (FR0.out.trans (bB.mono FR0.out.size))
      have PR1 := Lib.hid (PR0.out.below bB)
      have BO1 := Lib.hid (BO0.out.below bB (by omega))
      clear bB
      obtain ⟨k0, k1, k2, k3, _⟩ := blk4 (BX.out.below FR1.out hgl)
      obtain ⟨r0, r1, r2, r3, rfz⟩ := blk4 (BR.out.below FR1.out hgr)
      obtain ⟨o0, o1, o2, o3, ofz⟩ := blk4 BO1.out

      go_wp2_with (at_builtin; (refine wpList_append_row _ rfl (.tmp 41) (.tmp 45) 24 rfl w1.heap.size 48 i0 (.agg #[.int .i64 0, .int .i64 0]) 2 16 Tryz.underlying24 i0_i i0_z0 i0_z1 i0_z2 rfl A2 hs.length a2 (sc hs) (by first | rfl | simp) (PR1.out.2.1.alloc _) (some ⟨wB.heap.size, 0, none⟩) 1 1 [.int .i64 Z, .int .i64 o] rfl rfl (Rd.two_ _ _ _ _) (two1_ _ _) (by omega) (by unfold maxLen; omega) (by omega) (by simp <;> omega) ?_))
      intro X x wD rowD hgD hatD
      have rowD' : Row wD w1.heap.size 48 2 X (hs ++ [(Z, o)]).length x (sc (hs ++ [(Z, o)])) := by rw [← snocH hs Z o _ rfl, List.length_append, hg]; exact rowD
      have hlt9 := PR1.out.2.1.lt
      have hatD' : rb X x = rb A2 a2 ∨ rb X x = some (wB.heap.size + 1) := by simpa using hatD
      have PD := Lib.hid (PRow.pushH (PR1.out.alloc _) hgD rowD' (by simpa using hatD))
      have hoX : rb X x ≠ some wA.heap.size := rb_new hatD' OF1.out.2.1 (by omega)
      have OFD := Lib.hid (show Off wA.heap.size _ _ _ _ _ _ from ⟨OF1.out.1, hoX, OF1.out.2.2⟩)
      have BOD := Lib.hid ((BO1.out.alloc _).grown hgD (fun e => OF1.out.2.1 e.symm))
      have FRD := Lib.hid ((FR1.out.alloc FR1.out.size _).grown hgD (by have := FR1.out.size; simp <;> omega) (fun y hy => (hlt9 y hy).1))
      have hsD : wB.heap.size < wD.heap.size := by have := hgD.size; simp at this; omega
      have hgD2 : wA.heap.size < wD.heap.size := by omega
      clear rowD rowD' hgD hatD hatD' hlt9 hoX k0 k1 k2 k3 r0 r1 r2 r3 rfz o0 o1 o2 o3 ofz
      obtain ⟨k0, k1, k2, k3, _⟩ := blk4 (BX.out.below FRD.out hgl)
      obtain ⟨r0, r1, r2, r3, rfz⟩ := blk4 (BR.out.below FRD.out hgr)
      obtain ⟨o0, o1, o2, o3, ofz⟩ := blk4 BOD.out
      have hoo : ¬ w.heap.size + 1 = wA.heap.size := by omega
      have hoo' : ¬ wA.heap.size = w.heap.size + 1 := by omega
      go_wp2_with fail

      refine bodyPost_ret (v := .tuple #[.agg #[.int .i64 M, .slice A1 ids.length a1, .slice X (hs.length + 1) x, .slice A3 wt.length a3], .int .i64 (Z)]) (by simp [results, Tryz.results112, go_sem, r0, r1, r2, r3, rfz, o0, o1, o2, o3, ofz, hoo, hoo']) rfl ?_
      refine ⟨A1, a1, X, x, A3, a3, by simp only [List.length_append]; rfl, ?_, ?_⟩
      · refine PRow.mono (base := w1.heap.size) ?_ (by omega)
        iterate 4 (with_reducible refine PRow.setFar ?_ (by simp <;> omega) _)
        exact PD.out.set (q := ⟨wA.heap.size, _, none⟩) OFD.out _
      · repeat (with_reducible refine Below.setCell ?_ (by simp <;> omega) _)
        exact B01.out.trans (FRD.out.mono (by omega))

end Go.Proofs.YtnmgnhpagnjhlaaGreatDoor
