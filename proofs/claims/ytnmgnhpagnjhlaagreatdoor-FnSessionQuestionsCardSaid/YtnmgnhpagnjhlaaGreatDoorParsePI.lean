/- The program reads pools. -/
import Derived.Test.YtnmgnhpagnjhlaaGreatDoorParsePP
import Derived.Test.YtnmgnhpagnjhlaaGreatDoorNumP
import Derived.Test.YtnmgnhpagnjhlaaGreatDoorCopyOf
import Derived.Test.YtnmgnhpagnjhlaaGreatDoorPoolFmtI
import Derived.Deep.Cut
set_option linter.unusedVariables false
set_option linter.unusedSimpArgs false
set_option linter.unnecessarySimpa false
namespace Go.Proofs.YtnmgnhpagnjhlaaGreatDoor
open Go.RowKit

theorem elsOf_piece (l : List UInt8) : ∀ p ∈ elsOf l, p.length ≤ l.length := by
  intro p hp
  unfold elsOf at hp
  split at hp
  · simp at hp
  · exact spl_piece_len 44 l p hp
theorem Row.offTop {w : World} {base : Nat} {e : TypeId} {s n : Nat} {xs : List Value} {X : Option Addr} {x g : Nat} (r : Row w base e s X n x xs) (hg : w.heap.size ≤ g) : rb X x ≠ some g := fun e => by have := (r.lt _ e).2; omega
theorem apart_zero (A : Option Addr) (a : Nat) (B : Option Addr) : Apart A a B 0 := by
  have e : rb B 0 = none := rfl
  unfold Apart
  rw [e]
  cases h : rb A a with
  | none => exact ⟨.inl rfl, .inl rfl⟩
  | some k => exact ⟨.inr (by simp), .inl rfl⟩
theorem apart_lt {A B : Option Addr} {a b k : Nat} (h : ∀ y, rb A a = some y → y < k) (h2 : ∀ y, rb B b = some y → k ≤ y) : Apart A a B b := by
  unfold Apart
  cases hA : rb A a with
  | none =>
    refine ⟨.inl rfl, ?_⟩
    cases hB : rb B b with
    | none => exact .inl rfl
    | some y => exact .inr (by simp)
  | some x =>
    cases hB : rb B b with
    | none => exact ⟨.inr (by simp), .inl rfl⟩
    | some y =>
      have h3 := h x hA
      have h4 := h2 y hB
      exact ⟨.inr (fun e => by injection e; omega), .inr (fun e => by injection e; omega)⟩
theorem Rd.setStr {w : World} {A : Option Addr} {ps : List (List UInt8)} (h : Rd w A (strs ps)) {q : Addr} {X : Option Addr} {n c : Nat} (hq : w.cell? q = some (.slice X n c)) (u : Value) : Rd (w.setCell q u) A (strs ps) := by
  intro hl
  obtain ⟨b, off, e, hc⟩ := h hl
  refine ⟨b, off, e, fun j v hv => ?_⟩
  have h1 := hc j v hv
  rw [World.cell?_setCell_other]
  · exact h1
  · intro e2
    rw [e2, h1] at hq
    unfold strs at hv
    rw [List.getElem?_map] at hv
    cases hp : ps[j]? with
    | none => rw [hp] at hv; cases hv
    | some p => rw [hp] at hv; simp at hv; subst hv; cases hq
/-- The pool whose parts were read, in a block of its own. -/
structure PNew (w : World) (gn : Nat) (Q : Pl) (A : Option Addr) (a : Nat) (B : Option Addr) (b : Nat) (C : Option Addr) (c : Nat) (W : World) : Prop where
  blk : Blk W gn 26 #[.int .i64 Q.mx, .slice A Q.ids.length a, .slice B Q.hs.length b, .slice C Q.wt.length c]
  row : PRow W w.heap.size Q A a B b C c
  off : Off gn A a B b C c
  bel : Below w.heap.size w W
  low : w.heap.size ≤ gn
theorem PNew.fresh {w W : World} {Q : Pl} {A B C : Option Addr} {a b c : Nat} (h : Below w.heap.size w W) (pr : PRow W w.heap.size Q A a B b C c) :
    ∃ gn w8, gn = W.heap.size ∧ w8 = W.alloc (.cells #[.int .i64 Q.mx, .slice A Q.ids.length a, .slice B Q.hs.length b, .slice C Q.wt.length c] 26) ∧ PNew w gn Q A a B b C c w8 :=
  ⟨_, _, rfl, rfl, Blk.new _ _ _, pr.alloc _, pr.off (Nat.le_refl _), h.alloc h.size _, h.size⟩
theorem PNew.stored {w W : World} {Q : Pl} {A B C : Option Addr} {a b c gn : Nat} (h : Below w.heap.size w W) (pr : PRow W w.heap.size Q A a B b C c) (hn : Blk W gn 26 #[.int .i64 0, .slice none 0 0, .slice none 0 0, .slice none 0 0]) (ho : Off gn A a B b C c) (hl : w.heap.size ≤ gn) :
    ∃ g8 w8, g8 = gn ∧ w8 = (((W.setCell ⟨gn, 0, none⟩ (.int .i64 Q.mx)).setCell ⟨gn, 1, none⟩ (.slice A Q.ids.length a)).setCell ⟨gn, 2, none⟩ (.slice B Q.hs.length b)).setCell ⟨gn, 3, none⟩ (.slice C Q.wt.length c) ∧ PNew w g8 Q A a B b C c w8 := by
  refine ⟨_, _, rfl, rfl, (((hn.set_ 0 _).set_ 1 _).set_ 2 _).set_ 3 _, (((pr.set (q := ⟨gn, 0, none⟩) ho _).set (q := ⟨gn, 1, none⟩) ho _).set (q := ⟨gn, 2, none⟩) ho _).set (q := ⟨gn, 3, none⟩) ho _, ho, ?_, hl⟩
  exact (((h.setCell (by exact hl) _).setCell (by exact hl) _).setCell (by exact hl) _).setCell (by exact hl) _
set_option maxRecDepth 100000 in
set_option maxHeartbeats 16000000 in
theorem parsePool_c (s : ByteArray) (w : World) (hs : s.size ≤ 1048576) (E : Env w) :
    Calls Tryz.prog 14 #[.string s] w (RetPS (poolS s.data.toList) w) := by
  obtain ⟨i0, i0_i, i0_z0, i0_z1, i0_z2⟩ := info_parts poolHoldInfo
  have hlen : s.data.toList.length = s.size := by rw [Array.length_toList]; rfl
  have BR0 := Lib.hid (Blk.new w 26 #[.int .i64 0, .slice none 0 0, .slice none 0 0, .slice none 0 0])
  have FR0 := Lib.hid ((Below.refl w.heap.size w).alloc (Nat.le_refl _) (.cells #[.int .i64 0, .slice none 0 0, .slice none 0 0, .slice none 0 0] 26))
  have E0 := Lib.hid (E.below ((Below.refl w.heap.size w).alloc (Nat.le_refl _) (.cells #[.int .i64 0, .slice none 0 0, .slice none 0 0, .slice none 0 0] 26)))
  have HCU := Lib.hid (cutC_c 32 s (w.alloc (.cells #[.int .i64 0, .slice none 0 0, .slice none 0 0, .slice none 0 0] 26)) (by omega) E0.out)
  obtain ⟨L, hL⟩ : ∃ L, L = s.data.toList := ⟨_, rfl⟩
  rw [← hL] at hlen HCU
  rw [← hL]
  have hcl := cut_len 32 L
  rw [hlen] at hcl
  obtain ⟨hd, hhd⟩ : ∃ hd, hd = (cut1 32 L).1 := ⟨_, rfl⟩
  obtain ⟨r, hr⟩ : ∃ r, r = (cut1 32 L).2 := ⟨_, rfl⟩
  rw [← hhd, ← hr] at hcl HCU
  have HSP := Lib.hid (fun W hW => splitC_c 124 (bsof r) W (by rw [bsof_size]; omega) hW)
  rw [data_bsof] at HSP
  obtain ⟨qs, hqs⟩ : ∃ qs, qs = spl 124 r := ⟨_, rfl⟩
  rw [← hqs] at HSP
  have hql := spl_piece_len 124 r
  rw [← hqs] at hql
  obtain ⟨BH, hBH⟩ : ∃ BH, BH = bsof hd := ⟨_, rfl⟩
  obtain ⟨BQ, hBQ⟩ : ∃ BQ, BQ = bsof r := ⟨_, rfl⟩
  rw [← hBH, ← hBQ] at HCU
  rw [← hBQ] at HSP
  have hps := pool_same L (poolI hd qs) qs (by rw [hqs, hr]) (by rw [hhd])
  by_cases h3 : qs.length = 3
  · obtain ⟨x, y, z, rfl⟩ : ∃ x y z, qs = [x, y, z] := by
      rcases qs with _ | ⟨a, _ | ⟨b, _ | ⟨d, _ | ⟨e, q⟩⟩⟩⟩ <;> simp at h3
      exact ⟨a, b, d, rfl⟩
    have hxl : x.length ≤ 1048576 := by have := hql x (by simp); omega
    have hyl : y.length ≤ 1048576 := by have := hql y (by simp); omega
    have hzl : z.length ≤ 1048576 := by have := hql z (by simp); omega
    have n1 := elsOf_len x
    have n2 := elsOf_len y
    have n3 := elsOf_len z
    have HN0 := Lib.hid (fun W hW => number_c (bsof hd) W (by rw [bsof_size]; omega) hW)
    have HN1 := Lib.hid (fun W hW => numbers_c (bsof x) W (by rw [bsof_size]; exact hxl) hW)
    have HN3 := Lib.hid (fun W hW => numbers_c (bsof z) W (by rw [bsof_size]; exact hzl) hW)
    have HEL := Lib.hid (fun W hW => elements_c (bsof y) W (by rw [bsof_size]; omega) hW)
    rw [data_bsof] at HN0 HN1 HN3 HEL
    unfold RetNI at HN1 HN3
    obtain ⟨x0, hx0⟩ : ∃ x0, x0 = numI hd := ⟨_, rfl⟩
    obtain ⟨z1, hz1⟩ : ∃ z1, z1 = numsI x := ⟨_, rfl⟩
    obtain ⟨z3, hz3⟩ : ∃ z3, z3 = numsI z := ⟨_, rfl⟩
    obtain ⟨ps, hpp⟩ : ∃ ps, ps = elsOf y := ⟨_, rfl⟩
    obtain ⟨z2, hz2⟩ : ∃ z2, z2 = ps.map prH := ⟨_, rfl⟩
    have hz1l : z1.length ≤ 1048577 := by rw [hz1]; unfold numsI; rw [List.length_map]; omega
    have hz3l : z3.length ≤ 1048577 := by rw [hz3]; unfold numsI; rw [List.length_map]; omega
    have hpsl : ps.length ≤ 1048577 := by rw [hpp]; omega
    have hz2l : z2.length = ps.length := by rw [hz2, List.length_map]
    have hpi : poolI hd [x, y, z] = ⟨x0, z1, z2, z3⟩ := by rw [hx0, hz1, hz2, hz3, hpp]; rfl
    rw [hpi] at hps
    have hpieces : ∀ p ∈ ps, p.length ≤ 1048576 := by
      intro p hp
      rw [hpp] at hp
      have := elsOf_piece y p hp
      omega
    rw [← hx0] at HN0
    rw [← hz1] at HN1
    rw [← hz3] at HN3
    rw [← hpp] at HEL
    obtain ⟨BX, hBX⟩ : ∃ BX, BX = bsof x := ⟨_, rfl⟩
    obtain ⟨BY, hBY⟩ : ∃ BY, BY = bsof y := ⟨_, rfl⟩
    obtain ⟨BZ, hBZ⟩ : ∃ BZ, BZ = bsof z := ⟨_, rfl⟩
    have st2 : strs [x, y, z] = [.string BX, .string BY, .string BZ] := by rw [hBX, hBY, hBZ]; rfl
    rw [← hBX] at HN1
    rw [← hBY] at HEL
    rw [← hBZ] at HN3
    rw [← hBH] at HN0
    have ST2 := Lib.hid st2
    have hl3 : (((([x, y, z] : List (List UInt8)).length : Nat) : Int) == 3) = true := rfl
    have HZ2 := Lib.hid hz2; have HZ2L := Lib.hid hz2l; have HPC := Lib.hid hpieces
    obtain ⟨v, hv⟩ : ∃ v, v = Pl.valid ⟨x0, z1, z2, z3⟩ := ⟨_, rfl⟩
    have hz2n : z2.length ≤ 1048577 := by omega
    have HVP := Lib.hid (fun A a B b C c W q1 q2 q3 (hc : z1.length ≤ a) => validPool_c x0 z1 z2 z3 A _ a B _ b C _ c W rfl rfl rfl q1 q2 q3 (by omega) (by omega) (by omega) hc)
    have HFP := Lib.hid (fun A a B b C c W q1 q2 q3 (hc : z1.length ≤ a) => formatPool_c x0 z1 z2 z3 A _ a B _ b C _ c W rfl rfl rfl q1 q2 q3 (by omega) (by omega) (by omega) hc)
    have HCO := Lib.hid (fun A a B b C c W q1 q2 q3 => copyOf_c x0 z1 z2 z3 A _ a B _ b C _ c W rfl rfl rfl q1 q2 q3 (by omega) (by omega) (by omega))
    rw [← hv] at HVP hps
    obtain ⟨T, hT⟩ : ∃ T, T = Pl.fmt ⟨x0, z1, z2, z3⟩ := ⟨_, rfl⟩
    rw [← hT] at HFP
    have hpt : poolS L = if v = true ∧ T = s then some ⟨x0, z1, z2, z3⟩ else none := by
      rw [hps]
      cases v
      · rw [if_neg (fun h => by cases h.2.1), if_neg (fun h => by cases h.1)]
      · have hTT : T = bsof (Pl.text ⟨x0, z1, z2, z3⟩) := by rw [hT]; unfold Pl.fmt; rw [← hv]; rfl
        by_cases hts : T = s
        · rw [if_pos ⟨rfl, rfl, by rw [hL, ← hts, hTT]; rfl⟩, if_pos ⟨rfl, hts⟩]
        · rw [if_neg (fun h => hts (by rw [hTT, h.2.2, hL, bsof_data])), if_neg (fun h => hts h.2)]
    have HPT := Lib.hid hpt
    clear hpt hT hv hps hBX hBY hBZ st2 hx0 hz1 hz2 hz3 hpp hpi hpieces hz2l hBH hBQ hqs hql hhd hr hcl h3 hlen hL E
    obtain ⟨RES, hRES⟩ : ∃ RES, RES = poolS L := ⟨_, rfl⟩
    rw [← hRES] at HPT
    rw [← hRES]
    clear hRES
    go_enter Tryz.func14, Tryz.ntmps14
    go_wp2_with fail
    refine HCU.out.mono ?_
    rintro e w1 ⟨⟨fnd, rfl⟩, b1⟩
    have FR1 := Lib.hid (FR0.out.trans (b1.mono (by simp)))
    have BR1 := Lib.hid (BR0.out.below b1 (by simp)); have E1 := Lib.hid (E0.out.below b1)
    clear b1
    go_wp2_with fail
    refine (HSP.out _ E1.out).mono ?_
    rintro e w2 ⟨AS, cS, rfl, rdS, b2⟩
    have FR2 := Lib.hid (FR1.out.trans (b2.mono FR1.out.size)); have E2 := Lib.hid (E1.out.below b2)
    have hs2 : w.heap.size + 1 ≤ w2.heap.size := by have h1 := BR1.out.lt; have h2 := b2.size; omega
    have BR2 := Lib.hid (BR1.out.below b2 BR1.out.lt)
    clear b2
    rw [ST2.out] at rdS
    obtain ⟨bq, oq, hAQ, hlq, hcs⟩ := rdS.block (by simp)
    have q0 : w2.cell? ⟨bq, oq, none⟩ = some (.string BX) := by have := hcs 0 (.string BX) rfl; simpa using this
    have q1 : w2.cell? ⟨bq, oq + 1, none⟩ = some (.string BY) := hcs 1 (.string BY) rfl
    have q2 : w2.cell? ⟨bq, oq + 2, none⟩ = some (.string BZ) := hcs 2 (.string BZ) rfl
    subst hAQ
    clear rdS hcs
    have ne2 : ¬ w2.heap.size = bq := by omega
    have HNEW := Lib.hid (fun W (h : Below w2.heap.size w2 W) => (Blk.new W 26 #[.int .i64 0, .slice none 0 0, .slice none 0 0, .slice none 0 0]))
    go_wp2_with fail
    go_region_held3 (fun w' => w'.cell? ⟨bq, oq, none⟩ = some (.string BX) ∧ w'.cell? ⟨bq, oq + 2, none⟩ = some (.string BZ)) (go_keep) ((first
      | (go_at_call 37; first
          | ((with_reducible refine (HN0.out _ (E2.out.below (Below.refl _ _).drew)).mono ?_); rintro e wA ⟨rfl, bA⟩; have BA := Lib.hid ((Below.refl w2.heap.size w2).drew.trans bA); have EA := Lib.hid (E2.out.below BA.out); have hsA : w2.heap.size ≤ wA.heap.size := BA.out.size; have u0 := (BA.out.cell (p := ⟨bq, oq, none⟩) hlq).trans q0; have u2 := (BA.out.cell (p := ⟨bq, oq + 2, none⟩) hlq).trans q2; have neA : ¬ wA.heap.size = bq := (by omega))
          | ((with_reducible refine (HN0.out _ (E2.out.below ((Below.refl _ _).alloc (Nat.le_refl _) (.cells #[.int .i64 0, .slice none 0 0, .slice none 0 0, .slice none 0 0] 26)).drew)).mono ?_); rintro e wA ⟨rfl, bA⟩; have NBA := Lib.hid ((Blk.new w2 26 #[.int .i64 0, .slice none 0 0, .slice none 0 0, .slice none 0 0]).drew.below bA (by simp)); have BA := Lib.hid (((Below.refl w2.heap.size w2).alloc (Nat.le_refl _) (.cells #[.int .i64 0, .slice none 0 0, .slice none 0 0, .slice none 0 0] 26)).drew.trans (bA.mono (by simp))); have EA := Lib.hid (E2.out.below BA.out); have hsA : w2.heap.size ≤ wA.heap.size := BA.out.size; have u0 := (BA.out.cell (p := ⟨bq, oq, none⟩) hlq).trans q0; have u2 := (BA.out.cell (p := ⟨bq, oq + 2, none⟩) hlq).trans q2; have neA : ¬ wA.heap.size = bq := (by omega)))
      | (go_at_call 38; first
          | ((with_reducible refine (HN1.out _ EA.out).mono ?_); rintro e wB ⟨A1, rfl, rB, bB⟩; have BB := Lib.hid (BA.out.trans (bB.mono hsA)); have RB := Lib.hid rB; have EB := Lib.hid (EA.out.below bB); have hsB : wA.heap.size ≤ wB.heap.size := bB.size; have v0 := (BB.out.cell (p := ⟨bq, oq, none⟩) hlq).trans q0; have v2 := (BB.out.cell (p := ⟨bq, oq + 2, none⟩) hlq).trans q2; have neB : ¬ wB.heap.size = bq := (by omega); (try (have NBB := Lib.hid (NBA.out.below bB NBA.out.lt); have OF1 := Lib.hid (rB.offNew NBA.out.lt))))
          | ((with_reducible refine (HN1.out _ (EA.out.below ((Below.refl _ _).alloc (Nat.le_refl _) (.cells #[.int .i64 0, .slice none 0 0, .slice none 0 0, .slice none 0 0] 26)))).mono ?_); rintro e wB ⟨A1, rfl, rB, bB⟩; have NBB := Lib.hid ((Blk.new wA 26 #[.int .i64 0, .slice none 0 0, .slice none 0 0, .slice none 0 0]).below bB (by simp)); have bB' := ((Below.refl wA.heap.size wA).alloc (Nat.le_refl _) (.cells #[.int .i64 0, .slice none 0 0, .slice none 0 0, .slice none 0 0] 26)).trans (bB.mono (by simp)); have BB := Lib.hid (BA.out.trans (bB'.mono hsA)); have RB := Lib.hid (rB.mono (by simp : wA.heap.size ≤ (wA.alloc (.cells #[.int .i64 0, .slice none 0 0, .slice none 0 0, .slice none 0 0] 26)).heap.size)); have OF1 := Lib.hid (rB.offNew (by simp : wA.heap.size < (wA.alloc (.cells #[.int .i64 0, .slice none 0 0, .slice none 0 0, .slice none 0 0] 26)).heap.size)); have EB := Lib.hid (EA.out.below bB'); have hsB : wA.heap.size ≤ wB.heap.size := bB'.size; have v0 := (BB.out.cell (p := ⟨bq, oq, none⟩) hlq).trans q0; have v2 := (BB.out.cell (p := ⟨bq, oq + 2, none⟩) hlq).trans q2; have neB : ¬ wB.heap.size = bq := (by omega))
          | ((with_reducible refine (HN3.out _ EB.out).mono ?_); rintro e wC ⟨A3, rfl, rC, bC⟩; have BC := Lib.hid (BB.out.trans (bC.mono (Nat.le_trans hsA hsB))); have RC := Lib.hid rC; have hbC := Lib.hid bC; have hsC : wB.heap.size ≤ wC.heap.size := bC.size; have c0 := (BC.out.cell (p := ⟨bq, oq, none⟩) hlq).trans q0; have c2 := (BC.out.cell (p := ⟨bq, oq + 2, none⟩) hlq).trans q2; have neC : ¬ wC.heap.size = bq := (by omega); (try (have NBC := Lib.hid (NBB.out.below bC NBB.out.lt); have OF3 := Lib.hid (rC.offNew NBB.out.lt); obtain ⟨m0, m1, m2, m3, mfz⟩ := blk4 NBC.out)))
          | ((with_reducible refine (HN3.out _ (EB.out.below ((Below.refl _ _).alloc (Nat.le_refl _) (.cells #[.int .i64 0, .slice none 0 0, .slice none 0 0, .slice none 0 0] 26)))).mono ?_); rintro e wC ⟨A3, rfl, rC, bC⟩; have NBC := Lib.hid ((Blk.new wB 26 #[.int .i64 0, .slice none 0 0, .slice none 0 0, .slice none 0 0]).below bC (by simp)); have bC' := ((Below.refl wB.heap.size wB).alloc (Nat.le_refl _) (.cells #[.int .i64 0, .slice none 0 0, .slice none 0 0, .slice none 0 0] 26)).trans (bC.mono (by simp)); have BC := Lib.hid (BB.out.trans (bC'.mono (Nat.le_trans hsA hsB))); have RC := Lib.hid (rC.mono (by simp : wB.heap.size ≤ (wB.alloc (.cells #[.int .i64 0, .slice none 0 0, .slice none 0 0, .slice none 0 0] 26)).heap.size)); have OF3 := Lib.hid (rC.offNew (by simp : wB.heap.size < (wB.alloc (.cells #[.int .i64 0, .slice none 0 0, .slice none 0 0, .slice none 0 0] 26)).heap.size)); have OF1 := Lib.hid (RB.out.offTop (Nat.le_refl _)); have hbC := Lib.hid bC'; have hsC : wB.heap.size ≤ wC.heap.size := bC'.size; have c0 := (BC.out.cell (p := ⟨bq, oq, none⟩) hlq).trans q0; have c2 := (BC.out.cell (p := ⟨bq, oq + 2, none⟩) hlq).trans q2; have neC : ¬ wC.heap.size = bq := (by omega); obtain ⟨m0, m1, m2, m3, mfz⟩ := blk4 NBC.out))
      | fail))
    all_goals
      have hA2 : w2.heap.size ≤ wA.heap.size := hsA
      have PRC := Lib.hid (show PRow wC w2.heap.size ⟨x0, z1, [], z3⟩ A1 z1.length none 0 A3 z3.length from ⟨(RB.out.below hbC.out).mono hsA, Row.nil _ _ _ _ _, RC.out.mono (Nat.le_trans hsA hsB), apart_zero _ _ _, row_apart RB.out RC.out (Nat.le_refl _), (apart_zero _ _ _).symm⟩)
      first
      | (obtain ⟨gn, w8, hgn, hw8, nw⟩ := PNew.stored BC.out PRC.out NBC.out ⟨OF1.out, (by simp [rb]), OF3.out⟩ (by omega); rw [show (([] : List Pr).length) = 0 from rfl] at hw8; rw [← hw8, ← hgn])
      | (obtain ⟨gn, w8, hgn, hw8, nw⟩ := PNew.fresh BC.out PRC.out; rw [show (([] : List Pr).length) = 0 from rfl] at hw8; rw [← hw8, ← hgn])
      have NW := Lib.hid nw
      clear nw hw8 hgn PRC BC RB RC hbC hsC hsB hsA BA BB EA EB rB rC bB bC bA c0 c2 neC v0 v2 neB u0 u2 neA
      try clear NBC
      try clear NBB
      try clear NBA
      try clear OF1
      try clear OF3
      try clear m0 m1 m2 m3 mfz
      have y1 := (NW.out.bel.cell (p := ⟨bq, oq + 1, none⟩) hlq).trans q1
      have hgn8 : gn < w8.heap.size := NW.out.blk.lt
      have hs8 : w2.heap.size ≤ w8.heap.size := NW.out.bel.size
      clear q0 q1 q2
      go_wp2_with fail
      refine (HEL.out _ (E2.out.below NW.out.bel)).mono ?_
      rintro e w9 ⟨AE, cE, rfl, rdE, b9⟩
      have RE := Lib.hid rdE
      have hs9 : w8.heap.size ≤ w9.heap.size := b9.size
      have BK9 := Lib.hid (NW.out.blk.below b9 hgn8)
      have PR9 := Lib.hid (NW.out.row.below b9)
      have BL9 := Lib.hid (NW.out.bel.trans (b9.mono hs8))
      have HBE : Hid (∀ b off, AE = some ⟨b, off, none⟩ → 0 < ps.length → b < w9.heap.size) := fun b off e hp => by
        obtain ⟨b', off', e', hl', _⟩ := rdE.block (by simp [strs]; omega)
        rw [e] at e'
        injection e' with e'
        injection e' with e1 e2
        omega
      have LT1 := Lib.hid (fun y h => (PR9.out.1.lt y h).2)
      have LT3 := Lib.hid (fun y h => (PR9.out.2.2.1.lt y h).2)
      have AP13 := Lib.hid PR9.out.2.2.2.2.1
      have hgn9 : gn < w9.heap.size := by omega
      have hgw2 : w2.heap.size ≤ gn := NW.out.low
      have OG1 := Lib.hid NW.out.off.1
      have OG3 := Lib.hid NW.out.off.2.2
      clear rdE b9 y1 NW
      go_wp2_with fail
      go_loopw [41] (fun i wr => ∃ (j : Nat) (B2 : Option Addr) (b2 : Nat), j ≤ ps.length ∧ i = .int .i64 j ∧ Blk wr gn 26 #[.int .i64 x0, .slice A1 z1.length z1.length, .slice B2 j b2, .slice A3 z3.length z3.length] ∧ Row wr w9.heap.size 48 2 B2 j b2 (sc (z2.take j)) ∧ Row wr w2.heap.size 3 1 A1 z1.length z1.length (z1.map (.int .i64)) ∧ Row wr w2.heap.size 3 1 A3 z3.length z3.length (z3.map (.int .i64)) ∧ Rd wr AE (strs ps) ∧ Below w2.heap.size w2 wr ∧ w9.heap.size ≤ wr.heap.size) (fun i _ => ps.length - (intOf i).toNat)
      case atStart => exact ⟨0, none, 0, Nat.zero_le _, rfl, BK9.out, Row.nil _ _ _ _ _, PR9.out.1, PR9.out.2.2.1, RE.out, BL9.out, Nat.le_refl _⟩
      case round =>
        obtain ⟨j, B2, b2, hj, rfl, bk, rowB, row1, row3, rdE, bl, hsr⟩ := hrel
        have BK := Lib.hid bk; have ROWB := Lib.hid rowB; have ROW1 := Lib.hid row1; have ROW3 := Lib.hid row3; have RDE := Lib.hid rdE; have BL := Lib.hid bl
        clear bk rowB row1 row3 rdE bl BK9 PR9 BL9 RE
        have hgr : gn < wr.heap.size := by omega
        have hs2r : w2.heap.size ≤ wr.heap.size := by omega
        by_cases hlt : j < ps.length
        · obtain ⟨b, off, hA, hbl, hc⟩ := RDE.out.block (by simp [strs]; omega)
          obtain ⟨q, hQ⟩ : ∃ q, q = ps[j] := ⟨_, rfl⟩
          have hcq : wr.cell? ⟨b, off + j, none⟩ = some (.string (bsof q)) := hc j _ (by unfold strs; rw [List.getElem?_map, List.getElem?_eq_getElem hlt, hQ]; rfl)
          have hql : q.length ≤ 1048576 := by rw [hQ]; exact HPC.out _ (List.getElem_mem hlt)
          have h2 := two_c (bsof q) wr (by rw [bsof_size]; omega) (E2.out.below BL.out)
          rw [data_bsof] at h2
          obtain ⟨xx, hx⟩ : ∃ x, x = numI (cut1 58 q).1 := ⟨_, rfl⟩
          obtain ⟨yy, hy⟩ : ∃ y, y = numI (cut1 58 q).2 := ⟨_, rfl⟩
          rw [← hx, ← hy] at h2
          have hjz : j < z2.length := by have := HZ2L.out; omega
          have hnx : z2.take (j + 1) = z2.take j ++ [(xx, yy)] := by
            rw [take_snoc z2 j hjz]
            congr 2
            have e : ∀ (M : List Pr) (h : j < M.length), M = ps.map prH → M[j] = (xx, yy) := fun M h e => by subst e; rw [List.getElem_map, hx, hy, hQ]; rfl
            exact e z2 hjz HZ2.out
          have H2 := Lib.hid h2; have HNX := Lib.hid hnx
          obtain ⟨k0, k1, k2, k3, kfz⟩ := blk4 BK.out
          clear hc hQ h2 hx hy hnx
          rw [hA]
          go_wp2_with fail
          refine H2.out.mono ?_
          rintro e w4 ⟨rfl, b4⟩
          have hs4 : wr.heap.size ≤ w4.heap.size := b4.size
          have BK4 := Lib.hid (BK.out.below b4 hgr); have ROWB4 := Lib.hid (ROWB.out.below b4); have ROW14 := Lib.hid (ROW1.out.below b4); have ROW34 := Lib.hid (ROW3.out.below b4)
          have RDE4 := Lib.hid (RDE.out.below b4); have BL4 := Lib.hid (BL.out.trans (b4.mono hs2r))
          have hg4 : gn < w4.heap.size := by omega
          clear b4 k0 k1 k2 k3 kfz hcq
          obtain ⟨k0, k1, k2, k3, kfz⟩ := blk4 BK4.out
          go_wp2_with (at_builtin; (refine wpList_append_row _ rfl (.tmp 51) (.tmp 55) 24 rfl w9.heap.size 48 i0 (.agg #[.int .i64 0, .int .i64 0]) 2 16 Tryz.underlying24 i0_i i0_z0 i0_z1 i0_z2 rfl B2 j b2 (sc (z2.take j)) rfl (ROWB4.out.alloc _) (some ⟨w4.heap.size, 0, none⟩) 1 1 [.int .i64 xx, .int .i64 yy] rfl rfl (Rd.two_ _ _ _ _) (two1_ _ _) (by omega) (by unfold maxLen; omega) (by omega) (by simp <;> omega) ?_))
          intro B3 b3 w5 row5 hg5 _
          have hlt5 := ROWB4.out.lt
          have far : ∀ y, rb B2 b2 = some y → w9.heap.size ≤ y := fun y h => (hlt5 y h).1
          have BK5 := Lib.hid ((BK4.out.alloc _).grown hg5 (fun e => by have := far _ e.symm; omega))
          have BL5 := Lib.hid ((BL4.out.alloc (by omega) _).grown hg5 (by simp <;> omega) (fun y h => by have := far y h; omega))
          have ROW15 := Lib.hid ((ROW14.out.alloc _).kept hg5 (apart_lt LT1.out far).1)
          have ROW35 := Lib.hid ((ROW34.out.alloc _).kept hg5 (apart_lt LT3.out far).1)
          have RDE5 := Lib.hid ((RDE4.out.alloc _).grown hg5 (fun b' off' e' => by
            intro e
            have h9 := far _ e.symm
            rw [hA] at e'
            injection e' with e'
            injection e' with e1 e2
            have := HBE.out b off hA (by omega)
            omega))
          have row6 : Row w5 w9.heap.size 48 2 B3 (j + 1) b3 (sc (z2.take (j + 1))) := by rw [HNX.out, sc_append]; exact row5
          have ROW6 := Lib.hid row6
          have hs5 : w4.heap.size < w5.heap.size := by have := hg5.size; simp at this; omega
          have hg5' : gn < w5.heap.size := by omega
          clear row5 hg5 row6 hlt5 far k0 k1 k2 k3 kfz
          obtain ⟨k0, k1, k2, k3, kfz⟩ := blk4 BK5.out
          have BK6 := Lib.hid (show Blk (w5.setCell ⟨gn, 2, none⟩ (.slice B3 (j + 1) b3)) gn 26 #[.int .i64 x0, .slice A1 z1.length z1.length, .slice B3 (j + 1) b3, .slice A3 z3.length z3.length] from BK5.out.set_ 2 _)
          have RB6 := Lib.hid (show Row (w5.setCell ⟨gn, 2, none⟩ (.slice B3 (j + 1) b3)) w9.heap.size 48 2 B3 (j + 1) b3 (sc (z2.take (j + 1))) from ROW6.out.setFar (p := ⟨gn, 2, none⟩) hgn9 _)
          have R16 := Lib.hid (show Row (w5.setCell ⟨gn, 2, none⟩ (.slice B3 (j + 1) b3)) w2.heap.size 3 1 A1 z1.length z1.length (z1.map (.int .i64)) from ROW15.out.kept (only_setCell (World.grownBy.refl _ _) (.inl rfl) _) (.inr OG1.out))
          have R36 := Lib.hid (show Row (w5.setCell ⟨gn, 2, none⟩ (.slice B3 (j + 1) b3)) w2.heap.size 3 1 A3 z3.length z3.length (z3.map (.int .i64)) from ROW35.out.kept (only_setCell (World.grownBy.refl _ _) (.inl rfl) _) (.inr OG3.out))
          have RE6 := Lib.hid (show Rd (w5.setCell ⟨gn, 2, none⟩ (.slice B3 (j + 1) b3)) AE (strs ps) from RDE5.out.setStr k2 _)
          have BL6 := Lib.hid (show Below w2.heap.size w2 (w5.setCell ⟨gn, 2, none⟩ (.slice B3 (j + 1) b3)) from BL5.out.setCell hgw2 _)
          go_wp2_with fail
          go_roundw
          case rel => exact ⟨j + 1, B3, b3, by omega, by go_num, BK6.out, RB6.out, R16.out, R36.out, by rw [← hA]; exact RE6.out, BL6.out, by simp [World.setCell]; omega⟩
          case measure => simp [intOf]; omega
        · obtain rfl : j = ps.length := by omega
          have hful : z2.take ps.length = z2 := List.take_of_length_le (by rw [HZ2L.out]; exact Nat.le_refl _)
          have hrB : Row wr w9.heap.size 48 2 B2 z2.length b2 (sc z2) := by have := ROWB.out; rw [hful] at this; rw [HZ2L.out]; exact this
          have PR := Lib.hid (show PRow wr w2.heap.size ⟨x0, z1, z2, z3⟩ A1 z1.length B2 b2 A3 z3.length from ⟨ROW1.out, hrB.mono (by omega), ROW3.out, apart_lt LT1.out (fun y h => (hrB.lt y h).1), AP13.out, (apart_lt LT3.out (fun y h => (hrB.lt y h).1)).symm⟩)
          have hV := HVP.out A1 z1.length B2 b2 A3 z3.length wr PR.out.1.rd PR.out.2.1.rd PR.out.2.2.1.rd (Nat.le_refl _)
          have hF := fun W q1 q2 q3 => HFP.out A1 z1.length B2 b2 A3 z3.length W q1 q2 q3 (Nat.le_refl _)
          have hC := fun W q1 q2 q3 => HCO.out A1 z1.length B2 b2 A3 z3.length W q1 q2 q3
          rw [HZ2L.out] at hV hF hC
          have HV := Lib.hid hV; have HF := Lib.hid hF; have HC := Lib.hid hC
          have FRr := Lib.hid (FR2.out.trans (BL.out.mono (by omega)))
          have BRr := Lib.hid (BR2.out.below BL.out BR2.out.lt)
          have hwr : w.heap.size < wr.heap.size := by omega
          obtain ⟨k0, k1, k2, k3, kfz⟩ := blk4 BK.out
          clear hful hrB hV hF hC ROWB ROW1 ROW3 RDE
          go_wp2_with fail
          refine HV.out.mono ?_
          rintro e wV ⟨rfl, bV⟩
          have FRV := Lib.hid (FRr.out.trans (bV.mono FRr.out.size)); have BRV := Lib.hid (BRr.out.below bV hwr); have BKV := Lib.hid (BK.out.below bV hgr); have PRV := Lib.hid (PR.out.below bV)
          have hwV : w.heap.size < wV.heap.size := BRV.out.lt
          have hgV : gn < wV.heap.size := BKV.out.lt
          clear bV k0 k1 k2 k3 kfz PR BRr FRr BK
          cases v
          · have HN : Hid (RES = none) := HPT.out.trans (if_neg (fun h => by cases h.1))
            have FRX := FRV
            obtain ⟨r0, r1, r2, r3, rfz⟩ := blk4 BRV.out
            go_wp2_with fail
            refine bodyPost_ret (v := .tuple #[.agg #[.int .i64 0, .slice none 0 0, .slice none 0 0, .slice none 0 0], .bool false]) (by simp [results, Tryz.results14, go_sem, r0, r1, r2, r3, rfz]) rfl ?_
            rw [HN.out]
            refine ⟨none, 0, none, 0, none, 0, rfl, PRow.zero _ _, ?_⟩
            iterate 4 (with_reducible refine Below.setCell ?_ (by simp) _)
            exact FRX.out
          · obtain ⟨k0, k1, k2, k3, kfz⟩ := blk4 BKV.out
            by_cases hts : T = s
            · have HN : Hid (RES = some ⟨x0, z1, z2, z3⟩) := HPT.out.trans (if_pos ⟨rfl, hts⟩)
              subst hts
              go_wp2_with fail
              refine (HF.out _ PRV.out.1.rd PRV.out.2.1.rd PRV.out.2.2.1.rd).mono ?_
              rintro e wF ⟨rfl, bF⟩
              have FRF := Lib.hid (FRV.out.trans (bF.mono FRV.out.size)); have BRF := Lib.hid (BRV.out.below bF hwV); have BKF := Lib.hid (BKV.out.below bF hgV); have PRF := Lib.hid (PRV.out.below bF)
              have hwF : w.heap.size < wF.heap.size := BRF.out.lt
              clear bF k0 k1 k2 k3 kfz
              obtain ⟨k0, k1, k2, k3, kfz⟩ := blk4 BKF.out
              go_wp2_with fail
              refine (HC.out _ PRF.out.1.rd PRF.out.2.1.rd PRF.out.2.2.1.rd).mono ?_
              rintro e wC ⟨D1, d1, D2, d2, D3, d3, rfl, prC, bC⟩
              have FRC := Lib.hid (FRF.out.trans (bC.mono FRF.out.size)); have BRC := Lib.hid (BRF.out.below bC hwF)
              have PRC := Lib.hid (show PRow wC (w.heap.size + 1) ⟨x0, z1, z2, z3⟩ D1 d1 D2 d2 D3 d3 from prC.mono (by omega))
              clear bC prC k0 k1 k2 k3 kfz
              obtain ⟨r0, r1, r2, r3, rfz⟩ := blk4 BRC.out
              go_wp2_with fail
              refine bodyPost_ret (v := .tuple #[.agg #[.int .i64 x0, .slice D1 z1.length d1, .slice D2 z2.length d2, .slice D3 z3.length d3], .bool true]) (by simp [results, Tryz.results14, go_sem, r0, r1, r2, r3, rfz]) rfl ?_
              rw [HN.out]
              refine ⟨D1, d1, D2, d2, D3, d3, rfl, ?_, ?_⟩
              · refine PRow.mono (base := w.heap.size + 1) ?_ (by omega)
                iterate 4 (with_reducible refine PRow.setFar ?_ (by simp) _)
                exact PRC.out
              · iterate 4 (with_reducible refine Below.setCell ?_ (by simp) _)
                exact FRC.out
            · have HN : Hid (RES = none) := HPT.out.trans (if_neg (fun h => hts h.2))
              have hts3 : (T.toList == s.toList) = false := ne_bs hts
              clear hts
              go_wp2_with fail
              refine (HF.out _ PRV.out.1.rd PRV.out.2.1.rd PRV.out.2.2.1.rd).mono ?_
              rintro e wF ⟨rfl, bF⟩
              have FRX := Lib.hid (FRV.out.trans (bF.mono FRV.out.size)); have BRF := Lib.hid (BRV.out.below bF hwV)
              clear bF k0 k1 k2 k3 kfz
              obtain ⟨r0, r1, r2, r3, rfz⟩ := blk4 BRF.out
              go_wp2_with fail
              refine bodyPost_ret (v := .tuple #[.agg #[.int .i64 0, .slice none 0 0, .slice none 0 0, .slice none 0 0], .bool false]) (by simp [results, Tryz.results14, go_sem, r0, r1, r2, r3, rfz]) rfl ?_
              rw [HN.out]
              refine ⟨none, 0, none, 0, none, 0, rfl, PRow.zero _ _, ?_⟩
              iterate 4 (with_reducible refine Below.setCell ?_ (by simp) _)
              exact FRX.out
  · have hno : poolS L = none := by rw [hps, if_neg (fun h => h3 h.1)]
    have HN := Lib.hid hno
    have hl3 : ((qs.length : Int) == 3) = false := beq_eq_false_iff_ne.2 (by omega)
    clear hps hno hqs hql hhd hr hcl hlen hL hBH hBQ E
    go_enter Tryz.func14, Tryz.ntmps14
    go_wp2_with fail
    refine HCU.out.mono ?_
    rintro e w1 ⟨⟨fnd, rfl⟩, b1⟩
    have FR1 := Lib.hid (FR0.out.trans (b1.mono (by simp)))
    have BR1 := Lib.hid (BR0.out.below b1 (by simp)); have E1 := Lib.hid (E0.out.below b1)
    clear b1
    go_wp2_with fail
    refine (HSP.out _ E1.out).mono ?_
    rintro e w2 ⟨AS, cS, rfl, rdS, b2⟩
    have FR2 := Lib.hid (FR1.out.trans (b2.mono FR1.out.size)); have E2 := Lib.hid (E1.out.below b2)
    have hs2 : w.heap.size + 1 ≤ w2.heap.size := by have h1 := BR1.out.lt; have h2 := b2.size; omega
    have BR2 := Lib.hid (BR1.out.below b2 BR1.out.lt)
    clear b2
    have FRX := FR2
    obtain ⟨r0, r1, r2, r3, rfz⟩ := blk4 BR2.out
    clear rdS
    have h3' : ¬ qs.length = 3 := h3
    clear h3
    go_wp2_with fail
    refine bodyPost_ret (v := .tuple #[.agg #[.int .i64 0, .slice none 0 0, .slice none 0 0, .slice none 0 0], .bool false]) (by simp [results, Tryz.results14, go_sem, r0, r1, r2, r3, rfz]) rfl ?_
    rw [HN.out]
    refine ⟨none, 0, none, 0, none, 0, rfl, PRow.zero _ _, ?_⟩
    iterate 4 (with_reducible refine Below.setCell ?_ (by simp) _)
    exact FRX.out
end Go.Proofs.YtnmgnhpagnjhlaaGreatDoor
