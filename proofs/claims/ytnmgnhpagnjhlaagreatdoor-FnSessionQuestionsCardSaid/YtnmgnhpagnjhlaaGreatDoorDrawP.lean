/- Pools that the laws draw. -/
import Derived.Test.YtnmgnhpagnjhlaaGreatDoorAcqC
import Derived.Test.YtnmgnhpagnjhlaaGreatDoorRel
import Derived.Test.YtnmgnhpagnjhlaaGreatDoorReader
set_option linter.unusedVariables false
set_option linter.unusedSimpArgs false
set_option linter.unnecessarySimpa false
namespace Go.Proofs.YtnmgnhpagnjhlaaGreatDoor
open Go.RowKit

/-- Where the draw stands: the pool's block, its rows, the reader, the answer's block. -/
structure PState (w : World) (Bs g q gp : Nat) (P : Pl) (A : Option Addr) (a : Nat) (B : Option Addr) (b : Nat) (C : Option Addr) (c : Nat) (W : World) : Prop where
  blk : Blk W gp 26 #[.int .i64 P.mx, .slice A P.ids.length a, .slice B P.hs.length b, .slice C P.wt.length c]
  row : PRow W (w.heap.size + 1) P A a B b C c
  off : Off gp A a B b C c
  rdr : Rdr W Bs g q
  own : w.grownBy W (some g)
  res : Blk W w.heap.size 26 #[.int .i64 0, .slice none 0 0, .slice none 0 0, .slice none 0 0]
  hgp : w.heap.size < gp
  hg : g < w.heap.size
  hB : Bs ≤ w.heap.size
section
variable {w W W' : World} {Bs g q gp : Nat} {P : Pl} {A B C : Option Addr} {a b c : Nat}
theorem PState.drew (h : PState w Bs g q gp P A a B b C c W) : PState w Bs g q gp P A a B b C c W.drew := ⟨h.blk.drew, h.row, h.off, h.rdr.drewN 1, only_drew h.own, h.res.drew, h.hgp, h.hg, h.hB⟩
theorem PState.alloc (h : PState w Bs g q gp P A a B b C c W) (o : Obj) : PState w Bs g q gp P A a B b C c (W.alloc o) := ⟨h.blk.alloc _, h.row.alloc _, h.off, h.rdr.alloc _, only_alloc h.own _, h.res.alloc _, h.hgp, h.hg, h.hB⟩
theorem PState.read (h : PState w Bs g q gp P A a B b C c W) {q' : Nat} (hr : Rdr W' Bs g q') (hg : W.grownBy W' (some g)) : PState w Bs g q' gp P A a B b C c W' :=
  ⟨h.blk.grown hg (by have := h.hgp; have := h.hg; intro e; injection e; omega), h.row.keep hg (by have := h.hg; omega), h.off, hr, only_trans h.own hg, h.res.grown hg (by have := h.hg; intro e; injection e; omega), h.hgp, h.hg, h.hB⟩
theorem PState.below (h : PState w Bs g q gp P A a B b C c W) (hb : Below W.heap.size W W') : PState w Bs g q gp P A a B b C c W' :=
  ⟨h.blk.below hb h.blk.lt, h.row.below hb, h.off, h.rdr.below hb, only_trans h.own (only_of_below hb _), h.res.below hb h.res.lt, h.hgp, h.hg, h.hB⟩
theorem PState.put (h : PState w Bs g q gp P A a B b C c W) {Q : Pl} {A' B' C' : Option Addr} {a' b' c' : Nat} (hr : PRow W (w.heap.size + 1) Q A' a' B' b' C' c') (ho : Off gp A' a' B' b' C' c') :
    PState w Bs g q gp Q A' a' B' b' C' c' ((((W.setCell ⟨gp, 0, none⟩ (.int .i64 Q.mx)).setCell ⟨gp, 1, none⟩ (.slice A' Q.ids.length a')).setCell ⟨gp, 2, none⟩ (.slice B' Q.hs.length b')).setCell ⟨gp, 3, none⟩ (.slice C' Q.wt.length c')) := by
  have h1 := h.hgp
  have h2 := h.hg
  have hs := h.own.size
  refine ⟨(((h.blk.set_ 0 _).set_ 1 _).set_ 2 _).set_ 3 _, (((hr.set (q := ⟨gp, 0, none⟩) ho _).set (q := ⟨gp, 1, none⟩) ho _).set (q := ⟨gp, 2, none⟩) ho _).set (q := ⟨gp, 3, none⟩) ho _, ho, ?_, ?_, ?_, h1, h2, h.hB⟩
  · have hB := h.rdr.1
    have key : ∀ (V : World) (i : Nat) (u : Value), Rdr V Bs g q → Rdr (V.setCell ⟨gp, i, none⟩ u) Bs g q := fun V i u hV => hV.grown (only_setCell (World.grownBy.refl V (some gp)) (.inl rfl) u) (fun k hk => by
      injection hk with hk
      have h3 := h.hB
      have h4 : gp = k := hk
      omega)
    exact key _ _ _ (key _ _ _ (key _ _ _ (key _ _ _ h.rdr)))
  · have key : ∀ (V : World) (i : Nat) (u : Value), w.grownBy V (some g) → w.grownBy (V.setCell ⟨gp, i, none⟩ u) (some g) := fun V i u hV => only_setCell hV (.inr (by show w.heap.size ≤ gp; omega)) u
    exact key _ _ _ (key _ _ _ (key _ _ _ (key _ _ _ h.own)))
  · have key : ∀ (V : World) (i : Nat) (u : Value), Blk V w.heap.size 26 #[.int .i64 0, .slice none 0 0, .slice none 0 0, .slice none 0 0] → Blk (V.setCell ⟨gp, i, none⟩ u) w.heap.size 26 #[.int .i64 0, .slice none 0 0, .slice none 0 0, .slice none 0 0] := fun V i u hV => hV.far (by show w.heap.size ≠ gp; omega) u
    exact key _ _ _ (key _ _ _ (key _ _ _ (key _ _ _ h.res)))
/-- Another pool, in a block of its own, its rows in newer memory. -/
structure PNext (w : World) (gp gn : Nat) (Q : Pl) (A : Option Addr) (a : Nat) (B : Option Addr) (b : Nat) (C : Option Addr) (c : Nat) (W : World) : Prop where
  blk : Blk W gn 26 #[.int .i64 Q.mx, .slice A Q.ids.length a, .slice B Q.hs.length b, .slice C Q.wt.length c]
  row : PRow W (w.heap.size + 1) Q A a B b C c
  off : Off gp A a B b C c
  ne : gn ≠ gp
theorem PNext.stored {Q : Pl} {A' B' C' : Option Addr} {a' b' c' gn : Nat} {Z : Array Value} (h : PState w Bs g q gp P A a B b C c W) (hn : Blk W gn 26 Z) (hz : Z = #[.int .i64 0, .slice none 0 0, .slice none 0 0, .slice none 0 0]) (hgn : gp < gn) (hoff : Off gn A a B b C c) (hv : ∃ V : World, gn < V.heap.size ∧ V.heap.size ≤ W.heap.size ∧ PRow W V.heap.size Q A' a' B' b' C' c') :
    ∃ g8 w8, g8 = gn ∧ w8 = (((W.setCell ⟨gn, 0, none⟩ (.int .i64 Q.mx)).setCell ⟨gn, 1, none⟩ (.slice A' Q.ids.length a')).setCell ⟨gn, 2, none⟩ (.slice B' Q.hs.length b')).setCell ⟨gn, 3, none⟩ (.slice C' Q.wt.length c') ∧ PState w Bs g q gp P A a B b C c w8 ∧ PNext w gp g8 Q A' a' B' b' C' c' w8 := by
  subst hz
  obtain ⟨V, hV, hV2, pr⟩ := hv
  have h1 := h.hgp
  have h2 := h.hg
  have h3 := h.hB
  have on : Off gn A' a' B' b' C' c' := pr.offLow hV
  refine ⟨_, _, rfl, rfl, ?_, ?_⟩
  · have key : ∀ (U : World) (i : Nat) (u : Value), PState w Bs g q gp P A a B b C c U → Off gn A a B b C c → PState w Bs g q gp P A a B b C c (U.setCell ⟨gn, i, none⟩ u) := fun U i u hU ho =>
      ⟨hU.blk.far (by show gp ≠ gn; omega) u, hU.row.set (q := ⟨gn, i, none⟩) ho u, hU.off, hU.rdr.grown (only_setCell (World.grownBy.refl U (some gn)) (.inl rfl) u) (fun k hk => by injection hk with hk; have h4 : gn = k := hk; omega), only_setCell hU.own (.inr (by show w.heap.size ≤ gn; omega)) u, hU.res.far (by show w.heap.size ≠ gn; omega) u, hU.hgp, hU.hg, hU.hB⟩
    have ho : Off gn A a B b C c := hoff
    exact key _ _ _ (key _ _ _ (key _ _ _ (key _ _ _ h ho) ho) ho) ho
  · refine ⟨(((hn.set_ 0 _).set_ 1 _).set_ 2 _).set_ 3 _, ?_, pr.offLow (by omega), by omega⟩
    have pr' := pr.mono (base' := w.heap.size + 1) (by omega)
    exact (((pr'.set (q := ⟨gn, 0, none⟩) on _).set (q := ⟨gn, 1, none⟩) on _).set (q := ⟨gn, 2, none⟩) on _).set (q := ⟨gn, 3, none⟩) on _
theorem PNext.fresh {V : World} {Q : Pl} {A' B' C' : Option Addr} {a' b' c' : Nat} (h : PState w Bs g q gp P A a B b C c W) (pr : PRow W V.heap.size Q A' a' B' b' C' c') (hV : gp < V.heap.size) :
    ∃ g8 w8, g8 = W.heap.size ∧ w8 = W.alloc (.cells #[.int .i64 Q.mx, .slice A' Q.ids.length a', .slice B' Q.hs.length b', .slice C' Q.wt.length c'] 26) ∧ PState w Bs g q gp P A a B b C c w8 ∧ PNext w gp g8 Q A' a' B' b' C' c' w8 := by
  have h1 := h.hgp
  have h2 := h.blk.lt
  exact ⟨_, _, rfl, rfl, h.alloc _, ⟨Blk.new _ _ _, (pr.mono (by omega)).alloc _, pr.offLow hV, by omega⟩⟩
end
theorem acqR_few' {p Q : Pl} {o : Int} {ok : Bool} (hQ : Q = (acqR p o).1) (hok : ok = (acqR p o).2.2) : Hid (ok = true → Q.few) := fun h => by subst hQ hok; exact acqR_few h
theorem relR_few' {p Q : Pl} {o : Int} {ok : Bool} (hQ : Q = (relR p o).1) (hok : ok = (relR p o).2.2) : Hid (ok = true → Q.few) := fun h => by subst hQ hok; exact relR_few h
/-- What somePool answers: few elements, rows in new memory. -/
def RetSP (Bs g p : Nat) (w : World) (e : Ending) (w' : World) : Prop :=
  ∃ (A : Option Addr) (a : Nat) (B : Option Addr) (b : Nat) (C : Option Addr) (c : Nat) (P : Pl) (q : Nat), e = .returned (.agg #[.int .i64 P.mx, .slice A P.ids.length a, .slice B P.hs.length b, .slice C P.wt.length c]) ∧ P.few ∧ PRow w' w.heap.size P A a B b C c ∧ Rdr w' Bs g q ∧ q ≤ p + 100 ∧ w.grownBy w' (some g)
set_option maxRecDepth 100000 in
set_option maxHeartbeats 16000000 in
theorem somePool_c (Bs g p : Nat) (w : World) (hr : Rdr w Bs g p) (hp : p ≤ 900000) :
    Calls Tryz.prog 54 #[.pointer (some ⟨g, 0, none⟩)] w (RetSP Bs g p w) := by
  have hgB := hr.1
  have hBw := hr.2.1
  have hgw : g < w.heap.size := by omega
  have BR0 := Lib.hid (Blk.new w 26 #[.int .i64 0, .slice none 0 0, .slice none 0 0, .slice none 0 0])
  go_enter Tryz.func54, Tryz.ntmps54
  go_wp2_with fail
  refine (one_c Bs g (p) [3, 2, 4, 1, 6] _ _ _ _ ((hr.alloc _).alloc _) (by omega) rfl (by simp) (by simp) (Rd.lit (Value.int .i64) [3, 2, 4, 1, 6] rfl (by simp) rfl) (fun b off e => by injection e with e; injection e with e; (try simp at e); omega)).mono ?_
  rintro e w3 ⟨x, hx, rfl, hr3, hg3⟩
  have BR3 := Lib.hid ((BR0.out.alloc _).grown hg3 (by intro e; injection e; omega))
  have g3 : w.grownBy w3 (some g) := only_trans (only_alloc (only_alloc (only_refl w _) _) _) hg3
  have hs3 : w.heap.size < w3.heap.size := by have := hg3.size; simp at this; omega
  obtain ⟨gp, hgp⟩ : ∃ gp, gp = w3.heap.size + 1 + 1 + 1 := ⟨_, rfl⟩
  obtain ⟨w4, hw4⟩ : ∃ w4, w4 = (((w3.alloc (.cells #[] 3)).alloc (.cells #[] 48)).alloc (.cells #[] 3)).alloc (.cells #[.int .i64 x, .slice (some ⟨w3.heap.size, 0, none⟩) 0 0, .slice (some ⟨w3.heap.size + 1, 0, none⟩) 0 0, .slice (some ⟨w3.heap.size + 1 + 1, 0, none⟩) 0 0] 26) := ⟨_, rfl⟩
  have ST4 : Hid (PState w Bs g (p + 1) gp ⟨x, [], [], []⟩ (some ⟨w3.heap.size, 0, none⟩) 0 (some ⟨w3.heap.size + 1, 0, none⟩) 0 (some ⟨w3.heap.size + 1 + 1, 0, none⟩) 0 w4) := by
    rw [hw4]
    refine ⟨?_, ?_, ?_, ?_, ?_, ?_, by omega, by omega, by omega⟩
    · exact Blk.new_at _ (by simp [hgp]) _ _
    · exact ⟨Row.nil _ _ _ _ _, Row.nil _ _ _ _ _, Row.nil _ _ _ _ _, ⟨.inl rfl, .inl rfl⟩, ⟨.inl rfl, .inl rfl⟩, ⟨.inl rfl, .inl rfl⟩⟩
    · exact ⟨by simp [rb], by simp [rb], by simp [rb]⟩
    · exact (((hr3.alloc _).alloc _).alloc _).alloc _
    · exact only_alloc (only_alloc (only_alloc (only_alloc g3 _) _) _) _
    · exact (((BR3.out.alloc _).alloc _).alloc _).alloc _
  go_upto_region 2 with fail
  rw [← hw4, ← hgp]
  clear hw4
  have hs4 : gp < w4.heap.size := ST4.out.blk.lt
  have hgpw : w.heap.size < gp := by omega
  clear hgp hr3 hg3 g3 hx
  go_wp2_with fail
  refine (one_c Bs g (p + 1) [6, 10, 4, 14, 2, 0, 20] _ _ _ _ (ST4.out.rdr.alloc _) (by omega) rfl (by simp) (by simp) (Rd.lit (Value.int .i64) [6, 10, 4, 14, 2, 0, 20] rfl (by simp) rfl) (fun b off e => by injection e with e; injection e with e; (try simp at e); omega)).mono ?_
  rintro e w5 ⟨n0, hn0, rfl, hr5, hg5⟩
  obtain ⟨N0, rfl, hN0⟩ : ∃ N0 : Nat, n0 = N0 ∧ N0 ≤ 20 := by
    simp only [List.mem_cons, List.not_mem_nil, or_false] at hn0
    exact ⟨n0.toNat, by omega, by omega⟩
  have ST5 := Lib.hid ((ST4.out.alloc _).read hr5 hg5)
  clear hr5 hg5 hn0
  obtain ⟨k0, k1, k2, k3, kfz⟩ := blk4 ST5.out.blk
  go_wp2_with fail
  go_loopw [4] (fun nn wr => ∃ (N : Nat) (A : Option Addr) (a : Nat) (B : Option Addr) (b : Nat) (C : Option Addr) (c : Nat) (P : Pl) (q : Nat), N ≤ 20 ∧ nn = .int .i64 N ∧ P.few ∧ PState w Bs g q gp P A a B b C c wr ∧ q + 2 * N ≤ p + 50) (fun nn _ => (intOf nn).toNat)
  case atStart => exact ⟨N0, _, _, _, _, _, _, ⟨x, [], [], []⟩, p + 1 + 1, hN0, rfl, ⟨by simp, by simp, by simp⟩, ST5.out, by omega⟩
  case round =>
    obtain ⟨N, A, a, B, b, C, c, P, q, hN, rfl, hfew, st, hq⟩ := hrel
    have ST := Lib.hid st
    obtain ⟨fe1, fe2, fe3⟩ := hfew
    have hgpr : gp < wr.heap.size := st.blk.lt
    have hwr : w.heap.size ≤ wr.heap.size := st.own.size
    clear st k0 k1 k2 k3 kfz
    obtain ⟨k0, k1, k2, k3, kfz⟩ := blk4 ST.out.blk
    obtain ⟨r0, r1, r2, r3, rfz⟩ := blk4 ST.out.res

    by_cases hn : 0 < N
    · obtain ⟨M, rfl⟩ : ∃ M, N = M + 1 := ⟨N - 1, by omega⟩
      have hnd : decide ((0 : Int) < ((M + 1 : Nat) : Int)) = true := decide_eq_true (by omega)
      clear hn
      go_wp2_with fail
      refine (pick_c Bs g q 3 wr ST.out.rdr (by omega) (by omega) (by omega)).mono ?_
      rintro e w2 ⟨t, ht, rfl, hr2, hg2⟩
      have ST' := Lib.hid (ST.out.read hr2 hg2)
      have hgp2 : gp < w2.heap.size := ST'.out.blk.lt
      clear hr2 hg2 ST
      clear k0 k1 k2 k3 kfz r0 r1 r2 r3 rfz

      have ST := ST'
      clear ST'
      obtain ⟨k0, k1, k2, k3, kfz⟩ := blk4 ST.out.blk
      obtain ⟨r0, r1, r2, r3, rfz⟩ := blk4 ST.out.res

      by_cases ht0 : 0 < t
      · have htd : decide ((0 : Int) < (t : Int)) = true := decide_eq_true (by omega)
        have htd2 : decide (0 < t) = true := decide_eq_true (by omega)
        clear ht0
        have HPICK := Lib.hid (fun W (h : PState w Bs g (q + 1) gp P A a B b C c W) => (show Calls Tryz.prog 55 #[.pointer (some ⟨g, 0, none⟩), .int .i64 5] W (RetPick Bs g (q + 1) 5 W) from pick_c Bs g (q + 1) 5 W h.rdr (by omega) (by omega) (by omega)))
        have HACQ := Lib.hid (fun W (h : PState w Bs g (q + 2) gp P A a B b C c W) (o : Int) => (show Calls Tryz.prog 84 #[.agg #[.int .i64 P.mx, .slice A P.ids.length a, .slice B P.hs.length b, .slice C P.wt.length c], .int .i64 o] W (RetPCB (acqR P o).1 (acqR P o).2.1 (acqR P o).2.2 W) from sAcquireConn_c P.mx P.ids P.hs P.wt A _ a B _ b C _ c W rfl rfl rfl h.row.1.rd h.row.2.1.rd h.row.2.2.1.rd (by omega) (by omega) (by omega) h.row.1.le o))
        go_wp2_with fail
        have hn2 : ¬ w2.heap.size = gp := Nat.ne_of_gt hgp2
        go_region_held3 (fun w' => w'.cell? ⟨gp, 0, none⟩ = some (.int .i64 P.mx) ∧ w'.cell? ⟨gp, 1, none⟩ = some (.slice A P.ids.length a) ∧ w'.cell? ⟨gp, 2, none⟩ = some (.slice B P.hs.length b) ∧ w'.cell? ⟨gp, 3, none⟩ = some (.slice C P.wt.length c)) (go_keep) ((first
          | (go_at_call 55; first
              | ((with_reducible refine (HPICK.out _ ST.out.drew).mono ?_); rintro e wP ⟨u, hu, rfl, hrP, hgP⟩; have STP := Lib.hid (ST.out.drew.read hrP hgP); have hnp : ¬ wP.heap.size = gp := Nat.ne_of_gt STP.out.blk.lt; obtain ⟨y0, y1, y2, y3, yfz⟩ := blk4 STP.out.blk)
              | ((with_reducible refine (HPICK.out _ ((ST.out.alloc _).drew)).mono ?_); rintro e wP ⟨u, hu, rfl, hrP, hgP⟩; have STP := Lib.hid ((ST.out.alloc _).drew.read hrP hgP); have hnp : ¬ wP.heap.size = gp := Nat.ne_of_gt STP.out.blk.lt; have NB := Lib.hid ((Blk.new w2 26 #[.int .i64 0, .slice none 0 0, .slice none 0 0, .slice none 0 0]).drew.grown hgP (by intro e; injection e; omega)); have OFN := Lib.hid (ST.out.row.off (Nat.le_refl w2.heap.size)); have hgn : gp < w2.heap.size := hgp2; have hgnP : w2.heap.size < wP.heap.size := NB.out.lt; obtain ⟨y0, y1, y2, y3, yfz⟩ := blk4 STP.out.blk; obtain ⟨n0, n1, n2, n3, nfz⟩ := blk4 NB.out))
          | (go_at_call 84; obtain ⟨Q, hQ⟩ : ∃ Q, Q = (acqR P u).1 := ⟨_, rfl⟩; obtain ⟨cn, hcn⟩ : ∃ cn, cn = (acqR P u).2.1 := ⟨_, rfl⟩; obtain ⟨ok, hok⟩ : ∃ ok, ok = (acqR P u).2.2 := ⟨_, rfl⟩; have hqf : Hid (ok = true → Q.few) := acqR_few' hQ hok; first
              | (have hacq := HACQ.out _ STP.out u; rw [← hQ, ← hcn, ← hok] at hacq; (with_reducible refine hacq.mono ?_); clear hacq hQ hcn hok; rintro e wQ ⟨A4, a4, B4, b4, C4, c4, rfl, prQ, bQ⟩; have PRQ := Lib.hid prQ; have STQ := Lib.hid (STP.out.below bQ); have hnq : ¬ wQ.heap.size = gp := Nat.ne_of_gt STQ.out.blk.lt; have hsPQ : wP.heap.size ≤ wQ.heap.size := bQ.size; (try (have NBQ := Lib.hid (NB.out.below bQ hgnP); obtain ⟨m0, m1, m2, m3, mfz⟩ := blk4 NBQ.out; have hgnQ : w2.heap.size < wQ.heap.size := by omega)); obtain ⟨z0, z1, z2, z3, zfz⟩ := blk4 STQ.out.blk)
              | (have hacq := HACQ.out _ (STP.out.alloc (.cells #[.int .i64 0, .slice none 0 0, .slice none 0 0, .slice none 0 0] 26)) u; rw [← hQ, ← hcn, ← hok] at hacq; (with_reducible refine hacq.mono ?_); clear hacq hQ hcn hok; rintro e wQ ⟨A4, a4, B4, b4, C4, c4, rfl, prQ, bQ⟩; have PRQ := Lib.hid prQ; have STQ := Lib.hid ((STP.out.alloc _).below bQ); have hnq : ¬ wQ.heap.size = gp := Nat.ne_of_gt STQ.out.blk.lt; have OFN := Lib.hid (STP.out.row.off (Nat.le_refl wP.heap.size)); have hgn : gp < wP.heap.size := STP.out.blk.lt; have NBQ := Lib.hid ((Blk.new wP 26 #[.int .i64 0, .slice none 0 0, .slice none 0 0, .slice none 0 0]).below bQ (by simp)); have hgnQ : wP.heap.size < wQ.heap.size := NBQ.out.lt; obtain ⟨m0, m1, m2, m3, mfz⟩ := blk4 NBQ.out; obtain ⟨z0, z1, z2, z3, zfz⟩ := blk4 STQ.out.blk))
          | fail))
        all_goals
          first
          | (have hh1 : w2.heap.size < wP.heap.size := (by omega); have hh2 : wP.heap.size ≤ wQ.heap.size := (by omega); obtain ⟨gn, w8, hgnE, hw8, st8, nx⟩ := PNext.stored STQ.out NBQ.out rfl hgn OFN.out ⟨wP, hh1, hh2, PRQ.out⟩; rw [← hw8, ← hgnE])
          | (obtain ⟨gn, w8, hgnE, hw8, st8, nx⟩ := PNext.stored STQ.out NBQ.out rfl hgn OFN.out ⟨wP.alloc (.cells #[.int .i64 0, .slice none 0 0, .slice none 0 0, .slice none 0 0] 26), (by simp), (by simp <;> omega), PRQ.out⟩; rw [← hw8, ← hgnE])
          | (obtain ⟨gn, w8, hgnE, hw8, st8, nx⟩ := PNext.fresh STQ.out PRQ.out STP.out.blk.lt; rw [← hw8, ← hgnE])
          have ST8 := Lib.hid st8; have NX := Lib.hid nx; have HQF := hqf
          have hgp8 : gp < w8.heap.size := st8.blk.lt
          have hgn8 : gn < w8.heap.size := nx.blk.lt
          have hne8 : ¬ gn = gp := nx.ne
          have hne8' : ¬ gp = gn := fun e => nx.ne e.symm
          have hwM : IntKind.i64.wrap (M : Int) = (M : Int) := IntWalk.i64_in _ ⟨by omega, by omega⟩
          clear st8 nx hw8 hgnE STQ PRQ bQ prQ
          try clear NBQ
          try clear NB
          try clear m0 m1 m2 m3 mfz
          try clear n0 n1 n2 n3 nfz
          clear z0 z1 z2 z3 zfz y0 y1 y2 y3 yfz hgP
          try clear k0 k1 k2 k3 kfz r0 r1 r2 r3 rfz
          cases ok
          · go_wp2_with fail
            go_roundw
            case rel => exact ⟨M, A, a, _, b, C, c, P, q + 1 + 1, by omega, by go_num, ⟨fe1, fe2, fe3⟩, ST8.out, by omega⟩
            case measure => simp [intOf] <;> omega
          · obtain ⟨k0, k1, k2, k3, kfz⟩ := blk4 ST8.out.blk
            obtain ⟨n0, n1, n2, n3, nfz⟩ := blk4 NX.out.blk
            go_wp2_with fail
            go_roundw
            case rel => exact ⟨M, A4, a4, B4, b4, C4, c4, Q, q + 1 + 1, by omega, by go_num, HQF.out rfl, ST8.out.put NX.out.row NX.out.off, by omega⟩
            case measure => simp [intOf] <;> omega

      · have htd : decide ((0 : Int) < (t : Int)) = false := decide_eq_false (by omega)
        have htd2 : decide (0 < t) = false := decide_eq_false (by omega)
        obtain rfl : t = 0 := by omega
        clear ht0
        by_cases hh0 : P.hs.length = 0
        · have hl0 : ((P.hs.length : Int) == 0) = true := by rw [hh0]; rfl
          have hl1 : (P.hs.length == 0) = true := by rw [hh0]; rfl
          clear hh0
          have HPICK := Lib.hid (fun W (h : PState w Bs g (q + 1) gp P A a B b C c W) => (show Calls Tryz.prog 55 #[.pointer (some ⟨g, 0, none⟩), .int .i64 5] W (RetPick Bs g (q + 1) 5 W) from pick_c Bs g (q + 1) 5 W h.rdr (by omega) (by omega) (by omega)))
          have HACQ := Lib.hid (fun W (h : PState w Bs g (q + 2) gp P A a B b C c W) (o : Int) => (show Calls Tryz.prog 84 #[.agg #[.int .i64 P.mx, .slice A P.ids.length a, .slice B P.hs.length b, .slice C P.wt.length c], .int .i64 o] W (RetPCB (acqR P o).1 (acqR P o).2.1 (acqR P o).2.2 W) from sAcquireConn_c P.mx P.ids P.hs P.wt A _ a B _ b C _ c W rfl rfl rfl h.row.1.rd h.row.2.1.rd h.row.2.2.1.rd (by omega) (by omega) (by omega) h.row.1.le o))
          go_wp2_with fail
          have hn2 : ¬ w2.heap.size = gp := Nat.ne_of_gt hgp2
          go_region_held3 (fun w' => w'.cell? ⟨gp, 0, none⟩ = some (.int .i64 P.mx) ∧ w'.cell? ⟨gp, 1, none⟩ = some (.slice A P.ids.length a) ∧ w'.cell? ⟨gp, 2, none⟩ = some (.slice B P.hs.length b) ∧ w'.cell? ⟨gp, 3, none⟩ = some (.slice C P.wt.length c)) (go_keep) ((first
            | (go_at_call 55; first
                | ((with_reducible refine (HPICK.out _ ST.out.drew).mono ?_); rintro e wP ⟨u, hu, rfl, hrP, hgP⟩; have STP := Lib.hid (ST.out.drew.read hrP hgP); have hnp : ¬ wP.heap.size = gp := Nat.ne_of_gt STP.out.blk.lt; obtain ⟨y0, y1, y2, y3, yfz⟩ := blk4 STP.out.blk)
                | ((with_reducible refine (HPICK.out _ ((ST.out.alloc _).drew)).mono ?_); rintro e wP ⟨u, hu, rfl, hrP, hgP⟩; have STP := Lib.hid ((ST.out.alloc _).drew.read hrP hgP); have hnp : ¬ wP.heap.size = gp := Nat.ne_of_gt STP.out.blk.lt; have NB := Lib.hid ((Blk.new w2 26 #[.int .i64 0, .slice none 0 0, .slice none 0 0, .slice none 0 0]).drew.grown hgP (by intro e; injection e; omega)); have OFN := Lib.hid (ST.out.row.off (Nat.le_refl w2.heap.size)); have hgn : gp < w2.heap.size := hgp2; have hgnP : w2.heap.size < wP.heap.size := NB.out.lt; obtain ⟨y0, y1, y2, y3, yfz⟩ := blk4 STP.out.blk; obtain ⟨n0, n1, n2, n3, nfz⟩ := blk4 NB.out))
            | (go_at_call 84; obtain ⟨Q, hQ⟩ : ∃ Q, Q = (acqR P u).1 := ⟨_, rfl⟩; obtain ⟨cn, hcn⟩ : ∃ cn, cn = (acqR P u).2.1 := ⟨_, rfl⟩; obtain ⟨ok, hok⟩ : ∃ ok, ok = (acqR P u).2.2 := ⟨_, rfl⟩; have hqf : Hid (ok = true → Q.few) := acqR_few' hQ hok; first
                | (have hacq := HACQ.out _ STP.out u; rw [← hQ, ← hcn, ← hok] at hacq; (with_reducible refine hacq.mono ?_); clear hacq hQ hcn hok; rintro e wQ ⟨A4, a4, B4, b4, C4, c4, rfl, prQ, bQ⟩; have PRQ := Lib.hid prQ; have STQ := Lib.hid (STP.out.below bQ); have hnq : ¬ wQ.heap.size = gp := Nat.ne_of_gt STQ.out.blk.lt; have hsPQ : wP.heap.size ≤ wQ.heap.size := bQ.size; (try (have NBQ := Lib.hid (NB.out.below bQ hgnP); obtain ⟨m0, m1, m2, m3, mfz⟩ := blk4 NBQ.out; have hgnQ : w2.heap.size < wQ.heap.size := by omega)); obtain ⟨z0, z1, z2, z3, zfz⟩ := blk4 STQ.out.blk)
                | (have hacq := HACQ.out _ (STP.out.alloc (.cells #[.int .i64 0, .slice none 0 0, .slice none 0 0, .slice none 0 0] 26)) u; rw [← hQ, ← hcn, ← hok] at hacq; (with_reducible refine hacq.mono ?_); clear hacq hQ hcn hok; rintro e wQ ⟨A4, a4, B4, b4, C4, c4, rfl, prQ, bQ⟩; have PRQ := Lib.hid prQ; have STQ := Lib.hid ((STP.out.alloc _).below bQ); have hnq : ¬ wQ.heap.size = gp := Nat.ne_of_gt STQ.out.blk.lt; have OFN := Lib.hid (STP.out.row.off (Nat.le_refl wP.heap.size)); have hgn : gp < wP.heap.size := STP.out.blk.lt; have NBQ := Lib.hid ((Blk.new wP 26 #[.int .i64 0, .slice none 0 0, .slice none 0 0, .slice none 0 0]).below bQ (by simp)); have hgnQ : wP.heap.size < wQ.heap.size := NBQ.out.lt; obtain ⟨m0, m1, m2, m3, mfz⟩ := blk4 NBQ.out; obtain ⟨z0, z1, z2, z3, zfz⟩ := blk4 STQ.out.blk))
            | fail))
          all_goals
            first
            | (have hh1 : w2.heap.size < wP.heap.size := (by omega); have hh2 : wP.heap.size ≤ wQ.heap.size := (by omega); obtain ⟨gn, w8, hgnE, hw8, st8, nx⟩ := PNext.stored STQ.out NBQ.out rfl hgn OFN.out ⟨wP, hh1, hh2, PRQ.out⟩; rw [← hw8, ← hgnE])
            | (obtain ⟨gn, w8, hgnE, hw8, st8, nx⟩ := PNext.stored STQ.out NBQ.out rfl hgn OFN.out ⟨wP.alloc (.cells #[.int .i64 0, .slice none 0 0, .slice none 0 0, .slice none 0 0] 26), (by simp), (by simp <;> omega), PRQ.out⟩; rw [← hw8, ← hgnE])
            | (obtain ⟨gn, w8, hgnE, hw8, st8, nx⟩ := PNext.fresh STQ.out PRQ.out STP.out.blk.lt; rw [← hw8, ← hgnE])
            have ST8 := Lib.hid st8; have NX := Lib.hid nx; have HQF := hqf
            have hgp8 : gp < w8.heap.size := st8.blk.lt
            have hgn8 : gn < w8.heap.size := nx.blk.lt
            have hne8 : ¬ gn = gp := nx.ne
            have hne8' : ¬ gp = gn := fun e => nx.ne e.symm
            have hwM : IntKind.i64.wrap (M : Int) = (M : Int) := IntWalk.i64_in _ ⟨by omega, by omega⟩
            clear st8 nx hw8 hgnE STQ PRQ bQ prQ
            try clear NBQ
            try clear NB
            try clear m0 m1 m2 m3 mfz
            try clear n0 n1 n2 n3 nfz
            clear z0 z1 z2 z3 zfz y0 y1 y2 y3 yfz hgP
            try clear k0 k1 k2 k3 kfz r0 r1 r2 r3 rfz
            cases ok
            · go_wp2_with fail
              go_roundw
              case rel => exact ⟨M, A, a, _, b, C, c, P, q + 1 + 1, by omega, by go_num, ⟨fe1, fe2, fe3⟩, ST8.out, by omega⟩
              case measure => simp [intOf] <;> omega
            · obtain ⟨k0, k1, k2, k3, kfz⟩ := blk4 ST8.out.blk
              obtain ⟨n0, n1, n2, n3, nfz⟩ := blk4 NX.out.blk
              go_wp2_with fail
              go_roundw
              case rel => exact ⟨M, A4, a4, B4, b4, C4, c4, Q, q + 1 + 1, by omega, by go_num, HQF.out rfl, ST8.out.put NX.out.row NX.out.off, by omega⟩
              case measure => simp [intOf] <;> omega

        · have hl0 : ((P.hs.length : Int) == 0) = false := beq_eq_false_iff_ne.2 (by omega)
          have hl1 : (P.hs.length == 0) = false := beq_eq_false_iff_ne.2 (by omega)
          obtain ⟨b9, o9, hB9, _, _, _⟩ := ST.out.row.2.1.form (by omega)
          subst hB9
          have hpos : 0 < P.hs.length := by omega
          obtain ⟨cnf, hcnf⟩ : ∃ cnf : Nat → Int, ∀ z (hz : z < P.hs.length), cnf z = (P.hs[z]).1 := ⟨fun z => (P.hs.getD z (0, 0)).1, fun z hz => by simp [List.getD_eq_getElem?_getD, hz]⟩
          have CU : Hid (∀ W (h : Row W (w.heap.size + 1) 48 2 (some ⟨b9, o9, none⟩) P.hs.length b (sc P.hs)) z, z < P.hs.length → W.cell? ⟨b9, o9 + z * 2, none⟩ = some (.int .i64 (cnf z))) := fun W h z hz => by rw [hcnf z hz]; exact h.cell (j := z * 2) (sc_get P.hs z hz).1
          clear hcnf
          have HPICK := Lib.hid (fun W (h : PState w Bs g (q + 1) gp P A a (some ⟨b9, o9, none⟩) b C c W) => (show Calls Tryz.prog 55 #[.pointer (some ⟨g, 0, none⟩), .int .i64 P.hs.length] W (RetPick Bs g (q + 1) P.hs.length W) from pick_c Bs g (q + 1) P.hs.length W h.rdr (by omega) (by omega) (by omega)))
          have HACQ := Lib.hid (fun W (h : PState w Bs g (q + 2) gp P A a (some ⟨b9, o9, none⟩) b C c W) (o : Int) => (show Calls Tryz.prog 85 #[.agg #[.int .i64 P.mx, .slice A P.ids.length a, .slice (some ⟨b9, o9, none⟩) P.hs.length b, .slice C P.wt.length c], .int .i64 o] W (RetPCB (relR P o).1 (relR P o).2.1 (relR P o).2.2 W) from sReleaseConn_c P.mx P.ids P.hs P.wt A _ a (some ⟨b9, o9, none⟩) _ b C _ c W rfl rfl rfl h.row.1.rd h.row.2.1.rd h.row.2.2.1.rd (by omega) (by omega) (by omega) h.row.2.1.le h.row.2.2.1.le o))
          go_wp2_with fail
          have hn2 : ¬ w2.heap.size = gp := Nat.ne_of_gt hgp2
          have cu2 := CU.out _ ST.out.row.2.1
          have hx2 : ¬ w2.heap.size = b9 := Nat.ne_of_gt (World.block_lt_of_cell? w2 _ (cu2 0 hpos))
          go_region_held3 (fun w' => w'.cell? ⟨gp, 0, none⟩ = some (.int .i64 P.mx) ∧ w'.cell? ⟨gp, 1, none⟩ = some (.slice A P.ids.length a) ∧ w'.cell? ⟨gp, 2, none⟩ = some (.slice (some ⟨b9, o9, none⟩) P.hs.length b) ∧ w'.cell? ⟨gp, 3, none⟩ = some (.slice C P.wt.length c) ∧ ∀ z, z < P.hs.length → w'.cell? ⟨b9, o9 + z * 2, none⟩ = some (.int .i64 (cnf z))) (first | (go_keep; done) | (refine ⟨?_, ?_, ?_, ?_, fun z hz => ?_⟩ <;> (first | (go_keep; done) | exact cuQ z hz | (have cz := cuQ z hz; go_keep; done) | exact cuP z hz | (have cz := cuP z hz; go_keep; done) | exact cu2 z hz | (have cz := cu2 z hz; go_keep; done)))) ((first
            | (go_at_call 55; first
                | ((with_reducible refine (HPICK.out _ ST.out.drew).mono ?_); rintro e wP ⟨u, hu, rfl, hrP, hgP⟩; have STP := Lib.hid (ST.out.drew.read hrP hgP); have hnp : ¬ wP.heap.size = gp := Nat.ne_of_gt STP.out.blk.lt; have cuP := CU.out _ STP.out.row.2.1; have hxP : ¬ wP.heap.size = b9 := Nat.ne_of_gt (World.block_lt_of_cell? wP _ (cuP 0 hpos)); obtain ⟨y0, y1, y2, y3, yfz⟩ := blk4 STP.out.blk)
                | ((with_reducible refine (HPICK.out _ ((ST.out.alloc _).drew)).mono ?_); rintro e wP ⟨u, hu, rfl, hrP, hgP⟩; have STP := Lib.hid ((ST.out.alloc _).drew.read hrP hgP); have hnp : ¬ wP.heap.size = gp := Nat.ne_of_gt STP.out.blk.lt; have NB := Lib.hid ((Blk.new w2 26 #[.int .i64 0, .slice none 0 0, .slice none 0 0, .slice none 0 0]).drew.grown hgP (by intro e; injection e; omega)); have OFN := Lib.hid (ST.out.row.off (Nat.le_refl w2.heap.size)); have hgn : gp < w2.heap.size := hgp2; have hgnP : w2.heap.size < wP.heap.size := NB.out.lt; have cuP := CU.out _ STP.out.row.2.1; have hxP : ¬ wP.heap.size = b9 := Nat.ne_of_gt (World.block_lt_of_cell? wP _ (cuP 0 hpos)); obtain ⟨y0, y1, y2, y3, yfz⟩ := blk4 STP.out.blk; obtain ⟨n0, n1, n2, n3, nfz⟩ := blk4 NB.out))
            | (go_at_call 85; obtain ⟨Q, hQ⟩ : ∃ Q, Q = (relR P (cnf u)).1 := ⟨_, rfl⟩; obtain ⟨cn, hcn⟩ : ∃ cn, cn = (relR P (cnf u)).2.1 := ⟨_, rfl⟩; obtain ⟨ok, hok⟩ : ∃ ok, ok = (relR P (cnf u)).2.2 := ⟨_, rfl⟩; have hqf : Hid (ok = true → Q.few) := relR_few' hQ hok; first
                | (have hacq := HACQ.out _ STP.out (cnf u); rw [← hQ, ← hcn, ← hok] at hacq; (with_reducible refine hacq.mono ?_); clear hacq hQ hcn hok; rintro e wQ ⟨A4, a4, B4, b4, C4, c4, rfl, prQ, bQ⟩; have PRQ := Lib.hid prQ; have STQ := Lib.hid (STP.out.below bQ); have hnq : ¬ wQ.heap.size = gp := Nat.ne_of_gt STQ.out.blk.lt; have hsPQ : wP.heap.size ≤ wQ.heap.size := bQ.size; (try (have NBQ := Lib.hid (NB.out.below bQ hgnP); obtain ⟨m0, m1, m2, m3, mfz⟩ := blk4 NBQ.out; have hgnQ : w2.heap.size < wQ.heap.size := by omega)); have cuQ := CU.out _ STQ.out.row.2.1; have hxQ : ¬ wQ.heap.size = b9 := Nat.ne_of_gt (World.block_lt_of_cell? wQ _ (cuQ 0 hpos)); obtain ⟨z0, z1, z2, z3, zfz⟩ := blk4 STQ.out.blk)
                | (have hacq := HACQ.out _ (STP.out.alloc (.cells #[.int .i64 0, .slice none 0 0, .slice none 0 0, .slice none 0 0] 26)) (cnf u); rw [← hQ, ← hcn, ← hok] at hacq; (with_reducible refine hacq.mono ?_); clear hacq hQ hcn hok; rintro e wQ ⟨A4, a4, B4, b4, C4, c4, rfl, prQ, bQ⟩; have PRQ := Lib.hid prQ; have STQ := Lib.hid ((STP.out.alloc _).below bQ); have hnq : ¬ wQ.heap.size = gp := Nat.ne_of_gt STQ.out.blk.lt; have OFN := Lib.hid (STP.out.row.off (Nat.le_refl wP.heap.size)); have hgn : gp < wP.heap.size := STP.out.blk.lt; have NBQ := Lib.hid ((Blk.new wP 26 #[.int .i64 0, .slice none 0 0, .slice none 0 0, .slice none 0 0]).below bQ (by simp)); have hgnQ : wP.heap.size < wQ.heap.size := NBQ.out.lt; obtain ⟨m0, m1, m2, m3, mfz⟩ := blk4 NBQ.out; have cuQ := CU.out _ STQ.out.row.2.1; have hxQ : ¬ wQ.heap.size = b9 := Nat.ne_of_gt (World.block_lt_of_cell? wQ _ (cuQ 0 hpos)); obtain ⟨z0, z1, z2, z3, zfz⟩ := blk4 STQ.out.blk))
            | fail))
          all_goals
            first
            | (have hh1 : w2.heap.size < wP.heap.size := (by omega); have hh2 : wP.heap.size ≤ wQ.heap.size := (by omega); obtain ⟨gn, w8, hgnE, hw8, st8, nx⟩ := PNext.stored STQ.out NBQ.out rfl hgn OFN.out ⟨wP, hh1, hh2, PRQ.out⟩; rw [← hw8, ← hgnE])
            | (obtain ⟨gn, w8, hgnE, hw8, st8, nx⟩ := PNext.stored STQ.out NBQ.out rfl hgn OFN.out ⟨wP.alloc (.cells #[.int .i64 0, .slice none 0 0, .slice none 0 0, .slice none 0 0] 26), (by simp), (by simp <;> omega), PRQ.out⟩; rw [← hw8, ← hgnE])
            | (obtain ⟨gn, w8, hgnE, hw8, st8, nx⟩ := PNext.fresh STQ.out PRQ.out STP.out.blk.lt; rw [← hw8, ← hgnE])
            have ST8 := Lib.hid st8; have NX := Lib.hid nx; have HQF := hqf
            have hgp8 : gp < w8.heap.size := st8.blk.lt
            have hgn8 : gn < w8.heap.size := nx.blk.lt
            have hne8 : ¬ gn = gp := nx.ne
            have hne8' : ¬ gp = gn := fun e => nx.ne e.symm
            have hwM : IntKind.i64.wrap (M : Int) = (M : Int) := IntWalk.i64_in _ ⟨by omega, by omega⟩
            clear st8 nx hw8 hgnE STQ PRQ bQ prQ
            try clear NBQ
            clear cu2 cuP cuQ
            try clear NB
            try clear m0 m1 m2 m3 mfz
            try clear n0 n1 n2 n3 nfz
            clear z0 z1 z2 z3 zfz y0 y1 y2 y3 yfz hgP
            try clear k0 k1 k2 k3 kfz r0 r1 r2 r3 rfz
            cases ok
            · go_wp2_with fail
              go_roundw
              case rel => exact ⟨M, A, a, _, b, C, c, P, q + 1 + 1, by omega, by go_num, ⟨fe1, fe2, fe3⟩, ST8.out, by omega⟩
              case measure => simp [intOf] <;> omega
            · obtain ⟨k0, k1, k2, k3, kfz⟩ := blk4 ST8.out.blk
              obtain ⟨n0, n1, n2, n3, nfz⟩ := blk4 NX.out.blk
              go_wp2_with fail
              go_roundw
              case rel => exact ⟨M, A4, a4, B4, b4, C4, c4, Q, q + 1 + 1, by omega, by go_num, HQF.out rfl, ST8.out.put NX.out.row NX.out.off, by omega⟩
              case measure => simp [intOf] <;> omega

    · obtain rfl : N = 0 := by omega
      have ROW := Lib.hid ST.out.row; have RDR := Lib.hid ST.out.rdr; have OWN := Lib.hid ST.out.own
      clear ST ST5 ST4
      go_wp2_with fail
      refine bodyPost_ret (v := .agg #[.int .i64 P.mx, .slice A P.ids.length a, .slice B P.hs.length b, .slice C P.wt.length c]) (by simp [results, Tryz.results54, go_sem, r0, r1, r2, r3, rfz]) rfl ?_
      refine ⟨A, a, B, b, C, c, P, q, rfl, ⟨fe1, fe2, fe3⟩, ?_, ?_, by omega, ?_⟩
      · refine PRow.mono (base := w.heap.size + 1) ?_ (by omega)
        iterate 4 (with_reducible refine PRow.setFar ?_ (by simp) _)
        exact ROW.out
      · have key : ∀ (V : World) (i : Nat) (u : Value), Rdr V Bs g q → Rdr (V.setCell ⟨w.heap.size, i, none⟩ u) Bs g q := fun V i u hV => hV.grown (only_setCell (World.grownBy.refl V (some w.heap.size)) (.inl rfl) u) (fun k hk => by
          injection hk with hk
          have h4 : w.heap.size = k := hk
          omega)
        exact key _ _ _ (key _ _ _ (key _ _ _ (key _ _ _ RDR.out)))
      · have key : ∀ (V : World) (i : Nat) (u : Value), w.grownBy V (some g) → w.grownBy (V.setCell ⟨w.heap.size, i, none⟩ u) (some g) := fun V i u hV => only_setCell hV (.inr (Nat.le_refl _)) u
        exact key _ _ _ (key _ _ _ (key _ _ _ (key _ _ _ OWN.out)))
end Go.Proofs.YtnmgnhpagnjhlaaGreatDoor
