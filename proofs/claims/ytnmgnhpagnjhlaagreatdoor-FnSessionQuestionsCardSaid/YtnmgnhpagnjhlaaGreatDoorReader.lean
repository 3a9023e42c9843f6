/- Contracts of the reader from which the laws draw their arguments: newReader, pick, one. -/
import Derived.Test.YtnmgnhpagnjhlaaGreatDoorProg
import Derived.Test.YtnmgnhpagnjhlaaGreatDoorBase
import Derived.Laws.BitsAllLaws
import Derived.Laws.BitsLemmas
set_option linter.unusedVariables false
set_option linter.unusedSimpArgs false
namespace Go.Proofs.YtnmgnhpagnjhlaaGreatDoor
open Go.RowKit

/-- Block g, below B, is a reader at place p; its bytes lie below B, too. -/
def Rdr (w : World) (B g p : Nat) : Prop :=
  g < B ∧ B ≤ w.heap.size ∧ ∃ (A : Option Addr) (n c : Nat) (xs : List Int), Blk w g 92 #[.slice A n c, .int .i64 (p : Nat)] ∧ xs.length = n ∧ n ≤ 2000 ∧ n ≤ c ∧ (∀ x ∈ xs, 0 ≤ x ∧ x ≤ 255) ∧
    (0 < xs.length → ∃ b off, A = some ⟨b, off, none⟩ ∧ b < B ∧ ∀ j u, (xs.map (Value.int .u8))[j]? = some u → w.cell? ⟨b, off + j, none⟩ = some u)

theorem Rdr.grown {w w' : World} {B g p : Nat} {row : Option Nat} (h : Rdr w B g p) (hg : w.grownBy w' row) (hr : ∀ k, row = some k → B ≤ k) : Rdr w' B g p := by
  obtain ⟨h1, h2, A, n, c, xs, hb, h3, h4, h5, h6, h7⟩ := h
  refine ⟨h1, Nat.le_trans h2 hg.size, A, n, c, xs, hb.grown hg (fun e => by have := hr _ e.symm; omega), h3, h4, h5, h6, fun hp => ?_⟩
  obtain ⟨b, off, e, hlt, hc⟩ := h7 hp
  exact ⟨b, off, e, hlt, fun j u hu => hg.cell (hc j u hu) (fun e => by have : B ≤ b := hr _ e.symm; omega)⟩
theorem Rdr.below {w w' : World} {B g p : Nat} (h : Rdr w B g p) (hb : Below w.heap.size w w') : Rdr w' B g p :=
  h.grown (only_of_below hb none) (fun k hk => by cases hk)
theorem Rdr.alloc {w : World} {B g p : Nat} (h : Rdr w B g p) (o : Obj) : Rdr (w.alloc o) B g p := h.grown (World.grownBy_alloc w o none) (fun k hk => by cases hk)
theorem Rdr.drewN {w : World} {B g p : Nat} (h : Rdr w B g p) (m : Nat) : Rdr (w.drewN m) B g p := h

theorem own_keep {w w' : World} {base g : Nat} {e : TypeId} {size n : Nat} {v : Value} {xs : List Value} (h : w.ownsRow base e size v n xs) (hg : w.grownBy w' (some g)) (hlt : g < base) : w'.ownsRow base e size v n xs :=
  h.kept hg (by
    cases hv : v.ownBlock with
    | none => exact .inl rfl
    | some y => have := (h.lt y hv).1; exact .inr (fun e => by injection e; omega))

set_option maxHeartbeats 400000 in
theorem newReader_c (zs : List Int) (A : Option Addr) (n c : Nat) (w : World) (hN : zs.length = n) (hc : n ≤ c) (hm : c ≤ maxLen) (h : Rd w A (zs.map (.int .u8))) (hz : ∀ z ∈ zs, 0 ≤ z ∧ z ≤ 255) :
    Calls Tryz.prog 29 #[.slice A n c] w fun e w' => e = .returned (.pointer (some ⟨w.heap.size, 0, none⟩)) ∧ Rdr w' (w.heap.size + 1) w.heap.size 0 ∧ Below w.heap.size w w' := by
  unfold maxLen at hm
  have HN := Lib.hid hN; clear hN
  have HZ := Lib.hid hz; clear hz
  have key : ∀ (k : Nat), k = zs.length ∨ k ≤ zs.length → k ≤ 2000 → k ≤ c → Rdr (w.alloc (.cells #[.slice A k c, .int .i64 0] 92)) (w.heap.size + 1) w.heap.size 0 := by
    intro k hk hk2 hk3
    refine ⟨by omega, by simp, A, k, c, zs.take k, Blk.new _ _ _, by simp; omega, hk2, hk3, fun x hx => HZ.out x (List.mem_of_mem_take hx), fun hp => ?_⟩
    have h' := h.take k
    rw [← List.map_take] at h'
    obtain ⟨b, off, e, hlt, hcell⟩ := h'.block (by simpa using hp)
    exact ⟨b, off, e, by omega, fun j u hu => (World.cell?_alloc_lt w _ _ hlt).trans (hcell j u hu)⟩
  have KEY := Lib.hid key; clear key
  by_cases hbig : 2000 < n
  · go_enter Tryz.func29, Tryz.ntmps29
    go_wp2
    go_ret
    exact ⟨rfl, KEY.out 2000 (.inr (by rw [HN.out]; omega)) (by omega) (by omega), (Below.refl _ _).alloc (Nat.le_refl _) _⟩
  · go_enter Tryz.func29, Tryz.ntmps29
    go_wp2
    go_ret
    exact ⟨rfl, KEY.out n (.inr (by rw [HN.out]; omega)) (by omega) hc, (Below.refl _ _).alloc (Nat.le_refl _) _⟩

/-- What pick answers: a number below N; the reader has gone on by one. -/
def RetPick (B g p N : Nat) (w : World) (e : Ending) (w' : World) : Prop :=
  ∃ k : Nat, k < N ∧ e = .returned (.int .i64 k) ∧ Rdr w' B g (p + 1) ∧ w.grownBy w' (some g)
/-- What one answers: one of the numbers. -/
def RetOne (B g p : Nat) (xs : List Int) (w : World) (e : Ending) (w' : World) : Prop :=
  ∃ v : Int, v ∈ xs ∧ e = .returned (.int .i64 v) ∧ Rdr w' B g (p + 1) ∧ w.grownBy w' (some g)

theorem Rd.lit {α : Type} (F : α → Value) (xs : List α) {W w0 : World} {cs : Array Value} {t : TypeId} {g : Nat} (hW : W = w0.alloc (.cells cs t)) (hg : g = w0.heap.size) (hcs : cs.toList = xs.map F) : Rd W (some ⟨g, 0, none⟩) (xs.map F) := by
  subst hW hg
  exact fun _ => ⟨w0.heap.size, 0, rfl, fun j u hu => by rw [Nat.zero_add, cell_new, ← Array.getElem?_toList, hcs]; exact hu⟩

theorem ofInt_i64 (a : Nat) (ha : a < 9223372036854775808) : (BitVec.ofInt 64 (a : Int)).toNat = a := by
  rw [BitVec.ofInt_natCast, BitVec.toNat_ofNat]; exact Nat.mod_eq_of_lt (by omega)
theorem i64_xor_nat (a b : Nat) (ha : a < 9223372036854775808) (hb : b < 9223372036854775808) : bits .xor .i64 (a : Int) (b : Int) = ((a ^^^ b : Nat) : Int) := by
  have hx : a ^^^ b < 2 ^ 63 := Nat.xor_lt_two_pow (by omega) (by omega)
  show IntKind.i64.wrap ((BitVec.ofInt 64 (a : Int) ^^^ BitVec.ofInt 64 (b : Int)).toNat : Int) = _
  rw [BitVec.toNat_xor, ofInt_i64 a ha, ofInt_i64 b hb, IntKind.wrap_i64]
  omega
theorem xor_nonneg {x y : Int} (hx : 0 ≤ x) (hx2 : x ≤ 4611686018427387904) (hy : 0 ≤ y) (hy2 : y ≤ 4611686018427387904) : 0 ≤ bits .xor .i64 x y := by
  obtain ⟨a, rfl⟩ := Int.eq_ofNat_of_zero_le hx
  obtain ⟨b, rfl⟩ := Int.eq_ofNat_of_zero_le hy
  rw [i64_xor_nat a b (by omega) (by omega)]
  omega

/-- The bytes of a reader do not lie in its own block. -/
theorem rdr_ne {w : World} {g b off n c p : Nat} {T : TypeId} {A : Option Addr} {xs : List Int} (hb : Blk w g T #[.slice A n c, .int .i64 (p : Nat)]) (hp : 0 < xs.length)
    (hc : ∀ j u, (xs.map (Value.int .u8))[j]? = some u → w.cell? ⟨b, off + j, none⟩ = some u) : b ≠ g := by
  rintro rfl
  have h0 := hc 0 _ (List.getElem?_eq_getElem (by simpa using hp))
  rw [hb.cell] at h0
  have hl : off + 0 < 2 := by
    rcases Nat.lt_or_ge (off + 0) 2 with h' | h'
    · exact h'
    · rw [Array.getElem?_eq_none (by simpa using h')] at h0; cases h0
  rcases Nat.lt_or_ge off 1 with h' | h'
  · obtain rfl : off = 0 := by omega
    simp at h0
  · obtain rfl : off = 1 := by omega
    simp at h0

set_option maxHeartbeats 1000000 in
theorem pick_c (B g p N : Nat) (w : World) (hr : Rdr w B g p) (hp : p ≤ 1099511627776) (hN : 1 ≤ N) (hN2 : N ≤ 2147483648) :
    Calls Tryz.prog 55 #[.pointer (some ⟨g, 0, none⟩), .int .i64 N] w (RetPick B g p N w) := by
  obtain ⟨h1, h2, A, n, c, xs, hb, h3, h4, h5, h6, h7⟩ := hr
  have fin : ∀ k : Nat, k < N → RetPick B g p N w (.returned (.int .i64 k)) (w.setCell ⟨g, 1, none⟩ (.int .i64 ((p : Int) + 1))) := by
    intro k hk
    refine ⟨k, hk, rfl, ⟨h1, by simpa [World.setCell] using h2, A, n, c, xs, ?_, h3, h4, h5, h6, fun hp => ?_⟩, only_setCell (World.grownBy.refl _ _) (.inl rfl) _⟩
    · exact hb.set_ 1 _
    · obtain ⟨b, off, e, hlt, hc⟩ := h7 hp
      refine ⟨b, off, e, hlt, fun j u hu => ?_⟩
      have h := hc j u hu
      exact (World.cell?_setCell_other w _ _ _ (fun e => rdr_ne hb hp hc (by injection e with e1; exact e1.symm))).trans h
  have fin2 : ∀ k m : Nat, k < N → RetPick B g p N w (.returned (.int .i64 k)) ((w.setCell ⟨g, 1, none⟩ (.int .i64 ((p : Int) + 1))).drewN m) := by
    intro k m hk
    obtain ⟨k', h1', h2', h3', h4'⟩ := fin k hk
    exact ⟨k', h1', h2', h3'.drewN m, only_drewN h4' m⟩
  have FIN2 := Lib.hid fin2; clear fin2
  have hc0 : w.cell? ⟨g, 0, none⟩ = some (.slice A n c) := by rw [hb.cell]; rfl
  have hc1 : w.cell? ⟨g, 1, none⟩ = some (.int .i64 (p : Nat)) := by rw [hb.cell]; rfl
  have hf1 : w.frozen? ⟨g, 1, none⟩ = false := hb.frozen 1
  have FIN := Lib.hid fin; clear fin
  have H3 := Lib.hid h3; clear h3
  have H6 := Lib.hid h6; clear h6
  have hN0 : ¬ (N : Int) < 1 := by omega
  rcases Nat.eq_zero_or_pos n with h0 | h0
  · subst h0
    clear hb
    go_enter Tryz.func55, Tryz.ntmps55
    go_wp2
    go_ret
    exact FIN.out 0 (by omega)
  · obtain ⟨b, off, hA, hlt, hc⟩ := h7 (by rw [H3.out]; exact h0)
    subst hA
    have hne : b ≠ g := rdr_ne (by exact hb) (by rw [H3.out]; exact h0) hc
    have hn0 : ((n : Int) == 0) = false := by simp; omega
    have hx : ∀ k, k < n → ∃ x : Int, 0 ≤ x ∧ x ≤ 255 ∧ w.cell? ⟨b, off + k, none⟩ = some (.int .u8 x) := by
      intro k hk
      have hk' : k < xs.length := by rw [H3.out]; exact hk
      obtain ⟨hl, hu⟩ := H6.out xs[k] (List.getElem_mem hk')
      exact ⟨xs[k], hl, hu, hc k _ (by simp [hk'])⟩
    have HX := Lib.hid hx; clear hx hc h7 H6 H3
    by_cases hpn : p < n
    · obtain ⟨x, hx0, hx1, hxc⟩ := HX.out p hpn
      clear hb
      go_enter Tryz.func55, Tryz.ntmps55
      go_wp2
      go_ret
      have hm0 := Int.emod_nonneg x (show (N : Int) ≠ 0 by omega)
      have hm1 := Int.emod_lt_of_pos x (show (0 : Int) < N by omega)
      have := FIN.out (x % N).toNat (by omega)
      rw [Int.toNat_of_nonneg hm0] at this
      exact this
    · clear hb
      have hm1 : p % n < n := Nat.mod_lt _ h0
      have hm2 : (p * 7 + 3) % n < n := Nat.mod_lt _ h0
      obtain ⟨x, hx0, hx1, hxc⟩ := HX.out _ hm1
      obtain ⟨y, hy0, hy1, hyc⟩ := HX.out _ hm2
      have q1 : (0 : Int) ≤ ((p : Int) * 7 + 3) % (n : Int) := Int.emod_nonneg _ (by omega)
      have q2 : ((p : Int) * 7 + 3) % (n : Int) < (n : Int) := Int.emod_lt_of_pos _ (by omega)
      have q3 : (((p : Int) * 7 + 3) % (n : Int)).toNat = (p * 7 + 3) % n := by
        have e : ((p : Int) * 7 + 3) % (n : Int) = (((p * 7 + 3) % n : Nat) : Int) := by simp
        rw [e]; rfl
      have q4 : (0 : Int) ≤ (p : Int) / (n : Int) := Int.ediv_nonneg (by omega) (by omega)
      have q5 : (p : Int) / (n : Int) ≤ (p : Int) := Int.ediv_le_self _ (by omega)
      go_enter Tryz.func55, Tryz.ntmps55
      go_wp2
      go_quiet (fail)
      have hX0 : 0 ≤ x * 131 + y * 1117 + (p : Int) * 29 + (p : Int) / (n : Int) * 53 := by omega
      have hX1 : x * 131 + y * 1117 + (p : Int) * 29 + (p : Int) / (n : Int) * 53 ≤ 4611686018427387904 := by omega
      clear hx0 hx1 hy0 hy1 hxc hyc q1 q2 q3 q4 q5
      generalize x * 131 + y * 1117 + (p : Int) * 29 + (p : Int) / (n : Int) * 53 = X at *
      have hxor := xor_nonneg hX0 hX1 (show 0 ≤ X / 64 by omega) (by omega)
      go_wp2
      go_ret
      have hm3 := Int.emod_nonneg (bits BinOp.xor IntKind.i64 X (X / 64)) (show (N : Int) ≠ 0 by omega)
      have hm4 := Int.emod_lt_of_pos (bits BinOp.xor IntKind.i64 X (X / 64)) (show (0 : Int) < N by omega)
      have := FIN2.out (bits BinOp.xor IntKind.i64 X (X / 64) % N).toNat nq (by omega)
      rw [Int.toNat_of_nonneg hm3] at this
      exact this

set_option maxHeartbeats 400000 in
theorem one_c (B g p : Nat) (xs : List Int) (A : Option Addr) (n c : Nat) (w : World) (hr : Rdr w B g p) (hp : p ≤ 1099511627776) (hN : xs.length = n) (h0 : 1 ≤ n) (hn2 : n ≤ 2147483648)
    (h : Rd w A (xs.map (.int .i64))) (hA : ∀ b off, A = some ⟨b, off, none⟩ → b ≠ g) :
    Calls Tryz.prog 66 #[.pointer (some ⟨g, 0, none⟩), .slice A n c] w (RetOne B g p xs w) := by
  obtain ⟨b, off, e, hc⟩ := h (by simp; omega)
  subst e
  have hne := hA b off rfl
  have HN := Lib.hid hN; clear hN
  have HC := Lib.hid hc; clear hc h
  clear hA
  go_enter Tryz.func66, Tryz.ntmps66
  go_wp2_with fail
  refine (pick_c B g p n w hr hp h0 hn2).mono ?_
  rintro e w1 ⟨k, hk, rfl, hr1, hg1⟩
  have hkx : k < xs.length := by have := HN.out; omega
  have hx : w1.cell? ⟨b, off + k, none⟩ = some (.int .i64 xs[k]) := hg1.cell (HC.out k _ (by simp [hkx])) (fun e => hne (by injection e))
  obtain ⟨v, hv⟩ : ∃ v, v = xs[k] := ⟨_, rfl⟩
  rw [← hv] at hx
  have hmem : v ∈ xs := by rw [hv]; exact List.getElem_mem hkx
  clear hv
  go_wp2_with fail
  go_ret
  exact ⟨v, hmem, rfl, hr1, hg1⟩

end Go.Proofs.YtnmgnhpagnjhlaaGreatDoor
