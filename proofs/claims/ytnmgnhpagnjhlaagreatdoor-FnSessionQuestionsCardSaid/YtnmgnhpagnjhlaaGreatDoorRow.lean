/- Rows: slices that may be written, cut, clipped and grown, with elements of one cell or more. No conditions; no program in sight. -/
import Derived.Test.YtnmgnhpagnjhlaaGreatDoorBase
set_option linter.unusedVariables false
set_option linter.unusedSimpArgs false
set_option linter.unnecessarySimpa false
namespace Go.Proofs.YtnmgnhpagnjhlaaGreatDoor
open Go.RowKit

/-- A slice address that reads as xs, in a block from B on. -/
def Frd (w : World) (B : Nat) (A : Option Addr) (xs : List Value) : Prop :=
  0 < xs.length → ∃ b off, A = some ⟨b, off, none⟩ ∧ B ≤ b ∧ ∀ j u, xs[j]? = some u → w.cell? ⟨b, off + j, none⟩ = some u
section
variable {w w' : World} {B : Nat} {A : Option Addr} {xs : List Value}
theorem Frd.rd (h : Frd w B A xs) : Rd w A xs := fun hp => by
  obtain ⟨b, off, e, _, hc⟩ := h hp
  exact ⟨b, off, e, hc⟩
theorem Frd.grown {row : Option Nat} (h : Frd w B A xs) (hg : w.grownBy w' row) (hr : ∀ k, row = some k → k < B) : Frd w' B A xs := fun hp => by
  obtain ⟨b, off, e, hB, hc⟩ := h hp
  exact ⟨b, off, e, hB, fun j u hu => hg.cell (hc j u hu) (fun e => by have : b < B := hr b e.symm; omega)⟩
theorem Frd.below (h : Frd w B A xs) (hb : Below w.heap.size w w') : Frd w' B A xs := h.grown (only_of_below hb none) (fun k hk => by cases hk)
theorem Frd.alloc (h : Frd w B A xs) (o : Obj) : Frd (w.alloc o) B A xs := h.grown (World.grownBy_alloc w o none) (fun k hk => by cases hk)
theorem Frd.drewN (h : Frd w B A xs) (m : Nat) : Frd (w.drewN m) B A xs := h
theorem Frd.mono {B' : Nat} (h : Frd w B A xs) (hB : B' ≤ B) : Frd w B' A xs := fun hp => by
  obtain ⟨b, off, e, h1, hc⟩ := h hp
  exact ⟨b, off, e, by omega, hc⟩
theorem Frd.of_own {e : TypeId} {n c : Nat} (h : w.ownsRow B e 1 (.slice A n c) n xs) : Frd w B A xs := fun hn => by
  have h1 : xs.length = n := by have := h.1; omega
  obtain ⟨g, cap, hv, hB, hlt⟩ := h.form (by omega)
  obtain ⟨hA, _⟩ : A = some ⟨g, 0, none⟩ ∧ c = cap := by simpa using hv
  refine ⟨g, 0, hA, hB, fun j u hu => ?_⟩
  subst hA
  have := h.cells (g := g) rfl j u hu
  rwa [add_none] at this
theorem Frd.nil (w : World) (B : Nat) (A : Option Addr) : Frd w B A [] := fun h => absurd h (by simp)
end

/-- The slice (A, n, c) has the cells xs in a block of type e from B on; it may be written and grown. -/
def Row (w : World) (B : Nat) (e : TypeId) (size : Nat) (A : Option Addr) (n c : Nat) (xs : List Value) : Prop :=
  xs.length = n * size ∧ n ≤ c ∧ c ≤ maxLen ∧
  (0 < c → ∃ g off cur, A = some ⟨g, off, none⟩ ∧ B ≤ g ∧ w.heap[g]? = some (.cells cur e (0, 0)) ∧ off + c * size ≤ cur.size ∧ (cur.toList.drop off).take (n * size) = xs)
/-- The block that a row may write to. -/
def rb (A : Option Addr) (c : Nat) : Option Nat := if c = 0 then none else A.map (·.block)

section
variable {w w' : World} {B : Nat} {e : TypeId} {size n c : Nat} {A : Option Addr} {xs : List Value}
theorem Row.len (h : Row w B e size A n c xs) : xs.length = n * size := h.1
theorem Row.le (h : Row w B e size A n c xs) : n ≤ c := h.2.1
theorem Row.max (h : Row w B e size A n c xs) : c ≤ maxLen := h.2.2.1
theorem Row.nil (w : World) (B : Nat) (e : TypeId) (size : Nat) (A : Option Addr) : Row w B e size A 0 0 [] := ⟨by simp, Nat.le_refl _, Nat.zero_le _, fun h => absurd h (by omega)⟩
theorem Row.lt (h : Row w B e size A n c xs) : ∀ k, rb A c = some k → B ≤ k ∧ k < w.heap.size := by
  intro k hk
  unfold rb at hk
  split at hk
  · cases hk
  · obtain ⟨g, off, cur, rfl, hB, hg, _⟩ := h.2.2.2 (by omega)
    obtain rfl : g = k := by simpa using hk
    refine ⟨hB, ?_⟩
    rcases Nat.lt_or_ge g w.heap.size with hlt | hge
    · exact hlt
    · rw [Array.getElem?_eq_none hge] at hg; cases hg
theorem Row.frd (h : Row w B e size A n c xs) : Frd w B A xs := fun hp => by
  have hc : 0 < c := by
    have h1 := h.1; have h2 := h.2.1
    rcases Nat.eq_zero_or_pos c with h0 | h0
    · obtain rfl : n = 0 := by omega
      rw [h1] at hp; simp at hp
    · exact h0
  obtain ⟨g, off, cur, rfl, hB, hg, hs, hx⟩ := h.2.2.2 hc
  refine ⟨g, off, rfl, hB, fun j u hu => ?_⟩
  rw [cell_of_row w g (off + j) cur e (0, 0) hg]
  subst hx
  rw [List.getElem?_take] at hu
  split at hu
  · rw [List.getElem?_drop] at hu; simpa using hu
  · cases hu
theorem Row.rd (h : Row w B e size A n c xs) : Rd w A xs := h.frd.rd
theorem Row.mono {B' : Nat} (h : Row w B e size A n c xs) (hB : B' ≤ B) : Row w B' e size A n c xs :=
  ⟨h.1, h.2.1, h.2.2.1, fun hc => by
    obtain ⟨g, off, cur, hA, hb, r⟩ := h.2.2.2 hc
    exact ⟨g, off, cur, hA, by omega, r⟩⟩
theorem Row.kept {row : Option Nat} (h : Row w B e size A n c xs) (hg : w.grownBy w' row) (hne : rb A c = none ∨ rb A c ≠ row) : Row w' B e size A n c xs :=
  ⟨h.1, h.2.1, h.2.2.1, fun hc => by
    obtain ⟨g, off, cur, hA, hb, hh, r⟩ := h.2.2.2 hc
    refine ⟨g, off, cur, hA, hb, ?_, r⟩
    have hrb : rb A c = some g := by unfold rb; rw [if_neg (by omega), hA]; rfl
    rw [hg.block g (h.lt g hrb).2 (by
      rcases hne with h0 | h0
      · rw [hrb] at h0; cases h0
      · rw [hrb] at h0; exact h0)]
    exact hh⟩
theorem Row.keep {g : Nat} (h : Row w B e size A n c xs) (hg : w.grownBy w' (some g)) (hlt : g < B) : Row w' B e size A n c xs :=
  h.kept hg (by
    cases hv : rb A c with
    | none => exact .inl rfl
    | some y => have := (h.lt y hv).1; exact .inr (fun e => by injection e; omega))
theorem Row.below (h : Row w B e size A n c xs) (hb : Below w.heap.size w w') : Row w' B e size A n c xs :=
  h.kept (only_of_below hb none) (by cases rb A c <;> simp)
theorem Row.alloc (h : Row w B e size A n c xs) (o : Obj) : Row (w.alloc o) B e size A n c xs := h.kept (World.grownBy_alloc w o none) (by cases rb A c <;> simp)
theorem Row.drewN (h : Row w B e size A n c xs) (k : Nat) : Row (w.drewN k) B e size A n c xs := h
theorem Row.drew (h : Row w B e size A n c xs) : Row w.drew B e size A n c xs := h
theorem Row.clip (h : Row w B e size A n c xs) : Row w B e size A n n xs :=
  ⟨h.1, Nat.le_refl _, Nat.le_trans h.2.1 h.2.2.1, fun hc => by
    obtain ⟨g, off, cur, hA, hb, hh, hs, hx⟩ := h.2.2.2 (by have := h.2.1; omega)
    exact ⟨g, off, cur, hA, hb, hh, Nat.le_trans (Nat.add_le_add_left (Nat.mul_le_mul_right _ h.2.1) _) hs, hx⟩⟩
theorem Row.take (h : Row w B e size A n c xs) (k c' : Nat) (hk : k ≤ n) (hkc : k ≤ c') (hcc : c' ≤ c) : Row w B e size A k c' (xs.take (k * size)) := by
  have hks : k * size ≤ n * size := Nat.mul_le_mul_right _ hk
  refine ⟨by rw [List.length_take, h.1]; omega, hkc, Nat.le_trans hcc h.2.2.1, fun hc => ?_⟩
  obtain ⟨g, off, cur, hA, hb, hh, hs, hx⟩ := h.2.2.2 (by omega)
  refine ⟨g, off, cur, hA, hb, hh, Nat.le_trans (Nat.add_le_add_left (Nat.mul_le_mul_right _ hcc) _) hs, ?_⟩
  rw [← hx, List.take_take, Nat.min_eq_left hks]
theorem Row.cut (h : Row w B e size A n c xs) (k : Nat) (hk : k ≤ n) : Row w B e size (if c = k then A else A.map (·.add (k * size))) (n - k) (c - k) (xs.drop (k * size)) := by
  have hks : k * size ≤ n * size := Nat.mul_le_mul_right _ hk
  have hsub : (n - k) * size = n * size - k * size := Nat.sub_mul _ _ _
  have hsub2 : (c - k) * size = c * size - k * size := Nat.sub_mul _ _ _
  have hcs : k * size ≤ c * size := Nat.mul_le_mul_right _ (Nat.le_trans hk h.2.1)
  refine ⟨by rw [List.length_drop, h.1, hsub], by have := h.2.1; omega, by have := h.2.2.1; omega, fun hc => ?_⟩
  obtain ⟨g, off, cur, rfl, hb, hh, hs, hx⟩ := h.2.2.2 (by omega)
  rw [if_neg (by omega)]
  refine ⟨g, off + k * size, cur, by simp [add_none], hb, hh, by rw [hsub2]; omega, ?_⟩
  rw [← hx, hsub, ← List.drop_drop, List.drop_take]
theorem Row.of_own (h : w.ownsRow B e size (.slice A n c) n xs) : Row w B e size A n c xs := by
  obtain ⟨h1, h2⟩ := h
  rcases h2 with ⟨h0, rfl⟩ | ⟨g, cap, cur, hv, hB, hg, hle, hm, hs, ht⟩
  · obtain ⟨rfl, rfl⟩ : A = none ∧ c = 0 := by
      injection h0 with a b c
      exact ⟨a, c⟩
    have : xs = [] := List.eq_nil_of_length_eq_zero (by simpa using h1)
    subst this
    exact Row.nil _ _ _ _ _
  · obtain ⟨rfl, rfl⟩ : A = some ⟨g, 0, none⟩ ∧ c = cap := by
      injection hv with a b c
      exact ⟨a, c⟩
    exact ⟨h1, hle, hm, fun _ => ⟨g, 0, cur, rfl, hB, hg, by omega, by simpa using ht⟩⟩
theorem Row.form (h : Row w B e size A n c xs) (hn : 0 < n) : ∃ g off, A = some ⟨g, off, none⟩ ∧ B ≤ g ∧ g < w.heap.size ∧ rb A c = some g := by
  have hc := h.2.1
  obtain ⟨g, off, cur, rfl, hB, hg, _⟩ := h.2.2.2 (by omega)
  have hr : rb (some ⟨g, off, none⟩) c = some g := by unfold rb; rw [if_neg (by omega)]; rfl
  exact ⟨g, off, rfl, hB, (h.lt g hr).2, hr⟩
theorem Row.frozen {g off : Nat} (h : Row w B e size (some ⟨g, off, none⟩) n c xs) (hn : 0 < n) (j : Nat) : w.frozen? ⟨g, j, none⟩ = false := by
  have hc := h.2.1
  obtain ⟨g', off', cur, hA, hB, hg, _⟩ := h.2.2.2 (by omega)
  injection hA with hA; injection hA with h1 h2
  subst h1
  simp [World.frozen?, hg]
theorem Row.cell {g off : Nat} (h : Row w B e size (some ⟨g, off, none⟩) n c xs) {j : Nat} {u : Value} (hu : xs[j]? = some u) : w.cell? ⟨g, off + j, none⟩ = some u := by
  obtain ⟨g', off', hA, _, hc⟩ := h.frd (by have := (List.getElem?_eq_some_iff.1 hu).1; omega)
  injection hA with hA; injection hA with h1 h2
  subst h1 h2
  exact hc j u hu
theorem set_mid_list {α : Type} (L : List α) (off k j : Nat) (u : α) (hj : j < k) (hL : off + k ≤ L.length) : ((L.set (off + j) u).drop off).take k = ((L.drop off).take k).set j u := by
  apply List.ext_getElem?
  intro i
  simp only [List.getElem?_take, List.getElem?_drop, List.getElem?_set, List.length_take, List.length_drop]
  by_cases hi : i < k
  · by_cases hij : j = i
    · subst hij
      have h1 : off + j < L.length := by omega
      have h2 : j < min k (L.length - off) := by omega
      simp [hi, h1, h2]
    · have : ¬ off + j = off + i := by omega
      simp [hi, hij, this]
  · simp [hi]
    intro e; omega
theorem Row.store {g off : Nat} (h : Row w B e size (some ⟨g, off, none⟩) n c xs) (j : Nat) (u : Value) (hj : j < n * size) : Row (w.setCell ⟨g, off + j, none⟩ u) B e size (some ⟨g, off, none⟩) n c (xs.set j u) := by
  have hc := h.2.1
  refine ⟨by rw [List.length_set]; exact h.1, hc, h.2.2.1, fun hc0 => ?_⟩
  obtain ⟨g', off', cur, hA, hB, hg, hs, hx⟩ := h.2.2.2 hc0
  injection hA with hA; injection hA with h1 h2
  subst h1 h2
  have hle : n * size ≤ c * size := Nat.mul_le_mul_right _ hc
  refine ⟨g, off, cur.setIfInBounds (off + j) u, rfl, hB, ?_, by simpa using hs, ?_⟩
  · simp [World.setCell, Array.getElem?_modify, hg]
  · rw [Array.toList_setIfInBounds, ← hx]
    exact set_mid_list _ _ _ _ _ hj (by simp; omega)
theorem Row.new (w : World) (cs : Array Value) (e : TypeId) (size n c : Nat) (xs : List Value) (hs : cs.size = c * size) (hn : n ≤ c) (hm : c ≤ maxLen) (hx : cs.toList.take (n * size) = xs) (hl : xs.length = n * size) {B : Nat} (hB : B ≤ w.heap.size) :
    Row (w.alloc (.cells cs e)) B e size (some ⟨w.heap.size, 0, none⟩) n c xs :=
  ⟨hl, hn, hm, fun _ => ⟨w.heap.size, 0, cs, rfl, hB, heap_alloc_new w _, by omega, by simpa using hx⟩⟩
end

theorem list_mid {α : Type} (L news : List α) (o k : Nat) (h : o + k + news.length ≤ L.length) : ((L.take (o + k) ++ news ++ L.drop (o + k + news.length)).drop o).take (k + news.length) = (L.drop o).take k ++ news := by
  have e1 : (L.take (o + k)).length = o + k := by rw [List.length_take]; omega
  rw [List.append_assoc, List.drop_append_of_le_length (by omega), List.drop_take, show o + k - o = k by omega]
  have e2 : ((L.drop o).take k).length = k := by rw [List.length_take, List.length_drop]; omega
  rw [← List.append_assoc]
  have e3 : k + news.length = ((L.drop o).take k ++ news).length := by rw [List.length_append, e2]
  rw [e3]
  exact List.take_left

section
variable {P : Program} (w : World)
/-- append onto a row. -/
theorem run_append_row (B : Nat) (t ty e : TypeId) (i : TypeInfo) (z : Value) (size bytes : Nat) (ht : P.underlying t = some (.slice e)) (hi : P.info? e = some i) (hz : i.zero = some z)
    (hsize : i.size = size) (hby : i.bytes = bytes) (hzs : z.cells.size = size)
    (A : Option Addr) (n c : Nat) (xs : List Value) (hrow : Row w B e size A n c xs)
    (A' : Option Addr) (m c' : Nat) (news : List Value) (hl : news.length = m * size) (hr : Rd w A' news) (h1 : ∀ u ∈ news, u.oneCell' = true) (hsz : 0 < size)
    (h63 : n + m ≤ maxLen) (hbytes : (n + m) * bytes ≤ 140737488355328) (hbase : B ≤ w.heap.size) :
    ∃ A2 c2 w2, (Builtin.append_ #[t, t] ty #[.slice A n c, .slice A' m c']).run P w = .ok (.slice A2 (n + m) c2) w2 ∧ Row w2 B e size A2 (n + m) c2 (xs ++ news) ∧ w.grownBy w2 (rb A c) ∧
      (rb A2 c2 = rb A c ∨ rb A2 c2 = some w.heap.size) ∧ (0 < m → n + m ≤ c → A2 = A ∧ c2 = c) := by
  subst hsize
  subst hby
  have hc0 := hrow.2.1
  have hsmall : n + m ≤ 9223372036854775807 := by simp only [maxLen] at h63; omega
  have hlen : (xs ++ news).length = (n + m) * i.size := by rw [List.length_append, hrow.1, hl, Nat.add_mul]
  rcases Nat.eq_zero_or_pos m with hm0 | hm0
  · subst hm0
    have hn : news = [] := List.eq_nil_of_length_eq_zero (by simpa using hl)
    subst hn
    refine ⟨A, c, w, ?_, by simpa using hrow, World.grownBy.refl _ _, .inl rfl, fun h => absurd h (by omega)⟩
    have key : ∀ A' : Option Addr, (Builtin.firstCells i.size 0 (.slice A' 0 c')).run P w = .ok #[] w := by
      intro A'
      cases A' with
      | none => simp [Builtin.firstCells]
      | some a => simp [Builtin.firstCells, loadCells, loadCellsFrom]
    cases A with
    | none =>
      rcases A' with _ | a'
      · simp [Builtin.append_, run_underlying ht, sizeOf, typeInfo, hi, Builtin.lenOf, Builtin.firstCells, hc0, storeCells]
      · simp [Builtin.append_, run_underlying ht, sizeOf, typeInfo, hi, Builtin.lenOf, Builtin.firstCells, hc0, storeCells, loadCells, loadCellsFrom]
    | some a =>
      rcases A' with _ | a'
      · simp [Builtin.append_, run_underlying ht, sizeOf, typeInfo, hi, Builtin.lenOf, Builtin.firstCells, hc0, storeCells]
      · simp [Builtin.append_, run_underlying ht, sizeOf, typeInfo, hi, Builtin.lenOf, Builtin.firstCells, hc0, storeCells, loadCells, loadCellsFrom]
  · have hnp : 0 < news.length := by rw [hl]; exact Nat.mul_pos hm0 hsz
    obtain ⟨b, off, rfl, hcell⟩ := hr hnp
    have hnews : ∀ j u, news[j]? = some u → w.cell? ((⟨b, off, none⟩ : Addr).add j) = some u := fun j u hu => by rw [add_none]; exact hcell j u hu
    have grown : ∀ (old : Nat), old < n + m →
        Row (w.drew.alloc (.cells (xs.toArray ++ news.toArray ++ Builtin.zeroCells z.cells (grownCap w (n + m) old e - (n + m))) e)) B e i.size
          (some ⟨w.heap.size, 0, none⟩) (n + m) (grownCap w (n + m) old e) (xs ++ news) ∧
        ∀ row, w.grownBy (w.drew.alloc (.cells (xs.toArray ++ news.toArray ++ Builtin.zeroCells z.cells (grownCap w (n + m) old e - (n + m))) e)) row := by
      intro old ho
      have hge := grownCap_ge w (n + m) old e
      have hcm : grownCap w (n + m) old e ≤ maxLen := grownCap_le_maxLen w (n + m) old e h63
      refine ⟨Row.new w.drew _ e i.size (n + m) _ _ ?_ hge hcm ?_ hlen hbase, fun row => ⟨rfl, rfl, rfl, by simp, fun k hk _ => Below.heap_alloc w.drew _ k hk⟩⟩
      · simp only [Array.size_append, List.size_toArray, size_zeroCells, hzs, hrow.1, hl, ← Nat.add_mul]
        congr 1
        omega
      · simp only [Array.toList_append, List.append_assoc]
        rw [← List.append_assoc, ← hlen]
        exact List.take_left
    have hrbnew : rb (some (⟨w.heap.size, 0, none⟩ : Addr)) (grownCap w (n + m) c e) = some w.heap.size := by
      have hge := grownCap_ge w (n + m) c e
      unfold rb; rw [if_neg (by omega)]; rfl
    by_cases hroom : n + m ≤ c
    · obtain ⟨g, o, cur, rfl, hB, hg, hs, hx⟩ := hrow.2.2.2 (by omega)
      have hle : (n + m) * i.size ≤ c * i.size := Nat.mul_le_mul_right _ hroom
      have hfit : o + n * i.size + news.length ≤ cur.size := by rw [hl, Nat.add_assoc, ← Nat.add_mul]; omega
      have hf := run_firstCells_some (P := P) w i.size m ⟨b, off, none⟩ m c' news hl hnews
      have hst := run_storeCells_at P g (o + n * i.size) e news 0 cur w hg (by simpa using hfit) h1
      simp only [Nat.add_zero] at hst
      have hrb : rb (some (⟨g, o, none⟩ : Addr)) c = some g := by unfold rb; rw [if_neg (by omega)]; rfl
      refine ⟨some ⟨g, o, none⟩, c, w.setRow g (cur.toList.take (o + n * i.size) ++ news ++ cur.toList.drop (o + n * i.size + news.length)).toArray, ?_, ⟨hlen, hroom, hrow.2.2.1, fun _ => ⟨g, o, _, rfl, hB, setRow_heap w g cur _ e _ hg, ?_, ?_⟩⟩, ?_, .inl rfl, fun _ _ => ⟨rfl, rfl⟩⟩
      · simp [Builtin.append_, run_underlying ht, sizeOf, typeInfo, hi, Builtin.lenOf, hroom, hf, add_none, hst]
      · simp only [List.size_toArray, List.length_append, List.length_take, List.length_drop, Array.length_toList]
        omega
      · have := list_mid cur.toList news o (n * i.size) (by simpa using hfit)
        rw [hx] at this
        rw [← this, Nat.add_mul, ← hl]
      · rw [hrb]
        exact ⟨rfl, rfl, rfl, by simp, fun k _ hk => setRow_other w g k _ (fun e => hk (by rw [e]))⟩
    · obtain ⟨hgr, hgb⟩ := grown c (by omega)
      refine ⟨_, _, _, ?_, hgr, hgb _, .inr hrbnew, fun _ h => absurd h hroom⟩
      rcases A with _ | a
      · obtain rfl : c = 0 := by
          rcases Nat.eq_zero_or_pos c with h | h
          · exact h
          · obtain ⟨g, o, cur, hA, _⟩ := hrow.2.2.2 h
            cases hA
        obtain rfl : n = 0 := by omega
        have hxs : xs = [] := List.eq_nil_of_length_eq_zero (by simpa using hrow.1)
        subst hxs
        have hr := run_append_nil (P := P) w t ty e i z ht hi hz ⟨b, off, none⟩ m c' news hl hnews hm0 (by omega) (by have hb := hbytes; simp only [Nat.zero_add] at hb; omega)
        simpa using hr
      · have holds : ∀ j u, xs[j]? = some u → w.cell? (a.add j) = some u := by
          intro j u hu
          rcases Nat.eq_zero_or_pos c with h | h
          · have : xs.length = 0 := by
              rw [hrow.1]
              obtain rfl : n = 0 := by omega
              simp
            have := (List.getElem?_eq_some_iff.1 hu).1
            omega
          · obtain ⟨g, o, cur, hA, _⟩ := hrow.2.2.2 h
            injection hA with hA
            subst hA
            rw [add_none]
            exact hrow.cell hu
        exact run_append_grow (P := P) w t ty e i z ht hi hz a n c xs hrow.1 holds ⟨b, off, none⟩ m c' news hl hnews (by omega) (by omega) (growslice_fits (by omega) hbytes)

theorem wp_append_row {o : Oper} {a : Act} {K : Act → World → Prop} {Q : Exit → Act → World → Prop} (s x : Operand) (t : TypeId)
    (ho : o.op = .call { callee := .builtin .append, args := #[s, x], argTypes := #[t, t] })
    (B : Nat) (e : TypeId) (i : TypeInfo) (z : Value) (size bytes : Nat) (ht : P.underlying t = some (.slice e)) (hi : P.info? e = some i) (hz : i.zero = some z)
    (hsize : i.size = size) (hby : i.bytes = bytes) (hzs : z.cells.size = size)
    (A : Option Addr) (n c : Nat) (xs : List Value) (hs : a.eval s = .slice A n c) (hrow : Row w B e size A n c xs)
    (A' : Option Addr) (m c' : Nat) (news : List Value) (hx : a.eval x = .slice A' m c') (hl : news.length = m * size) (hr : Rd w A' news) (h1 : ∀ u ∈ news, u.oneCell' = true) (hsz : 0 < size)
    (h63 : n + m ≤ maxLen) (hbytes : (n + m) * bytes ≤ 140737488355328) (hbase : B ≤ w.heap.size)
    (h : ∀ A2 c2 w2, Row w2 B e size A2 (n + m) c2 (xs ++ news) → w.grownBy w2 (rb A c) → (rb A2 c2 = rb A c ∨ rb A2 c2 = some w.heap.size) → K (a.put o.dst (.slice A2 (n + m) c2)) w2) : o.wp P a w K Q := by
  obtain ⟨A2, c2, w2, hrun, h2, h3, h4, _⟩ := run_append_row (P := P) w B t o.type e i z size bytes ht hi hz hsize hby hzs A n c xs hrow A' m c' news hl hr h1 hsz h63 hbytes hbase
  unfold Oper.wp execOp
  simp only [ho, resolve, invoke, builtin, Sem.run_bind, Sem.run_pure, Result.andThen_ok, List.map_toArray, List.map_cons, List.map_nil, hs, hx, hrun]
  exact h A2 c2 w2 h2 h3 h4
theorem wpList_append_row {ops : Array Oper} {rest : List Oper} {o : Oper} {a : Act} {Q : Exit → Act → World → Prop} (hgd : o.guard = none) (s x : Operand) (t : TypeId)
    (ho : o.op = .call { callee := .builtin .append, args := #[s, x], argTypes := #[t, t] })
    (B : Nat) (e : TypeId) (i : TypeInfo) (z : Value) (size bytes : Nat) (ht : P.underlying t = some (.slice e)) (hi : P.info? e = some i) (hz : i.zero = some z)
    (hsize : i.size = size) (hby : i.bytes = bytes) (hzs : z.cells.size = size)
    (A : Option Addr) (n c : Nat) (xs : List Value) (hs : a.eval s = .slice A n c) (hrow : Row w B e size A n c xs)
    (A' : Option Addr) (m c' : Nat) (news : List Value) (hx : a.eval x = .slice A' m c') (hl : news.length = m * size) (hr : Rd w A' news) (h1 : ∀ u ∈ news, u.oneCell' = true) (hsz : 0 < size)
    (h63 : n + m ≤ maxLen) (hbytes : (n + m) * bytes ≤ 140737488355328) (hbase : B ≤ w.heap.size)
    (h : ∀ A2 c2 w2, Row w2 B e size A2 (n + m) c2 (xs ++ news) → w.grownBy w2 (rb A c) → (rb A2 c2 = rb A c ∨ rb A2 c2 = some w.heap.size) → wpList P ops Q rest (a.put o.dst (.slice A2 (n + m) c2)) w2) : wpList P ops Q (o :: rest) a w :=
  wpList_plain hgd fun _ hK => wp_append_row w s x t ho B e i z size bytes ht hi hz hsize hby hzs A n c xs hs hrow A' m c' news hx hl hr h1 hsz h63 hbytes hbase fun A2 c2 w2 h2 h3 h4 => hK _ _ (h A2 c2 w2 h2 h3 h4)
theorem step_append_row {ops : Array Oper} {o : Oper} {a : Act} {K : Act → World → Prop} {Q : Exit → Act → World → Prop} {E : Prop} (hgd : o.guard = none) (s x : Operand) (t : TypeId)
    (ho : o.op = .call { callee := .builtin .append, args := #[s, x], argTypes := #[t, t] })
    (B : Nat) (e : TypeId) (i : TypeInfo) (z : Value) (size bytes : Nat) (ht : P.underlying t = some (.slice e)) (hi : P.info? e = some i) (hz : i.zero = some z)
    (hsize : i.size = size) (hby : i.bytes = bytes) (hzs : z.cells.size = size)
    (A : Option Addr) (n c : Nat) (xs : List Value) (hs : a.eval s = .slice A n c) (hrow : Row w B e size A n c xs)
    (A' : Option Addr) (m c' : Nat) (news : List Value) (hx : a.eval x = .slice A' m c') (hl : news.length = m * size) (hr : Rd w A' news) (h1 : ∀ u ∈ news, u.oneCell' = true) (hsz : 0 < size)
    (h63 : n + m ≤ maxLen) (hbytes : (n + m) * bytes ≤ 140737488355328) (hbase : B ≤ w.heap.size)
    (h : ∀ A2 c2 w2, Row w2 B e size A2 (n + m) c2 (xs ++ news) → w.grownBy w2 (rb A c) → (rb A2 c2 = rb A c ∨ rb A2 c2 = some w.heap.size) → K (a.put o.dst (.slice A2 (n + m) c2)) w2) :
    if Region.wanted o (yielded ops a.tmps) = true then Oper.wp P o a w K Q else E := by
  have hw : Region.wanted o (yielded ops a.tmps) = true := by simp [Region.wanted, hgd]
  rw [if_pos hw]
  exact wp_append_row w s x t ho B e i z size bytes ht hi hz hsize hby hzs A n c xs hs hrow A' m c' news hx hl hr h1 hsz h63 hbytes hbase h
end

/-- Two rows of which the second was made later never share a block. -/
theorem row_apart {w1 w2 : World} {B1 B2 : Nat} {e1 e2 : TypeId} {s1 s2 n1 n2 c1 c2 : Nat} {A1 A2 : Option Addr} {x1 x2 : List Value} (h1 : Row w1 B1 e1 s1 A1 n1 c1 x1) (h2 : Row w2 B2 e2 s2 A2 n2 c2 x2) (h : w1.heap.size ≤ B2) :
    (rb A1 c1 = none ∨ rb A1 c1 ≠ rb A2 c2) ∧ (rb A2 c2 = none ∨ rb A2 c2 ≠ rb A1 c1) := by
  cases hv1 : rb A1 c1 with
  | none => exact ⟨.inl rfl, by cases rb A2 c2 <;> simp⟩
  | some k =>
    have hk := (h1.lt k hv1).2
    cases hv2 : rb A2 c2 with
    | none => exact ⟨.inr (by simp), .inl rfl⟩
    | some j =>
      have hj := (h2.lt j hv2).1
      exact ⟨.inr (fun e => by injection e; omega), .inr (fun e => by injection e; omega)⟩
end Go.Proofs.YtnmgnhpagnjhlaaGreatDoor
