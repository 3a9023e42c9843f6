/- Texts of pools: the reference's and the program's. -/
import Derived.Test.YtnmgnhpagnjhlaaGreatDoorPoolW
import Derived.Test.YtnmgnhpagnjhlaaGreatDoorPoolLaw
import Derived.Test.YtnmgnhpagnjhlaaGreatDoorComma
set_option linter.unusedVariables false
set_option linter.unusedSimpArgs false
set_option linter.unnecessarySimpa false
namespace Go.Proofs.YtnmgnhpagnjhlaaGreatDoor
open Go.RowKit

def intL (v : Int) : List UInt8 := Lib.decDigits v.toNat
/-- The piece of one hold. -/
def holdL (x : Pr) : List UInt8 := Lib.decDigits x.1.toNat ++ 58 :: Lib.decDigits x.2.toNat
def listL (vs : List Int) : List UInt8 := comma (vs.map intL)
def holdsL (hs : List Pr) : List UInt8 := comma (hs.map holdL)
def Pl.text (p : Pl) : List UInt8 := intL p.mx ++ 32 :: (listL p.ids ++ 124 :: (holdsL p.hs ++ 124 :: listL p.wt))
def Pl.fmt (p : Pl) : ByteArray := if p.valid then bsof p.text else bsof []
def smallI (vs : List Int) : Prop := ∀ v ∈ vs, 0 ≤ v ∧ v ≤ 99
def smallH (hs : List Pr) : Prop := ∀ h ∈ hs, (0 ≤ h.1 ∧ h.1 ≤ 99) ∧ 0 ≤ h.2 ∧ h.2 ≤ 99
theorem map_snoc_ne {α : Type} (g : α → List UInt8) (xs : List α) (j : Nat) (h : j < xs.length) : comma ((xs.take (j + 1)).map g) = (if j = 0 then [] else comma ((xs.take j).map g) ++ [44]) ++ g xs[j] := by
  rw [take_snoc xs j h, List.map_append]
  split
  · rename_i h0; subst h0; simp [comma_one]
  · rename_i h0
    have hne : (xs.take j).map g ≠ [] := by
      intro e
      have h1 := congrArg List.length e
      rw [List.length_map, List.length_take, List.length_nil] at h1
      omega
    rw [List.map_singleton, comma_snoc _ _ hne]
    simp
theorem comma_le {α : Type} (g : α → List UInt8) (xs : List α) (k : Nat) (hk : xs.length ≤ k) (hg : ∀ x ∈ xs, (g x).length ≤ 15) (j : Nat) : (comma ((xs.take j).map g)).length ≤ k * 16 := by
  have h1 := comma_len ((xs.take j).map g) 15 (fun p hp => by
    obtain ⟨x, hx, rfl⟩ := List.mem_map.1 hp
    exact hg x (List.mem_of_mem_take hx))
  rw [List.length_map, List.length_take] at h1
  have : min j xs.length ≤ k := by omega
  have h2 := Nat.mul_le_mul_right (15 + 1) this
  omega
theorem intL_le {v : Int} (h : 0 ≤ v ∧ v ≤ 99) : (intL v).length ≤ 15 := by have := dec_len v.toNat (by omega); unfold intL; omega
theorem holdL_le {x : Pr} (h : (0 ≤ x.1 ∧ x.1 ≤ 99) ∧ 0 ≤ x.2 ∧ x.2 ≤ 99) : (holdL x).length ≤ 15 := by
  have := dec_len x.1.toNat (by omega); have := dec_len x.2.toNat (by omega)
  simp only [holdL, List.length_append, List.length_cons]; omega
theorem Pl.Good.smallIds {p : Pl} (g : p.Good) : smallI p.ids := fun v hv => by
  have h1 := g.2.2.2.1 v (List.mem_append_left _ hv); have h2 := g.2.2.1; omega
theorem Pl.Good.smallWt {p : Pl} (g : p.Good) : smallI p.wt := fun v hv => by
  have h1 := g.2.2.2.2.2.1 v hv; omega
theorem Pl.Good.smallHs {p : Pl} (g : p.Good) : smallH p.hs := fun h hh => by
  have h1 := g.2.2.2.1 h.1 (List.mem_append_right _ (List.mem_map.2 ⟨h, hh, rfl⟩)); have h2 := g.2.2.1; have h3 := g.2.1 h hh; omega
set_option maxRecDepth 100000 in
set_option maxHeartbeats 2000000 in
theorem listText_c (vs : List Int) (A : Option Addr) (n c : Nat) (w : World) (hN : vs.length = n) (h : Rd w A (vs.map (.int .i64))) (hn : n ≤ 1000) (hs : smallI vs) :
    Calls Tryz.prog 75 #[.slice A n c] w fun e w' => e = .returned (.string (bsof (listL vs))) ∧ Below w.heap.size w w' := by
  have HN := Lib.hid hN; have H := Lib.hid h; have HS := Lib.hid hs
  have HLE := Lib.hid (comma_le intL vs n (by omega) (fun v hv => intL_le (hs v hv)))
  clear hN h hs
  obtain ⟨r, hr⟩ : ∃ r, r = bsof (listL vs) := ⟨_, rfl⟩
  rw [← hr]
  have HR := Lib.hid hr; clear hr
  go_enter Tryz.func75, Tryz.ntmps75
  go_wp2_with fail
  go_loopw [3, 4] (fun o i wr => ∃ j : Nat, j ≤ n ∧ i = .int .i64 j ∧ o = .string (bsof (comma ((vs.take j).map intL))) ∧ Below w.heap.size w wr) (fun _ i _ => n - (intOf i).toNat)
  case atStart => exact ⟨0, Nat.zero_le _, rfl, rfl, Below.refl _ _⟩
  case round =>
    obtain ⟨j, hj, rfl, rfl, hb⟩ := hrel
    have HB := Lib.hid hb
    by_cases hlt : j < n
    · have hjx : j < vs.length := by have := HN.out; omega
      obtain ⟨b, off, hA, hbl, hc⟩ := (H.out.below hb).block (by simp; omega)
      subst hA
      obtain ⟨x, hX⟩ : ∃ x, x = vs[j] := ⟨_, rfl⟩
      have hx := hc j (.int .i64 x) (by simp [hX, hjx])
      have hmem := HS.out _ (List.getElem_mem hjx)
      have hst := map_snoc_ne intL vs j hjx
      rw [← hX] at hmem hst
      obtain ⟨hx0, hx1⟩ := hmem
      obtain ⟨x, rfl⟩ := Int.eq_ofNat_of_zero_le hx0
      obtain ⟨O, hO⟩ : ∃ O, O = bsof (comma ((vs.take j).map intL)) := ⟨_, rfl⟩
      obtain ⟨DA, hDA⟩ : ∃ D, D = decB x := ⟨_, rfl⟩
      have hos : O.size ≤ 16000 := by rw [hO, bsof_size]; have := HLE.out j; omega
      have hda : DA.size ≤ 7 := by rw [hDA]; exact decB_le x (by omega)
      have hcA := decimal_c x (by omega) wr
      rw [← hDA] at hcA
      have HCA := Lib.hid hcA
      have hnext : ∀ P, P = (if j = 0 then O else O ++ ⟨#[44]⟩) → bsof (comma ((vs.take (j + 1)).map intL)) = P ++ DA := by
        intro P hP
        rw [hst, hP, hO, hDA]
        show bsof _ = _ ++ bsof _
        split
        · rename_i h0
          subst h0
          simp [bsof_append, comma_nil, intL]
        · show bsof _ = bsof _ ++ bsof [44] ++ bsof _
          simp [bsof_append, intL]
      have HNX0 := Lib.hid hnext
      rw [← hO]
      clear hnext hst hX hcA hDA hb hc hO
      rcases Nat.eq_zero_or_pos j with h0 | h0
      · subst h0
        rw [Nat.add_zero] at hx
        have HNX := Lib.hid (HNX0.out O rfl)
        have hz1 : ¬ 9223372036854775807 < O.size + DA.size := by omega
        clear HNX0
        go_wp2_with fail
        refine HCA.out.mono ?_
        rintro e w2 ⟨rfl, b2⟩
        have BEL := Lib.hid (HB.out.trans (b2.mono HB.out.size))
        clear b2
        go_wp2_with fail
        go_roundw
        case rel => exact ⟨0 + 1, by omega, by go_num, by rw [HNX.out], BEL.out⟩
        case measure => simp [intOf]; omega
      · have hj1 : decide ((0 : Int) < (j : Int)) = true := decide_eq_true (by omega)
        have hj2 : decide (0 < j) = true := decide_eq_true h0
        have hz0 : ¬ 9223372036854775807 < O.size + 1 := by omega
        have hz0' : ¬ 9223372036854775807 ≤ O.size := by omega
        obtain ⟨P, hP⟩ : ∃ P, P = O ++ ⟨#[44]⟩ := ⟨_, rfl⟩
        have HNX := Lib.hid (HNX0.out P (by rw [hP, if_neg (by omega)]))
        have hps : P.size ≤ 16001 := by rw [hP, ByteArray.size_append]; show _ + 1 ≤ _; omega
        go_wp2_with fail
        rw [← hP]
        clear hP HNX0 hos hz0 hz0'
        have hz1 : ¬ 9223372036854775807 < P.size + DA.size := by omega
        refine HCA.out.mono ?_
        rintro e w2 ⟨rfl, b2⟩
        have BEL := Lib.hid (HB.out.trans (b2.mono HB.out.size))
        clear b2
        go_wp2_with fail
        go_roundw
        case rel => exact ⟨j + 1, by omega, by go_num, by rw [HNX.out], BEL.out⟩
        case measure => simp [intOf]; omega
    · obtain rfl : j = n := by omega
      have hr2 : r = bsof (comma ((vs.take j).map intL)) := by rw [HR.out, List.take_of_length_le (by rw [HN.out]; exact Nat.le_refl _)]; rfl
      rw [← hr2]
      clear hr2 hb
      go_wp2_with fail
      go_ret
      exact ⟨rfl, HB.out⟩
set_option maxRecDepth 100000 in
set_option maxHeartbeats 2000000 in
theorem commas_c (vs : List Int) (A : Option Addr) (n c : Nat) (w : World) (hN : vs.length = n) (h : Rd w A (vs.map (.int .i64))) (hn : n ≤ 1000) (hs : smallI vs) :
    Calls Tryz.prog 31 #[.slice A n c] w fun e w' => e = .returned (.string (bsof (listL vs))) ∧ Below w.heap.size w w' := by
  obtain ⟨i0, i0_i, i0_z0, i0_z1, i0_z2⟩ := info_parts strInfo
  have HN := Lib.hid hN; have H := Lib.hid h; have HS := Lib.hid hs
  have HLE := Lib.hid (comma_le intL vs n (by omega) (fun v hv => intL_le (hs v hv)))
  clear hN h hs
  obtain ⟨r, hr⟩ : ∃ r, r = bsof (listL vs) := ⟨_, rfl⟩
  rw [← hr]
  have HR := Lib.hid hr; clear hr
  go_enter Tryz.func31, Tryz.ntmps31
  go_wp2_with fail
  go_loopw [3, 8] (fun p i wr => ∃ (j : Nat) (A2 : Option Addr) (c2 : Nat), j ≤ n ∧ i = .int .i64 j ∧ p = .slice A2 j c2 ∧ Row wr w.heap.size 9 1 A2 j c2 (strs ((vs.take j).map intL)) ∧ Below w.heap.size w wr) (fun _ i _ => n - (intOf i).toNat)
  case atStart => exact ⟨0, none, 0, Nat.zero_le _, rfl, rfl, Row.nil _ _ _ _ _, Below.refl _ _⟩
  case round =>
    obtain ⟨j, A2, c2, hj, rfl, rfl, row, hb⟩ := hrel
    have HB := Lib.hid hb; have ROW := Lib.hid row
    have hsz := hb.size
    by_cases hlt : j < n
    · have hjx : j < vs.length := by have := HN.out; omega
      obtain ⟨b, off, hA, hbl, hc⟩ := (H.out.below hb).block (by simp; omega)
      subst hA
      obtain ⟨x, hX⟩ : ∃ x, x = vs[j] := ⟨_, rfl⟩
      have hx := hc j (.int .i64 x) (by simp [hX, hjx])
      have hmem := HS.out _ (List.getElem_mem hjx)
      rw [← hX] at hmem
      obtain ⟨hx0, hx1⟩ := hmem
      obtain ⟨x, rfl⟩ := Int.eq_ofNat_of_zero_le hx0
      obtain ⟨DA, hDA⟩ : ∃ D, D = decB x := ⟨_, rfl⟩
      have HCA := Lib.hid (show Calls Tryz.prog 30 #[.int .i64 x] wr fun e w' => e = .returned (.string DA) ∧ w' = wr by rw [hDA]; exact Tryz.strconv_Itoa_small x (by omega) wr)
      have HNX : Hid (DA = bsof (intL vs[j])) := by rw [hDA, ← hX]; rfl
      clear hX hDA hb hc row
      go_wp2_with fail
      refine HCA.out.mono ?_
      rintro e w2 ⟨rfl, rfl⟩
      go_wp2_with (at_builtin; (refine wpList_append_row _ rfl (.tmp 12) (.tmp 15) 37 rfl w.heap.size 9 i0 (.string ByteArray.empty) 1 16 Tryz.underlying37 i0_i i0_z0 i0_z1 i0_z2 rfl A2 j c2 (strs ((vs.take j).map intL)) (by first | rfl | simp) (ROW.out.alloc _) (some ⟨w2.heap.size, 0, none⟩) 1 1 [.string DA] rfl rfl (Rd.one (cell_new _ _ _ 0)) (one1 _ rfl) (by omega) (by unfold maxLen; omega) (by omega) (by simp <;> omega) ?_))
      intro A3 c3 w3 row3 hg3 _
      have b3 : Below w.heap.size w w3 := (HB.out.alloc hsz _).grown hg3 (by simp <;> omega) (fun y hy => (ROW.out.lt y hy).1)
      have hst : strs ((vs.take j).map intL) ++ [.string DA] = strs ((vs.take (j + 1)).map intL) := by
        rw [HNX.out, take_snoc vs j hjx, List.map_append]; unfold strs; rw [List.map_append]; rfl
      have row3' : Row w3 w.heap.size 9 1 A3 (j + 1) c3 (strs ((vs.take (j + 1)).map intL)) := by rw [← hst]; simpa using row3
      have B3 := Lib.hid b3; have ROW3 := Lib.hid row3'
      clear hst hg3 b3 row3 row3'
      go_wp2_with fail
      go_roundw
      case rel => exact ⟨j + 1, A3, c3, by omega, by go_num, rfl, ROW3.out, B3.out⟩
      case measure => simp [intOf]; omega
    · obtain rfl : j = n := by omega
      have hxe : vs.take j = vs := List.take_of_length_le (by rw [HN.out]; exact Nat.le_refl _)
      rw [hxe] at row
      have hle := HLE.out j
      rw [hxe] at hle
      have hr2 : r = bsof (comma (vs.map intL)) := HR.out
      have HJ := Lib.hid (join_c (vs.map intL) A2 j c2 wr (by rw [List.length_map, HN.out]) row.le row.rd (by omega) (by omega))
      rw [← hr2] at HJ
      clear hr2 hb hxe row hle ROW
      go_wp2_with fail
      refine HJ.out.mono ?_
      rintro e w2 ⟨rfl, b2⟩
      go_wp2_with fail
      go_ret
      exact ⟨rfl, HB.out.trans (b2.mono hsz)⟩
theorem holdsL_snoc (xs : List Pr) (j : Nat) (h : j < xs.length) : holdsL (xs.take (j + 1)) = (if j = 0 then [] else holdsL (xs.take j) ++ [44]) ++ holdL xs[j] := map_snoc_ne holdL xs j h
set_option maxRecDepth 100000 in
set_option maxHeartbeats 4000000 in
theorem holdsText_c (xs : List Pr) (A : Option Addr) (n c : Nat) (w : World) (hN : xs.length = n) (h : Rd w A (sc xs)) (hn : n ≤ 1000) (hs : smallH xs) :
    Calls Tryz.prog 76 #[.slice A n c] w fun e w' => e = .returned (.string (bsof (holdsL xs))) ∧ Below w.heap.size w w' := by
  have HN := Lib.hid hN; have H := Lib.hid h; have HS := Lib.hid hs
  have HLE := Lib.hid (comma_le holdL xs n (by omega) (fun v hv => holdL_le (hs v hv)))
  clear hN h hs
  obtain ⟨r, hr⟩ : ∃ r, r = bsof (holdsL xs) := ⟨_, rfl⟩
  rw [← hr]
  have HR := Lib.hid hr; clear hr
  go_enter Tryz.func76, Tryz.ntmps76
  go_wp2_with fail
  go_loopw [3, 4] (fun o i wr => ∃ j : Nat, j ≤ n ∧ i = .int .i64 j ∧ o = .string (bsof (holdsL (xs.take j))) ∧ Below w.heap.size w wr) (fun _ i _ => n - (intOf i).toNat)
  case atStart => exact ⟨0, Nat.zero_le _, rfl, rfl, Below.refl _ _⟩
  case round =>
    obtain ⟨j, hj, rfl, rfl, hb⟩ := hrel
    have HB := Lib.hid hb
    by_cases hlt : j < n
    · have hjx : j < xs.length := by have := HN.out; omega
      obtain ⟨b, off, hA, hbl, hc⟩ := sc_pair (H.out.below hb) (by omega)
      subst hA
      obtain ⟨hc1, hc2⟩ := hc j hjx
      obtain ⟨⟨x, y⟩, hX⟩ : ∃ x, x = xs[j] := ⟨_, rfl⟩
      have hmem := HS.out _ (List.getElem_mem hjx)
      have hst := holdsL_snoc xs j hjx
      rw [← hX] at hc1 hc2 hmem hst
      obtain ⟨⟨hx0, hx1⟩, hy0, hy1⟩ := hmem
      simp only at hx0 hx1 hy0 hy1
      obtain ⟨x, rfl⟩ := Int.eq_ofNat_of_zero_le hx0
      obtain ⟨y, rfl⟩ := Int.eq_ofNat_of_zero_le hy0
      simp only at hc1 hc2
      obtain ⟨O, hO⟩ : ∃ O, O = bsof (holdsL (xs.take j)) := ⟨_, rfl⟩
      obtain ⟨DA, hDA⟩ : ∃ D, D = decB x := ⟨_, rfl⟩
      obtain ⟨DB, hDB⟩ : ∃ D, D = decB y := ⟨_, rfl⟩
      have hos : O.size ≤ 16000 := by rw [hO, bsof_size]; have := HLE.out j; unfold holdsL; omega
      have hda : DA.size ≤ 7 := by rw [hDA]; exact decB_le x (by omega)
      have hdb : DB.size ≤ 7 := by rw [hDB]; exact decB_le y (by omega)
      have hcA := decimal_c x (by omega)
      have hcB := decimal_c y (by omega)
      rw [← hDA] at hcA
      rw [← hDB] at hcB
      have HCA := Lib.hid hcA; have HCB := Lib.hid hcB
      have hnext : ∀ P, P = (if j = 0 then O else O ++ ⟨#[44]⟩) → bsof (holdsL (xs.take (j + 1))) = P ++ DA ++ (⟨#[58]⟩ : ByteArray) ++ DB := by
        intro P hP
        rw [hst, hP, hO, hDA, hDB]
        show bsof _ = _ ++ bsof _ ++ bsof [58] ++ bsof _
        split
        · rename_i h0
          subst h0
          simp [bsof_append, holdsL, comma_nil, holdL]
        · show bsof _ = bsof _ ++ bsof [44] ++ bsof _ ++ bsof [58] ++ bsof _
          simp [bsof_append, holdL]
      have HNX0 := Lib.hid hnext
      rw [← hO]
      clear hnext hst hX hcA hcB hDA hDB hb hc hO
      rcases Nat.eq_zero_or_pos j with h0 | h0
      · subst h0
        obtain ⟨P, hP⟩ : ∃ P, P = O := ⟨_, rfl⟩
        have HNX := Lib.hid (HNX0.out P hP)
        have hps : P.size ≤ 16001 := by rw [hP]; omega
        rw [← hP]
        clear hP HNX0 hos
        rw [Nat.zero_mul, Nat.add_zero] at hc1 hc2
        go_wp2_with fail
        have hz1 : ¬ 9223372036854775807 < P.size + DA.size := by omega
        have hz2 : ¬ 9223372036854775807 < P.size + DA.size + 1 := by omega
        have hz2' : ¬ 9223372036854775807 ≤ P.size + DA.size := by omega
        have hz3 : ¬ 9223372036854775807 < P.size + DA.size + 1 + DB.size := by omega
        go_region_held3 (fun w' => w'.cell? ⟨b, off, none⟩ = some (.int .i64 x) ∧ w'.cell? ⟨b, off + 1, none⟩ = some (.int .i64 y)) (go_keep) ((first
          | (go_at_call 67; (with_reducible refine (HCA.out _).mono ?_); rintro e wA ⟨rfl, bA⟩; have k1 := (bA.cell (p := ⟨b, off, none⟩) hbl).trans hc1; have k2 := (bA.cell (p := ⟨b, off + 1, none⟩) hbl).trans hc2)
          | (go_at_call 67; (with_reducible refine (HCB.out _).mono ?_); rintro e wB ⟨rfl, bB⟩; have k3 := (bB.cell (p := ⟨b, off, none⟩) (Nat.lt_of_lt_of_le hbl bA.size)).trans k1; have k4 := (bB.cell (p := ⟨b, off + 1, none⟩) (Nat.lt_of_lt_of_le hbl bA.size)).trans k2)))
        all_goals
          have bel : Below w.heap.size w wB := HB.out.trans (((arm_drew bA).1.trans (bB.mono (arm_drew bA).2)).mono HB.out.size)
          have BEL := Lib.hid bel
          clear bel bA bB
          go_wp2_with fail
          go_roundw
          case rel => exact ⟨0 + 1, by omega, by go_num, by rw [HNX.out], BEL.out⟩
          case measure => simp [intOf]; omega
      · have hj1 : decide ((0 : Int) < (j : Int)) = true := decide_eq_true (by omega)
        have hj2 : decide (0 < j) = true := decide_eq_true h0
        have hz0 : ¬ 9223372036854775807 < O.size + 1 := by omega
        have hz0' : ¬ 9223372036854775807 ≤ O.size := by omega
        obtain ⟨P, hP⟩ : ∃ P, P = O ++ ⟨#[44]⟩ := ⟨_, rfl⟩
        have HNX := Lib.hid (HNX0.out P (by rw [hP, if_neg (by omega)]))
        have hps : P.size ≤ 16001 := by rw [hP, ByteArray.size_append]; show _ + 1 ≤ _; omega
        go_wp2_with fail
        rw [← hP]
        clear hP HNX0 hos hz0 hz0'
        have hz1 : ¬ 9223372036854775807 < P.size + DA.size := by omega
        have hz2 : ¬ 9223372036854775807 < P.size + DA.size + 1 := by omega
        have hz2' : ¬ 9223372036854775807 ≤ P.size + DA.size := by omega
        have hz3 : ¬ 9223372036854775807 < P.size + DA.size + 1 + DB.size := by omega
        go_region_held3 (fun w' => w'.cell? ⟨b, off + j * 2, none⟩ = some (.int .i64 x) ∧ w'.cell? ⟨b, off + j * 2 + 1, none⟩ = some (.int .i64 y)) (go_keep) ((first
          | (go_at_call 67; (with_reducible refine (HCA.out _).mono ?_); rintro e wA ⟨rfl, bA⟩; have k1 := (bA.cell (p := ⟨b, off + j * 2, none⟩) hbl).trans hc1; have k2 := (bA.cell (p := ⟨b, off + j * 2 + 1, none⟩) hbl).trans hc2)
          | (go_at_call 67; (with_reducible refine (HCB.out _).mono ?_); rintro e wB ⟨rfl, bB⟩; have k3 := (bB.cell (p := ⟨b, off + j * 2, none⟩) (Nat.lt_of_lt_of_le hbl bA.size)).trans k1; have k4 := (bB.cell (p := ⟨b, off + j * 2 + 1, none⟩) (Nat.lt_of_lt_of_le hbl bA.size)).trans k2)))
        all_goals
          have bel : Below w.heap.size w wB := HB.out.trans (((arm_drew bA).1.trans (bB.mono (arm_drew bA).2)).mono HB.out.size)
          have BEL := Lib.hid bel
          clear bel bA bB
          go_wp2_with fail
          go_roundw
          case rel => exact ⟨j + 1, by omega, by go_num, by rw [HNX.out], BEL.out⟩
          case measure => simp [intOf]; omega
    · obtain rfl : j = n := by omega
      have hr2 : r = bsof (holdsL (xs.take j)) := by rw [HR.out, List.take_of_length_le (by rw [HN.out]; exact Nat.le_refl _)]
      rw [← hr2]
      clear hr2 hb
      go_wp2_with fail
      go_ret
      exact ⟨rfl, HB.out⟩
end Go.Proofs.YtnmgnhpagnjhlaaGreatDoor
