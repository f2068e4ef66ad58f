/- printworkskeep1.GradientBetween returns true for every two vectors and four numbers, and leaves its arguments as they were. -/
import Derived.Test.YtiicncaamlkkbaaRows
import Derived.Test.YtiicncaamlkkbaaFrame
import Derived.Test.YtiicncaamlkkbaaGrad2
import Derived.Test.YtiicncaamlkkbaaInks
namespace Go.Proofs.Ytiicncaamlkkbaa.gradientBetween
open Go.ChangeShapes Go.WideShapes Go.ChangeAt Go.RowKit
set_option linter.unusedVariables false
open Num Grad
/-- Eight numbers as a function. -/
def pick (a b c d e f g h : Int) (i : Nat) : Int := match i with | 0 => a | 1 => b | 2 => c | 3 => d | 4 => e | 5 => f | 6 => g | _ => h
theorem two_stops {w : World} {B : Nat} {T : TypeId} {p q : Int} {u v : Nat → Int}
    (h : w.heap[B]? = some (.cells #[.int .i64 p, .int .u8 (u 0), .int .u8 (u 1), .int .u8 (u 2), .int .u8 (u 3), .int .u8 (u 4), .int .u8 (u 5), .int .u8 (u 6), .int .u8 (u 7),
      .int .i64 q, .int .u8 (v 0), .int .u8 (v 1), .int .u8 (v 2), .int .u8 (v 3), .int .u8 (v 4), .int .u8 (v 5), .int .u8 (v 6), .int .u8 (v 7)] T)) :
    ∀ i j : Nat, ∀ hi : i < ([⟨p, u⟩, ⟨q, v⟩] : List Stop).length, j < 9 → w.cell? ⟨B, 0 + i * 9 + j, none⟩ = (Stop.cells ([⟨p, u⟩, ⟨q, v⟩] : List Stop)[i])[j]? := by
  intro i j hi hj
  rw [(block_cells h).1]
  rcases (show i = 0 ∨ i = 1 by simp at hi; omega) with rfl | rfl <;>
  rcases (show j = 0 ∨ j = 1 ∨ j = 2 ∨ j = 3 ∨ j = 4 ∨ j = 5 ∨ j = 6 ∨ j = 7 ∨ j = 8 by omega) with rfl | rfl | rfl | rfl | rfl | rfl | rfl | rfl | rfl <;> rfl
theorem two_ok {p q : Int} {u v : Nat → Int} (h1 : 0 ≤ p) (h2 : p ≤ q) (h3 : q ≤ 65536) (hu : InkOk u) (hv : InkOk v) : StopsOk [⟨p, u⟩, ⟨q, v⟩] := by
  refine ⟨by simp, by simp, ?_, ?_⟩
  · intro s hs
    simp only [List.mem_cons, List.not_mem_nil, or_false] at hs
    rcases hs with rfl | rfl
    · exact ⟨h1, by show p ≤ 65536; omega, hu⟩
    · exact ⟨by show 0 ≤ q; omega, h3, hv⟩
  · intro i hi
    obtain rfl : i = 0 := by simp at hi; omega
    exact h2
theorem r75 : inksEq (rampI [⟨0, fun _ => 0⟩, ⟨65536, pick 200 0 0 0 0 0 0 0⟩] 24576) (pick 75 0 0 0 0 0 0 0) = true := by decide +kernel
theorem pick_ok : InkOk (pick 200 0 0 0 0 0 0 0) := by
  intro i hi
  rcases (show i = 0 ∨ i = 1 ∨ i = 2 ∨ i = 3 ∨ i = 4 ∨ i = 5 ∨ i = 6 ∨ i = 7 by omega) with rfl | rfl | rfl | rfl | rfl | rfl | rfl | rfl <;> simp [pick]
set_option maxRecDepth 100000 in
set_option maxHeartbeats 1000000 in
theorem ramps_ok (w : World) : Calls Try.prog 22 #[] w fun e w' => e = .returned (.bool true) ∧ Below w.heap.size w w' := by
  go_enter Try.func22, Try.ntmps22
  go_wp2_with fail
  refine (Ramp_ok [⟨0, fun _ => 0⟩, ⟨65536, pick 200 0 0 0 0 0 0 0⟩] 24576 _ _ _ _ (two_ok (by omega) (by omega) (by omega) (fun _ _ => by omega) pick_ok) (by omega) (by omega) (two_stops (heap_new _ _))).mono ?_
  rintro e w1 ⟨rfl, h1⟩
  have he := fun w => eql_inks (rampI [⟨0, fun _ => 0⟩, ⟨65536, pick 200 0 0 0 0 0 0 0⟩] 24576) (pick 75 0 0 0 0 0 0 0) w
  simp only [r75] at he
  simp only [inksV, pick] at he
  have hb : Below w.heap.size w w1 := (by go_grown : Below w.heap.size w (w.alloc _)).trans (h1.mono (by simp))
  have hz := hb.size
  clear h1
  generalize rampI _ _ = f at *
  go_wp2
  go_ret
  exact ⟨rfl, by go_grown⟩
abbrev inksArr (f : Nat → Int) : Array Value := #[.int .u8 (f 0), .int .u8 (f 1), .int .u8 (f 2), .int .u8 (f 3), .int .u8 (f 4), .int .u8 (f 5), .int .u8 (f 6), .int .u8 (f 7)]
set_option maxRecDepth 100000 in
set_option maxHeartbeats 4000000 in
theorem core (U V : Nat → Int) (p0 q0 s0 t0 : Int) (w : World) (hu : InkOk U) (hv : InkOk V)
    (a1 : -9223372036854775808 ≤ p0) (a2 : p0 ≤ 9223372036854775807) (a3 : -9223372036854775808 ≤ q0) (a4 : q0 ≤ 9223372036854775807)
    (a5 : -9223372036854775808 ≤ s0) (a6 : s0 ≤ 9223372036854775807) (a7 : -9223372036854775808 ≤ t0) (a8 : t0 ≤ 9223372036854775807) :
    Calls Try.prog 8 #[inksV U, inksV V, .int .i64 p0, .int .i64 q0, .int .i64 s0, .int .i64 t0] w fun e w' => e = .returned (.bool true) ∧ Below w.heap.size w w' := by
  have HU := Lib.hid hu
  have HV := Lib.hid hv
  clear hu hv
  go_enter Try.func8, Try.ntmps8
  go_wp2_with fail
  refine (ramps_ok _).mono ?_
  rintro e w1 ⟨rfl, h1⟩
  have bl : Below w.heap.size w w1 := (by go_grown : Below w.heap.size w ((w.alloc (.cells (inksArr U) 37)).alloc (.cells (inksArr V) 37))).trans (h1.mono (by simp; omega))
  have hz : w.heap.size + 1 < w1.heap.size := by have := h1.size; simp at this; omega
  have bU : w1.heap[w.heap.size]? = some (.cells (inksArr U) 37) := (h1.block _ (by simp; omega)).trans (((Below.refl _ _).alloc (Nat.le_refl _) _).block _ (by simp) |>.trans (heap_new w _))
  have bV : w1.heap[w.heap.size + 1]? = some (.cells (inksArr V) 37) := (h1.block _ (by simp)).trans (by have := heap_new (w.alloc (.cells (inksArr U) 37)) (.cells (inksArr V) 37); simpa using this)
  have BU := Lib.hid bU
  have BV := Lib.hid bV
  obtain ⟨u0, u1, u2, u3, u4, u5, u6, u7, -⟩ := inks_block bU
  obtain ⟨v0, v1, v2, v3, v4, v5, v6, v7, -⟩ := inks_block bV
  clear h1 bU bV
  go_wp2_with fail
  refine (cut p0 0 65535 _ a1 a2 (by omega) (by omega) (by omega) (by omega)).mono ?_
  rintro e w' ⟨rfl, rfl⟩
  obtain ⟨c1, c2⟩ := cutI_range p0 0 65535 (by omega)
  generalize cutI p0 0 65535 = p at *
  go_wp2_with fail
  refine (cut q0 (p + 1) 65536 _ a3 a4 (by omega) (by omega) (by omega) (by omega)).mono ?_
  rintro e w' ⟨rfl, rfl⟩
  obtain ⟨c3, c4⟩ := cutI_range q0 (p + 1) 65536 (by omega)
  generalize cutI q0 (p + 1) 65536 = q at *
  go_wp2_with fail
  refine (cut s0 p q _ a5 a6 (by omega) (by omega) (by omega) (by omega)).mono ?_
  rintro e w' ⟨rfl, rfl⟩
  obtain ⟨c5, c6⟩ := cutI_range s0 p q (by omega)
  generalize cutI s0 p q = s at *
  go_wp2_with fail
  refine (cut t0 s q _ a7 a8 (by omega) (by omega) (by omega) (by omega)).mono ?_
  rintro e w' ⟨rfl, rfl⟩
  obtain ⟨c7, c8⟩ := cutI_range t0 s q (by omega)
  generalize cutI t0 s q = t at *
  clear a1 a2 a3 a4 a5 a6 a7 a8
  have HS : Hid (StopsOk [⟨p, U⟩, ⟨q, V⟩]) := two_ok c1 (by omega) c4 HU.out HV.out
  go_wp2_with fail
  refine (Ramp_ok [⟨p, U⟩, ⟨q, V⟩] s _ _ _ _ HS.out (by omega) (by omega) (two_stops (heap_new _ _))).mono ?_
  rintro e w2 ⟨rfl, h2⟩
  have bl2 : Below w.heap.size w w2 := (bl.alloc (by omega) _).trans (h2.mono (by simp; omega))
  have hz2 : w1.heap.size < w2.heap.size := by have := h2.size; simp at this; omega
  have BL := Lib.hid ((h2.block w1.heap.size (by simp)).trans (heap_new _ _))
  have BU2 : Hid (w2.heap[w.heap.size]? = _) := (h2.block _ (by simp; omega)).trans ((((Below.refl _ w1).alloc (Nat.le_refl _) _).block _ (by omega)).trans BU.out)
  have BV2 : Hid (w2.heap[w.heap.size + 1]? = _) := (h2.block _ (by simp; omega)).trans ((((Below.refl _ w1).alloc (Nat.le_refl _) _).block _ (by omega)).trans BV.out)
  clear h2 u0 u1 u2 u3 u4 u5 u6 u7 v0 v1 v2 v3 v4 v5 v6 v7 BU BV
  go_wp2_with fail
  refine (Ramp_ok [⟨p, U⟩, ⟨q, V⟩] t _ _ _ _ HS.out (by omega) (by omega) (two_stops ((((Below.refl _ w2).alloc (Nat.le_refl _) _).block _ hz2).trans BL.out))).mono ?_
  rintro e w3 ⟨rfl, h3⟩
  have bl3 : Below w.heap.size w w3 := (bl2.alloc (by omega) _).trans (h3.mono (by simp; omega))
  have hz3 : w2.heap.size < w3.heap.size := by have := h3.size; simp at this; omega
  have BA := Lib.hid ((h3.block w2.heap.size (by simp)).trans (heap_new _ _))
  have BL3 : Hid (w3.heap[w1.heap.size]? = _) := (h3.block _ (by simp; omega)).trans ((((Below.refl _ w2).alloc (Nat.le_refl _) _).block _ (by omega)).trans BL.out)
  have BU3 : Hid (w3.heap[w.heap.size]? = _) := (h3.block _ (by simp; omega)).trans ((((Below.refl _ w2).alloc (Nat.le_refl _) _).block _ (by omega)).trans BU2.out)
  have BV3 : Hid (w3.heap[w.heap.size + 1]? = _) := (h3.block _ (by simp; omega)).trans ((((Below.refl _ w2).alloc (Nat.le_refl _) _).block _ (by omega)).trans BV2.out)
  clear h3 BL BU2 BV2
  have hA : ∀ i, rampI [⟨p, U⟩, ⟨q, V⟩] p i ≤ 0 → True := fun _ _ => trivial
  clear hA
  have HM : Hid (∀ i, i < 8 → 0 ≤ U i ∧ U i ≤ 255 ∧ 0 ≤ V i ∧ V i ≤ 255 ∧
      (U i ≤ V i → U i ≤ rampI [⟨p, U⟩, ⟨q, V⟩] s i ∧ rampI [⟨p, U⟩, ⟨q, V⟩] s i ≤ rampI [⟨p, U⟩, ⟨q, V⟩] t i ∧ rampI [⟨p, U⟩, ⟨q, V⟩] t i ≤ V i) ∧
      (V i ≤ U i → V i ≤ rampI [⟨p, U⟩, ⟨q, V⟩] t i ∧ rampI [⟨p, U⟩, ⟨q, V⟩] t i ≤ rampI [⟨p, U⟩, ⟨q, V⟩] s i ∧ rampI [⟨p, U⟩, ⟨q, V⟩] s i ≤ U i)) := by
    intro i hi
    refine ⟨(HU.out i hi).1, (HU.out i hi).2, (HV.out i hi).1, (HV.out i hi).2, fun h => ?_, fun h => ?_⟩
    · have k1 := ramp2_up (p := p) (q := q) (u := U) (v := V) (Int.le_refl p) c5 c6 (by omega) i h
      have k2 := ramp2_up (p := p) (q := q) (u := U) (v := V) c5 c7 c8 (by omega) i h
      have k3 := ramp2_up (p := p) (q := q) (u := U) (v := V) (by omega) c8 (Int.le_refl q) (by omega) i h
      rw [ramp2_at_p (p := p) (q := q) (by omega)] at k1
      rw [ramp2_at_q (p := p) (q := q) (by omega)] at k3
      exact ⟨k1, k2, k3⟩
    · have k1 := ramp2_down (p := p) (q := q) (u := U) (v := V) (Int.le_refl p) c5 c6 (by omega) i h
      have k2 := ramp2_down (p := p) (q := q) (u := U) (v := V) c5 c7 c8 (by omega) i h
      have k3 := ramp2_down (p := p) (q := q) (u := U) (v := V) (by omega) c8 (Int.le_refl q) (by omega) i h
      rw [ramp2_at_p (p := p) (q := q) (by omega)] at k1
      rw [ramp2_at_q (p := p) (q := q) (by omega)] at k3
      exact ⟨k3, k2, k1⟩
  have HP : Hid (inksEq (rampI [⟨p, U⟩, ⟨q, V⟩] p) U = true) := (inksEq_iff _ _).2 fun i _ => ramp2_at_p (by omega) i
  have HQ : Hid (inksEq (rampI [⟨p, U⟩, ⟨q, V⟩] q) V = true) := (inksEq_iff _ _).2 fun i _ => ramp2_at_q (by omega) i
  generalize rampI [⟨p, U⟩, ⟨q, V⟩] s = fa at *
  generalize rampI [⟨p, U⟩, ⟨q, V⟩] t = fb at *
  clear bl bl2
  go_wp2_with fail
  go_loopw [18, 19, 20, 60] (fun _ _ _ i wr => ∃ m : Nat, m ≤ 8 ∧ i = .int .i64 m ∧ wr.heap.size = w3.heap.size + 1 ∧ Hid (∀ b, b < w3.heap.size + 1 → wr.heap[b]? = (w3.alloc (.cells (inksArr fb) 37)).heap[b]?) ∧ Below w.heap.size w wr) (fun _ _ _ i _ => 8 - (intOf i).toNat)
  case atStart => exact ⟨0, Nat.zero_le _, rfl, by simp, fun b _ => rfl, by go_grown⟩
  case round =>
    obtain ⟨m, hm, rfl, hsz, HB, hbl⟩ := hrel
    have e3 : ∀ b, b < w3.heap.size → (w3.alloc (.cells (inksArr fb) 37)).heap[b]? = w3.heap[b]? := fun b hb => ((Below.refl _ w3).alloc (Nat.le_refl _) _).block b hb
    have WU : Hid (wr.heap[w.heap.size]? = _) := (HB.out _ (by omega)).trans ((e3 _ (by omega)).trans BU3.out)
    have WV : Hid (wr.heap[w.heap.size + 1]? = _) := (HB.out _ (by omega)).trans ((e3 _ (by omega)).trans BV3.out)
    have WA : Hid (wr.heap[w2.heap.size]? = _) := (HB.out _ (by omega)).trans ((e3 _ (by omega)).trans BA.out)
    have WB : Hid (wr.heap[w3.heap.size]? = _) := (HB.out _ (by omega)).trans (heap_new w3 _)
    have WL : Hid (wr.heap[w1.heap.size]? = _) := (HB.out _ (by omega)).trans ((e3 _ (by omega)).trans BL3.out)
    clear e3
    by_cases hlt : m < 8
    · have g1 := ((block_cells WU.out).1 m).trans (cell_inks U m hlt)
      have g2 := ((block_cells WV.out).1 m).trans (cell_inks V m hlt)
      have g3 := ((block_cells WA.out).1 m).trans (cell_inks fa m hlt)
      have g4 := ((block_cells WB.out).1 m).trans (cell_inks fb m hlt)
      obtain ⟨o1, o2, o3, o4, o5, o6⟩ := HM.out m hlt
      clear WU WV WA WB WL
      have i0 : (0 : Int) ≤ (m : Int) := by omega
      have i1 : (m : Int) < 8 := by omega
      generalize U m = um at *
      generalize V m = vm at *
      generalize fa m = am at *
      generalize fb m = bm at *
      rcases Int.lt_trichotomy um vm with h | h | h
      · obtain ⟨k1, k2, k3⟩ := o5 (Int.le_of_lt h)
        clear o5 o6
        have d5 : decide (um ≤ vm) = true := by simp; omega
        have d6 : decide (bm < am) = false := by simp; omega
        have d7 : decide (vm ≤ um) = false := by simp; omega
        have d1 : decide (am < um) = false := by simp; omega
        have d2 : decide (vm < am) = false := by simp; omega
        have d3 : decide (bm < um) = false := by simp; omega
        have d4 : decide (vm < bm) = false := by simp; omega
        go_wp2_with fail
        go_quiet (fail)
        go_wp2_with fail
        go_quiet (fail)
        go_wp2
        go_roundw
        case rel => exact ⟨m + 1, by omega, by go_num, hsz, HB, bdrewN hbl _⟩
        case measure => simp [intOf]; omega
      · have l1 : um ≤ vm := by omega
        have l2 : vm ≤ um := by omega
        obtain ⟨k1, k2, k3⟩ := o5 l1
        clear o5 o6 h
        have d5 : decide (um ≤ vm) = true := by simp; omega
        have d6 : decide (bm < am) = false := by simp; omega
        have d7 : decide (vm ≤ um) = true := by simp; omega
        have d8 : decide (am < bm) = false := by simp; omega
        have f1 : decide (am < vm) = false := by simp; omega
        have f2 : decide (um < am) = false := by simp; omega
        have f3 : decide (bm < vm) = false := by simp; omega
        have f4 : decide (um < bm) = false := by simp; omega
        have d1 : decide (am < um) = false := by simp; omega
        have d2 : decide (vm < am) = false := by simp; omega
        have d3 : decide (bm < um) = false := by simp; omega
        have d4 : decide (vm < bm) = false := by simp; omega
        go_wp2_with fail
        go_quiet (fail)
        go_wp2_with fail
        go_quiet (fail)
        go_wp2
        go_roundw
        case rel => exact ⟨m + 1, by omega, by go_num, hsz, HB, bdrewN hbl _⟩
        case measure => simp [intOf]; omega
      · obtain ⟨k1, k2, k3⟩ := o6 (Int.le_of_lt h)
        clear o5 o6
        have d5 : decide (um ≤ vm) = false := by simp; omega
        have d7 : decide (vm ≤ um) = true := by simp; omega
        have d8 : decide (am < bm) = false := by simp; omega
        have d1 : decide (am < vm) = false := by simp; omega
        have d2 : decide (um < am) = false := by simp; omega
        have d3 : decide (bm < vm) = false := by simp; omega
        have d4 : decide (um < bm) = false := by simp; omega
        go_wp2_with fail
        go_quiet (fail)
        go_wp2_with fail
        go_quiet (fail)
        go_wp2
        go_roundw
        case rel => exact ⟨m + 1, by omega, by go_num, hsz, HB, bdrewN hbl _⟩
        case measure => simp [intOf]; omega
    · obtain ⟨u0, u1, u2, u3, u4, u5, u6, u7, -⟩ := inks_block WU.out
      obtain ⟨v0, v1, v2, v3, v4, v5, v6, v7, -⟩ := inks_block WV.out
      clear HM
      go_wp2_with fail
      refine (Ramp_ok [⟨p, U⟩, ⟨q, V⟩] p _ _ _ _ HS.out (by omega) (by omega) (two_stops WL.out)).mono ?_
      rintro e w4 ⟨rfl, h4⟩
      have hz4 : wr.heap.size ≤ w4.heap.size := h4.size
      have bl4 : Below w.heap.size w w4 := hbl.trans (h4.mono (by omega))
      have XU := Lib.hid ((h4.block _ (by omega)).trans WU.out)
      have XV := Lib.hid ((h4.block _ (by omega)).trans WV.out)
      have XL := Lib.hid ((h4.block _ (by omega)).trans WL.out)
      clear h4 WU WV WL WA WB u0 u1 u2 u3 u4 u5 u6 u7 v0 v1 v2 v3 v4 v5 v6 v7
      go_wp2_with fail
      refine (Ramp_ok [⟨p, U⟩, ⟨q, V⟩] q _ _ _ _ HS.out (by omega) (by omega) (two_stops ((((Below.refl _ w4).alloc (Nat.le_refl _) _).block _ (by omega)).trans XL.out))).mono ?_
      rintro e w5 ⟨rfl, h5⟩
      have hz5 : w4.heap.size < w5.heap.size := by have := h5.size; simp at this; omega
      have bl5 : Below w.heap.size w w5 := (bl4.alloc (by omega) _).trans (h5.mono (by simp; omega))
      have YF := (h5.block w4.heap.size (by simp)).trans (heap_new _ _)
      have YU := (h5.block _ (by simp; omega)).trans ((((Below.refl _ w4).alloc (Nat.le_refl _) _).block _ (by omega)).trans XU.out)
      have YV := (h5.block _ (by simp; omega)).trans ((((Below.refl _ w4).alloc (Nat.le_refl _) _).block _ (by omega)).trans XV.out)
      clear h5 XU XV XL
      generalize rampI [⟨p, U⟩, ⟨q, V⟩] p = fp at *
      generalize rampI [⟨p, U⟩, ⟨q, V⟩] q = fq at *
      obtain ⟨u0, u1, u2, u3, u4, u5, u6, u7, -⟩ := inks_block YU
      obtain ⟨v0, v1, v2, v3, v4, v5, v6, v7, -⟩ := inks_block YV
      obtain ⟨p0, p1, p2, p3, p4, p5, p6, p7, -⟩ := inks_block YF
      have he1 := fun w => eql_inks fp U w
      have he2 := fun w => eql_inks fq V w
      simp only [HP.out] at he1
      simp only [HQ.out] at he2
      have lt1 : w.heap.size < w5.heap.size := by omega
      have lt2 : w.heap.size + 1 < w5.heap.size := by omega
      clear YF YU YV
      go_wp2
      go_ret
      exact ⟨rfl, by go_grown⟩
theorem pick_range {a b c d e f g h : Int} (ha : (Lit.int .u8 a).wf = true) (hb : (Lit.int .u8 b).wf = true) (hc : (Lit.int .u8 c).wf = true) (hd : (Lit.int .u8 d).wf = true)
    (he : (Lit.int .u8 e).wf = true) (hf : (Lit.int .u8 f).wf = true) (hg : (Lit.int .u8 g).wf = true) (hh : (Lit.int .u8 h).wf = true) : InkOk (pick a b c d e f g h) := by
  intro i hi
  rcases (show i = 0 ∨ i = 1 ∨ i = 2 ∨ i = 3 ∨ i = 4 ∨ i = 5 ∨ i = 6 ∨ i = 7 by omega) with rfl | rfl | rfl | rfl | rfl | rfl | rfl | rfl
  · exact bounds_u8 ha
  · exact bounds_u8 hb
  · exact bounds_u8 hc
  · exact bounds_u8 hd
  · exact bounds_u8 he
  · exact bounds_u8 hf
  · exact bounds_u8 hg
  · exact bounds_u8 hh

theorem walk (x0_0 : Int) (x0_1 : Int) (x0_2 : Int) (x0_3 : Int) (x0_4 : Int) (x0_5 : Int) (x0_6 : Int) (x0_7 : Int) (x1_0 : Int) (x1_1 : Int) (x1_2 : Int) (x1_3 : Int) (x1_4 : Int) (x1_5 : Int) (x1_6 : Int) (x1_7 : Int) (a2 : Int) (a3 : Int) (a4 : Int) (a5 : Int) (w : World) (w0_0 : (Lit.int .u8 x0_0).wf = true) (w0_1 : (Lit.int .u8 x0_1).wf = true) (w0_2 : (Lit.int .u8 x0_2).wf = true) (w0_3 : (Lit.int .u8 x0_3).wf = true) (w0_4 : (Lit.int .u8 x0_4).wf = true) (w0_5 : (Lit.int .u8 x0_5).wf = true) (w0_6 : (Lit.int .u8 x0_6).wf = true) (w0_7 : (Lit.int .u8 x0_7).wf = true) (w1_0 : (Lit.int .u8 x1_0).wf = true) (w1_1 : (Lit.int .u8 x1_1).wf = true) (w1_2 : (Lit.int .u8 x1_2).wf = true) (w1_3 : (Lit.int .u8 x1_3).wf = true) (w1_4 : (Lit.int .u8 x1_4).wf = true) (w1_5 : (Lit.int .u8 x1_5).wf = true) (w1_6 : (Lit.int .u8 x1_6).wf = true) (w1_7 : (Lit.int .u8 x1_7).wf = true) (w2 : (Lit.int .i64 a2).wf = true) (w3 : (Lit.int .i64 a3).wf = true) (w4 : (Lit.int .i64 a4).wf = true) (w5 : (Lit.int .i64 a5).wf = true) :
    Calls Try.prog 8 #[.agg #[.int .u8 x0_0, .int .u8 x0_1, .int .u8 x0_2, .int .u8 x0_3, .int .u8 x0_4, .int .u8 x0_5, .int .u8 x0_6, .int .u8 x0_7], .agg #[.int .u8 x1_0, .int .u8 x1_1, .int .u8 x1_2, .int .u8 x1_3, .int .u8 x1_4, .int .u8 x1_5, .int .u8 x1_6, .int .u8 x1_7], .int .i64 a2, .int .i64 a3, .int .i64 a4, .int .i64 a5] w fun e w' => e = .returned (.bool true) ∧ Below w.heap.size w w' := by
  exact core (pick x0_0 x0_1 x0_2 x0_3 x0_4 x0_5 x0_6 x0_7) (pick x1_0 x1_1 x1_2 x1_3 x1_4 x1_5 x1_6 x1_7) a2 a3 a4 a5 w (pick_range w0_0 w0_1 w0_2 w0_3 w0_4 w0_5 w0_6 w0_7) (pick_range w1_0 w1_1 w1_2 w1_3 w1_4 w1_5 w1_6 w1_7)
    (bounds_i64 w2).1 (bounds_i64 w2).2 (bounds_i64 w3).1 (bounds_i64 w3).2 (bounds_i64 w4).1 (bounds_i64 w4).2 (bounds_i64 w5).1 (bounds_i64 w5).2
end Go.Proofs.Ytiicncaamlkkbaa.gradientBetween
