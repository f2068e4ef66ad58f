/- Package gradient: CheckStops and Ramp at valid stops. -/
import Derived.Test.YtiicncaamlkkbaaGrad
namespace Go.Proofs.Ytiicncaamlkkbaa.Grad
open Go.RowKit Num
/-- Valid stops. -/
def StopsOk (l : List Stop) : Prop := 1 ≤ l.length ∧ l.length ≤ 16 ∧ (∀ s ∈ l, StopOk s) ∧ ∀ i, i + 1 < l.length → (l.getD i default).at_ ≤ (l.getD (i + 1) default).at_

set_option maxRecDepth 100000 in
set_option maxHeartbeats 1000000 in
theorem checkStops_ok (l : List Stop) (b off cap : Nat) (w : World) (hok : StopsOk l)
    (hc : ∀ i j : Nat, ∀ hi : i < l.length, j < 9 → w.cell? ⟨b, off + i * 9 + j, none⟩ = (Stop.cells l[i])[j]?) :
    Calls Try.prog 39 #[.slice (some ⟨b, off, none⟩) l.length cap] w fun e w' => e = .returned (.int .i64 0) ∧ Below w.heap.size w w' := by
  obtain ⟨h0, h1, hok, hord⟩ := hok
  have hb : b < w.heap.size := (cell_lt (stop_cells hc 0 (by omega)).1).1
  have HC := Lib.hid hc
  have HO := Lib.hid hok
  have HS := Lib.hid hord
  clear hc hok hord
  obtain ⟨n, hn⟩ : ∃ n, n = l.length := ⟨_, rfl⟩
  rw [← hn] at h0 h1 ⊢
  have HN := Lib.hid hn
  clear hn
  go_enter Try.func39, Try.ntmps39
  go_wp2_with fail
  go_loopw [15] (fun i wr => ∃ k : Nat, k ≤ n ∧ i = .int .i64 k ∧ Below w.heap.size w wr) (fun i _ => n - (intOf i).toNat)
  case atStart => exact ⟨0, Nat.zero_le _, rfl, Below.refl _ _⟩
  case round =>
    obtain ⟨k, hk, rfl, hbl⟩ := hrel
    by_cases hlt : k < n
    · have hsz : w.heap.size ≤ wr.heap.size := hbl.size
      have hb2 : b < wr.heap.size := by omega
      obtain ⟨g0, g1, g2, g3, g4, g5, g6, g7, g8⟩ := stop_cells9 HC.out k (by rw [← HN.out]; exact hlt)
      obtain ⟨o1, o2, -⟩ := HO.out _ (getD_mem (d := default) (show k < l.length by rw [← HN.out]; exact hlt))
      rw [← hbl.cell (p := ⟨b, _, none⟩) hb] at g0 g1 g2 g3 g4 g5 g6 g7 g8
      rcases Nat.eq_zero_or_pos k with h | h
      · subst h
        generalize (l.getD 0 default).ink = f at *
        generalize (l.getD 0 default).at_ = p at *
        simp only [Nat.zero_mul, Nat.add_zero] at g0 g1 g2 g3 g4 g5 g6 g7 g8
        rw [show ((0 : Nat) : Int) = 0 from rfl]
        go_wp2_with fail
        go_quiet (fail)
        go_wp2
        go_roundw
        case rel => exact ⟨1, by omega, by go_num, bdrewN (by go_grown) _⟩
        case measure => simp [intOf]; omega
      · obtain ⟨m, rfl⟩ : ∃ m, k = m + 1 := ⟨k - 1, by omega⟩
        have hle := HS.out m (by rw [← HN.out]; exact hlt)
        obtain ⟨q0, -⟩ := stop_cells9 HC.out m (by rw [← HN.out]; omega)
        rw [← hbl.cell (p := ⟨b, _, none⟩) hb] at q0
        generalize (l.getD (m + 1) default).ink = f at *
        generalize (l.getD (m + 1) default).at_ = p at *
        generalize (l.getD m default).at_ = q at *
        have i0 : (0 : Int) ≤ (m : Int) := by omega
        have i1 : (m : Int) < (n : Int) := by omega
        have i2 : IntKind.i64.wrap (m : Int) = m := IntWalk.i64_in _ (by omega)
        have i3 : IntKind.i64.wrap ((m : Int) + 1 - 1) = m := by rw [IntWalk.i64_in _ (by omega)]; omega
        go_wp2_with fail
        go_quiet (fail)
        go_wp2
        go_roundw
        case rel => exact ⟨m + 1 + 1, by omega, by go_num, bdrewN (by go_grown) _⟩
        case measure => simp [intOf]; omega
    · go_wp2
      go_ret
      exact ⟨rfl, hbl⟩

/-- A block known whole: its cells, and that none is frozen. -/
theorem block_cells {w : World} {B : Nat} {cs : Array Value} {T : TypeId} (h : w.heap[B]? = some (.cells cs T)) : (∀ j, w.cell? ⟨B, j, none⟩ = cs[j]?) ∧ ∀ j, w.frozen? ⟨B, j, none⟩ = false := by
  refine ⟨fun j => ?_, fun j => ?_⟩
  · unfold World.cell?; rw [h]; rfl
  · unfold World.frozen?; rw [h]; simp
theorem inks_block {w : World} {B : Nat} {f : Nat → Int} {T : TypeId} (h : w.heap[B]? = some (.cells #[.int .u8 (f 0), .int .u8 (f 1), .int .u8 (f 2), .int .u8 (f 3), .int .u8 (f 4), .int .u8 (f 5), .int .u8 (f 6), .int .u8 (f 7)] T)) :
    w.cell? ⟨B, 0, none⟩ = some (.int .u8 (f 0)) ∧ w.cell? ⟨B, 1, none⟩ = some (.int .u8 (f 1)) ∧ w.cell? ⟨B, 2, none⟩ = some (.int .u8 (f 2)) ∧ w.cell? ⟨B, 3, none⟩ = some (.int .u8 (f 3)) ∧
    w.cell? ⟨B, 4, none⟩ = some (.int .u8 (f 4)) ∧ w.cell? ⟨B, 5, none⟩ = some (.int .u8 (f 5)) ∧ w.cell? ⟨B, 6, none⟩ = some (.int .u8 (f 6)) ∧ w.cell? ⟨B, 7, none⟩ = some (.int .u8 (f 7)) ∧
    w.frozen? ⟨B, 0, none⟩ = false ∧ w.frozen? ⟨B, 1, none⟩ = false ∧ w.frozen? ⟨B, 2, none⟩ = false ∧ w.frozen? ⟨B, 3, none⟩ = false ∧
    w.frozen? ⟨B, 4, none⟩ = false ∧ w.frozen? ⟨B, 5, none⟩ = false ∧ w.frozen? ⟨B, 6, none⟩ = false ∧ w.frozen? ⟨B, 7, none⟩ = false := by
  obtain ⟨h1, h2⟩ := block_cells h
  exact ⟨h1 0, h1 1, h1 2, h1 3, h1 4, h1 5, h1 6, h1 7, h2 0, h2 1, h2 2, h2 3, h2 4, h2 5, h2 6, h2 7⟩
theorem heap_new (w : World) (o : Obj) : (w.alloc o).heap[w.heap.size]? = some o := (MapKept.heap_alloc w o).1

set_option maxRecDepth 100000 in
/-- gradient.Ramp at valid stops and a position. -/
theorem Ramp_ok (l : List Stop) (t : Int) (b off cap : Nat) (w : World) (hok : StopsOk l) (ht : 0 ≤ t) (ht' : t ≤ 65536)
    (hc : ∀ i j : Nat, ∀ hi : i < l.length, j < 9 → w.cell? ⟨b, off + i * 9 + j, none⟩ = (Stop.cells l[i])[j]?) :
    Calls Try.prog 23 #[.slice (some ⟨b, off, none⟩) l.length cap, .int .i64 t] w fun e w' => e = .returned (.tuple #[inksV (rampI l t), .int .i64 0]) ∧ Below w.heap.size w w' := by
  have hb : b < w.heap.size := (cell_lt (stop_cells hc 0 (by have := hok.1; omega)).1).1
  have HC := Lib.hid hc
  have HO := Lib.hid hok
  clear hc hok
  have HC1 : ∀ W : World, Below w.heap.size w W → Hid (∀ i j : Nat, ∀ hi : i < l.length, j < 9 → W.cell? ⟨b, off + i * 9 + j, none⟩ = (Stop.cells l[i])[j]?) := fun W hW i j hi hj => by
    rw [hW.cell (p := ⟨b, _, none⟩) hb]; exact HC.out i j hi hj
  go_enter Try.func23, Try.ntmps23
  go_wp2_with fail
  refine (checkStops_ok l b off cap _ HO.out (HC1 _ (by go_grown)).out).mono ?_
  rintro e w1 ⟨rfl, h1⟩
  have h1' : Below w.heap.size w w1 := (by go_grown : Below w.heap.size w (w.alloc _)).trans (h1.mono (by simp))
  have hz1 : w.heap.size < w1.heap.size := by have := h1.size; simp at this; omega
  have hw1 := (h1.block w.heap.size (by simp)).trans (heap_new w _)
  clear h1
  go_wp2_with fail
  refine (ramp_any l t b off cap _ HO.out.1 HO.out.2.1 ht ht' HO.out.2.2.1 (HC1 _ h1').out).mono ?_
  rintro e w2 ⟨rfl, h2⟩
  have h2' := h1'.trans (h2.mono (Nat.le_of_lt hz1))
  obtain ⟨c0, c1, c2, c3, c4, c5, c6, c7, r0, r1, r2, r3, r4, r5, r6, r7⟩ := inks_block (f := fun _ => 0) ((h2.block _ hz1).trans hw1)
  have hz2 : w.heap.size < w2.heap.size := Nat.lt_of_lt_of_le hz1 h2.size
  clear hw1 h1' h2 HC1 HC HO
  go_wp2
  refine bodyPost_ret (v := .tuple #[inksV (rampI l t), .int .i64 0]) (by simp [results, Try.results23, go_sem, c0, c1, c2, c3, c4, c5, c6, c7]) rfl ⟨rfl, ?_⟩
  go_grown

/-! ### Two stops -/
theorem nr_mono {a c b : Int} (hb : 1 ≤ b) (h : a ≤ c) : nr a b ≤ nr c b := by
  have h1 := nr_spec a b hb
  have h2 := nr_spec c b hb
  refine Int.not_lt.1 fun hc => ?_
  have h3 : (nr c b + 1) * b ≤ nr a b * b := Int.mul_le_mul_of_nonneg_right (by omega) (by omega)
  rw [Int.add_mul, Int.one_mul] at h3
  omega
theorem nr_mul (x b : Int) (hb : 1 ≤ b) : nr (x * b) b = x := by
  have h1 := nr_spec (x * b) b hb
  have e1 : ∀ y z : Int, y * b - z * b = (y - z) * b := fun y z => (Int.sub_mul y z b).symm
  rcases Int.lt_trichotomy (nr (x * b) b) x with h | h | h
  · have h3 : (nr (x * b) b + 1) * b ≤ x * b := Int.mul_le_mul_of_nonneg_right (by omega) (by omega)
    rw [Int.add_mul, Int.one_mul] at h3; omega
  · exact h
  · have h3 : (x + 1) * b ≤ nr (x * b) b * b := Int.mul_le_mul_of_nonneg_right (by omega) (by omega)
    rw [Int.add_mul, Int.one_mul] at h3; omega
theorem rampI_end {l : List Stop} {t : Int} {k : Nat} (h : lastLe l t l.length = some k) (he : k + 1 = l.length ∨ (l.getD k default).at_ = t) : rampI l t = (l.getD k default).ink := by
  unfold rampI; rw [h]; simp only; rw [if_pos he]
theorem rampI_mid {l : List Stop} {t : Int} {k : Nat} (h : lastLe l t l.length = some k) (he : ¬(k + 1 = l.length ∨ (l.getD k default).at_ = t)) :
    rampI l t = fun i => nr ((l.getD k default).ink i * ((l.getD (k + 1) default).at_ - t) + (l.getD (k + 1) default).ink i * (t - (l.getD k default).at_)) ((l.getD (k + 1) default).at_ - (l.getD k default).at_) := by
  unfold rampI; rw [h]; simp only; rw [if_neg he]
/-- The ramp between two stops at p < q. -/
theorem ramp2 {p q t : Int} {u v : Nat → Int} (h1 : p ≤ t) (h2 : t ≤ q) (h3 : p < q) (i : Nat) :
    rampI [⟨p, u⟩, ⟨q, v⟩] t i = nr (u i * (q - t) + v i * (t - p)) (q - p) := by
  have e1 : lastLe [⟨p, u⟩, ⟨q, v⟩] t 1 = some 0 := by simp only [lastLe]; exact if_pos h1
  by_cases hq : q ≤ t
  · have e2 : lastLe [⟨p, u⟩, ⟨q, v⟩] t 2 = some 1 := by unfold lastLe; exact if_pos hq
    rw [rampI_end e2 (Or.inl rfl)]
    have e : q = t := by omega
    subst e
    show v i = _
    rw [Int.sub_self, Int.mul_zero, Int.zero_add, nr_mul _ _ (by omega)]
  · have e2 : lastLe [⟨p, u⟩, ⟨q, v⟩] t 2 = some 0 := by
      have : lastLe [⟨p, u⟩, ⟨q, v⟩] t 2 = lastLe [⟨p, u⟩, ⟨q, v⟩] t 1 := by simp only [lastLe]; exact if_neg hq
      rw [this, e1]
    by_cases hp : p = t
    · rw [rampI_end e2 (Or.inr hp)]
      subst hp
      show u i = _
      rw [Int.sub_self, Int.mul_zero, Int.add_zero, nr_mul _ _ (by omega)]
    · rw [rampI_mid e2 (by intro hc; rcases hc with hc | hc; exact absurd hc (show ¬ (0 + 1 = 2) by decide); exact hp hc)]
      rfl
theorem ramp2_at_p {p q : Int} {u v : Nat → Int} (h3 : p < q) (i : Nat) : rampI [⟨p, u⟩, ⟨q, v⟩] p i = u i := by
  rw [ramp2 (Int.le_refl _) (by omega) h3, Int.sub_self, Int.mul_zero, Int.add_zero, nr_mul _ _ (by omega)]
theorem ramp2_at_q {p q : Int} {u v : Nat → Int} (h3 : p < q) (i : Nat) : rampI [⟨p, u⟩, ⟨q, v⟩] q i = v i := by
  rw [ramp2 (by omega) (Int.le_refl _) h3, Int.sub_self, Int.mul_zero, Int.zero_add, nr_mul _ _ (by omega)]
theorem ramp2_up {p q s t : Int} {u v : Nat → Int} (h1 : p ≤ s) (h2 : s ≤ t) (h3 : t ≤ q) (h4 : p < q) (i : Nat) (h : u i ≤ v i) :
    rampI [⟨p, u⟩, ⟨q, v⟩] s i ≤ rampI [⟨p, u⟩, ⟨q, v⟩] t i := by
  rw [ramp2 h1 (by omega) h4, ramp2 (by omega) h3 h4]
  refine nr_mono (by omega) ?_
  have e : u i * (q - t) + v i * (t - p) - (u i * (q - s) + v i * (s - p)) = (v i - u i) * (t - s) := by grind
  have := Int.mul_nonneg (show 0 ≤ v i - u i by omega) (show 0 ≤ t - s by omega)
  omega
theorem ramp2_down {p q s t : Int} {u v : Nat → Int} (h1 : p ≤ s) (h2 : s ≤ t) (h3 : t ≤ q) (h4 : p < q) (i : Nat) (h : v i ≤ u i) :
    rampI [⟨p, u⟩, ⟨q, v⟩] t i ≤ rampI [⟨p, u⟩, ⟨q, v⟩] s i := by
  rw [ramp2 h1 (by omega) h4, ramp2 (by omega) h3 h4]
  refine nr_mono (by omega) ?_
  have e : u i * (q - t) + v i * (t - p) - (u i * (q - s) + v i * (s - p)) = (v i - u i) * (t - s) := by grind
  have := Int.mul_nonneg (show 0 ≤ u i - v i by omega) (show 0 ≤ t - s by omega)
  have e2 : (v i - u i) * (t - s) = - ((u i - v i) * (t - s)) := by rw [← Int.neg_mul]; congr 1; omega
  omega
end Go.Proofs.Ytiicncaamlkkbaa.Grad
