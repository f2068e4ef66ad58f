/- Package gradient: Ramp, and what it computes. -/
import Derived.Test.YtiicncaamlkkbaaNum
import Derived.Test.YtiicncaamlkkbaaFrame
namespace Go.Proofs.Ytiicncaamlkkbaa.Grad
open Go.RowKit Num
/-- A vector of eight amounts, as a value. -/
abbrev inksV (f : Nat → Int) : Value := .agg #[.int .u8 (f 0), .int .u8 (f 1), .int .u8 (f 2), .int .u8 (f 3), .int .u8 (f 4), .int .u8 (f 5), .int .u8 (f 6), .int .u8 (f 7)]
structure Stop where
  at_ : Int
  ink : Nat → Int
instance : Inhabited Stop := ⟨⟨0, fun _ => 0⟩⟩
def Stop.cells (s : Stop) : List Value := [.int .i64 s.at_, .int .u8 (s.ink 0), .int .u8 (s.ink 1), .int .u8 (s.ink 2), .int .u8 (s.ink 3), .int .u8 (s.ink 4), .int .u8 (s.ink 5), .int .u8 (s.ink 6), .int .u8 (s.ink 7)]
/-- Amounts. -/
def InkOk (f : Nat → Int) : Prop := ∀ i, i < 8 → 0 ≤ f i ∧ f i ≤ 255
def StopOk (s : Stop) : Prop := 0 ≤ s.at_ ∧ s.at_ ≤ 65536 ∧ InkOk s.ink

/-- The last of the first n stops at or before t. -/
def lastLe (l : List Stop) (t : Int) : Nat → Option Nat
  | 0 => none
  | n + 1 => if (l.getD n default).at_ ≤ t then some n else lastLe l t n
def rampI (l : List Stop) (t : Int) : Nat → Int :=
  match lastLe l t l.length with
  | none => (l.getD 0 default).ink
  | some k => if k + 1 = l.length ∨ (l.getD k default).at_ = t then (l.getD k default).ink
    else fun i => nr ((l.getD k default).ink i * ((l.getD (k + 1) default).at_ - t) + (l.getD (k + 1) default).ink i * (t - (l.getD k default).at_)) ((l.getD (k + 1) default).at_ - (l.getD k default).at_)

theorem lastLe_some {l : List Stop} {t : Int} : ∀ {n k : Nat}, lastLe l t n = some k → k < n ∧ (l.getD k default).at_ ≤ t ∧ ∀ j, k < j → j < n → t < (l.getD j default).at_
  | 0, _, h => by simp [lastLe] at h
  | n + 1, k, h => by
    unfold lastLe at h
    split at h
    · rename_i hle
      simp only [Option.some.injEq] at h
      subst h
      exact ⟨by omega, hle, fun j h1 h2 => by omega⟩
    · rename_i hle
      obtain ⟨h1, h2, h3⟩ := lastLe_some h
      refine ⟨by omega, h2, fun j h4 h5 => ?_⟩
      by_cases e : j = n
      · subst e; omega
      · exact h3 j h4 (by omega)

theorem mixed {a b p q t : Int} (ha : 0 ≤ a ∧ a ≤ 255) (hb : 0 ≤ b ∧ b ≤ 255) (h1 : p ≤ t) (h2 : t < q) (h0 : 0 ≤ p) (h3 : q ≤ 65536) :
    0 ≤ a * (q - t) ∧ a * (q - t) ≤ 16777216 ∧ 0 ≤ b * (t - p) ∧ b * (t - p) ≤ 16777216 ∧ 0 ≤ nr (a * (q - t) + b * (t - p)) (q - p) ∧ nr (a * (q - t) + b * (t - p)) (q - p) ≤ 255 := by
  have p1 := Int.mul_nonneg ha.1 (show 0 ≤ q - t by omega)
  have p2 := Int.mul_nonneg hb.1 (show 0 ≤ t - p by omega)
  have p3 : a * (q - t) ≤ 255 * (q - t) := Int.mul_le_mul_of_nonneg_right ha.2 (by omega)
  have p4 : b * (t - p) ≤ 255 * (t - p) := Int.mul_le_mul_of_nonneg_right hb.2 (by omega)
  have hs := nr_spec (a * (q - t) + b * (t - p)) (q - p) (by omega)
  refine ⟨p1, by omega, p2, by omega, ?_, ?_⟩
  · refine Int.not_lt.1 fun hc => ?_
    have : nr (a * (q - t) + b * (t - p)) (q - p) * (q - p) ≤ (-1) * (q - p) := Int.mul_le_mul_of_nonneg_right (by omega) (by omega)
    omega
  · refine Int.not_lt.1 fun hc => ?_
    have : 256 * (q - p) ≤ nr (a * (q - t) + b * (t - p)) (q - p) * (q - p) := Int.mul_le_mul_of_nonneg_right (by omega) (by omega)
    omega

/-- What the walk needs of one stop's cells. -/
theorem stop_cells {w : World} {b off : Nat} {l : List Stop} (hc : ∀ i j : Nat, ∀ hi : i < l.length, j < 9 → w.cell? ⟨b, off + i * 9 + j, none⟩ = (Stop.cells l[i])[j]?) (k : Nat) (hk : k < l.length) :
    w.cell? ⟨b, off + k * 9, none⟩ = some (.int .i64 (l.getD k default).at_) ∧ ∀ j, j < 8 → w.cell? ⟨b, off + k * 9 + (1 + j), none⟩ = some (.int .u8 ((l.getD k default).ink j)) := by
  have e : l.getD k default = l[k] := by simp [List.getD, hk]
  rw [e]
  refine ⟨by simpa [Stop.cells] using hc k 0 hk (by omega), fun j hj => ?_⟩
  have := hc k (1 + j) hk (by omega)
  rw [this]
  match j, hj with
  | 0, _ => rfl
  | 1, _ => rfl
  | 2, _ => rfl
  | 3, _ => rfl
  | 4, _ => rfl
  | 5, _ => rfl
  | 6, _ => rfl
  | 7, _ => rfl

theorem stop_cells9 {w : World} {b off : Nat} {l : List Stop} (hc : ∀ i j : Nat, ∀ hi : i < l.length, j < 9 → w.cell? ⟨b, off + i * 9 + j, none⟩ = (Stop.cells l[i])[j]?) (k : Nat) (hk : k < l.length) :
    w.cell? ⟨b, off + k * 9, none⟩ = some (.int .i64 (l.getD k default).at_) ∧ w.cell? ⟨b, off + k * 9 + 1, none⟩ = some (.int .u8 ((l.getD k default).ink 0)) ∧
    w.cell? ⟨b, off + k * 9 + 2, none⟩ = some (.int .u8 ((l.getD k default).ink 1)) ∧ w.cell? ⟨b, off + k * 9 + 3, none⟩ = some (.int .u8 ((l.getD k default).ink 2)) ∧
    w.cell? ⟨b, off + k * 9 + 4, none⟩ = some (.int .u8 ((l.getD k default).ink 3)) ∧ w.cell? ⟨b, off + k * 9 + 5, none⟩ = some (.int .u8 ((l.getD k default).ink 4)) ∧
    w.cell? ⟨b, off + k * 9 + 6, none⟩ = some (.int .u8 ((l.getD k default).ink 5)) ∧ w.cell? ⟨b, off + k * 9 + 7, none⟩ = some (.int .u8 ((l.getD k default).ink 6)) ∧
    w.cell? ⟨b, off + k * 9 + 8, none⟩ = some (.int .u8 ((l.getD k default).ink 7)) := by
  have g := stop_cells hc k hk
  exact ⟨g.1, g.2 0 (by omega), g.2 1 (by omega), g.2 2 (by omega), g.2 3 (by omega), g.2 4 (by omega), g.2 5 (by omega), g.2 6 (by omega), g.2 7 (by omega)⟩

set_option maxRecDepth 100000 in
set_option maxHeartbeats 1000000 in
theorem ramp_any (l : List Stop) (t : Int) (b off cap : Nat) (w : World) (h0 : 1 ≤ l.length) (h1 : l.length ≤ 16) (ht : 0 ≤ t) (ht' : t ≤ 65536) (hok : ∀ s ∈ l, StopOk s)
    (hc : ∀ i j : Nat, ∀ hi : i < l.length, j < 9 → w.cell? ⟨b, off + i * 9 + j, none⟩ = (Stop.cells l[i])[j]?) :
    Calls Try.prog 40 #[.slice (some ⟨b, off, none⟩) l.length cap, .int .i64 t] w fun e w' => e = .returned (inksV (rampI l t)) ∧ Below w.heap.size w w' := by
  have hb : b < w.heap.size := (cell_lt (stop_cells hc 0 (by omega)).1).1
  have HC := Lib.hid hc
  have HO := Lib.hid hok
  clear hc hok
  obtain ⟨n, hn⟩ : ∃ n, n = l.length := ⟨_, rfl⟩
  rw [← hn] at h0 h1 ⊢
  have HN := Lib.hid hn
  clear hn
  go_enter Try.func40, Try.ntmps40
  go_wp2_with fail
  go_loop [5] (fun i => ∃ m : Nat, m ≤ n ∧ i = .int .i64 ((m : Int) - 1) ∧ Hid (lastLe l t m = lastLe l t n)) (fun i => (intOf i + 1).toNat)
  case atStart => exact ⟨n, Nat.le_refl _, rfl, rfl⟩
  case round =>
    obtain ⟨m, hm, rfl, HL⟩ := hrel
    rcases Nat.eq_zero_or_pos m with h | h
    · subst h
      have HR : Hid (rampI l t = (l.getD 0 default).ink) := by
        show _ = _
        unfold rampI
        rw [← HN.out, ← HL.out]
        rfl
      obtain ⟨g0, g1, g2, g3, g4, g5, g6, g7, g8⟩ := stop_cells9 HC.out 0 (by rw [← HN.out]; omega)
      simp only [Nat.zero_mul, Nat.add_zero] at g0 g1 g2 g3 g4 g5 g6 g7 g8
      generalize (l.getD 0 default).ink = f at *
      go_wp2
      go_returns
      exact ⟨by rw [HR.out], by go_grown⟩
    · obtain ⟨k, rfl⟩ : ∃ k, m = k + 1 := ⟨m - 1, by omega⟩
      obtain ⟨g0, g1, g2, g3, g4, g5, g6, g7, g8⟩ := stop_cells9 HC.out k (by rw [← HN.out]; omega)
      have ek : (((k + 1 : Nat) : Int) - 1) = (k : Int) := by omega
      rw [ek]
      by_cases hle : (l.getD k default).at_ ≤ t
      · have HK : Hid (lastLe l t n = some k) := by
          show _ = _
          rw [← HL.out]; unfold lastLe; rw [if_pos hle]
        clear HL
        have hok := HO.out _ (getD_mem (d := default) (show k < l.length by rw [← HN.out]; omega))
        obtain ⟨o1, o2, o3⟩ := hok
        by_cases hend : k + 1 = n ∨ (l.getD k default).at_ = t
        · have HR : Hid (rampI l t = (l.getD k default).ink) := by
            show _ = _
            unfold rampI
            rw [← HN.out, HK.out]
            simp only
            rw [if_pos hend]
          generalize (l.getD k default).ink = f at *
          generalize (l.getD k default).at_ = q at *
          by_cases he1 : k + 1 = n
          · have t1 : ((k : Int) + 1 == (n : Int)) = true := by simp; omega
            clear hend o3
            go_wp2
            go_returns
            exact ⟨by rw [HR.out], by go_grown⟩
          · have t1 : ((k : Int) + 1 == (n : Int)) = false := by simp; omega
            have t2 : (q == t) = true := by simp; omega
            clear hend o3 he1
            go_wp2
            go_returns
            exact ⟨by rw [HR.out], by go_grown⟩
        · obtain ⟨he1, he2⟩ := not_or.1 hend
          have hl3 := (lastLe_some HK.out).2.2 (k + 1) (by omega) (by omega)
          have hok := HO.out _ (getD_mem (d := default) (show k + 1 < l.length by rw [← HN.out]; omega))
          obtain ⟨o4, o5, o6⟩ := hok
          obtain ⟨q0, q1, q2, q3, q4, q5, q6, q7, q8⟩ := stop_cells9 HC.out (k + 1) (by rw [← HN.out]; omega)
          have HM : Hid (∀ i, i < 8 → 0 ≤ (l.getD k default).ink i * ((l.getD (k + 1) default).at_ - t) ∧ _ ∧ _ ∧ _ ∧ _ ∧ _) := fun i hi => mixed (o3 i hi) (o6 i hi) hle hl3 o1 o5
          have HR : Hid (rampI l t = fun i => nr ((l.getD k default).ink i * ((l.getD (k + 1) default).at_ - t) + (l.getD (k + 1) default).ink i * (t - (l.getD k default).at_)) ((l.getD (k + 1) default).at_ - (l.getD k default).at_)) := by
            show _ = _
            unfold rampI
            rw [← HN.out, HK.out]
            simp only
            rw [if_neg hend]
          have I1 := Lib.hid o3
          have I2 := Lib.hid o6
          have t1 : ((k : Int) + 1 == (n : Int)) = false := by simp; omega
          have t2 : ((l.getD k default).at_ == t) = false := by simpa using he2
          clear o3 o6 hend
          generalize (l.getD k default).ink = f at *
          generalize (l.getD (k + 1) default).ink = f2 at *
          generalize (l.getD k default).at_ = p at *
          generalize (l.getD (k + 1) default).at_ = q at *
          go_wp2_with fail
          go_loopw [9, 54] (fun _ i wr => ∃ m : Nat, m ≤ 8 ∧ i = .int .i64 m ∧
              wr.cell? ⟨w.heap.size + 1, 0, none⟩ = some (.int .i64 p) ∧ Hid (∀ j, j < 8 → wr.cell? ⟨w.heap.size + 1, 1 + j, none⟩ = some (.int .u8 (f j))) ∧
              wr.cell? ⟨w.heap.size + 1 + 1, 0, none⟩ = some (.int .i64 q) ∧ Hid (∀ j, j < 8 → wr.cell? ⟨w.heap.size + 1 + 1, 1 + j, none⟩ = some (.int .u8 (f2 j))) ∧
              Hid (∀ j, j < 8 → wr.cell? ⟨w.heap.size + 1 + 1 + 1, j, none⟩ = some (.int .u8 (if j < m then nr (f j * (q - t) + f2 j * (t - p)) (q - p) else 0))) ∧
              Hid (∀ j, j < 8 → ∃ v, wr.cell? ⟨w.heap.size, j, none⟩ = some v) ∧
              Hid (∀ j, wr.frozen? ⟨w.heap.size, j, none⟩ = false ∧ wr.frozen? ⟨w.heap.size + 1 + 1 + 1, j, none⟩ = false) ∧
              Below w.heap.size w wr) (fun _ i _ => 8 - (intOf i).toNat)
          case atStart =>
            refine ⟨0, Nat.zero_le _, rfl, ?_, ?_, ?_, ?_, ?_, ?_, ?_, ?_⟩
            · simp [go_sem]
            · intro j hj
              rcases (show j = 0 ∨ j = 1 ∨ j = 2 ∨ j = 3 ∨ j = 4 ∨ j = 5 ∨ j = 6 ∨ j = 7 by omega) with rfl | rfl | rfl | rfl | rfl | rfl | rfl | rfl <;> simp [go_sem]
            · simp [go_sem]
            · intro j hj
              rcases (show j = 0 ∨ j = 1 ∨ j = 2 ∨ j = 3 ∨ j = 4 ∨ j = 5 ∨ j = 6 ∨ j = 7 by omega) with rfl | rfl | rfl | rfl | rfl | rfl | rfl | rfl <;> simp [go_sem]
            · intro j hj
              rw [if_neg (Nat.not_lt_zero _)]
              rcases (show j = 0 ∨ j = 1 ∨ j = 2 ∨ j = 3 ∨ j = 4 ∨ j = 5 ∨ j = 6 ∨ j = 7 by omega) with rfl | rfl | rfl | rfl | rfl | rfl | rfl | rfl <;> simp [go_sem]
            · intro j hj
              rcases (show j = 0 ∨ j = 1 ∨ j = 2 ∨ j = 3 ∨ j = 4 ∨ j = 5 ∨ j = 6 ∨ j = 7 by omega) with rfl | rfl | rfl | rfl | rfl | rfl | rfl | rfl <;> simp [go_sem]
            · intro j
              constructor <;> simp [go_sem]
            · go_grown
          case round =>
            obtain ⟨m, hm, rfl, ca, HA, cb, HB, HO2, HZ, HF, hbl⟩ := hrel
            by_cases hlt : m < 8
            · have hcA := HA.out m hlt
              have hcB := HB.out m hlt
              have hcO := HO2.out m hlt
              rw [if_neg (Nat.lt_irrefl _)] at hcO
              have hfr := (HF.out m).2
              obtain ⟨k1, k2, k3, k4, k5, k6⟩ := HM.out m hlt
              obtain ⟨i1, i2⟩ := I1.out m hlt
              obtain ⟨i3, i4⟩ := I2.out m hlt
              have hsz : w.heap.size ≤ wr.heap.size := hbl.size
              obtain ⟨x, hx⟩ : ∃ x : Nat → Int, x = fun j => nr (f j * (q - t) + f2 j * (t - p)) (q - p) := ⟨_, rfl⟩
              have hxm : nr (f m * (q - t) + f2 m * (t - p)) (q - p) = x m := by rw [hx]
              have HX := Lib.hid hx
              have HXM := Lib.hid hxm
              rw [hxm] at k5 k6
              clear hx hxm
              have e1 : IntKind.i64.wrap (q - t) = q - t := IntWalk.i64_in _ (by omega)
              have e2 : IntKind.i64.wrap (f m * (q - t)) = f m * (q - t) := IntWalk.i64_in _ (by omega)
              have e3 : IntKind.i64.wrap (t - p) = t - p := IntWalk.i64_in _ (by omega)
              have e4 : IntKind.i64.wrap (f2 m * (t - p)) = f2 m * (t - p) := IntWalk.i64_in _ (by omega)
              have e5 : IntKind.i64.wrap (f m * (q - t) + f2 m * (t - p)) = f m * (q - t) + f2 m * (t - p) := IntWalk.i64_in _ (by omega)
              have e6 : IntKind.i64.wrap (q - p) = q - p := IntWalk.i64_in _ (by omega)
              have e7 : IntKind.u8.wrap (x m) = x m := IntWalk.u8_in _ (by omega)
              have e8 : x m % 256 = x m := by omega
              have e9 : IntKind.i64.wrap (f m) = f m := IntWalk.i64_in _ (by omega)
              have e10 : IntKind.i64.wrap (f2 m) = f2 m := IntWalk.i64_in _ (by omega)
              clear HM HR HK HO HN HC q0 q1 q2 q3 q4 q5 q6 q7 q8 g0 g1 g2 g3 g4 g5 g6 g7 g8
              go_wp2_with fail
              go_region_held3 (fun w' => w'.cell? ⟨w.heap.size + 1, 0, none⟩ = some (.int .i64 p) ∧ w'.cell? ⟨w.heap.size + 1, 1 + m, none⟩ = some (.int .u8 (f m)) ∧
                  w'.cell? ⟨w.heap.size + 1 + 1, 0, none⟩ = some (.int .i64 q) ∧ w'.cell? ⟨w.heap.size + 1 + 1, 1 + m, none⟩ = some (.int .u8 (f2 m)))
                (first | (go_split_ands; refine ⟨?_, ?_, ?_, ?_⟩ <;> assumption) | (simp [go_sem, ca, cb, hcA, hcB]))
                (first
                  | (go_at_call 32; (with_reducible refine (near (f m * (q - t) + f2 m * (t - p)) (q - p) _ (by omega) (by omega) (by omega) (by omega)).mono ?_); rintro e w4 ⟨he, rfl⟩; rw [HXM.out] at he; subst he))
              go_wp2
              go_roundw
              case rel =>
                refine ⟨m + 1, by omega, by go_num, ?_, ?_, ?_, ?_, ?_, ?_, ?_, ?_⟩
                · show (wr.setCell _ _).cell? _ = _
                  rw [cell_set_ne (by omega)]; exact ca
                · intro j hj
                  show (wr.setCell _ _).cell? _ = _
                  rw [cell_set_ne (by omega)]; exact HA.out j hj
                · show (wr.setCell _ _).cell? _ = _
                  rw [cell_set_ne (by omega)]; exact cb
                · intro j hj
                  show (wr.setCell _ _).cell? _ = _
                  rw [cell_set_ne (by omega)]; exact HB.out j hj
                · intro j hj
                  show (wr.setCell _ _).cell? _ = _
                  by_cases ej : j = m
                  · subst ej
                    rw [cell_set_eq hcO, if_pos (by omega), HXM.out]
                  · rw [cell_set_ne (by omega), HO2.out j hj]
                    by_cases hjm : j < m
                    · rw [if_pos hjm, if_pos (by omega)]
                    · rw [if_neg hjm, if_neg (by omega)]
                · intro j hj
                  obtain ⟨v, hv⟩ := HZ.out j hj
                  refine ⟨v, ?_⟩
                  show (wr.setCell _ _).cell? _ = _
                  rw [cell_set_ne (by omega)]; exact hv
                · intro j
                  show (wr.setCell _ _).frozen? _ = false ∧ (wr.setCell _ _).frozen? _ = false
                  rw [World.frozen?_setCell, World.frozen?_setCell]; exact HF.out j
                · exact (hbl.setCell (by simp; omega) _).drew
              case measure => simp [intOf]; omega
            · have e8 : m = 8 := by omega
              subst e8
              have c0 := HO2.out 0 (by omega)
              have c1 := HO2.out 1 (by omega)
              have c2 := HO2.out 2 (by omega)
              have c3 := HO2.out 3 (by omega)
              have c4 := HO2.out 4 (by omega)
              have c5 := HO2.out 5 (by omega)
              have c6 := HO2.out 6 (by omega)
              have c7 := HO2.out 7 (by omega)
              obtain ⟨z0, d0⟩ := HZ.out 0 (by omega)
              obtain ⟨z1, d1⟩ := HZ.out 1 (by omega)
              obtain ⟨z2, d2⟩ := HZ.out 2 (by omega)
              obtain ⟨z3, d3⟩ := HZ.out 3 (by omega)
              obtain ⟨z4, d4⟩ := HZ.out 4 (by omega)
              obtain ⟨z5, d5⟩ := HZ.out 5 (by omega)
              obtain ⟨z6, d6⟩ := HZ.out 6 (by omega)
              obtain ⟨z7, d7⟩ := HZ.out 7 (by omega)
              rw [if_pos (by omega)] at c0 c1 c2 c3 c4 c5 c6 c7
              have r0 := (HF.out 0).1
              have r1 := (HF.out 1).1
              have r2 := (HF.out 2).1
              have r3 := (HF.out 3).1
              have r4 := (HF.out 4).1
              have r5 := (HF.out 5).1
              have r6 := (HF.out 6).1
              have r7 := (HF.out 7).1
              clear HO2 HZ HF HA HB ca cb q0 q1 q2 q3 q4 q5 q6 q7 q8 g0 g1 g2 g3 g4 g5 g6 g7 g8
              go_wp2
              refine bodyPost_ret (v := inksV (fun i => nr (f i * (q - t) + f2 i * (t - p)) (q - p))) (by simp [results, Try.results40, go_sem, d0, d1, d2, d3, d4, d5, d6, d7]) rfl ⟨by rw [HR.out], ?_⟩
              go_grown
      · have HL2 : Hid (lastLe l t k = lastLe l t n) := by
          have e : lastLe l t (k + 1) = lastLe l t k := by simp only [lastLe]; rw [if_neg hle]
          exact e.symm.trans HL.out
        clear HL
        go_wp2
        go_round
        case rel => exact ⟨k, by omega, by go_num, HL2⟩
        case measure => simp [intOf] <;> omega

end Go.Proofs.Ytiicncaamlkkbaa.Grad
