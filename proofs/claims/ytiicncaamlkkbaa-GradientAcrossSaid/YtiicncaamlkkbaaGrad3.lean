/- Package gradient: Place of a linear source. -/
import Derived.Test.YtiicncaamlkkbaaGrad2
import Derived.Test.YtiicncaamlkkbaaInks
namespace Go.Proofs.Ytiicncaamlkkbaa.Grad
open Go.RowKit Num
theorem wpList_build_to {P : Program} {ops : Array Oper} {rest : List Oper} {o : Oper} {a : Act} {w : World} {Q : Exit → Act → World → Prop} (hg : o.guard = none) (t : TypeId) (parts : Array (Nat × Operand)) (ho : o.op = .build t parts)
    (vals : List (Nat × Value)) (hv : (parts.map fun (i, x) => (i, a.eval x)).toList = vals) (cells : Array Value) (hb : P.built t vals = some cells)
    (h : wpList P ops Q rest (a.put o.dst (.agg cells)) w) : wpList P ops Q (o :: rest) a w :=
  wpList_build hg t parts ho (by rw [hv, hb]; rfl) (by rw [hv, hb]; exact h)
/-- A linear source from (fx, fy) to (tx, ty), all else zero. -/
abbrev linArr (fx fy tx ty : Int) (st : Value) : Array Value := #[.int .i64 1, .int .u8 0, .int .u8 0, .int .u8 0, .int .u8 0, .int .u8 0, .int .u8 0, .int .u8 0, .int .u8 0, .int .i64 fx, .int .i64 fy, .int .i64 tx, .int .i64 ty, .int .i64 0, st,
  .int .i64 0, .int .i64 0, .slice none 0 0, .slice none 0 0, .int .i64 0, .int .i64 0, .int .i64 0, .int .i64 0, .int .i64 0, .int .i64 0, .bool false, .bool false]
abbrev zeroImg : Array Value := #[.int .i64 0, .int .i64 0, .slice none 0 0, .slice none 0 0, .int .i64 0, .int .i64 0, .int .i64 0, .int .i64 0, .int .i64 0, .int .i64 0, .bool false, .bool false]

set_option maxRecDepth 100000 in
set_option maxHeartbeats 1000000 in
theorem plain_zero (w : World) : Calls Try.prog 51 #[.agg zeroImg] w fun e w' => e = .returned (.bool true) ∧ Below w.heap.size w w' := by
  go_enter Try.func51, Try.ntmps51
  go_wp2
  go_ret
  exact ⟨rfl, by go_grown⟩

def inCoord (x : Int) : Bool := decide (-32767 ≤ x) && decide (x ≤ 32767)
theorem within_ok (b off n cap : Nat) (zs : List Int) (w : World) (hl : zs.length = n) (hn : n ≤ 4611686018427387904) (hc : IntsAt w ⟨b, off, none⟩ .i64 zs)
    (hf : zs.all inCoord = true) :
    Calls Try.prog 52 #[.slice (some ⟨b, off, none⟩) n cap] w fun e w' => e = .returned (.bool true) ∧ w = w' := by
  obtain ⟨-, hc⟩ := hc
  subst hl
  have HC := Lib.hid hc; clear hc
  have HF := Lib.hid hf; clear hf
  go_enter Try.func52, Try.ntmps52
  go_wp2
  go_loop [7] (fun i => ∃ k : Nat, k ≤ zs.length ∧ i = .int .i64 k) (fun i => zs.length - (intOf i).toNat)
  case atStart => exact ⟨0, Nat.zero_le _, rfl⟩
  case round =>
    obtain ⟨k, hk, rfl⟩ := hrel
    by_cases hlt : k < zs.length
    · have hcell : w.cell? ⟨b, off + k, none⟩ = some (.int .i64 (zs.getD k 0)) := HC.out k hlt
      have hb : -32767 ≤ zs.getD k 0 ∧ zs.getD k 0 ≤ 32767 := by
        have h := List.all_eq_true.1 HF.out (zs.getD k 0) (getD_mem hlt)
        simpa [inCoord] using h
      obtain ⟨h1, h2⟩ := hb
      generalize zs.getD k 0 = x at hcell h1 h2
      go_wp2
      go_round
      case rel => exact ⟨k + 1, by omega, by go_num⟩
      case measure => simp [intOf]; omega
    · go_wp2
      go_ret
      exact ⟨rfl, rfl⟩
theorem ints4 (w : World) (a b c d : Int) (T : TypeId) : IntsAt (w.alloc (.cells #[.int .i64 a, .int .i64 b, .int .i64 c, .int .i64 d] T)) ⟨w.heap.size, 0, none⟩ .i64 [a, b, c, d] := by
  refine ⟨rfl, fun i hi => ?_⟩
  match i, hi with
  | 0, _ => simp [go_sem]
  | 1, _ => simp [go_sem]
  | 2, _ => simp [go_sem]
  | 3, _ => simp [go_sem]

theorem lin_block {w : World} {B : Nat} {fx fy tx ty : Int} {st : Value} {T : TypeId} (h : w.heap[B]? = some (.cells (linArr fx fy tx ty st) T)) :
    w.cell? ⟨B, 0, none⟩ = some (.int .i64 1) ∧ w.cell? ⟨B, 9, none⟩ = some (.int .i64 fx) ∧ w.cell? ⟨B, 10, none⟩ = some (.int .i64 fy) ∧ w.cell? ⟨B, 11, none⟩ = some (.int .i64 tx) ∧ w.cell? ⟨B, 12, none⟩ = some (.int .i64 ty) ∧
    w.cell? ⟨B, 13, none⟩ = some (.int .i64 0) ∧ w.cell? ⟨B, 14, none⟩ = some st := by
  have h1 := (block_cells h).1
  exact ⟨h1 0, h1 9, h1 10, h1 11, h1 12, h1 13, h1 14⟩
theorem eql_zero_inks (w : World) : (binOp .neq 37 (inksV fun _ => 0) (inksV fun _ => 0)).run Try.prog w = .ok (.bool false) w := by
  rw [neq_inks]; rfl
theorem all4 {a b c d : Int} (h1 : -32767 ≤ a) (h2 : a ≤ 32767) (h3 : -32767 ≤ b) (h4 : b ≤ 32767) (h5 : -32767 ≤ c) (h6 : c ≤ 32767) (h7 : -32767 ≤ d) (h8 : d ≤ 32767) : [a, b, c, d].all inCoord = true := by
  simp [inCoord]; omega
set_option maxRecDepth 100000 in
set_option maxHeartbeats 1000000 in
theorem check_lin (fx fy tx ty : Int) (l : List Stop) (b off cap : Nat) (w : World) (hok : StopsOk l) (hne : (fx == tx && fy == ty) = false)
    (h1 : -32767 ≤ fx) (h2 : fx ≤ 32767) (h3 : -32767 ≤ fy) (h4 : fy ≤ 32767) (h5 : -32767 ≤ tx) (h6 : tx ≤ 32767) (h7 : -32767 ≤ ty) (h8 : ty ≤ 32767)
    (hc : ∀ i j : Nat, ∀ hi : i < l.length, j < 9 → w.cell? ⟨b, off + i * 9 + j, none⟩ = (Stop.cells l[i])[j]?) :
    Calls Try.prog 41 #[.agg (linArr fx fy tx ty (.slice (some ⟨b, off, none⟩) l.length cap))] w fun e w' => e = .returned (.int .i64 0) ∧ Below w.heap.size w w' := by
  have hb : b < w.heap.size := (cell_lt (stop_cells hc 0 (by have := hok.1; omega)).1).1
  have HC := Lib.hid hc
  have HO := Lib.hid hok
  clear hc hok
  have HC1 : ∀ W : World, Below w.heap.size w W → Hid (∀ i j : Nat, ∀ hi : i < l.length, j < 9 → W.cell? ⟨b, off + i * 9 + j, none⟩ = (Stop.cells l[i])[j]?) := fun W hW i j hi hj => by
    rw [hW.cell (p := ⟨b, _, none⟩) hb]; exact HC.out i j hi hj
  have HA := Lib.hid (all4 h1 h2 h3 h4 h5 h6 h7 h8)
  have hez := fun w => eql_zero_inks w
  obtain ⟨sv, hsv⟩ : ∃ sv : Value, sv = .slice (some ⟨b, off, none⟩) l.length cap := ⟨_, rfl⟩
  have HSV := Lib.hid hsv
  rw [← hsv]
  clear hsv
  go_enter Try.func41, Try.ntmps41
  go_wp2_with fail
  refine (plain_zero _).mono ?_
  rintro e w1 ⟨rfl, k1⟩
  have b1 : Below w.heap.size w w1 := (by go_grown : Below w.heap.size w (w.alloc (.cells (linArr fx fy tx ty sv) 54))).trans (k1.mono (by simp))
  have z1 : w.heap.size < w1.heap.size := by have := k1.size; simp at this; omega
  have B1 := Lib.hid ((k1.block w.heap.size (by simp)).trans (heap_new w _))
  clear k1
  obtain ⟨d0, d9, d10, d11, d12, d13, d14⟩ := lin_block B1.out
  go_wp2_with fail
  refine (within_ok _ _ _ _ [fx, fy, tx, ty] _ rfl (by simp) (ints4 _ _ _ _ _ _) HA.out).mono ?_
  rintro e w' ⟨rfl, rfl⟩
  by_cases hx : fx = tx
  · have x1 : (fx == tx) = true := by simp [hx]
    have x2 : (fy == ty) = false := by rw [x1] at hne; simpa using hne
    clear hx hne
    go_wp2_with fail
    rw [HSV.out]
    refine (checkStops_ok l b off cap _ HO.out (HC1 _ (by go_grown)).out).mono ?_
    rintro e w2 ⟨rfl, k2⟩
    have z2 : w1.heap.size + 1 ≤ w2.heap.size := by have := k2.size; simp at this; omega
    have b2 : Below w.heap.size w w2 := (b1.alloc (by omega) _).trans (k2.mono (by simp; omega))
    clear k2
    go_wp2
    go_ret
    exact ⟨rfl, b2⟩
  · have x1 : (fx == tx) = false := by simp [hx]
    clear hx hne
    go_wp2_with fail
    rw [HSV.out]
    refine (checkStops_ok l b off cap _ HO.out (HC1 _ (by go_grown)).out).mono ?_
    rintro e w2 ⟨rfl, k2⟩
    have z2 : w1.heap.size + 1 ≤ w2.heap.size := by have := k2.size; simp at this; omega
    have b2 : Below w.heap.size w w2 := (b1.alloc (by omega) _).trans (k2.mono (by simp; omega))
    clear k2
    go_wp2
    go_ret
    exact ⟨rfl, b2⟩

theorem absprod {a d M N : Int} (h1 : -M ≤ a) (h2 : a ≤ M) (h3 : -N ≤ d) (h4 : d ≤ N) : -(M * N) ≤ a * d ∧ a * d ≤ M * N := by
  have p1 := Int.mul_nonneg (show 0 ≤ M - a by omega) (show 0 ≤ N + d by omega)
  have p2 := Int.mul_nonneg (show 0 ≤ M + a by omega) (show 0 ≤ N - d by omega)
  have p3 := Int.mul_nonneg (show 0 ≤ M - a by omega) (show 0 ≤ N - d by omega)
  have p4 := Int.mul_nonneg (show 0 ≤ M + a by omega) (show 0 ≤ N + d by omega)
  have e1 : (M - a) * (N + d) = M * N + M * d - a * N - a * d := by grind
  have e2 : (M + a) * (N - d) = M * N - M * d + a * N - a * d := by grind
  have e3 : (M - a) * (N - d) = M * N - M * d - a * N + a * d := by grind
  have e4 : (M + a) * (N + d) = M * N + M * d + a * N + a * d := by grind
  omega
/-- What linear place computes, before it is brought into the range. -/
def placeQ (fx fy tx ty x y : Int) : Int :=
  65536 * ((tx - fx) * (2 * x + 1 - 2 * fx) + (ty - fy) * (2 * y + 1 - 2 * fy)) / (2 * ((tx - fx) * (tx - fx) + (ty - fy) * (ty - fy)))
def clampW (q : Int) : Int := if q < 0 then 0 else if 65536 < q then 65536 else q
theorem sq_pos_of {a b : Int} (h : ¬(a = 0 ∧ b = 0)) : 1 ≤ a * a + b * b := by
  have p1 : 0 ≤ a * a := by rcases Int.le_total 0 a with h | h; exact Int.mul_nonneg h h; exact Int.mul_nonneg_of_nonpos_of_nonpos h h
  have p2 : 0 ≤ b * b := by rcases Int.le_total 0 b with h | h; exact Int.mul_nonneg h h; exact Int.mul_nonneg_of_nonpos_of_nonpos h h
  refine Int.not_lt.1 fun hc => h ⟨?_, ?_⟩
  · have : a * a = 0 := by omega
    rcases Int.mul_eq_zero.1 this with h | h <;> exact h
  · have : b * b = 0 := by omega
    rcases Int.mul_eq_zero.1 this with h | h <;> exact h

set_option maxRecDepth 100000 in
set_option maxHeartbeats 1000000 in
theorem place_lin (fx fy tx ty x y : Int) (st : Value) (w : World) (hne : ¬(tx - fx = 0 ∧ ty - fy = 0))
    (h1 : -32767 ≤ fx) (h2 : fx ≤ 32767) (h3 : -32767 ≤ fy) (h4 : fy ≤ 32767) (h5 : -32767 ≤ tx) (h6 : tx ≤ 32767) (h7 : -32767 ≤ ty) (h8 : ty ≤ 32767)
    (h9 : -8192 ≤ x) (h10 : x < 8192) (h11 : -8192 ≤ y) (h12 : y < 8192) :
    Calls Try.prog 42 #[.agg (linArr fx fy tx ty st), .int .i64 x, .int .i64 y] w fun e w' => e = .returned (.int .i64 (clampW (placeQ fx fy tx ty x y))) ∧ Below w.heap.size w w' := by
  have HQ : Hid (placeQ fx fy tx ty x y = 65536 * ((tx - fx) * (2 * x + 1 - 2 * fx) + (ty - fy) * (2 * y + 1 - 2 * fy)) / (2 * ((tx - fx) * (tx - fx) + (ty - fy) * (ty - fy)))) := rfl
  have sp := sq_pos_of hne
  obtain ⟨a1, a2⟩ := absprod (a := tx - fx) (d := 2 * x + 1 - 2 * fx) (M := 65534) (N := 81919) (by omega) (by omega) (by omega) (by omega)
  obtain ⟨a3, a4⟩ := absprod (a := ty - fy) (d := 2 * y + 1 - 2 * fy) (M := 65534) (N := 81919) (by omega) (by omega) (by omega) (by omega)
  obtain ⟨a5, a6⟩ := absprod (a := tx - fx) (d := tx - fx) (M := 65534) (N := 65534) (by omega) (by omega) (by omega) (by omega)
  obtain ⟨a7, a8⟩ := absprod (a := ty - fy) (d := ty - fy) (M := 65534) (N := 65534) (by omega) (by omega) (by omega) (by omega)
  have e1 : IntKind.i64.wrap (2 * x) = 2 * x := IntWalk.i64_in _ (by omega)
  have e2 : IntKind.i64.wrap (2 * x + 1) = 2 * x + 1 := IntWalk.i64_in _ (by omega)
  have e3 : IntKind.i64.wrap (2 * fx) = 2 * fx := IntWalk.i64_in _ (by omega)
  have e4 : IntKind.i64.wrap (2 * x + 1 - 2 * fx) = 2 * x + 1 - 2 * fx := IntWalk.i64_in _ (by omega)
  have e5 : IntKind.i64.wrap (2 * y) = 2 * y := IntWalk.i64_in _ (by omega)
  have e6 : IntKind.i64.wrap (2 * y + 1) = 2 * y + 1 := IntWalk.i64_in _ (by omega)
  have e7 : IntKind.i64.wrap (2 * fy) = 2 * fy := IntWalk.i64_in _ (by omega)
  have e8 : IntKind.i64.wrap (2 * y + 1 - 2 * fy) = 2 * y + 1 - 2 * fy := IntWalk.i64_in _ (by omega)
  have e9 : IntKind.i64.wrap (tx - fx) = tx - fx := IntWalk.i64_in _ (by omega)
  have e10 : IntKind.i64.wrap (ty - fy) = ty - fy := IntWalk.i64_in _ (by omega)
  go_enter Try.func42, Try.ntmps42
  go_wp2_with fail
  go_quiet (fail)
  go_wp2_with fail
  go_quiet (fail)
  clear e1 e2 e3 e4 e5 e6 e7 e8 e9 e10
  generalize 2 * x + 1 - 2 * fx = dx at *
  generalize 2 * y + 1 - 2 * fy = dy at *
  generalize tx - fx = a at *
  generalize ty - fy = b at *
  go_wp2_with fail
  refine (quo _ _ _ (by omega) (by omega) (by omega) (by omega)).mono ?_
  rintro e w' ⟨rfl, rfl⟩
  rw [← HQ.out]
  clear HQ
  obtain ⟨q, hq⟩ : ∃ q, q = placeQ fx fy tx ty x y := ⟨_, rfl⟩
  have HQ := Lib.hid hq
  rw [← hq]
  clear hq
  rcases Int.lt_or_le q 0 with g | g
  · have HR : Hid (0 = clampW (placeQ fx fy tx ty x y)) := by rw [← HQ.out]; unfold clampW; rw [if_pos g]; exact rfl
    go_wp2
    go_ret
    exact ⟨ret_int HR.out, bdrewN (by go_grown) _⟩
  · rcases Int.lt_or_le 65536 q with g2 | g2
    · have HR : Hid (65536 = clampW (placeQ fx fy tx ty x y)) := by rw [← HQ.out]; unfold clampW; rw [if_neg (by omega), if_pos g2]; exact rfl
      go_wp2
      all_goals (go_ret; exact ⟨ret_int HR.out, bdrewN (by go_grown) _⟩)
    · have HR : Hid (q = clampW (placeQ fx fy tx ty x y)) := by rw [← HQ.out]; unfold clampW; rw [if_neg (by omega), if_neg (by omega)]; exact rfl
      go_wp2
      all_goals (go_ret; exact ⟨ret_int (by have hr := HR.out; first | exact hr | (split <;> omega) | omega), bdrewN (by go_grown) _⟩)

theorem check_lin' {A : Array Value} {fx fy tx ty : Int} {l : List Stop} {b off cap : Nat} {w : World} (hA : A = linArr fx fy tx ty (.slice (some ⟨b, off, none⟩) l.length cap)) (hok : StopsOk l) (hne : (fx == tx && fy == ty) = false)
    (h1 : -32767 ≤ fx) (h2 : fx ≤ 32767) (h3 : -32767 ≤ fy) (h4 : fy ≤ 32767) (h5 : -32767 ≤ tx) (h6 : tx ≤ 32767) (h7 : -32767 ≤ ty) (h8 : ty ≤ 32767)
    (hc : ∀ i j : Nat, ∀ hi : i < l.length, j < 9 → w.cell? ⟨b, off + i * 9 + j, none⟩ = (Stop.cells l[i])[j]?) :
    Calls Try.prog 41 #[.agg A] w fun e w' => e = .returned (.int .i64 0) ∧ Below w.heap.size w w' := by
  subst hA; exact check_lin fx fy tx ty l b off cap w hok hne h1 h2 h3 h4 h5 h6 h7 h8 hc
theorem place_lin' {A : Array Value} {fx fy tx ty x y : Int} {st : Value} {w : World} (hA : A = linArr fx fy tx ty st) (hne : ¬(tx - fx = 0 ∧ ty - fy = 0))
    (h1 : -32767 ≤ fx) (h2 : fx ≤ 32767) (h3 : -32767 ≤ fy) (h4 : fy ≤ 32767) (h5 : -32767 ≤ tx) (h6 : tx ≤ 32767) (h7 : -32767 ≤ ty) (h8 : ty ≤ 32767)
    (h9 : -8192 ≤ x) (h10 : x < 8192) (h11 : -8192 ≤ y) (h12 : y < 8192) :
    Calls Try.prog 42 #[.agg A, .int .i64 x, .int .i64 y] w fun e w' => e = .returned (.int .i64 (clampW (placeQ fx fy tx ty x y))) ∧ Below w.heap.size w w' := by
  subst hA; exact place_lin fx fy tx ty x y st w hne h1 h2 h3 h4 h5 h6 h7 h8 h9 h10 h11 h12
theorem ne_of_beq {fx fy tx ty : Int} (h : (fx == tx && fy == ty) = false) : ¬(tx - fx = 0 ∧ ty - fy = 0) := by
  rintro ⟨h1, h2⟩
  have e1 : fx = tx := by omega
  have e2 : fy = ty := by omega
  rw [e1, e2] at h
  simp at h
set_option maxRecDepth 100000 in
set_option maxHeartbeats 1000000 in
theorem Place_lin (fx fy tx ty x y : Int) (l : List Stop) (b off cap : Nat) (w : World) (A : Array Value) (hA : A = linArr fx fy tx ty (.slice (some ⟨b, off, none⟩) l.length cap)) (hok : StopsOk l) (hne : (fx == tx && fy == ty) = false)
    (h1 : -32767 ≤ fx) (h2 : fx ≤ 32767) (h3 : -32767 ≤ fy) (h4 : fy ≤ 32767) (h5 : -32767 ≤ tx) (h6 : tx ≤ 32767) (h7 : -32767 ≤ ty) (h8 : ty ≤ 32767)
    (h9 : -8192 ≤ x) (h10 : x < 8192) (h11 : -8192 ≤ y) (h12 : y < 8192)
    (hc : ∀ i j : Nat, ∀ hi : i < l.length, j < 9 → w.cell? ⟨b, off + i * 9 + j, none⟩ = (Stop.cells l[i])[j]?) :
    Calls Try.prog 24 #[.agg A, .int .i64 x, .int .i64 y] w fun e w' =>
      e = .returned (.tuple #[.int .i64 (clampW (placeQ fx fy tx ty x y)), .int .i64 0]) ∧ Below w.heap.size w w' := by
  have hb : b < w.heap.size := (cell_lt (stop_cells hc 0 (by have := hok.1; omega)).1).1
  have hsz : (Try.prog.info? 54).map (·.size) = some A.size := by rw [hA]; kernel_rfl
  have HA := Lib.hid hA
  have HC := Lib.hid hc
  have HO := Lib.hid hok
  have HN := Lib.hid hne
  have HS := Lib.hid hsz
  clear hc hok hne hA hsz
  have HC1 : ∀ W : World, Below w.heap.size w W → Hid (∀ i j : Nat, ∀ hi : i < l.length, j < 9 → W.cell? ⟨b, off + i * 9 + j, none⟩ = (Stop.cells l[i])[j]?) := fun W hW i j hi hj => by
    rw [hW.cell (p := ⟨b, _, none⟩) hb]; exact HC.out i j hi hj
  go_enter Try.func24, Try.ntmps24
  go_wp2_with (refine wpList_load_row rfl 54 _ rfl w.heap.size rfl 54 A (0, 0) _ (heap_new w _) Try.underlying54 rfl HS.out ?_)
  refine (check_lin' HA.out HO.out HN.out h1 h2 h3 h4 h5 h6 h7 h8 (HC1 _ (by go_grown)).out).mono ?_
  rintro e w1 ⟨rfl, k1⟩
  have b1 : Below w.heap.size w w1 := (by go_grown : Below w.heap.size w (w.alloc (.cells A 54))).trans (k1.mono (by simp))
  have z1 : w.heap.size < w1.heap.size := by have := k1.size; simp at this; omega
  have B1 := Lib.hid ((k1.block w.heap.size (by simp)).trans (heap_new w _))
  clear k1
  go_wp2_with (refine wpList_load_row rfl 54 _ rfl w.heap.size rfl 54 A (0, 0) _ B1.out Try.underlying54 rfl HS.out ?_)
  refine (place_lin' HA.out (ne_of_beq HN.out) h1 h2 h3 h4 h5 h6 h7 h8 h9 h10 h11 h12).mono ?_
  rintro e w2 ⟨rfl, k2⟩
  have b2 : Below w.heap.size w w2 := b1.trans (k2.mono (by omega))
  go_wp2
  go_ret2
  exact ⟨rfl, b2⟩
end Go.Proofs.Ytiicncaamlkkbaa.Grad
