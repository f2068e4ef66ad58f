/- Package blend: the functions of the modes, and the closures that Mode hands out. -/
import Derived.Test.YtmedlibkhlgdjaaNum
import Derived.Laws.EntriesVeiled
namespace Go.Proofs.Ytmedlibkhlgdjaa.Blend
open Go.RowKit Num

def hardI (b s : Int) : Int := if s ≤ 127 then mul255 b (2 * s) else 255 - mul255 (255 - b) (2 * (255 - s))
def dodgeI (b s : Int) : Int := if b = 0 then 0 else if 255 - s ≤ b then 255 else nr (255 * b) (255 - s)
def burnI (b s : Int) : Int := if b = 255 then 255 else if s ≤ 255 - b then 0 else 255 - nr (255 * (255 - b)) s
/-- What mode k makes of backdrop b and source s. -/
def modeI (k : Nat) (b s : Int) : Int :=
  match k with
  | 0 => s
  | 1 => mul255 b s
  | 2 => 255 - mul255 (255 - b) (255 - s)
  | 3 => hardI s b
  | 4 => if b ≤ s then b else s
  | 5 => if b ≤ s then s else b
  | 6 => dodgeI b s
  | 7 => burnI b s
  | 8 => hardI b s
  | 9 => nr ((255 - 2 * s) * b * b + 510 * s * b) 65025
  | 10 => if b ≤ s then s - b else b - s
  | _ => b + s - nr (2 * b * s) 255
/-- The function of mode k. -/
def modeF (k : Nat) : Nat :=
  match k with
  | 0 => 87
  | 1 => 88
  | 2 => 89
  | 3 => 90
  | 4 => 92
  | 5 => 93
  | 6 => 94
  | 7 => 95
  | 8 => 91
  | 9 => 96
  | 10 => 97
  | _ => 98
/-- Function F computes f on amounts, and makes nothing. -/
def Does (F : Nat) (f : Int → Int → Int) : Prop := ∀ (b s : Int) (w : World), 0 ≤ b → b ≤ 255 → 0 ≤ s → s ≤ 255 →
  Calls Try.prog F #[.int .i64 b, .int .i64 s] w fun e w' => e = .returned (.int .i64 (f b s)) ∧ w = w'

theorem mul_any (a b : Int) (w : World) (h1 : 0 ≤ a) (h2 : a ≤ 255) (h3 : 0 ≤ b) (h4 : b ≤ 255) :
    Calls Try.prog 88 #[.int .i64 a, .int .i64 b] w fun e w' => e = .returned (.int .i64 (mul255 a b)) ∧ w = w' := by
  obtain ⟨r1, r2⟩ := mul255_range h1 h2 h3 h4
  go_enter Try.func88, Try.ntmps88
  go_wp2_with fail
  refine (mul255_any _ _ _ h1 h2 h3 h4).mono ?_
  rintro e w' ⟨rfl, rfl⟩
  go_wp2
  go_ret
  exact ⟨rfl, rfl⟩

theorem hard_any (b s : Int) (w : World) (h1 : 0 ≤ b) (h2 : b ≤ 255) (h3 : 0 ≤ s) (h4 : s ≤ 255) :
    Calls Try.prog 91 #[.int .i64 b, .int .i64 s] w fun e w' => e = .returned (.int .i64 (hardI b s)) ∧ w = w' := by
  by_cases h : s ≤ 127
  · have H : Hid (mul255 b (2 * s) = hardI b s) := by unfold hardI; rw [if_pos h]; exact rfl
    go_enter Try.func91, Try.ntmps91
    go_wp2_with fail
    refine (mul_any _ _ _ h1 h2 (by omega) (by omega)).mono ?_
    rintro e w' ⟨rfl, rfl⟩
    go_wp2
    go_ret
    exact ⟨ret_int H.out, rfl⟩
  · have H : Hid (255 - mul255 (255 - b) (2 * (255 - s)) = hardI b s) := by unfold hardI; rw [if_neg h]; exact rfl
    obtain ⟨r1, r2⟩ := mul255_range (a := 255 - b) (b := 2 * (255 - s)) (by omega) (by omega) (by omega) (by omega)
    go_enter Try.func91, Try.ntmps91
    go_wp2_with fail
    refine (mul_any _ _ _ (by omega) (by omega) (by omega) (by omega)).mono ?_
    rintro e w' ⟨rfl, rfl⟩
    go_wp2
    go_ret
    exact ⟨ret_int H.out, rfl⟩

theorem does0 : Does (modeF 0) (modeI 0) := by
  intro b s w h1 h2 h3 h4
  unfold modeF modeI
  go_enter Try.func87, Try.ntmps87
  go_wp2
  go_ret
  exact ⟨rfl, rfl⟩
theorem does1 : Does (modeF 1) (modeI 1) := fun b s w h1 h2 h3 h4 => mul_any b s w h1 h2 h3 h4
theorem does2 : Does (modeF 2) (modeI 2) := by
  intro b s w h1 h2 h3 h4
  unfold modeF modeI
  obtain ⟨r1, r2⟩ := mul255_range (a := 255 - b) (b := 255 - s) (by omega) (by omega) (by omega) (by omega)
  go_enter Try.func89, Try.ntmps89
  go_wp2_with fail
  refine (mul_any _ _ _ (by omega) (by omega) (by omega) (by omega)).mono ?_
  rintro e w' ⟨rfl, rfl⟩
  go_wp2
  go_ret
  exact ⟨rfl, rfl⟩
theorem does3 : Does (modeF 3) (modeI 3) := by
  intro b s w h1 h2 h3 h4
  unfold modeF modeI
  go_enter Try.func90, Try.ntmps90
  go_wp2_with fail
  refine (hard_any _ _ _ h3 h4 h1 h2).mono ?_
  rintro e w' ⟨rfl, rfl⟩
  go_wp2
  go_ret
  exact ⟨rfl, rfl⟩
theorem does4 : Does (modeF 4) (modeI 4) := by
  intro b s w h1 h2 h3 h4
  unfold modeF modeI
  go_enter Try.func92, Try.ntmps92
  go_wp2
  all_goals (go_ret; exact ⟨rfl, rfl⟩)
theorem does5 : Does (modeF 5) (modeI 5) := by
  intro b s w h1 h2 h3 h4
  unfold modeF modeI
  go_enter Try.func93, Try.ntmps93
  go_wp2
  all_goals (go_ret; exact ⟨ret_int (by first | rfl | omega), rfl⟩)
theorem does6 : Does (modeF 6) (modeI 6) := by
  intro b s w h1 h2 h3 h4
  unfold modeF
  by_cases g1 : b = 0
  · have H : Hid (0 = modeI 6 b s) := by show _ = dodgeI b s; unfold dodgeI; rw [if_pos g1]
    have g2 : (b == 0) = true := by simp [g1]
    clear g1
    go_enter Try.func94, Try.ntmps94
    go_wp2
    go_ret
    exact ⟨ret_int H.out, rfl⟩
  · have g2 : (b == 0) = false := by simp [g1]
    by_cases g3 : 255 - s ≤ b
    · have H : Hid (255 = modeI 6 b s) := by show _ = dodgeI b s; unfold dodgeI; rw [if_neg g1, if_pos g3]
      go_enter Try.func94, Try.ntmps94
      go_wp2
      go_ret
      exact ⟨ret_int H.out, rfl⟩
    · have H : Hid (nr (255 * b) (255 - s) = modeI 6 b s) := by show _ = dodgeI b s; unfold dodgeI; rw [if_neg g1, if_neg g3]
      go_enter Try.func94, Try.ntmps94
      go_wp2_with fail
      refine (near _ _ _ (by omega) (by omega) (by omega) (by omega)).mono ?_
      rintro e w' ⟨rfl, rfl⟩
      go_wp2
      go_ret
      exact ⟨ret_int H.out, rfl⟩
theorem nr_le_255 {a b : Int} (hb : 1 ≤ b) (h0 : 0 ≤ a) (h1 : a ≤ 255 * b) : 0 ≤ nr a b ∧ nr a b ≤ 255 := by
  have hs := nr_spec a b hb
  generalize nr a b = m at *
  constructor
  · refine Int.not_lt.1 fun hc => ?_
    have : m * b ≤ (-1) * b := Int.mul_le_mul_of_nonneg_right (by omega) (by omega)
    omega
  · refine Int.not_lt.1 fun hc => ?_
    have : 256 * b ≤ m * b := Int.mul_le_mul_of_nonneg_right (by omega) (by omega)
    omega
theorem does7 : Does (modeF 7) (modeI 7) := by
  intro b s w h1 h2 h3 h4
  unfold modeF
  by_cases g1 : b = 255
  · have H : Hid (255 = modeI 7 b s) := by show _ = burnI b s; unfold burnI; rw [if_pos g1]
    have g2 : (b == 255) = true := by simp [g1]
    clear g1
    go_enter Try.func95, Try.ntmps95
    go_wp2
    go_ret
    exact ⟨ret_int H.out, rfl⟩
  · have g2 : (b == 255) = false := by simp [g1]
    by_cases g3 : s ≤ 255 - b
    · have H : Hid (0 = modeI 7 b s) := by show _ = burnI b s; unfold burnI; rw [if_neg g1, if_pos g3]
      go_enter Try.func95, Try.ntmps95
      go_wp2
      go_ret
      exact ⟨ret_int H.out, rfl⟩
    · have H : Hid (255 - nr (255 * (255 - b)) s = modeI 7 b s) := by show _ = burnI b s; unfold burnI; rw [if_neg g1, if_neg g3]
      obtain ⟨r1, r2⟩ := nr_le_255 (a := 255 * (255 - b)) (b := s) (by omega) (by omega) (by omega)
      go_enter Try.func95, Try.ntmps95
      go_wp2_with fail
      refine (near _ _ _ (by omega) (by omega) (by omega) (by omega)).mono ?_
      rintro e w' ⟨rfl, rfl⟩
      go_wp2
      go_ret
      exact ⟨ret_int H.out, rfl⟩
theorem does8 : Does (modeF 8) (modeI 8) := fun b s w h1 h2 h3 h4 => hard_any b s w h1 h2 h3 h4
theorem soft_bounds {b s : Int} (h1 : 0 ≤ b) (h2 : b ≤ 255) (h3 : 0 ≤ s) (h4 : s ≤ 255) :
    -65025 ≤ (255 - 2 * s) * b ∧ (255 - 2 * s) * b ≤ 65025 ∧ 0 ≤ s * b ∧ s * b ≤ 65025 ∧ -16581375 ≤ (255 - 2 * s) * b * b ∧ (255 - 2 * s) * b * b ≤ 16581375 ∧
    0 ≤ (255 - 2 * s) * b * b + 510 * s * b ∧ (255 - 2 * s) * b * b + 510 * s * b ≤ 255 * 65025 := by
  obtain ⟨p1, p2⟩ := pbound h3 h4 h1 h2
  obtain ⟨p3, p4⟩ := pbound h1 h2 h1 h2
  have e1 : (255 - 2 * s) * b = 255 * b - 2 * (s * b) := by grind
  have e2 : (255 - 2 * s) * b * b = 255 * (b * b) - 2 * (s * (b * b)) := by grind
  have e3 : 510 * s * b = 510 * (s * b) := by grind
  obtain ⟨p5, p6⟩ := pbound h3 h4 p3 p4
  have e4 : s * (b * b) = b * (s * b) := by grind
  have p7 : b * (s * b) ≤ 255 * (s * b) := Int.mul_le_mul_of_nonneg_right h2 p1
  have p9 : s * b ≤ 255 * b := Int.mul_le_mul_of_nonneg_right h4 h1
  have p10 : s * (b * b) ≤ 255 * (b * b) := Int.mul_le_mul_of_nonneg_right h4 p3
  -- the whole is at most 255 * 65025: (255 - b)-part
  have e5 : 255 * 65025 - (255 * (b * b) - 2 * (s * (b * b)) + 510 * (s * b)) = (255 - b) * (255 * (255 + b) - 2 * (s * b)) := by grind
  have p8 : 0 ≤ (255 - b) * (255 * (255 + b) - 2 * (s * b)) := by
    refine Int.mul_nonneg (by omega) ?_
    have : s * b ≤ 255 * b := Int.mul_le_mul_of_nonneg_right h4 h1
    omega
  omega
theorem does9 : Does (modeF 9) (modeI 9) := by
  intro b s w h1 h2 h3 h4
  unfold modeF modeI
  obtain ⟨k1, k2, k3, k4, k5, k6, k7, k8⟩ := soft_bounds h1 h2 h3 h4
  have e3 : 510 * s * b = 510 * (s * b) := by grind
  have k9 : 0 ≤ 510 * s * b ∧ 510 * s * b ≤ 33162750 := by omega
  obtain ⟨k9, k10⟩ := k9
  clear e3
  go_enter Try.func96, Try.ntmps96
  go_wp2_with fail
  refine (near _ 65025 _ (by omega) (by omega) (by omega) (by omega)).mono ?_
  rintro e w' ⟨rfl, rfl⟩
  go_wp2
  go_ret
  exact ⟨rfl, rfl⟩
theorem does10 : Does (modeF 10) (modeI 10) := by
  intro b s w h1 h2 h3 h4
  unfold modeF modeI
  go_enter Try.func97, Try.ntmps97
  go_wp2
  all_goals (go_ret; exact ⟨ret_int (by first | rfl | (split <;> omega) | omega), rfl⟩)
theorem does11 : Does (modeF 11) (modeI 11) := by
  intro b s w h1 h2 h3 h4
  unfold modeF modeI
  obtain ⟨p1, p2⟩ := pbound h1 h2 h3 h4
  have e1 : 2 * b * s = 2 * (b * s) := by grind
  have k : 0 ≤ 2 * b * s ∧ 2 * b * s ≤ 130050 := by omega
  obtain ⟨k1, k2⟩ := k
  have r := nr_spec (2 * b * s) 255 (by omega)
  have r3 : 0 ≤ nr (2 * b * s) 255 ∧ nr (2 * b * s) 255 ≤ 510 := by omega
  obtain ⟨r1, r2⟩ := r3
  clear e1 r
  go_enter Try.func98, Try.ntmps98
  go_wp2_with fail
  refine (near _ 255 _ (by omega) (by omega) (by omega) (by omega)).mono ?_
  rintro e w' ⟨rfl, rfl⟩
  go_wp2
  go_ret
  exact ⟨rfl, rfl⟩

theorem does : ∀ k : Nat, k < 12 → Does (modeF k) (modeI k)
  | 0, _ => does0
  | 1, _ => does1
  | 2, _ => does2
  | 3, _ => does3
  | 4, _ => does4
  | 5, _ => does5
  | 6, _ => does6
  | 7, _ => does7
  | 8, _ => does8
  | 9, _ => does9
  | 10, _ => does10
  | 11, _ => does11
  | n + 12, h => absurd h (by omega)
theorem hard_range {b s : Int} (h1 : 0 ≤ b) (h2 : b ≤ 255) (h3 : 0 ≤ s) (h4 : s ≤ 255) : 0 ≤ hardI b s ∧ hardI b s ≤ 255 := by
  unfold hardI
  split
  · exact mul255_range h1 h2 (by omega) (by omega)
  · have := mul255_range (a := 255 - b) (b := 2 * (255 - s)) (by omega) (by omega) (by omega) (by omega)
    omega
theorem modeI_range {k : Nat} {b s : Int} (hk : k < 12) (h1 : 0 ≤ b) (h2 : b ≤ 255) (h3 : 0 ≤ s) (h4 : s ≤ 255) : 0 ≤ modeI k b s ∧ modeI k b s ≤ 255 := by
  match k, hk with
  | 0, _ => exact ⟨h3, h4⟩
  | 1, _ => exact mul255_range h1 h2 h3 h4
  | 2, _ =>
    have := mul255_range (a := 255 - b) (b := 255 - s) (by omega) (by omega) (by omega) (by omega)
    simp only [modeI]; omega
  | 3, _ => exact hard_range h3 h4 h1 h2
  | 4, _ => simp only [modeI]; split <;> omega
  | 5, _ => simp only [modeI]; split <;> omega
  | 6, _ =>
    simp only [modeI, dodgeI]
    split
    · omega
    · split
      · omega
      · exact nr_le_255 (by omega) (by omega) (by omega)
  | 7, _ =>
    simp only [modeI, burnI]
    split
    · omega
    · split
      · omega
      · have := nr_le_255 (a := 255 * (255 - b)) (b := s) (by omega) (by omega) (by omega)
        omega
  | 8, _ => exact hard_range h1 h2 h3 h4
  | 9, _ =>
    obtain ⟨_, _, _, _, _, _, k7, k8⟩ := soft_bounds h1 h2 h3 h4
    exact nr_le_255 (by omega) k7 k8
  | 10, _ => simp only [modeI]; split <;> omega
  | 11, _ =>
    have e1 : 2 * b * s = 2 * (b * s) := by grind
    obtain ⟨p1, p2⟩ := pbound h1 h2 h3 h4
    have r := nr_spec (2 * b * s) 255 (by omega)
    have p3 : b * s ≤ 255 * s := Int.mul_le_mul_of_nonneg_right h2 h3
    have p4 : b * s ≤ b * 255 := Int.mul_le_mul_of_nonneg_left h4 h1
    have e5 : (255 - b) * (255 - s) = 65025 - 255 * b - 255 * s + b * s := by grind
    have p5 : 0 ≤ (255 - b) * (255 - s) := Int.mul_nonneg (by omega) (by omega)
    simp only [modeI]
    omega

/-- The array of the modes' functions. -/
def modesV : Value := .agg #[.func (.func (modeF 0)) #[] #[], .func (.func (modeF 1)) #[] #[], .func (.func (modeF 2)) #[] #[], .func (.func (modeF 3)) #[] #[], .func (.func (modeF 4)) #[] #[], .func (.func (modeF 5)) #[] #[], .func (.func (modeF 6)) #[] #[], .func (.func (modeF 7)) #[] #[], .func (.func (modeF 8)) #[] #[], .func (.func (modeF 9)) #[] #[], .func (.func (modeF 10)) #[] #[], .func (.func (modeF 11)) #[] #[]]
set_option maxRecDepth 100000 in
theorem modes_any (w : World) : Calls Try.prog 84 #[] w fun e w' => e = .returned modesV ∧ Grown w w' := by
  go_enter Try.func84, Try.ntmps84
  go_wp2
  go_returns
  exact ⟨rfl, by go_grown⟩
theorem modes_index : ∀ (k : Nat) (w : World), k < 12 → (Instr.index 124 modesV (.int .i64 k)).run Try.prog w = .ok (.func (.func (modeF k)) #[] #[]) w
  | 0, _, _ => by kernel_rfl
  | 1, _, _ => by kernel_rfl
  | 2, _, _ => by kernel_rfl
  | 3, _, _ => by kernel_rfl
  | 4, _, _ => by kernel_rfl
  | 5, _, _ => by kernel_rfl
  | 6, _, _ => by kernel_rfl
  | 7, _, _ => by kernel_rfl
  | 8, _, _ => by kernel_rfl
  | 9, _, _ => by kernel_rfl
  | 10, _, _ => by kernel_rfl
  | 11, _, _ => by kernel_rfl
  | n + 12, _, h => absurd h (by omega)
/-- blend.Mode hands out a closure over a cell that holds the mode's function. -/
theorem mode_any (k : Nat) (w : World) (hk : k < 12) :
    Calls Try.prog 79 #[.int .i64 k] w fun e w' => ∃ p : Addr, e = .returned (.tuple #[.func (.func 85) #[] #[.pointer (some p)], .int .i64 0]) ∧
      w'.cell? p = some (.func (.func (modeF k)) #[] #[]) ∧ Grown w w' := by
  have hx := fun w => modes_index k w hk
  go_enter Try.func79, Try.ntmps79
  go_wp2_with fail
  refine (modes_any _).mono ?_
  rintro e w1 ⟨rfl, hg⟩
  go_wp2
  go_ret2
  exact ⟨_, rfl, by simp [go_sem], by go_grown⟩

theorem modes_call : ∀ (k : Nat), k < 12 → ∀ (args : Array Value) (w : World), Sem.run Try.prog (callFunc (modeF k) args) w = .ok (.enter (modeF k) args) w
  | 0, _, _, _ => by kernel_rfl
  | 1, _, _, _ => by kernel_rfl
  | 2, _, _, _ => by kernel_rfl
  | 3, _, _, _ => by kernel_rfl
  | 4, _, _, _ => by kernel_rfl
  | 5, _, _, _ => by kernel_rfl
  | 6, _, _, _ => by kernel_rfl
  | 7, _, _, _ => by kernel_rfl
  | 8, _, _, _ => by kernel_rfl
  | 9, _, _, _ => by kernel_rfl
  | 10, _, _, _ => by kernel_rfl
  | 11, _, _, _ => by kernel_rfl
  | n + 12, h, _, _ => absurd h (by omega)
/-- The closure of Mode. -/
theorem closure_any (k : Nat) (b s : Int) (p : Addr) (w : World) (hk : k < 12) (h1 : 0 ≤ b) (h2 : b ≤ 255) (h3 : 0 ≤ s) (h4 : s ≤ 255)
    (hc : w.cell? p = some (.func (.func (modeF k)) #[] #[])) :
    Calls Try.prog 85 #[.int .u8 b, .int .u8 s, .pointer (some p)] w fun e w' => e = .returned (.int .u8 (modeI k b s)) ∧ w = w' := by
  have hd := Lib.hid (does k hk)
  have hcf := modes_call k hk
  obtain ⟨r1, r2⟩ := modeI_range hk h1 h2 h3 h4
  generalize modeI k = f at *
  generalize modeF k = F at *
  go_enter Try.func85, Try.ntmps85
  go_wp2_with fail
  refine (hd.out _ _ _ h1 h2 h3 h4).mono ?_
  rintro e w1 ⟨rfl, rfl⟩
  go_wp2
  go_ret
  exact ⟨rfl, rfl⟩

end Go.Proofs.Ytmedlibkhlgdjaa.Blend
