/- printworkskeep1.BlendNeutral returns true for every amount, and leaves its argument as it was. -/
import Derived.Test.YtiicncaamlkkbaaRows
import Derived.WalkKit
import Derived.ProofKit
import Derived.OpenShut
import Derived.Test.YtiicncaamlkkbaaBlend
namespace Go.Proofs.Ytiicncaamlkkbaa.blendNeutral
open Go.ChangeShapes Go.WideShapes Go.ChangeAt Go.RowKit
set_option linter.unusedVariables false      -- a walk need not use every 'w<i>' (that an integer argument fits its kind)
open Num Blend
theorem m128 : modeI 1 128 128 = 64 := by decide
/-- The eight modes and their neutral sources. -/
def kd (k : Nat) : Nat := match k with | 0 => 1 | 1 => 2 | 2 => 4 | 3 => 5 | 4 => 6 | 5 => 7 | 6 => 10 | _ => 11
def sr (k : Nat) : Nat := match k with | 0 => 255 | 1 => 0 | 2 => 255 | 3 => 0 | 4 => 0 | 5 => 255 | 6 => 0 | _ => 0
theorem kd_lt (k : Nat) : kd k < 12 := by unfold kd; split <;> omega
theorem sr_le (k : Nat) : sr k ≤ 255 := by unfold sr; split <;> omega
def tab : Value := .agg #[.int .i64 1, .int .i64 255, .int .i64 2, .int .i64 0, .int .i64 4, .int .i64 255, .int .i64 5, .int .i64 0, .int .i64 6, .int .i64 0, .int .i64 7, .int .i64 255, .int .i64 10, .int .i64 0, .int .i64 11, .int .i64 0]
theorem neutral : ∀ k : Nat, k < 8 → ∀ b : Int, 0 ≤ b → b ≤ 255 → modeI (kd k) b (sr k) = b
  | 0, _, b, h1, h2 => by
    show mul255 b 255 = b
    have := nr_spec (b * 255) 255 (by omega); unfold mul255; omega
  | 1, _, b, h1, h2 => by
    show 255 - mul255 (255 - b) 255 = b
    have := nr_spec ((255 - b) * 255) 255 (by omega); unfold mul255; omega
  | 2, _, b, h1, h2 => by
    show (if b ≤ 255 then b else 255) = b
    rw [if_pos h2]
  | 3, _, b, h1, h2 => by
    show (if b ≤ 0 then 0 else b) = b
    split <;> omega
  | 4, _, b, h1, h2 => by
    show dodgeI b 0 = b
    unfold dodgeI
    split
    · omega
    · split
      · omega
      · have := nr_spec (255 * b) (255 - 0) (by omega); omega
  | 5, _, b, h1, h2 => by
    show burnI b 255 = b
    unfold burnI
    split
    · omega
    · split
      · omega
      · have := nr_spec (255 * (255 - b)) 255 (by omega); omega
  | 6, _, b, h1, h2 => by
    show (if b ≤ 0 then 0 - b else b - 0) = b
    split <;> omega
  | 7, _, b, h1, h2 => by
    show b + 0 - nr (2 * b * 0) 255 = b
    have := nr_spec (2 * b * 0) 255 (by omega); omega
  | n + 8, h, _, _, _ => absurd h (by omega)
theorem idx : ∀ (k : Nat) (w : World), k < 8 → (Instr.index 63 tab (.int .i64 k)).run Try.prog w = .ok (.agg #[.int .i64 (kd k), .int .i64 (sr k)]) w
  | 0, _, _ => by kernel_rfl
  | 1, _, _ => by kernel_rfl
  | 2, _, _ => by kernel_rfl
  | 3, _, _ => by kernel_rfl
  | 4, _, _ => by kernel_rfl
  | 5, _, _ => by kernel_rfl
  | 6, _, _ => by kernel_rfl
  | 7, _, _ => by kernel_rfl
  | n + 8, _, h => absurd h (by omega)
set_option maxRecDepth 100000 in
set_option maxHeartbeats 1000000 in

theorem walk (a0 : Int) (w0 : (Lit.int .u8 a0).wf = true) (w : World) :
    Calls Try.prog 12 #[.int .u8 a0] w fun e w' => e = .returned (.bool true) ∧ Grown w w' := by
  obtain ⟨h1, h2⟩ := bounds_u8 w0
  clear w0
  go_enter Try.func12, Try.ntmps12
  go_wp2_with fail
  refine (keep_mode 1 _ (by omega)).mono ?_
  rintro e w2 ⟨p2, rfl, hc2, hg2⟩
  go_wp2_with fail
  refine (closure_any 1 128 128 p2 _ (by omega) (by omega) (by omega) (by omega) (by omega) hc2).mono ?_
  rintro e w' ⟨rfl, rfl⟩
  rw [m128]
  clear hc2
  go_wp2_with fail
  go_loopw [4, 17] (fun _ i wr => ∃ k : Nat, k ≤ 8 ∧ i = .int .i64 k ∧ Grown w wr) (fun _ i _ => 8 - (intOf i).toNat)
  case atStart => exact ⟨0, Nat.zero_le _, rfl, hg2⟩
  case round =>
    obtain ⟨k, hk, rfl, hgr⟩ := hrel
    by_cases hlt : k < 8
    · have hx := fun w => idx k w hlt
      unfold tab at hx
      have hs := sr_le k
      have hkd := kd_lt k
      have hn := Lib.hid (neutral k hlt a0 h1 h2)
      generalize sr k = s at *
      generalize kd k = kk at *
      have e8 : IntKind.u8.wrap (s : Int) = s := IntWalk.u8_in _ (by omega)
      have e9 : (s : Int) % 256 = s := by omega
      go_wp2_with fail
      go_region_held3 (fun w' => w'.cell? ⟨wr.heap.size, 0, none⟩ = some (.int .i64 kk) ∧ w'.cell? ⟨wr.heap.size, 1, none⟩ = some (.int .i64 s))
        (first | (go_split_ands; refine ⟨?_, ?_⟩ <;> assumption) | (go_split_ands; refine ⟨gcell hg3 ?_, gcell hg3 ?_⟩ <;> assumption) | (simp [go_sem]))
        (first
          | (go_at_call 25; (with_reducible refine (keep_mode kk _ hkd).mono ?_); rintro e w3 ⟨p3, rfl, hc3, hg3⟩)
          | (go_at_call 54; (with_reducible refine (closure_any kk a0 s p3 _ hkd h1 h2 (by omega) (by omega) hc3).mono ?_); rintro e w4 ⟨he, rfl⟩; rw [hn.out] at he; subst he))
      go_wp2
      go_goals
      go_roundw
      case rel => exact ⟨k + 1, by omega, by go_num, gtrans hgr (gtrans (by go_grown) hg3)⟩
      case measure => simp [intOf]; omega
    · go_wp2
      go_ret
      exact ⟨rfl, hgr⟩
end Go.Proofs.Ytiicncaamlkkbaa.blendNeutral
