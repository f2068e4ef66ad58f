/- printworkskeep1.BlendDuals returns true for every two amounts, and leaves its arguments as they were. -/
import Derived.Test.YtiicncaamlkkbaaRows
import Derived.WalkKit
import Derived.ProofKit
import Derived.OpenShut
import Derived.Test.YtiicncaamlkkbaaBlend
namespace Go.Proofs.Ytiicncaamlkkbaa.blendDuals
open Go.ChangeShapes Go.WideShapes Go.ChangeAt Go.RowKit
set_option linter.unusedVariables false      -- a walk need not use every 'w<i>' (that an integer argument fits its kind)
open Num Blend
theorem m128 : modeI 1 128 128 = 64 := by decide
/-- The three pairs of modes. -/
def k0 (k : Nat) : Nat := match k with | 0 => 2 | 1 => 5 | _ => 7
def k1 (k : Nat) : Nat := match k with | 0 => 1 | 1 => 4 | _ => 6
theorem k0_lt (k : Nat) : k0 k < 12 := by unfold k0; split <;> omega
theorem k1_lt (k : Nat) : k1 k < 12 := by unfold k1; split <;> omega
def tab : Value := .agg #[.int .i64 2, .int .i64 1, .int .i64 5, .int .i64 4, .int .i64 7, .int .i64 6]
theorem duals : ∀ k : Nat, k < 3 → ∀ b s : Int, 0 ≤ b → b ≤ 255 → 0 ≤ s → s ≤ 255 → modeI (k0 k) b s = 255 - modeI (k1 k) (255 - b) (255 - s)
  | 0, _, b, s, _, _, _, _ => rfl
  | 1, _, b, s, _, _, _, _ => by
    show (if b ≤ s then s else b) = 255 - (if 255 - b ≤ 255 - s then 255 - b else 255 - s)
    split <;> split <;> omega
  | 2, _, b, s, _, _, _, _ => by
    show burnI b s = 255 - dodgeI (255 - b) (255 - s)
    unfold burnI dodgeI
    by_cases h1 : b = 255
    · rw [if_pos h1, if_pos (by omega)]; rfl
    · rw [if_neg h1, if_neg (show ¬ 255 - b = 0 by omega)]
      by_cases h2 : s ≤ 255 - b
      · rw [if_pos h2, if_pos (by omega)]; rfl
      · rw [if_neg h2, if_neg (by omega), show (255 : Int) - (255 - s) = s by omega]
  | n + 3, h, _, _, _, _, _, _ => absurd h (by omega)
theorem idx : ∀ (k : Nat) (w : World), k < 3 → (Instr.index 61 tab (.int .i64 k)).run Try.prog w = .ok (.agg #[.int .i64 (k0 k), .int .i64 (k1 k)]) w
  | 0, _, _ => by kernel_rfl
  | 1, _, _ => by kernel_rfl
  | 2, _, _ => by kernel_rfl
  | n + 3, _, h => absurd h (by omega)
theorem over_hard (b s : Int) : modeI 3 b s = modeI 8 s b := rfl
set_option maxRecDepth 100000 in
set_option maxHeartbeats 1000000 in

theorem walk (a0 : Int) (a1 : Int) (w0 : (Lit.int .u8 a0).wf = true) (w1 : (Lit.int .u8 a1).wf = true) (w : World) :
    Calls Try.prog 11 #[.int .u8 a0, .int .u8 a1] w fun e w' => e = .returned (.bool true) ∧ Grown w w' := by
  obtain ⟨h1, h2⟩ := bounds_u8 w0
  obtain ⟨h3, h4⟩ := bounds_u8 w1
  clear w0 w1
  go_enter Try.func11, Try.ntmps11
  go_wp2_with fail
  refine (keep_mode 1 _ (by omega)).mono ?_
  rintro e w2 ⟨p2, rfl, hc2, hg2⟩
  go_wp2_with fail
  refine (closure_any 1 128 128 p2 _ (by omega) (by omega) (by omega) (by omega) (by omega) hc2).mono ?_
  rintro e w' ⟨rfl, rfl⟩
  rw [m128]
  clear hc2
  go_wp2_with fail
  go_loopw [6, 14] (fun _ i wr => ∃ k : Nat, k ≤ 3 ∧ i = .int .i64 k ∧ Grown w wr) (fun _ i _ => 3 - (intOf i).toNat)
  case atStart => exact ⟨0, Nat.zero_le _, rfl, hg2⟩
  case round =>
    obtain ⟨k, hk, rfl, hgr⟩ := hrel
    by_cases hlt : k < 3
    · have hx := fun w => idx k w hlt
      unfold tab at hx
      have hk0 := k0_lt k
      have hk1 := k1_lt k
      have hn := Lib.hid (duals k hlt a0 a1 h1 h2 h3 h4)
      obtain ⟨m1, m2⟩ := modeI_range (b := 255 - a0) (s := 255 - a1) hk1 (by omega) (by omega) (by omega) (by omega)
      generalize k0 k = u at *
      generalize k1 k = v at *
      have e1 : IntKind.u8.wrap (255 - a0) = 255 - a0 := IntWalk.u8_in _ (by omega)
      have e2 : IntKind.u8.wrap (255 - a1) = 255 - a1 := IntWalk.u8_in _ (by omega)
      have e3 : IntKind.u8.wrap (255 - modeI v (255 - a0) (255 - a1)) = 255 - modeI v (255 - a0) (255 - a1) := IntWalk.u8_in _ (by omega)
      have e4 : (255 - a0) % 256 = 255 - a0 := by omega
      have e5 : (255 - a1) % 256 = 255 - a1 := by omega
      have e6 : (255 - modeI v (255 - a0) (255 - a1)) % 256 = 255 - modeI v (255 - a0) (255 - a1) := by omega
      go_wp2_with fail
      go_region_held3 (fun w' => w'.cell? ⟨wr.heap.size, 0, none⟩ = some (.int .i64 u) ∧ w'.cell? ⟨wr.heap.size, 1, none⟩ = some (.int .i64 v))
        (first | (go_split_ands; refine ⟨?_, ?_⟩ <;> assumption) | (go_split_ands; refine ⟨gcell hg4 ?_, gcell hg4 ?_⟩ <;> assumption) | (go_split_ands; refine ⟨gcell hg3 ?_, gcell hg3 ?_⟩ <;> assumption) | (simp [go_sem]))
        (first
          | (go_at_call 25; (with_reducible refine (keep_mode u _ hk0).mono ?_); rintro e w3 ⟨p3, rfl, hc3, hg3⟩)
          | (go_at_call 25; (with_reducible refine (keep_mode v _ hk1).mono ?_); rintro e w4 ⟨p4, rfl, hc4, hg4⟩)
          | (go_at_call 54; (with_reducible refine (closure_any u a0 a1 p3 _ hk0 h1 h2 h3 h4 hc3).mono ?_); rintro e w5 ⟨he, rfl⟩; rw [hn.out] at he; subst he)
          | (go_at_call 54; (with_reducible refine (closure_any v (255 - a0) (255 - a1) p4 _ hk1 (by omega) (by omega) (by omega) (by omega) hc4).mono ?_); rintro e w6 ⟨rfl, rfl⟩))
      go_wp2
      go_roundw
      case rel => exact ⟨k + 1, by omega, by go_num, gtrans hgr (gtrans (by go_grown) (gtrans hg3 hg4))⟩
      case measure => simp [intOf]; omega
    · go_wp2_with fail
      refine (keep_mode 3 _ (by omega)).mono ?_
      rintro e w3 ⟨p3, rfl, hc3, hg3⟩
      go_wp2_with fail
      refine (closure_any 3 a0 a1 p3 _ (by omega) h1 h2 h3 h4 hc3).mono ?_
      rintro e w' ⟨rfl, rfl⟩
      go_wp2_with fail
      refine (keep_mode 8 _ (by omega)).mono ?_
      rintro e w4 ⟨p4, rfl, hc4, hg4⟩
      go_wp2_with fail
      refine (closure_any 8 a1 a0 p4 _ (by omega) h3 h4 h1 h2 hc4).mono ?_
      rintro e w' ⟨rfl, rfl⟩
      rw [over_hard]
      go_wp2
      go_ret
      exact ⟨rfl, gtrans hgr (gtrans hg3 hg4)⟩
end Go.Proofs.Ytiicncaamlkkbaa.blendDuals
