/- Package blend, by the evaluation: Mode, Inks and the closures that they hand out. -/
import Derived.Test.YtmedlibkhlgdjaaSxx
import Derived.Test.YtmedlibkhlgdjaaAff
import Derived.Test.YtmedlibkhlgdjaaBlend
namespace Go.Proofs.Ytmedlibkhlgdjaa.Ble
open Go.RowKit Sx Num Aff Blend
set_option maxRecDepth 100000
theorem u8w {x : Int} (h1 : 0 ≤ x) (h2 : x ≤ 255) : IntKind.u8.wrap x = x := by
  rw [IntKind.wrap_u8]; omega
/-- A function without captured variables. -/
def fnS (F : Nat) : SV := .fn F 0 (lst [])
def mode1S (F : Nat) : SV := .fn 85 1 (lst [.ref 1 (lst [fnS F])])
def inks1S (F : Nat) : SV := .fn 80 1 (lst [.ref 1 (lst [mode1S F])])
def spModes : FSpec := mkSpec 84 (γ := Unit) (fun _ => some ()) (fun _ => []) (fun _ => True) (fun _ => .agg 12 (lst [fnS (modeF 0), fnS (modeF 1), fnS (modeF 2), fnS (modeF 3), fnS (modeF 4), fnS (modeF 5), fnS (modeF 6), fnS (modeF 7), fnS (modeF 8), fnS (modeF 9), fnS (modeF 10), fnS (modeF 11)]))
theorem ok_modes : SpecOK Try.prog spModes := by
  refine spec_sound (specs := []) (all_ok trivial) (eqs := []) (fun _ _ h => (List.not_mem_nil h).elim) mixed Try.func84 rfl (by kernel_rfl) (fun _ _ => by kernel_rfl) (fun _ => A0) (fun g => Nat.le_of_ble_eq_true (by kernel_rfl)) ?_
  intro _ _
  refine vc_of (B := True ∧ True ∧ True ∧ (True ∧ True) ∧ (((((((((((True ∧ Sx.Ask ((87 : Nat) = Go.Proofs.Ytmedlibkhlgdjaa.Blend.modeF (0 : Nat)) ∧ True) ∧ Sx.Ask ((88 : Nat) = Go.Proofs.Ytmedlibkhlgdjaa.Blend.modeF (1 : Nat)) ∧ True) ∧ Sx.Ask ((89 : Nat) = Go.Proofs.Ytmedlibkhlgdjaa.Blend.modeF (2 : Nat)) ∧ True) ∧ Sx.Ask ((90 : Nat) = Go.Proofs.Ytmedlibkhlgdjaa.Blend.modeF (3 : Nat)) ∧ True) ∧ Sx.Ask ((92 : Nat) = Go.Proofs.Ytmedlibkhlgdjaa.Blend.modeF (4 : Nat)) ∧ True) ∧ Sx.Ask ((93 : Nat) = Go.Proofs.Ytmedlibkhlgdjaa.Blend.modeF (5 : Nat)) ∧ True) ∧ Sx.Ask ((94 : Nat) = Go.Proofs.Ytmedlibkhlgdjaa.Blend.modeF (6 : Nat)) ∧ True) ∧ Sx.Ask ((95 : Nat) = Go.Proofs.Ytmedlibkhlgdjaa.Blend.modeF (7 : Nat)) ∧ True) ∧ Sx.Ask ((91 : Nat) = Go.Proofs.Ytmedlibkhlgdjaa.Blend.modeF (8 : Nat)) ∧ True) ∧ Sx.Ask ((96 : Nat) = Go.Proofs.Ytmedlibkhlgdjaa.Blend.modeF (9 : Nat)) ∧ True) ∧ Sx.Ask ((97 : Nat) = Go.Proofs.Ytmedlibkhlgdjaa.Blend.modeF (10 : Nat)) ∧ True) ∧ Sx.Ask ((98 : Nat) = Go.Proofs.Ytmedlibkhlgdjaa.Blend.modeF (11 : Nat)) ∧ True) (by kernel_rfl) ?_
  simp [ask_iff, br_iff, modeF]
def spMode : FSpec := mkSpec 79 (γ := Int) (fun | [.int _ k] => some k | _ => none) (fun k => [.int .i64 k]) (fun k => 0 ≤ k ∧ k ≤ 11) (fun k => .tup 2 (lst [mode1S (modeF k.toNat), .int .i64 0]))
theorem ok_mode : SpecOK Try.prog spMode := by
  refine spec_sound (specs := [spModes]) (all_ok (⟨ok_modes, trivial⟩)) (eqs := []) (fun _ _ h => (List.not_mem_nil h).elim) mixed Try.func79 rfl (by kernel_rfl) (fun _ _ => by kernel_rfl) (fun _ => A0) (fun g => Nat.le_of_ble_eq_true (by kernel_rfl)) ?_
  rintro k ⟨h1, h2⟩
  have h : k = 0 ∨ k = 1 ∨ k = 2 ∨ k = 3 ∨ k = 4 ∨ k = 5 ∨ k = 6 ∨ k = 7 ∨ k = 8 ∨ k = 9 ∨ k = 10 ∨ k = 11 := by omega
  rcases h with rfl | rfl | rfl | rfl | rfl | rfl | rfl | rfl | rfl | rfl | rfl | rfl
  · clear h1 h2
    refine vc_of (B := True ∧ True ∧ True ∧ True ∧ True ∧ True ∧ True ∧ True ∧ (True ∧ Sx.Ask True) ∧ True ∧ Sx.Ask ((0 : Int) ≤ (0 : Int) ∧ (0 : Int) < ↑(12 : Nat)) ∧ True ∧ True ∧ True ∧ True ∧ True ∧ True ∧ (True ∧ Sx.Ask ((85 : Nat) = (85 : Go.FuncId)) ∧ True ∧ True ∧ Sx.Ask (Go.Proofs.Ytmedlibkhlgdjaa.Blend.modeF (0 : Nat) = Go.Proofs.Ytmedlibkhlgdjaa.Blend.modeF (Int.toNat (0 : Int))) ∧ True) ∧ Sx.Ask (IntKind.i64 = IntKind.i64) ∧ Sx.Ask ((0 : Int) = (0 : Int))) (by kernel_rfl) ?_
    simp [ask_iff, br_iff, modeF]
  · clear h1 h2
    refine vc_of (B := True ∧ True ∧ True ∧ True ∧ True ∧ True ∧ True ∧ True ∧ (True ∧ Sx.Ask True) ∧ True ∧ Sx.Ask ((0 : Int) ≤ (1 : Int) ∧ (1 : Int) < ↑(12 : Nat)) ∧ True ∧ True ∧ True ∧ True ∧ True ∧ True ∧ (True ∧ Sx.Ask ((85 : Nat) = (85 : Go.FuncId)) ∧ True ∧ True ∧ Sx.Ask (Go.Proofs.Ytmedlibkhlgdjaa.Blend.modeF (1 : Nat) = Go.Proofs.Ytmedlibkhlgdjaa.Blend.modeF (Int.toNat (1 : Int))) ∧ True) ∧ Sx.Ask (IntKind.i64 = IntKind.i64) ∧ Sx.Ask ((0 : Int) = (0 : Int))) (by kernel_rfl) ?_
    simp [ask_iff, br_iff, modeF]
  · clear h1 h2
    refine vc_of (B := True ∧ True ∧ True ∧ True ∧ True ∧ True ∧ True ∧ True ∧ (True ∧ Sx.Ask True) ∧ True ∧ Sx.Ask ((0 : Int) ≤ (2 : Int) ∧ (2 : Int) < ↑(12 : Nat)) ∧ True ∧ True ∧ True ∧ True ∧ True ∧ True ∧ (True ∧ Sx.Ask ((85 : Nat) = (85 : Go.FuncId)) ∧ True ∧ True ∧ Sx.Ask (Go.Proofs.Ytmedlibkhlgdjaa.Blend.modeF (2 : Nat) = Go.Proofs.Ytmedlibkhlgdjaa.Blend.modeF (Int.toNat (2 : Int))) ∧ True) ∧ Sx.Ask (IntKind.i64 = IntKind.i64) ∧ Sx.Ask ((0 : Int) = (0 : Int))) (by kernel_rfl) ?_
    simp [ask_iff, br_iff, modeF]
  · clear h1 h2
    refine vc_of (B := True ∧ True ∧ True ∧ True ∧ True ∧ True ∧ True ∧ True ∧ (True ∧ Sx.Ask True) ∧ True ∧ Sx.Ask ((0 : Int) ≤ (3 : Int) ∧ (3 : Int) < ↑(12 : Nat)) ∧ True ∧ True ∧ True ∧ True ∧ True ∧ True ∧ (True ∧ Sx.Ask ((85 : Nat) = (85 : Go.FuncId)) ∧ True ∧ True ∧ Sx.Ask (Go.Proofs.Ytmedlibkhlgdjaa.Blend.modeF (3 : Nat) = Go.Proofs.Ytmedlibkhlgdjaa.Blend.modeF (Int.toNat (3 : Int))) ∧ True) ∧ Sx.Ask (IntKind.i64 = IntKind.i64) ∧ Sx.Ask ((0 : Int) = (0 : Int))) (by kernel_rfl) ?_
    simp [ask_iff, br_iff, modeF]
  · clear h1 h2
    refine vc_of (B := True ∧ True ∧ True ∧ True ∧ True ∧ True ∧ True ∧ True ∧ (True ∧ Sx.Ask True) ∧ True ∧ Sx.Ask ((0 : Int) ≤ (4 : Int) ∧ (4 : Int) < ↑(12 : Nat)) ∧ True ∧ True ∧ True ∧ True ∧ True ∧ True ∧ (True ∧ Sx.Ask ((85 : Nat) = (85 : Go.FuncId)) ∧ True ∧ True ∧ Sx.Ask (Go.Proofs.Ytmedlibkhlgdjaa.Blend.modeF (4 : Nat) = Go.Proofs.Ytmedlibkhlgdjaa.Blend.modeF (Int.toNat (4 : Int))) ∧ True) ∧ Sx.Ask (IntKind.i64 = IntKind.i64) ∧ Sx.Ask ((0 : Int) = (0 : Int))) (by kernel_rfl) ?_
    simp [ask_iff, br_iff, modeF]
  · clear h1 h2
    refine vc_of (B := True ∧ True ∧ True ∧ True ∧ True ∧ True ∧ True ∧ True ∧ (True ∧ Sx.Ask True) ∧ True ∧ Sx.Ask ((0 : Int) ≤ (5 : Int) ∧ (5 : Int) < ↑(12 : Nat)) ∧ True ∧ True ∧ True ∧ True ∧ True ∧ True ∧ (True ∧ Sx.Ask ((85 : Nat) = (85 : Go.FuncId)) ∧ True ∧ True ∧ Sx.Ask (Go.Proofs.Ytmedlibkhlgdjaa.Blend.modeF (5 : Nat) = Go.Proofs.Ytmedlibkhlgdjaa.Blend.modeF (Int.toNat (5 : Int))) ∧ True) ∧ Sx.Ask (IntKind.i64 = IntKind.i64) ∧ Sx.Ask ((0 : Int) = (0 : Int))) (by kernel_rfl) ?_
    simp [ask_iff, br_iff, modeF]
  · clear h1 h2
    refine vc_of (B := True ∧ True ∧ True ∧ True ∧ True ∧ True ∧ True ∧ True ∧ (True ∧ Sx.Ask True) ∧ True ∧ Sx.Ask ((0 : Int) ≤ (6 : Int) ∧ (6 : Int) < ↑(12 : Nat)) ∧ True ∧ True ∧ True ∧ True ∧ True ∧ True ∧ (True ∧ Sx.Ask ((85 : Nat) = (85 : Go.FuncId)) ∧ True ∧ True ∧ Sx.Ask (Go.Proofs.Ytmedlibkhlgdjaa.Blend.modeF (6 : Nat) = Go.Proofs.Ytmedlibkhlgdjaa.Blend.modeF (Int.toNat (6 : Int))) ∧ True) ∧ Sx.Ask (IntKind.i64 = IntKind.i64) ∧ Sx.Ask ((0 : Int) = (0 : Int))) (by kernel_rfl) ?_
    simp [ask_iff, br_iff, modeF]
  · clear h1 h2
    refine vc_of (B := True ∧ True ∧ True ∧ True ∧ True ∧ True ∧ True ∧ True ∧ (True ∧ Sx.Ask True) ∧ True ∧ Sx.Ask ((0 : Int) ≤ (7 : Int) ∧ (7 : Int) < ↑(12 : Nat)) ∧ True ∧ True ∧ True ∧ True ∧ True ∧ True ∧ (True ∧ Sx.Ask ((85 : Nat) = (85 : Go.FuncId)) ∧ True ∧ True ∧ Sx.Ask (Go.Proofs.Ytmedlibkhlgdjaa.Blend.modeF (7 : Nat) = Go.Proofs.Ytmedlibkhlgdjaa.Blend.modeF (Int.toNat (7 : Int))) ∧ True) ∧ Sx.Ask (IntKind.i64 = IntKind.i64) ∧ Sx.Ask ((0 : Int) = (0 : Int))) (by kernel_rfl) ?_
    simp [ask_iff, br_iff, modeF]
  · clear h1 h2
    refine vc_of (B := True ∧ True ∧ True ∧ True ∧ True ∧ True ∧ True ∧ True ∧ (True ∧ Sx.Ask True) ∧ True ∧ Sx.Ask ((0 : Int) ≤ (8 : Int) ∧ (8 : Int) < ↑(12 : Nat)) ∧ True ∧ True ∧ True ∧ True ∧ True ∧ True ∧ (True ∧ Sx.Ask ((85 : Nat) = (85 : Go.FuncId)) ∧ True ∧ True ∧ Sx.Ask (Go.Proofs.Ytmedlibkhlgdjaa.Blend.modeF (8 : Nat) = Go.Proofs.Ytmedlibkhlgdjaa.Blend.modeF (Int.toNat (8 : Int))) ∧ True) ∧ Sx.Ask (IntKind.i64 = IntKind.i64) ∧ Sx.Ask ((0 : Int) = (0 : Int))) (by kernel_rfl) ?_
    simp [ask_iff, br_iff, modeF]
  · clear h1 h2
    refine vc_of (B := True ∧ True ∧ True ∧ True ∧ True ∧ True ∧ True ∧ True ∧ (True ∧ Sx.Ask True) ∧ True ∧ Sx.Ask ((0 : Int) ≤ (9 : Int) ∧ (9 : Int) < ↑(12 : Nat)) ∧ True ∧ True ∧ True ∧ True ∧ True ∧ True ∧ (True ∧ Sx.Ask ((85 : Nat) = (85 : Go.FuncId)) ∧ True ∧ True ∧ Sx.Ask (Go.Proofs.Ytmedlibkhlgdjaa.Blend.modeF (9 : Nat) = Go.Proofs.Ytmedlibkhlgdjaa.Blend.modeF (Int.toNat (9 : Int))) ∧ True) ∧ Sx.Ask (IntKind.i64 = IntKind.i64) ∧ Sx.Ask ((0 : Int) = (0 : Int))) (by kernel_rfl) ?_
    simp [ask_iff, br_iff, modeF]
  · clear h1 h2
    refine vc_of (B := True ∧ True ∧ True ∧ True ∧ True ∧ True ∧ True ∧ True ∧ (True ∧ Sx.Ask True) ∧ True ∧ Sx.Ask ((0 : Int) ≤ (10 : Int) ∧ (10 : Int) < ↑(12 : Nat)) ∧ True ∧ True ∧ True ∧ True ∧ True ∧ True ∧ (True ∧ Sx.Ask ((85 : Nat) = (85 : Go.FuncId)) ∧ True ∧ True ∧ Sx.Ask (Go.Proofs.Ytmedlibkhlgdjaa.Blend.modeF (10 : Nat) = Go.Proofs.Ytmedlibkhlgdjaa.Blend.modeF (Int.toNat (10 : Int))) ∧ True) ∧ Sx.Ask (IntKind.i64 = IntKind.i64) ∧ Sx.Ask ((0 : Int) = (0 : Int))) (by kernel_rfl) ?_
    simp [ask_iff, br_iff, modeF]
  · clear h1 h2
    refine vc_of (B := True ∧ True ∧ True ∧ True ∧ True ∧ True ∧ True ∧ True ∧ (True ∧ Sx.Ask True) ∧ True ∧ Sx.Ask ((0 : Int) ≤ (11 : Int) ∧ (11 : Int) < ↑(12 : Nat)) ∧ True ∧ True ∧ True ∧ True ∧ True ∧ True ∧ (True ∧ Sx.Ask ((85 : Nat) = (85 : Go.FuncId)) ∧ True ∧ True ∧ Sx.Ask (Go.Proofs.Ytmedlibkhlgdjaa.Blend.modeF (11 : Nat) = Go.Proofs.Ytmedlibkhlgdjaa.Blend.modeF (Int.toNat (11 : Int))) ∧ True) ∧ Sx.Ask (IntKind.i64 = IntKind.i64) ∧ Sx.Ask ((0 : Int) = (0 : Int))) (by kernel_rfl) ?_
    simp [ask_iff, br_iff, modeF]
def spInks : FSpec := mkSpec 67 (γ := Int) (fun | [.int _ k] => some k | _ => none) (fun k => [.int .i64 k]) (fun k => 0 ≤ k ∧ k ≤ 11) (fun k => inks1S (modeF k.toNat))
theorem ok_inks : SpecOK Try.prog spInks := by
  refine spec_sound (specs := [spMode]) (all_ok (⟨ok_mode, trivial⟩)) (eqs := []) (fun _ _ h => (List.not_mem_nil h).elim) mixed Try.func67 rfl (by kernel_rfl) (fun _ _ => by kernel_rfl) (fun _ => A0) (fun g => Nat.le_of_ble_eq_true (by kernel_rfl)) ?_
  rintro k ⟨h1, h2⟩
  refine vc_of (B := True ∧ True ∧ (((Sx.Ask (IntKind.i64 = IntKind.i64) ∧ Sx.Ask (k = k)) ∧ True) ∧ Sx.Ask ((0 : Int) ≤ k ∧ k ≤ (11 : Int))) ∧ True ∧ True ∧ True ∧ True ∧ True ∧ True ∧ True ∧ True ∧ True ∧ True ∧ True ∧ Sx.Ask ((80 : Nat) = (80 : Go.FuncId)) ∧ True ∧ True ∧ Sx.Ask ((85 : Go.FuncId) = (85 : Go.FuncId)) ∧ True ∧ True ∧ Sx.Ask (Go.Proofs.Ytmedlibkhlgdjaa.Blend.modeF k.toNat = Go.Proofs.Ytmedlibkhlgdjaa.Blend.modeF k.toNat) ∧ True) (by kernel_rfl) ?_
  simp [ask_iff, br_iff, h1, h2]
def kOf (F : Nat) : Nat := ((List.range 12).find? fun k => modeF k == F).getD 0
theorem kOf_modeF : ∀ k, k < 12 → kOf (modeF k) = k := by decide
def fnD : SV → Nat
  | .fn F _ _ => F
  | _ => 0
def caps : SV → Nat → SV
  | .fn _ _ g => g
  | .ref _ g => g
  | _ => fun _ => .any
def isMode (F : Nat) : Prop := ∃ k, k < 12 ∧ F = modeF k
def modeFI (F : Nat) (b s : Int) : Int := modeI (kOf F) b s
theorem modeFI_range {F : Nat} (h : isMode F) {b s : Int} (h1 : 0 ≤ b) (h2 : b ≤ 255) (h3 : 0 ≤ s) (h4 : s ≤ 255) : 0 ≤ modeFI F b s ∧ modeFI F b s ≤ 255 := by
  obtain ⟨k, hk, rfl⟩ := h
  unfold modeFI
  rw [kOf_modeF k hk]
  exact modeI_range hk h1 h2 h3 h4
def spMode1 : FSpec := mkSpec 85 (γ := Int × Int × Nat) (fun | [.int _ b, .int _ s, c] => some (b, s, fnD (caps c 0)) | _ => none) (fun g => [.int .u8 g.1, .int .u8 g.2.1, .ref 1 (lst [fnS g.2.2])])
  (fun g => ((0 ≤ g.1 ∧ g.1 ≤ 255) ∧ 0 ≤ g.2.1 ∧ g.2.1 ≤ 255) ∧ isMode g.2.2) (fun g => .int .u8 (modeFI g.2.2 g.1 g.2.1))
theorem ok_mode1 : SpecOK Try.prog spMode1 := by
  refine specOK_of (fun _ _ => by kernel_rfl) ?_
  rintro ⟨b, s, F⟩ ⟨⟨⟨h1, h2⟩, h3, h4⟩, k, hk, hF⟩ vals w X hsz hr hX
  simp only at h1 h2 h3 h4 hF
  subst hF
  have r0 := hr 0 (by simp)
  have r1 := hr 1 (by simp)
  have r2 := hr 2 (by simp)
  simp only [List.getD_cons_zero, List.getD_cons_succ] at r0 r1 r2
  generalize e0 : vals.getD 0 undef = v0 at r0
  generalize e1 : vals.getD 1 undef = v1 at r1
  generalize e2 : vals.getD 2 undef = v2 at r2
  cases r0
  cases r1
  cases r2
  rename_i bb o c T fr hb hnX hc ho hrr
  have hvals : vals = #[.int .u8 b, .int .u8 s, .pointer (some ⟨bb, o, none⟩)] := by
    obtain ⟨l⟩ := vals
    match l, hsz with
    | [x, y, z], _ => simp at e0 e1 e2; rw [e0, e1, e2]
  have hcell : w.cell? ⟨bb, o, none⟩ = some (.func (.func (modeF k)) #[] #[]) := by
    rw [cell_block hb (by omega)]
    have := hrr 0 (by omega)
    simp only [Nat.add_zero] at this
    generalize c.getD o undef = x at this
    cases this
    rename_i vs hs _
    simp [Array.size_eq_zero_iff.1 hs]
  rw [hvals]
  refine (closure_any k b s ⟨bb, o, none⟩ w hk h1 h2 h3 h4 hcell).mono ?_
  rintro e w' ⟨rfl, rfl⟩
  exact ⟨_, rfl, by simp only [modeFI, kOf_modeF k hk]; exact .int, Below.refl _ _⟩
def spInks1 : FSpec := mkSpec 80 (γ := Int × Int × Nat) (fun | [.int _ b, .int _ s, c] => some (b, s, fnD (caps (caps (caps c 0) 0) 0)) | _ => none) (fun g => [.int .u8 g.1, .int .u8 g.2.1, .ref 1 (lst [mode1S g.2.2])])
  (fun g => ((0 ≤ g.1 ∧ g.1 ≤ 255) ∧ 0 ≤ g.2.1 ∧ g.2.1 ≤ 255) ∧ isMode g.2.2) (fun g => .int .u8 (255 - modeFI g.2.2 (255 - g.1) (255 - g.2.1)))
theorem ok_inks1 : SpecOK Try.prog spInks1 := by
  refine spec_sound (specs := [spMode1]) (all_ok (⟨ok_mode1, trivial⟩)) (eqs := []) (fun _ _ h => (List.not_mem_nil h).elim) mixed Try.func80 rfl (by kernel_rfl) (fun _ _ => by kernel_rfl) (fun _ => A0) (fun g => Nat.le_of_ble_eq_true (by kernel_rfl)) ?_
  rintro ⟨b, s, F⟩ ⟨⟨⟨h1, h2⟩, h3, h4⟩, hF⟩
  simp only at h1 h2 h3 h4 hF
  have r := modeFI_range hF (b := 255 - b) (s := 255 - s) (by omega) (by omega) (by omega) (by omega)
  refine vc_of (B := True ∧ True ∧ True ∧ Sx.Ask True ∧ True ∧ Sx.Ask True ∧ (((Sx.Ask (IntKind.u8 = IntKind.u8) ∧ Sx.Ask (IntKind.u8.wrap ((255 : Int) - b) = IntKind.u8.wrap ((255 : Int) - b))) ∧ (Sx.Ask (IntKind.u8 = IntKind.u8) ∧ Sx.Ask (IntKind.u8.wrap ((255 : Int) - s) = IntKind.u8.wrap ((255 : Int) - s))) ∧ (True ∧ Sx.Ask (F = F) ∧ True) ∧ True) ∧ Sx.Ask ((((0 : Int) ≤ IntKind.u8.wrap ((255 : Int) - b) ∧ IntKind.u8.wrap ((255 : Int) - b) ≤ (255 : Int)) ∧ (0 : Int) ≤ IntKind.u8.wrap ((255 : Int) - s) ∧ IntKind.u8.wrap ((255 : Int) - s) ≤ (255 : Int)) ∧ isMode F)) ∧ Sx.Ask True ∧ True ∧ True ∧ Sx.Ask (IntKind.u8 = IntKind.u8) ∧ Sx.Ask (IntKind.u8.wrap ((255 : Int) - modeFI F (IntKind.u8.wrap ((255 : Int) - b)) (IntKind.u8.wrap ((255 : Int) - s))) = (255 : Int) - modeFI F ((255 : Int) - b) ((255 : Int) - s))) (by kernel_rfl) ?_
  simp only [u8w (x := 255 - b) (by omega) (by omega), u8w (x := 255 - s) (by omega) (by omega), u8w (x := 255 - modeFI F (255 - b) (255 - s)) (by omega) (by omega)]
  simp [ask_iff, br_iff, hF]
  omega
end Go.Proofs.Ytmedlibkhlgdjaa.Ble
