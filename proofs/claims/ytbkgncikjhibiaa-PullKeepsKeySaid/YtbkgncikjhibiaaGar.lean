/- Package flat: rows of cells, the pieces of a gatherer, Of: by the evaluation. -/
import Derived.Test.YtbkgncikjhibiaaGat
set_option linter.unusedSimpArgs false
set_option linter.unusedVariables false
namespace Go.Proofs.Ytbkgncikjhibiaa.Gar
open Go.RowKit Sx Num Aff Con Rga Gat
set_option maxRecDepth 100000
abbrev Vec := Nat → Int
/-- Where the run ends that begins at x. -/
def brkG (f : Nat → Vec) (len x : Nat) : Nat → Nat → Nat
  | 0, to => to
  | n + 1, to => if to < len ∧ kOf (f to) = kOf (f x) then brkG f len x n (to + 1) else to
def brk (f : Nat → Vec) (len x : Nat) : Nat := brkG f len x (len - (x + 1)) (x + 1)
theorem brkG_le (f : Nat → Vec) (len x : Nat) : ∀ n to, to ≤ len → to ≤ brkG f len x n to ∧ brkG f len x n to ≤ len
  | 0, to, h => ⟨Nat.le_refl _, h⟩
  | n + 1, to, h => by
    unfold brkG
    split
    · rename_i hc
      have := brkG_le f len x n (to + 1) hc.1
      exact ⟨by omega, this.2⟩
    · exact ⟨Nat.le_refl _, h⟩
theorem brkG_same (f : Nat → Vec) (len x : Nat) : ∀ n to, ∀ k, to ≤ k → k < brkG f len x n to → kOf (f k) = kOf (f x)
  | 0, to, k, h1, h2 => by simp only [brkG] at h2; omega
  | n + 1, to, k, h1, h2 => by
    unfold brkG at h2
    split at h2
    · rename_i hc
      by_cases hk : k = to
      · subst hk; exact hc.2
      · exact brkG_same f len x n (to + 1) k (by omega) h2
    · omega
theorem brkG_end (f : Nat → Vec) (len x : Nat) : ∀ n to, len ≤ to + n → to ≤ len → brkG f len x n to < len → kOf (f (brkG f len x n to)) ≠ kOf (f x)
  | 0, to, h, h2, h3 => by simp only [brkG] at h3; omega
  | n + 1, to, h, h2, h3 => by
    unfold brkG at h3 ⊢
    split at h3
    · rename_i hc
      rw [if_pos hc]
      exact brkG_end f len x n (to + 1) (by omega) hc.1 h3
    · rename_i hc
      rw [if_neg hc]
      exact fun he => hc ⟨h3, he⟩
theorem brk_ok {f : Nat → Vec} {len x : Nat} (h : x < len) : (x < brk f len x ∧ brk f len x ≤ len) ∧ (∀ k, x ≤ k → k < brk f len x → kOf (f k) = kOf (f x)) ∧ (brk f len x < len → kOf (f (brk f len x)) ≠ kOf (f x)) := by
  have h1 := brkG_le f len x (len - (x + 1)) (x + 1) h
  refine ⟨⟨by unfold brk; omega, h1.2⟩, fun k hk hb => ?_, fun hb => brkG_end f len x _ _ (by omega) h hb⟩
  by_cases hkx : k = x
  · rw [hkx]
  · exact brkG_same f len x _ _ k (by omega) hb
/-- What a row adds to a gatherer, from x on. -/
noncomputable def rowG (f : Nat → Vec) (y : Int) (len : Nat) : Nat → Nat → Gt → Gt
  | 0, _, G => G
  | n + 1, x, G => if x < len then rowG f y len n (brk f len x) (nxt G (f x) ⟨y, x, brk f len x⟩) else G
theorem rowG_fuel (f : Nat → Vec) (y : Int) (len : Nat) : ∀ n m x G, len ≤ x + n → len ≤ x + m → rowG f y len n x G = rowG f y len m x G
  | 0, 0, _, _, _, _ => rfl
  | 0, m + 1, x, G, h, _ => by unfold rowG; rw [if_neg (by omega)]
  | n + 1, 0, x, G, _, h => by unfold rowG; rw [if_neg (by omega)]
  | n + 1, m + 1, x, G, h1, h2 => by
    unfold rowG
    by_cases hx : x < len
    · rw [if_pos hx, if_pos hx]
      have := (brk_ok (f := f) hx).1
      exact rowG_fuel f y len n m _ _ (by omega) (by omega)
    · rw [if_neg hx, if_neg hx]
theorem rowG_succ (f : Nat → Vec) (y : Int) (len n x : Nat) (G : Gt) : rowG f y len (n + 1) x G = if x < len then rowG f y len n (brk f len x) (nxt G (f x) ⟨y, x, brk f len x⟩) else G := rfl
noncomputable def rowB (G : Gt) (y : Int) (len : Nat) (f : Nat → Vec) : Gt := rowG f y len len 0 G
theorem row_ex : ∃ f, f = rowB := ⟨_, rfl⟩
noncomputable def rowA : Gt → Int → Nat → (Nat → Vec) → Gt := Classical.choose row_ex
theorem row_eq : rowA = rowB := Classical.choose_spec row_ex
/-- One run more. -/
theorem addR_len (L : List Rn) (r : Rn) : (addR L r).length ≤ L.length + 1 := by
  unfold addR
  split
  · split
    · split
      · rename_i h1 _; have := List.length_dropLast (xs := L); simp only [List.length_append, this, List.length_singleton]; omega
      · simp
    · simp
  · omega
theorem nxt_ok {B : Nat} {G : Gt} (h : Gok B G) (v : Vec) (r : Rn) : Gok (B + 1) (nxt G v r) := by
  rw [nxt_eq]
  have up : Gok (B + 1) G := ⟨h.n, fun k => Nat.le_succ_of_le (h.m k), h.val⟩
  have put : ∀ {G : Gt} {k : Nat} {L : List Rn}, Gok (B + 1) G → L.length ≤ B + 1 → Gok (B + 1) (putP G k L) := fun {G k L} h hl => by
    refine ⟨h.n, fun j => ?_, h.val⟩
    show updN G.m k L.length j ≤ _
    unfold updN
    cases decide (j = k)
    · exact h.m j
    · exact hl
  have glen : ∀ (G : Gt) (k : Nat), (grw G k r).length ≤ G.m k + 1 := fun G k => by
    have := addR_len (Rg.L ⟨G.m k, G.p k⟩) r
    rwa [Rg.len] at this
  unfold nxtB
  split
  · exact up
  · split
    · exact put up (Nat.le_trans (glen _ _) (by have := h.m (G.val (kOf v)).toNat; omega))
    · split
      · exact ⟨up.n, up.m, up.val⟩
      · rename_i hh hn
        have hn' := h.n
        refine put ⟨by show G.n + 1 ≤ 4096; omega, fun k => ?_, fun l hl => ?_⟩ (Nat.le_trans (glen _ _) ?_)
        · show updN G.m G.n 0 k ≤ _
          unfold updN
          cases decide (k = G.n)
          · exact Nat.le_succ_of_le (h.m k)
          · exact Nat.zero_le _
        · show 0 ≤ (bif decide (l = kOf v) then (G.n : Int) else G.val l) ∧ (bif decide (l = kOf v) then (G.n : Int) else G.val l) < ((G.n + 1 : Nat) : Int)
          have hl : (decide (l = kOf v) || G.has l) = true := hl
          cases hd : decide (l = kOf v) with
          | true => simp only [cond_true]; omega
          | false =>
            rw [hd, Bool.false_or] at hl
            have := h.val l hl
            simp only [cond_false]
            omega
        · show updN G.m G.n 0 G.n + 1 ≤ B + 1
          rw [updN_same]
          omega
theorem same8 (v u : Vec) : (decide (v 0 = u 0) && (decide (v 1 = u 1) && (decide (v 2 = u 2) && (decide (v 3 = u 3) && (decide (v 4 = u 4) && (decide (v 5 = u 5) && (decide (v 6 = u 6) && (decide (v 7 = u 7) && true)))))))) = decide (kOf v = kOf u) := by
  rw [Bool.eq_iff_iff]
  simp [kOf]
theorem gokMono {B C : Nat} {G : Gt} (h : Gok B G) (hc : B ≤ C) : Gok C G := ⟨h.n, fun k => Nat.le_trans (h.m k) hc, h.val⟩
theorem sameG (G : Gt) : G.full = G.full ∧ (∀ (l : List Int), l.length = 8 → G.has l = G.has l ∧ (G.has l = true → G.val l = G.val l)) ∧ (G.n = G.n ∧ ∀ (i : Nat), i < G.n → G.m i = G.m i ∧ ∀ (i' : Nat), i' < G.m i → ((G.p i i').y = (G.p i i').y ∧ (G.p i i').x0 = (G.p i i').x0) ∧ (G.p i i').x1 = (G.p i i').x1) ∧
    G.n = G.n ∧ ∀ (i : Nat), i < G.n → ((((((G.ink i 0 = G.ink i 0 ∧ G.ink i 1 = G.ink i 1) ∧ G.ink i 2 = G.ink i 2) ∧ G.ink i 3 = G.ink i 3) ∧ G.ink i 4 = G.ink i 4) ∧ G.ink i 5 = G.ink i 5) ∧ G.ink i 6 = G.ink i 6) ∧ G.ink i 7 = G.ink i 7 :=
  ⟨rfl, fun l _ => ⟨rfl, fun _ => rfl⟩, ⟨rfl, fun i _ => ⟨rfl, fun i' _ => ⟨⟨rfl, rfl⟩, rfl⟩⟩⟩, rfl, fun i _ => ⟨⟨⟨⟨⟨⟨⟨rfl, rfl⟩, rfl⟩, rfl⟩, rfl⟩, rfl⟩, rfl⟩, rfl⟩⟩
/-! row. -/
structure RoG where
  G : Gt
  y : Int
  n : Nat
  f : Nat → Vec
def cellS (n : Nat) (f : Nat → Vec) : SV := .sl n 8 (fun i j => .int .u8 (f i j))
def cellD : SV → Nat → Vec
  | .sl _ _ g => fun i j => intOf (g i j)
  | _ => fun _ _ => 0
def roD : List SV → List SO → Option RoG
  | [_, .int _ y, s], os => match gtD os with
    | some G => some ⟨G, y, slLen s, cellD s⟩
    | none => none
  | _, _ => none
structure RoS where
  x : Nat
  G : Gt
structure RoP (g : RoG) (B : Nat) (s : RoS) : Prop where
  le : s.x ≤ g.n
  ok : Gok (B + s.x) s.G
  fin : rowG g.f g.y g.n (g.n - s.x) s.x s.G = rowA g.G g.y g.n g.f
structure RoJ (g : RoG) (s : RoS) (to : Nat) : Prop where
  lt : s.x < to
  le : to ≤ g.n
  fin : brkG g.f g.n s.x (g.n - to) to = brk g.f g.n s.x
def roI (g : RoG) : Inv := ⟨RoS, fun s => ∃ B, RoP g B s ∧ B + g.n ≤ 4294967295, fun s => ⟨[(0, .own 0 0), (1, .int .i64 g.y), (2, cellS g.n g.f), (6, .int .i64 s.x)], gaO s.G 1 1⟩, fun s => g.n - s.x⟩
def roIJ (g : RoG) (s : RoS) : Inv := ⟨Nat, fun to => s.x < g.n ∧ RoJ g s to, fun to => ⟨[(0, .own 0 0), (1, .int .i64 g.y), (2, cellS g.n g.f), (6, .int .i64 s.x), (7, .int .i64 to)], gaO s.G 1 1⟩, fun to => g.n - to⟩
noncomputable def spRow : FSpec := mkSpecM 40 [.arg 0, .cell 0 0, .cell 0 1, .cell 0 2] roD (fun g => [.own 0 0, .int .i64 g.y, cellS g.n g.f])
  (fun g => gaO g.G 0 0) (fun g => ∃ B, Gok B g.G ∧ B + g.n ≤ 4294967295)
  (fun _ => .tup 0 (lst []))
  (fun g => gaO (rowA g.G g.y g.n g.f) 1 1)
theorem ok_row : SpecOK Try.prog spRow := by
  refine spec_soundM (specs := [spGadd]) (all_ok ⟨ok_gadd, trivial⟩) (eqs := eqI) (all_eq eqI_ok) Aff.mixed Try.func40 rfl (by kernel_rfl) (fun _ _ => by kernel_rfl) (fun g => (⟨[(1, .nest (roI g) (fun s => [(3, .inv (roIJ g s))]))], []⟩ : Ann)) false (fun g => Nat.le_of_ble_eq_true (by kernel_rfl)) ?_
  rintro g ⟨B, hB, hle⟩
  refine vc_of (B := let z21 := (7 : Nat);let z20 := (6 : Nat);let z19 := (5 : Nat);let z18 := (4 : Nat);let z17 := (3 : Nat);let z16 := (2 : Nat);let z12 := (((True ∧ True) ∧ True) ∧ True);let z10 := (1 : Nat);let z9 := (0 : Nat); let z27 := (z9 + (z9 + z10 + z10 + z10 + z10 + z10)); let z26 := (z9 + (z9 + z10 + z10 + z10 + z10 + z10 + z10)); let z25 := (z9 + (z9 + z10 + z10 + z10 + z10 + z10 + z10 + z10));let z8 := (rowA g.G g.y g.n g.f);let z5 := (IntKind.i64 = IntKind.i64); let z14 := (Sx.Ask z5 ∧ Sx.Ask (g.y = g.y));let z4 := (IntKind.u8 = IntKind.u8);let z2 := (Sx.Ask (g.n = g.n) ∧ ∀ (i : Nat), i < g.n → (((((((True ∧ Sx.Ask z4 ∧ Sx.Ask (g.f i z9 = g.f i z9)) ∧ Sx.Ask z4 ∧ Sx.Ask (g.f i z10 = g.f i z10)) ∧ Sx.Ask z4 ∧ Sx.Ask (g.f i z16 = g.f i z16)) ∧ Sx.Ask z4 ∧ Sx.Ask (g.f i z17 = g.f i z17)) ∧ Sx.Ask z4 ∧ Sx.Ask (g.f i z18 = g.f i z18)) ∧ Sx.Ask z4 ∧ Sx.Ask (g.f i z19 = g.f i z19)) ∧ Sx.Ask z4 ∧ Sx.Ask (g.f i z20 = g.f i z20)) ∧ Sx.Ask z4 ∧ Sx.Ask (g.f i z21 = g.f i z21));True ∧ (∃ (g_1 : RoS), Sx.Ask ((roI g).pre g_1) ∧ True ∧ (Sx.Ask (z9 = z9) ∧ z14 ∧ z2 ∧ (Sx.Ask z5 ∧ Sx.Ask ((0 : Int) = (↑g_1.x : Int))) ∧ True) ∧ (z12 ∧ Sx.Ask (g.G.full = g_1.G.full)) ∧ (∀ (l : List Int), l.length = (8 : Nat) → Sx.Ask (g.G.has l = g_1.G.has l) ∧ ((g_1.G.has l || false) = true → Sx.Ask z5 ∧ Sx.Ask (g.G.val l = g_1.G.val l))) ∧ (Sx.Ask (g.G.n = g_1.G.n) ∧ (∀ (i : Nat), i < g_1.G.n → Sx.Ask (g.G.m i = g_1.G.m i) ∧ ∀ (i' : Nat), i' < g_1.G.m i → ((True ∧ Sx.Ask z5 ∧ Sx.Ask ((g.G.p i i').y = (g_1.G.p i i').y)) ∧ Sx.Ask z5 ∧ Sx.Ask ((g.G.p i i').x0 = (g_1.G.p i i').x0)) ∧ Sx.Ask z5 ∧ Sx.Ask ((g.G.p i i').x1 = (g_1.G.p i i').x1)) ∧ ∀ (i : Nat), i < g_1.G.n → True) ∧ (Sx.Ask (g.G.n = g_1.G.n) ∧ ∀ (i : Nat), i < g_1.G.n → (((((((True ∧ Sx.Ask z4 ∧ Sx.Ask (g.G.ink i z9 = g_1.G.ink i z9)) ∧ Sx.Ask z4 ∧ Sx.Ask (g.G.ink i z10 = g_1.G.ink i z10)) ∧ Sx.Ask z4 ∧ Sx.Ask (g.G.ink i z16 = g_1.G.ink i z16)) ∧ Sx.Ask z4 ∧ Sx.Ask (g.G.ink i z17 = g_1.G.ink i z17)) ∧ Sx.Ask z4 ∧ Sx.Ask (g.G.ink i z18 = g_1.G.ink i z18)) ∧ Sx.Ask z4 ∧ Sx.Ask (g.G.ink i z19 = g_1.G.ink i z19)) ∧ Sx.Ask z4 ∧ Sx.Ask (g.G.ink i z20 = g_1.G.ink i z20)) ∧ Sx.Ask z4 ∧ Sx.Ask (g.G.ink i z21 = g_1.G.ink i z21)) ∧ True) ∧ ∀ (g_1 : RoS), let z28 := (roIJ g g_1); let z15 := (z12 ∧ Sx.Ask (g_1.G.full = g_1.G.full)); let z11 := (∀ (l : List Int), l.length = (8 : Nat) → Sx.Ask (g_1.G.has l = g_1.G.has l) ∧ ((g_1.G.has l || false) = true → Sx.Ask z5 ∧ Sx.Ask (g_1.G.val l = g_1.G.val l))); let z7 := (↑g_1.x : Int); let z23 := (Sx.Ask z5 ∧ Sx.Ask (z7 = z7)); let z22 := ((0 : Int) ≤ z7 ∧ z7 < (↑g.n : Int)); let z6 := (Sx.Ask (g_1.G.n = g_1.G.n) ∧ (∀ (i : Nat), i < g_1.G.n → Sx.Ask (g_1.G.m i = g_1.G.m i) ∧ ∀ (i' : Nat), let z24 := (g_1.G.p i i'); i' < g_1.G.m i → ((True ∧ Sx.Ask z5 ∧ Sx.Ask (z24.y = z24.y)) ∧ Sx.Ask z5 ∧ Sx.Ask (z24.x0 = z24.x0)) ∧ Sx.Ask z5 ∧ Sx.Ask (z24.x1 = z24.x1)) ∧ ∀ (i : Nat), i < g_1.G.n → True); let z3 := (Sx.Ask (g_1.G.n = g_1.G.n) ∧ ∀ (i : Nat), i < g_1.G.n → (((((((True ∧ Sx.Ask z4 ∧ Sx.Ask (g_1.G.ink i z9 = g_1.G.ink i z9)) ∧ Sx.Ask z4 ∧ Sx.Ask (g_1.G.ink i z10 = g_1.G.ink i z10)) ∧ Sx.Ask z4 ∧ Sx.Ask (g_1.G.ink i z16 = g_1.G.ink i z16)) ∧ Sx.Ask z4 ∧ Sx.Ask (g_1.G.ink i z17 = g_1.G.ink i z17)) ∧ Sx.Ask z4 ∧ Sx.Ask (g_1.G.ink i z18 = g_1.G.ink i z18)) ∧ Sx.Ask z4 ∧ Sx.Ask (g_1.G.ink i z19 = g_1.G.ink i z19)) ∧ Sx.Ask z4 ∧ Sx.Ask (g_1.G.ink i z20 = g_1.G.ink i z20)) ∧ Sx.Ask z4 ∧ Sx.Ask (g_1.G.ink i z21 = g_1.G.ink i z21)); (roI g).pre g_1 → True ∧ True ∧ True ∧ True ∧ Sx.Br (decide (z7 < (↑g.n : Int))) (True ∧ Sx.Ask ((-9223372036854775808 : Int) ≤ z7 + (1 : Int) ∧ z7 + (1 : Int) ≤ (9223372036854775807 : Int)) ∧ True ∧ (∃ (g_2 : Nat), Sx.Ask (z28.pre g_2) ∧ True ∧ (Sx.Ask (z9 = z9) ∧ z14 ∧ z2 ∧ z23 ∧ (Sx.Ask z5 ∧ Sx.Ask (z7 + (1 : Int) = (↑g_2 : Int))) ∧ True) ∧ z15 ∧ z11 ∧ z6 ∧ z3 ∧ True) ∧ ∀ (g_2 : Nat), let z13 := (↑g_2 : Int); let z1 := ((True ∧ (Sx.Ask (z9 = z9) ∧ ((((((((True ∧ Sx.Ask z4 ∧ Sx.Ask (g.f z7.toNat (z9 + z9) = g.f z7.toNat (z9 + z9))) ∧ Sx.Ask z4 ∧ Sx.Ask (g.f z7.toNat (z9 + z10) = g.f z7.toNat (z9 + z10))) ∧ Sx.Ask z4 ∧ Sx.Ask (g.f z7.toNat (z9 + z16) = g.f z7.toNat (z9 + z16))) ∧ Sx.Ask z4 ∧ Sx.Ask (g.f z7.toNat (z9 + z17) = g.f z7.toNat (z9 + z17))) ∧ Sx.Ask z4 ∧ Sx.Ask (g.f z7.toNat (z9 + z18) = g.f z7.toNat (z9 + z18))) ∧ Sx.Ask z4 ∧ Sx.Ask (g.f z7.toNat (z9 + z19) = g.f z7.toNat (z9 + z19))) ∧ Sx.Ask z4 ∧ Sx.Ask (g.f z7.toNat (z9 + z20) = g.f z7.toNat (z9 + z20))) ∧ Sx.Ask z4 ∧ Sx.Ask (g.f z7.toNat (z9 + z21) = g.f z7.toNat (z9 + z21))) ∧ z14 ∧ z23 ∧ (Sx.Ask z5 ∧ Sx.Ask (z13 = z13)) ∧ True) ∧ z15 ∧ z11 ∧ z6 ∧ z3 ∧ True) ∧ Sx.Ask (Gat.Gok (4294967295 : Nat) g_1.G)); let z0 := (Gat.nxt g_1.G (fun (j : Nat) => g.f z7.toNat (z9 + j)) (Rga.Rn.mk g.y z7 z13)); z28.pre g_2 → True ∧ True ∧ True ∧ True ∧ True ∧ Sx.Br (decide (z13 < (↑g.n : Int))) (True ∧ True ∧ Sx.Ask ((0 : Int) ≤ z13 ∧ z13 < (↑g.n : Int)) ∧ True ∧ True ∧ True ∧ Sx.Ask z22 ∧ True ∧ True ∧ True ∧ Sx.Br (decide (g.f z13.toNat (z9 + z9) = g.f z7.toNat (z9 + z9)) && (decide (g.f z13.toNat (z9 + (z9 + z10)) = g.f z7.toNat (z9 + (z9 + z10))) && (decide (g.f z13.toNat (z9 + (z9 + z10 + z10)) = g.f z7.toNat (z9 + (z9 + z10 + z10))) && (decide (g.f z13.toNat (z9 + (z9 + z10 + z10 + z10)) = g.f z7.toNat (z9 + (z9 + z10 + z10 + z10))) && (decide (g.f z13.toNat (z9 + (z9 + z10 + z10 + z10 + z10)) = g.f z7.toNat (z9 + (z9 + z10 + z10 + z10 + z10))) && (decide (g.f z13.toNat z27 = g.f z7.toNat z27) && (decide (g.f z13.toNat z26 = g.f z7.toNat z26) && (decide (g.f z13.toNat z25 = g.f z7.toNat z25) && true)))))))) (True ∧ Sx.Ask ((-9223372036854775808 : Int) ≤ z13 + (1 : Int) ∧ z13 + (1 : Int) ≤ (9223372036854775807 : Int)) ∧ True ∧ ∃ (g' : Nat), Sx.Ask (z28.pre g') ∧ True ∧ ((Sx.Ask (z9 = z9) ∧ z14 ∧ z2 ∧ z23 ∧ (Sx.Ask z5 ∧ Sx.Ask (z13 + (1 : Int) = (↑g' : Int))) ∧ True) ∧ z15 ∧ z11 ∧ z6 ∧ z3 ∧ True) ∧ Sx.Ask (z28.meas g' < z28.meas g_2)) (True ∧ True ∧ True ∧ Sx.Ask z22 ∧ True ∧ True ∧ True ∧ True ∧ z1 ∧ True ∧ True ∧ ∃ (g' : RoS), Sx.Ask ((roI g).pre g') ∧ True ∧ ((Sx.Ask (z9 = z9) ∧ z14 ∧ z2 ∧ (Sx.Ask z5 ∧ Sx.Ask (z13 = (↑g'.x : Int))) ∧ True) ∧ (z12 ∧ Sx.Ask (z0.full = g'.G.full)) ∧ (∀ (l : List Int), l.length = (8 : Nat) → Sx.Ask (z0.has l = g'.G.has l) ∧ ((g'.G.has l || false) = true → Sx.Ask z5 ∧ Sx.Ask (z0.val l = g'.G.val l))) ∧ (Sx.Ask (z0.n = g'.G.n) ∧ (∀ (i : Nat), i < g'.G.n → Sx.Ask (z0.m i = g'.G.m i) ∧ ∀ (i' : Nat), i' < g'.G.m i → ((True ∧ Sx.Ask z5 ∧ Sx.Ask ((z0.p i i').y = (g'.G.p i i').y)) ∧ Sx.Ask z5 ∧ Sx.Ask ((z0.p i i').x0 = (g'.G.p i i').x0)) ∧ Sx.Ask z5 ∧ Sx.Ask ((z0.p i i').x1 = (g'.G.p i i').x1)) ∧ ∀ (i : Nat), i < g'.G.n → True) ∧ (Sx.Ask (z0.n = g'.G.n) ∧ ∀ (i : Nat), i < g'.G.n → (((((((True ∧ Sx.Ask z4 ∧ Sx.Ask (z0.ink i z9 = g'.G.ink i z9)) ∧ Sx.Ask z4 ∧ Sx.Ask (z0.ink i z10 = g'.G.ink i z10)) ∧ Sx.Ask z4 ∧ Sx.Ask (z0.ink i z16 = g'.G.ink i z16)) ∧ Sx.Ask z4 ∧ Sx.Ask (z0.ink i z17 = g'.G.ink i z17)) ∧ Sx.Ask z4 ∧ Sx.Ask (z0.ink i z18 = g'.G.ink i z18)) ∧ Sx.Ask z4 ∧ Sx.Ask (z0.ink i z19 = g'.G.ink i z19)) ∧ Sx.Ask z4 ∧ Sx.Ask (z0.ink i z20 = g'.G.ink i z20)) ∧ Sx.Ask z4 ∧ Sx.Ask (z0.ink i z21 = g'.G.ink i z21)) ∧ True) ∧ Sx.Ask ((roI g).meas g' < (roI g).meas g_1))) (True ∧ True ∧ True ∧ True ∧ Sx.Ask z22 ∧ True ∧ True ∧ True ∧ True ∧ z1 ∧ True ∧ True ∧ ∃ (g' : RoS), Sx.Ask ((roI g).pre g') ∧ True ∧ ((Sx.Ask (z9 = z9) ∧ z14 ∧ z2 ∧ (Sx.Ask z5 ∧ Sx.Ask (z13 = (↑g'.x : Int))) ∧ True) ∧ (z12 ∧ Sx.Ask (z0.full = g'.G.full)) ∧ (∀ (l : List Int), l.length = (8 : Nat) → Sx.Ask (z0.has l = g'.G.has l) ∧ ((g'.G.has l || false) = true → Sx.Ask z5 ∧ Sx.Ask (z0.val l = g'.G.val l))) ∧ (Sx.Ask (z0.n = g'.G.n) ∧ (∀ (i : Nat), i < g'.G.n → Sx.Ask (z0.m i = g'.G.m i) ∧ ∀ (i' : Nat), i' < g'.G.m i → ((True ∧ Sx.Ask z5 ∧ Sx.Ask ((z0.p i i').y = (g'.G.p i i').y)) ∧ Sx.Ask z5 ∧ Sx.Ask ((z0.p i i').x0 = (g'.G.p i i').x0)) ∧ Sx.Ask z5 ∧ Sx.Ask ((z0.p i i').x1 = (g'.G.p i i').x1)) ∧ ∀ (i : Nat), i < g'.G.n → True) ∧ (Sx.Ask (z0.n = g'.G.n) ∧ ∀ (i : Nat), i < g'.G.n → (((((((True ∧ Sx.Ask z4 ∧ Sx.Ask (z0.ink i z9 = g'.G.ink i z9)) ∧ Sx.Ask z4 ∧ Sx.Ask (z0.ink i z10 = g'.G.ink i z10)) ∧ Sx.Ask z4 ∧ Sx.Ask (z0.ink i z16 = g'.G.ink i z16)) ∧ Sx.Ask z4 ∧ Sx.Ask (z0.ink i z17 = g'.G.ink i z17)) ∧ Sx.Ask z4 ∧ Sx.Ask (z0.ink i z18 = g'.G.ink i z18)) ∧ Sx.Ask z4 ∧ Sx.Ask (z0.ink i z19 = g'.G.ink i z19)) ∧ Sx.Ask z4 ∧ Sx.Ask (z0.ink i z20 = g'.G.ink i z20)) ∧ Sx.Ask z4 ∧ Sx.Ask (z0.ink i z21 = g'.G.ink i z21)) ∧ True) ∧ Sx.Ask ((roI g).meas g' < (roI g).meas g_1))) (True ∧ True ∧ (True ∧ True) ∧ (z12 ∧ Sx.Ask (g_1.G.full = z8.full)) ∧ (∀ (l : List Int), l.length = (8 : Nat) → Sx.Ask (g_1.G.has l = z8.has l) ∧ ((z8.has l || false) = true → Sx.Ask z5 ∧ Sx.Ask (g_1.G.val l = z8.val l))) ∧ (Sx.Ask (g_1.G.n = z8.n) ∧ (∀ (i : Nat), i < z8.n → Sx.Ask (g_1.G.m i = z8.m i) ∧ ∀ (i' : Nat), i' < z8.m i → ((True ∧ Sx.Ask z5 ∧ Sx.Ask ((g_1.G.p i i').y = (z8.p i i').y)) ∧ Sx.Ask z5 ∧ Sx.Ask ((g_1.G.p i i').x0 = (z8.p i i').x0)) ∧ Sx.Ask z5 ∧ Sx.Ask ((g_1.G.p i i').x1 = (z8.p i i').x1)) ∧ ∀ (i : Nat), i < z8.n → True) ∧ (Sx.Ask (g_1.G.n = z8.n) ∧ ∀ (i : Nat), i < z8.n → (((((((True ∧ Sx.Ask z4 ∧ Sx.Ask (g_1.G.ink i z9 = z8.ink i z9)) ∧ Sx.Ask z4 ∧ Sx.Ask (g_1.G.ink i z10 = z8.ink i z10)) ∧ Sx.Ask z4 ∧ Sx.Ask (g_1.G.ink i z16 = z8.ink i z16)) ∧ Sx.Ask z4 ∧ Sx.Ask (g_1.G.ink i z17 = z8.ink i z17)) ∧ Sx.Ask z4 ∧ Sx.Ask (g_1.G.ink i z18 = z8.ink i z18)) ∧ Sx.Ask z4 ∧ Sx.Ask (g_1.G.ink i z19 = z8.ink i z19)) ∧ Sx.Ask z4 ∧ Sx.Ask (g_1.G.ink i z20 = z8.ink i z20)) ∧ Sx.Ask z4 ∧ Sx.Ask (g_1.G.ink i z21 = z8.ink i z21)) ∧ True)) (by kernel_rfl) ?_
  simp only [ask_iff, br_iff, eq_self, true_and, and_true, implies_true, forall_const, decide_eq_true_eq, decide_eq_false_iff_not, ne_eq, Nat.mul_one, Nat.add_zero, Nat.zero_add, Int.toNat_natCast, Bool.or_false]
  simp only [Nat.reduceAdd, same8, decide_eq_true_eq, decide_eq_false_iff_not]
  have step : ∀ {s : RoS} {B : Nat} {to : Nat}, RoP g B s → s.x < g.n → brk g.f g.n s.x = to → RoP g B ⟨to, nxt s.G (g.f s.x) ⟨g.y, s.x, to⟩⟩ := fun {s B to} P hx hto => by
    have hb := (brk_ok (f := g.f) hx).1
    subst hto
    refine ⟨hb.2, gokMono (nxt_ok P.ok _ _) (by show B + s.x + 1 ≤ B + brk g.f g.n s.x; omega), ?_⟩
    rw [← P.fin]
    obtain ⟨k, hk⟩ : ∃ k, g.n - s.x = k + 1 := ⟨g.n - s.x - 1, by omega⟩
    rw [hk]
    rw [rowG_succ, if_pos hx]
    exact rowG_fuel g.f g.y g.n (g.n - brk g.f g.n s.x) k (brk g.f g.n s.x) _ (by omega) (by omega)
  have done : ∀ {s : RoS} {to : Nat}, RoJ g s to → (to < g.n → kOf (g.f to) ≠ kOf (g.f s.x)) → brk g.f g.n s.x = to := fun {s to} J h => by
    rw [← J.fin]
    cases hm : g.n - to with
    | zero => rfl
    | succ m =>
      unfold brkG
      rw [if_neg (fun hc => h hc.1 hc.2)]
  have nextI : ∀ {s : RoS} {to : Nat} (hs : ∃ B, RoP g B s ∧ B + g.n ≤ 4294967295), s.x < g.n → RoJ g s to → (to < g.n → kOf (g.f to) ≠ kOf (g.f s.x)) → (roI g).pre ⟨to, nxt s.G (g.f s.x) ⟨g.y, s.x, to⟩⟩ := fun {s to} hs hx J h => by
    obtain ⟨B, P, hB⟩ := hs
    exact ⟨B, step P hx (done J h), hB⟩
  have gk : ∀ {s : RoS}, (∃ B, RoP g B s ∧ B + g.n ≤ 4294967295) → Gok 4294967295 s.G := fun {s} hs => by
    obtain ⟨B, P, hB⟩ := hs
    have := P.le
    exact gokMono P.ok (by omega)
  refine ⟨⟨⟨0, g.G⟩, ⟨B, ⟨Nat.zero_le _, by rw [Nat.add_zero]; exact hB, ?_⟩, hle⟩, rfl, sameG _⟩, fun s hs => ⟨fun hx => ⟨by omega, ⟨s.x + 1, ⟨by omega, by omega, by omega, ?_⟩, by omega⟩, fun to hto => ?_⟩, fun hx => ?_⟩⟩
  · show rowG g.f g.y g.n (g.n - 0) 0 g.G = _
    rw [row_eq]
    rfl
  · rfl
  · obtain ⟨hx', J⟩ := hto
    have hx : s.x < g.n := hx'
    have J1 := J.lt
    have J2 := J.le
    have hm : ∀ G', (roI g).meas ⟨to, G'⟩ < (roI g).meas s := fun G' => by show g.n - to < g.n - s.x; omega
    refine ⟨fun hlt => ⟨by omega, by omega, fun he => ⟨by omega, to + 1, ⟨hx, by omega, by omega, ?_⟩, by omega, by show g.n - (to + 1) < g.n - to; omega⟩, fun he => ⟨by omega, gk hs, ⟨to, nxt s.G (g.f s.x) ⟨g.y, s.x, to⟩⟩, nextI hs hx J (fun _ => he), ⟨rfl, sameG _⟩, hm _⟩⟩, fun hge => ⟨by omega, gk hs, ⟨to, nxt s.G (g.f s.x) ⟨g.y, s.x, to⟩⟩, nextI hs hx J (fun h => absurd h (by omega)), ⟨rfl, sameG _⟩, hm _⟩⟩
    rw [← J.fin]
    obtain ⟨k, hk⟩ : ∃ k, g.n - to = k + 1 := ⟨g.n - to - 1, by omega⟩
    rw [hk, show g.n - (to + 1) = k by omega]
    show _ = brkG g.f g.n s.x (k + 1) to
    conv => rhs; unfold brkG
    rw [if_pos ⟨by omega, he⟩]
  · obtain ⟨B', P, hB'⟩ := hs
    have h1 := P.le
    have h2 : s.x = g.n := by omega
    have h3 := P.fin
    rw [h2, Nat.sub_self] at h3
    have h3 : s.G = rowA g.G g.y g.n g.f := h3
    rw [← h3]
    exact sameG _
/-! The pieces. -/
/-- Pieces as data: runs and vectors. -/
structure Pcs where
  n : Nat
  m : Nat → Nat
  p : Nat → Nat → Rn
  ink : Nat → Vec
def pcC (P : Pcs) (i j : Nat) : SV := match j with
  | 0 => .sl (P.m i) 3 (fun k => lst (rnL (P.p i k)))
  | j + 1 => .int .u8 (P.ink i j)
def pcS (P : Pcs) : SV := .sl P.n 9 (pcC P)
def pcD (s : SV) : Pcs := match s with
  | .sl n _ f => ⟨n, fun i => slLen (f i 0), fun i => rgD (f i 0), fun i j => intOf (f i (j + 1))⟩
  | _ => ⟨0, fun _ => 0, fun _ _ => ⟨0, 0, 0⟩, fun _ _ => 0⟩
def Gt.P (G : Gt) : Pcs := ⟨bif G.full then 0 else G.n, G.m, G.p, G.ink⟩
/-- What pieces() answers. -/
def pcA (G : Gt) : SV := .tup 2 (lst [pcS (Gt.P G), .int .i64 (bif G.full then 2 else 0)])
def piI (G : Gt) : Inv := ⟨Nat, fun i => G.full = false ∧ i ≤ G.n, fun i => ⟨[(0, .own 0 0), (4, .osl 4 0), (14, .osl 3 0), (15, .int .i64 G.n), (16, .int .i64 i)],
  [.cells 4 (lst [.omap 1, .osl 2 0, .osl 3 0, .bool G.full]) 101, .mpi (.arr 8 .u8) false G.has (fun l => .int .i64 (G.val l)),
   .srow 0 G.n 1 (deepG 3 G.m (fun k i => lst (rnL (G.p k i))) (fun _ => lst [])), .row 0 G.n 8 (fun i j => .int .u8 (G.ink i j)) 33,
   .row 0 i 9 (pcC ⟨G.n, G.m, G.p, G.ink⟩) 35]⟩, fun i => G.n - i⟩
def spPieces : FSpec := mkSpecM 41 [.arg 0, .cell 0 0, .cell 0 1, .cell 0 2] (fun l os => gtD os) (fun _ => [.own 0 0])
  (fun G => gaO G 0 0) (fun G => G.n ≤ 4096) (fun G => pcA G)
  (fun _ => [.dead, .dead, .dead, .dead])
theorem ok_pieces : SpecOK Try.prog spPieces := by
  refine spec_soundM (specs := []) (all_ok trivial) (eqs := []) (fun _ _ h => (List.not_mem_nil h).elim) Aff.mixed Try.func41 rfl (by kernel_rfl) (fun _ _ => by kernel_rfl) (fun G => (⟨[(5, .inv (piI G))], [(4, [.own 4 35 9, .give 2])]⟩ : Ann)) false (fun g => Nat.le_of_ble_eq_true (by kernel_rfl)) ?_
  rintro G hG
  refine vc_of (B := let z12 := (9 : Nat);let z9 := (↑G.n : Int);let z8 := ((((True ∧ True) ∧ True) ∧ True) ∧ Sx.Ask (G.full = G.full));let z7 := (1 : Nat);let z4 := (0 : Nat);let z2 := (IntKind.i64 = IntKind.i64); let z5 := (∀ (l : List Int), l.length = (8 : Nat) → Sx.Ask (G.has l = G.has l) ∧ ((G.has l || false) = true → Sx.Ask z2 ∧ Sx.Ask (G.val l = G.val l))); let z3 := (Sx.Ask (G.n = G.n) ∧ ∀ (i : Nat), i < G.n → True ∧ Sx.Ask (G.m i = G.m i) ∧ ∀ (i_1 : Nat), let z10 := (G.p i i_1); i_1 < G.m i → ((True ∧ Sx.Ask z2 ∧ Sx.Ask (z10.y = z10.y)) ∧ Sx.Ask z2 ∧ Sx.Ask (z10.x0 = z10.x0)) ∧ Sx.Ask z2 ∧ Sx.Ask (z10.x1 = z10.x1));let z1 := (IntKind.u8 = IntKind.u8);let z0 := (Sx.Ask (G.n = G.n) ∧ ∀ (i : Nat), i < G.n → (((((((True ∧ Sx.Ask z1 ∧ Sx.Ask (G.ink i z4 = G.ink i z4)) ∧ Sx.Ask z1 ∧ Sx.Ask (G.ink i z7 = G.ink i z7)) ∧ Sx.Ask z1 ∧ Sx.Ask (G.ink i (2 : Nat) = G.ink i (2 : Nat))) ∧ Sx.Ask z1 ∧ Sx.Ask (G.ink i (3 : Nat) = G.ink i (3 : Nat))) ∧ Sx.Ask z1 ∧ Sx.Ask (G.ink i (4 : Nat) = G.ink i (4 : Nat))) ∧ Sx.Ask z1 ∧ Sx.Ask (G.ink i (5 : Nat) = G.ink i (5 : Nat))) ∧ Sx.Ask z1 ∧ Sx.Ask (G.ink i (6 : Nat) = G.ink i (6 : Nat))) ∧ Sx.Ask z1 ∧ Sx.Ask (G.ink i (7 : Nat) = G.ink i (7 : Nat)));True ∧ True ∧ True ∧ True ∧ True ∧ True ∧ Sx.Br G.full (True ∧ True ∧ True ∧ True ∧ (((True ∧ Sx.Ask ((bif G.full then z4 else G.n) = z4)) ∧ Sx.Ask z2 ∧ Sx.Ask ((2 : Int) = bif G.full then (2 : Int) else (0 : Int))) ∧ True) ∧ True ∧ True ∧ True ∧ True ∧ True) (True ∧ True ∧ True ∧ True ∧ True ∧ True ∧ True ∧ (∃ (g : Nat), Sx.Ask ((piI G).pre g) ∧ True ∧ (Sx.Ask (z4 = z4) ∧ True ∧ True ∧ (Sx.Ask z2 ∧ Sx.Ask (z9 = z9)) ∧ (Sx.Ask z2 ∧ Sx.Ask ((0 : Int) = (↑g : Int))) ∧ True) ∧ z8 ∧ z5 ∧ z3 ∧ z0 ∧ (Sx.Ask (z4 = g) ∧ ∀ (i : Nat), i < g → ((((((((True ∧ False) ∧ False) ∧ False) ∧ False) ∧ False) ∧ False) ∧ False) ∧ False) ∧ False) ∧ True) ∧ ∀ (g : Nat), let z6 := (↑g : Int); (piI G).pre g → True ∧ Sx.Br (decide (z6 < z9)) (True ∧ Sx.Ask ((0 : Int) ≤ z6 ∧ z6 < z9) ∧ Sx.Ask (z6.toNat < G.n) ∧ True ∧ True ∧ True ∧ True ∧ True ∧ True ∧ True ∧ True ∧ True ∧ Sx.Ask ((0 : Int) ≤ z6 ∧ z6 < z9) ∧ True ∧ True ∧ True ∧ True ∧ True ∧ Sx.Ask (g + z7 ≤ (9223372036854775807 : Nat) ∧ (g + z7) * (32 : Nat) ≤ (140737488355328 : Nat)) ∧ True ∧ Sx.Ask ((-9223372036854775808 : Int) ≤ z6 + (1 : Int) ∧ z6 + (1 : Int) ≤ (9223372036854775807 : Int)) ∧ True ∧ ∃ (g' : Nat), Sx.Ask ((piI G).pre g') ∧ True ∧ ((Sx.Ask (z4 = z4) ∧ True ∧ True ∧ (Sx.Ask z2 ∧ Sx.Ask (z9 = z9)) ∧ (Sx.Ask z2 ∧ Sx.Ask (z6 + (1 : Int) = (↑g' : Int))) ∧ True) ∧ z8 ∧ z5 ∧ z3 ∧ z0 ∧ (Sx.Ask (g + z7 = g') ∧ ∀ (i : Nat), i < g' → ((((((((True ∧ Sx.Ask ((bif decide (i < g) then G.m i else G.m z6.toNat) = G.m i) ∧ ∀ (i_1 : Nat), let z11 := (G.p i i_1); i_1 < G.m i → ((True ∧ Sx.Ask z2 ∧ Sx.Ask ((bif decide (i < g) then z11.y else (G.p z6.toNat i_1).y) = z11.y)) ∧ Sx.Ask z2 ∧ Sx.Ask ((bif decide (i < g) then z11.x0 else (G.p z6.toNat i_1).x0) = z11.x0)) ∧ Sx.Ask z2 ∧ Sx.Ask ((bif decide (i < g) then z11.x1 else (G.p z6.toNat i_1).x1) = z11.x1)) ∧ Sx.Ask z1 ∧ Sx.Ask ((bif decide (i < g) then G.ink i z4 else G.ink z6.toNat (z4 + (z4 + (z7 - z4 * z12 - z7)))) = G.ink i z4)) ∧ Sx.Ask z1 ∧ Sx.Ask ((bif decide (i < g) then G.ink i z7 else G.ink z6.toNat (z4 + (z4 + ((2 : Nat) - z4 * z12 - z7)))) = G.ink i z7)) ∧ Sx.Ask z1 ∧ Sx.Ask ((bif decide (i < g) then G.ink i (2 : Nat) else G.ink z6.toNat (z4 + (z4 + ((3 : Nat) - z4 * z12 - z7)))) = G.ink i (2 : Nat))) ∧ Sx.Ask z1 ∧ Sx.Ask ((bif decide (i < g) then G.ink i (3 : Nat) else G.ink z6.toNat (z4 + (z4 + ((4 : Nat) - z4 * z12 - z7)))) = G.ink i (3 : Nat))) ∧ Sx.Ask z1 ∧ Sx.Ask ((bif decide (i < g) then G.ink i (4 : Nat) else G.ink z6.toNat (z4 + (z4 + ((5 : Nat) - z4 * z12 - z7)))) = G.ink i (4 : Nat))) ∧ Sx.Ask z1 ∧ Sx.Ask ((bif decide (i < g) then G.ink i (5 : Nat) else G.ink z6.toNat (z4 + (z4 + ((6 : Nat) - z4 * z12 - z7)))) = G.ink i (5 : Nat))) ∧ Sx.Ask z1 ∧ Sx.Ask ((bif decide (i < g) then G.ink i (6 : Nat) else G.ink z6.toNat (z4 + (z4 + ((7 : Nat) - z4 * z12 - z7)))) = G.ink i (6 : Nat))) ∧ Sx.Ask z1 ∧ Sx.Ask ((bif decide (i < g) then G.ink i (7 : Nat) else G.ink z6.toNat (z4 + (z4 + ((8 : Nat) - z4 * z12 - z7)))) = G.ink i (7 : Nat))) ∧ True) ∧ Sx.Ask ((piI G).meas g' < (piI G).meas g)) (True ∧ True ∧ True ∧ True ∧ True ∧ (((True ∧ Sx.Ask (g = bif G.full then z4 else G.n) ∧ ∀ (i : Nat), (i < bif G.full then z4 else G.n) → ((((((((True ∧ Sx.Ask (G.m i = (Gt.P G).m i) ∧ ∀ (i_1 : Nat), i_1 < (Gt.P G).m i → ((True ∧ Sx.Ask z2 ∧ Sx.Ask ((G.p i i_1).y = ((Gt.P G).p i i_1).y)) ∧ Sx.Ask z2 ∧ Sx.Ask ((G.p i i_1).x0 = ((Gt.P G).p i i_1).x0)) ∧ Sx.Ask z2 ∧ Sx.Ask ((G.p i i_1).x1 = ((Gt.P G).p i i_1).x1)) ∧ Sx.Ask z1 ∧ Sx.Ask (G.ink i z4 = (Gt.P G).ink i z4)) ∧ Sx.Ask z1 ∧ Sx.Ask (G.ink i z7 = (Gt.P G).ink i z7)) ∧ Sx.Ask z1 ∧ Sx.Ask (G.ink i (2 : Nat) = (Gt.P G).ink i (2 : Nat))) ∧ Sx.Ask z1 ∧ Sx.Ask (G.ink i (3 : Nat) = (Gt.P G).ink i (3 : Nat))) ∧ Sx.Ask z1 ∧ Sx.Ask (G.ink i (4 : Nat) = (Gt.P G).ink i (4 : Nat))) ∧ Sx.Ask z1 ∧ Sx.Ask (G.ink i (5 : Nat) = (Gt.P G).ink i (5 : Nat))) ∧ Sx.Ask z1 ∧ Sx.Ask (G.ink i (6 : Nat) = (Gt.P G).ink i (6 : Nat))) ∧ Sx.Ask z1 ∧ Sx.Ask (G.ink i (7 : Nat) = (Gt.P G).ink i (7 : Nat))) ∧ Sx.Ask z2 ∧ Sx.Ask ((0 : Int) = bif G.full then (2 : Int) else (0 : Int))) ∧ True) ∧ True ∧ True ∧ True ∧ True ∧ True))) (by kernel_rfl) ?_
  simp only [ask_iff, br_iff, eq_self, true_and, and_true, implies_true, forall_const, decide_eq_true_eq, decide_eq_false_iff_not, ne_eq, Nat.mul_one, Nat.add_zero, Nat.zero_add, Int.toNat_natCast, Bool.or_false]
  refine ⟨fun h => by rw [h]; exact ⟨rfl, rfl⟩, fun h => ⟨⟨0, ⟨h, Nat.zero_le _⟩, rfl, rfl, fun i hi => absurd hi (Nat.not_lt_zero _)⟩, fun k hk => ⟨fun hlt => ?_, fun hge => ?_⟩⟩⟩
  · have hk1 := hk.1
    refine ⟨by omega, by omega, by omega, by omega, by omega, k + 1, ⟨hk1, by omega⟩, ⟨by omega, rfl, fun i hi => ?_⟩, by show G.n - (k + 1) < G.n - k; omega⟩
    by_cases hik : i < k
    · simp only [decide_eq_true hik, cond_true]
      repeat' (first | rfl | trivial | apply And.intro | intro _)
    · obtain rfl : i = k := by omega
      simp only [decide_eq_false hik, cond_false]
      repeat' (first | rfl | trivial | apply And.intro | intro _)
  · have hk2 : k ≤ G.n := hk.2
    have hkn : k = G.n := by omega
    rw [h]
    simp only [cond_false]
    refine ⟨⟨hkn, fun i hi => ?_⟩, trivial⟩
    repeat' (first | rfl | trivial | apply And.intro | intro _)
/-! Of. -/
def spSized : FSpec := mkSpec 38 (γ := Int × Int) (fun | [.int _ w, .int _ h] => some (w, h) | _ => none) (fun g => [.int .i64 g.1, .int .i64 g.2]) (fun _ => True)
  (fun g => .bool (decide (1 ≤ g.1) && (decide (g.1 ≤ 256) && (decide (1 ≤ g.2) && decide (g.2 ≤ 256)))))
theorem ok_sized : SpecOK Try.prog spSized := by
  refine spec_sound (specs := []) (all_ok trivial) (eqs := []) (fun _ _ h => (List.not_mem_nil h).elim) Aff.mixed Try.func38 rfl (by kernel_rfl) (fun _ _ => by kernel_rfl) (fun g => A0) (fun g => Nat.le_of_ble_eq_true (by kernel_rfl)) ?_
  rintro ⟨w, h⟩ _
  refine vc_of (B := let z0 := (decide ((1 : Int) ≤ w) && (decide (w ≤ (256 : Int)) && (decide ((1 : Int) ≤ h) && decide (h ≤ (256 : Int)))));True ∧ True ∧ True ∧ True ∧ Sx.Br (decide ((1 : Int) ≤ w)) (True ∧ True ∧ True ∧ True ∧ Sx.Br (decide (w ≤ (256 : Int))) (True ∧ True ∧ True ∧ True ∧ Sx.Br (decide ((1 : Int) ≤ h)) (True ∧ True ∧ True ∧ True ∧ True ∧ Sx.Ask (decide (h ≤ (256 : Int)) = z0)) (True ∧ True ∧ True ∧ Sx.Ask (false = z0))) (True ∧ True ∧ True ∧ True ∧ True ∧ Sx.Ask (false = z0))) (True ∧ True ∧ True ∧ True ∧ True ∧ True ∧ True ∧ Sx.Ask (false = z0))) (by kernel_rfl) ?_
  simp only [ask_iff, br_iff, eq_self, true_and, and_true, implies_true, forall_const, decide_eq_true_eq, decide_eq_false_iff_not, ne_eq, Nat.mul_one, Nat.add_zero, Nat.zero_add, Int.toNat_natCast, Bool.or_false]
  refine ⟨fun h1 => ⟨fun h2 => ⟨fun h3 => ?_, fun h3 => ?_⟩, fun h2 => ?_⟩, fun h1 => ?_⟩
  · rw [decide_eq_true h1, decide_eq_true h2, decide_eq_true h3]; rfl
  · rw [decide_eq_false h3]; simp
  · rw [decide_eq_false h2]; simp
  · rw [decide_eq_false h1]; rfl
structure OfG where
  w : Nat
  h : Nat
  n : Nat
  f : Nat → Vec
def emptyG : Gt := ⟨fun _ => false, fun _ => 0, 0, fun _ => 0, fun _ _ => ⟨0, 0, 0⟩, fun _ _ => 0, false⟩
/-- What the first y rows of a page of width W add. -/
noncomputable def ofR (f : Nat → Vec) (W : Nat) : Nat → Gt
  | 0 => emptyG
  | y + 1 => rowA (ofR f W y) y W (fun x => f (y * W + x))
noncomputable def ofB (g : OfG) : Gt := ofR g.f (16 * g.w) (16 * g.h)
theorem of_ex : ∃ f, f = ofB := ⟨_, rfl⟩
noncomputable def ofA : OfG → Gt := Classical.choose of_ex
theorem of_eq : ofA = ofB := Classical.choose_spec of_ex
theorem rowG_ok (f : Nat → Vec) (y : Int) (len : Nat) : ∀ n x B G, x ≤ len → Gok (B + x) G → Gok (B + len) (rowG f y len n x G)
  | 0, x, B, G, h1, h2 => gokMono h2 (by omega)
  | n + 1, x, B, G, h1, h2 => by
    rw [rowG_succ]
    split
    · rename_i hx
      have hb := (brk_ok (f := f) hx).1
      exact rowG_ok f y len n _ B _ hb.2 (gokMono (nxt_ok h2 _ _) (by omega))
    · exact gokMono h2 (by omega)
theorem rowA_ok {f : Nat → Vec} {y : Int} {len B : Nat} {G : Gt} (h : Gok B G) : Gok (B + len) (rowA G y len f) := by
  rw [row_eq]
  exact rowG_ok f y len len 0 B G (Nat.zero_le _) h
theorem ofR_ok (f : Nat → Vec) (W : Nat) : ∀ y, Gok (y * W) (ofR f W y)
  | 0 => ⟨Nat.zero_le _, fun _ => Nat.zero_le _, fun l h => by cases h⟩
  | y + 1 => by
    rw [Nat.add_mul, Nat.one_mul]
    exact rowA_ok (ofR_ok f W y)
structure OfS where
  y : Nat
  G : Gt
def ofI (g : OfG) : Inv := ⟨OfS, fun s => s.y ≤ 16 * g.h ∧ s.G = ofR g.f (16 * g.w) s.y, fun s => ⟨[(0, .int .i64 g.w), (2, cellS g.n g.f), (8, .own 0 0), (23, .int .i64 (16 * g.h)), (24, .int .i64 s.y)], gaO s.G 0 0⟩, fun s => 16 * g.h - s.y⟩
noncomputable def spOf : FSpec := mkSpec 24 (γ := OfG) (fun | [.int _ w, .int _ h, s] => some ⟨w.toNat, h.toNat, slLen s, cellD s⟩ | _ => none) (fun g => [.int .i64 g.w, .int .i64 g.h, cellS g.n g.f])
  (fun g => (1 ≤ g.w ∧ g.w ≤ 256) ∧ (1 ≤ g.h ∧ g.h ≤ 256) ∧ g.n = 256 * g.w * g.h) (fun g => pcA (ofA g))
theorem ok_Of : SpecOK Try.prog spOf := by
  refine spec_sound (specs := [spSized, spRow, spPieces]) (all_ok ⟨ok_sized, ok_row, ok_pieces, trivial⟩) (eqs := []) (fun _ _ h => (List.not_mem_nil h).elim) Aff.mixed Try.func24 rfl (by kernel_rfl) (fun _ _ => by kernel_rfl)
    (fun g => (⟨[(3000005, .news 0 nsGat), (7, .inv (ofI g))], [(6, [.ownC 0 1 55 1, .deepen 2 3 43, .ownC 0 2 33 8])]⟩ : Ann)) (fun g => Nat.le_of_ble_eq_true (by kernel_rfl)) ?_
  rintro g ⟨hw, hh, hn⟩
  refine vc_of (B := let z32 := (256 : Int);let z31 := (7 : Nat);let z30 := (6 : Nat);let z29 := (5 : Nat);let z28 := (4 : Nat);let z27 := (3 : Nat);let z26 := (2 : Nat);let z24 := (1 : Int);let z23 := (1 : Nat);let z18 := (((True ∧ True) ∧ True) ∧ True);let z17 := (16 : Int);let z15 := (↑g.h : Int);let z14 := (Gt.P (ofA g));let z13 := (↑g.w : Int);let z12 := (0 : Nat); let z21 := (True ∧ Sx.Ask ((bif (ofA g).full then z12 else (ofA g).n) = z12));let z9 := (9223372036854775807 : Int);let z8 := (-9223372036854775808 : Int);let z4 := (IntKind.i64 = IntKind.i64); let z33 := (Sx.Ask z4 ∧ Sx.Ask (z17 * z15 = z17 * z15)); let z22 := (Sx.Ask z4 ∧ Sx.Ask (z13 = z13));let z1 := (IntKind.u8 = IntKind.u8); let z5 := (Sx.Ask (g.n = g.n) ∧ ∀ (i : Nat), i < g.n → (((((((True ∧ Sx.Ask z1 ∧ Sx.Ask (g.f i z12 = g.f i z12)) ∧ Sx.Ask z1 ∧ Sx.Ask (g.f i z23 = g.f i z23)) ∧ Sx.Ask z1 ∧ Sx.Ask (g.f i z26 = g.f i z26)) ∧ Sx.Ask z1 ∧ Sx.Ask (g.f i z27 = g.f i z27)) ∧ Sx.Ask z1 ∧ Sx.Ask (g.f i z28 = g.f i z28)) ∧ Sx.Ask z1 ∧ Sx.Ask (g.f i z29 = g.f i z29)) ∧ Sx.Ask z1 ∧ Sx.Ask (g.f i z30 = g.f i z30)) ∧ Sx.Ask z1 ∧ Sx.Ask (g.f i z31 = g.f i z31));True ∧ True ∧ True ∧ True ∧ ((z22 ∧ (Sx.Ask z4 ∧ Sx.Ask (z15 = z15)) ∧ True) ∧ Sx.Ask True) ∧ True ∧ Sx.Br (!(decide (z24 ≤ z13) && (decide (z13 ≤ z32) && (decide (z24 ≤ z15) && decide (z15 ≤ z32))))) (True ∧ True ∧ True ∧ z21 ∧ Sx.Ask z4 ∧ Sx.Ask ((3 : Int) = bif (ofA g).full then (2 : Int) else (0 : Int))) (True ∧ True ∧ True ∧ Sx.Ask (z8 ≤ z32 * z13 ∧ z32 * z13 ≤ z9) ∧ True ∧ Sx.Ask (z8 ≤ z32 * z13 * z15 ∧ z32 * z13 * z15 ≤ z9) ∧ True ∧ Sx.Br (decide ((↑g.n : Int) ≠ z32 * z13 * z15)) (True ∧ True ∧ True ∧ z21 ∧ Sx.Ask z4 ∧ Sx.Ask ((4 : Int) = bif (ofA g).full then (2 : Int) else (0 : Int))) (Sx.NewsOK Go.Proofs.Try.prog Gat.nsGat ∧ (True ∧ Sx.Ask True) ∧ True ∧ True ∧ Sx.Ask (z8 ≤ z17 * z15 ∧ z17 * z15 ≤ z9) ∧ True ∧ (∃ (g_1 : OfS), Sx.Ask ((ofI g).pre g_1) ∧ (z22 ∧ z5 ∧ Sx.Ask (z12 = z12) ∧ z33 ∧ (Sx.Ask z4 ∧ Sx.Ask ((0 : Int) = (↑g_1.y : Int))) ∧ True) ∧ (z18 ∧ Sx.Ask (false = g_1.G.full)) ∧ (∀ (l : List Int), l.length = (8 : Nat) → Sx.Ask (false = g_1.G.has l) ∧ ((g_1.G.has l || false) = true → False)) ∧ (Sx.Ask (z12 = g_1.G.n) ∧ (∀ (i : Nat), i < g_1.G.n → Sx.Ask (z12 = g_1.G.m i) ∧ ∀ (i' : Nat), i' < g_1.G.m i → ((True ∧ False) ∧ False) ∧ False) ∧ ∀ (i : Nat), i < g_1.G.n → True) ∧ (Sx.Ask (z12 = g_1.G.n) ∧ ∀ (i : Nat), i < g_1.G.n → (((((((True ∧ False) ∧ False) ∧ False) ∧ False) ∧ False) ∧ False) ∧ False) ∧ False) ∧ True) ∧ ∀ (g_1 : OfS), let z34 := (z18 ∧ Sx.Ask (g_1.G.full = g_1.G.full)); let z20 := (Gt.P g_1.G); let z19 := ((g_1.y + z23) * (16 : Nat) * g.w); let z16 := (g_1.y * (16 : Nat) * g.w); let z11 := (∀ (l : List Int), l.length = (8 : Nat) → Sx.Ask (g_1.G.has l = g_1.G.has l) ∧ ((g_1.G.has l || false) = true → Sx.Ask z4 ∧ Sx.Ask (g_1.G.val l = g_1.G.val l))); let z10 := (↑g_1.y : Int); let z7 := (Sx.Ask (g_1.G.n = g_1.G.n) ∧ (∀ (i : Nat), i < g_1.G.n → Sx.Ask (g_1.G.m i = g_1.G.m i) ∧ ∀ (i' : Nat), let z25 := (g_1.G.p i i'); i' < g_1.G.m i → ((True ∧ Sx.Ask z4 ∧ Sx.Ask (z25.y = z25.y)) ∧ Sx.Ask z4 ∧ Sx.Ask (z25.x0 = z25.x0)) ∧ Sx.Ask z4 ∧ Sx.Ask (z25.x1 = z25.x1)) ∧ ∀ (i : Nat), i < g_1.G.n → True); let z6 := (Int.ofNat z19 - Int.ofNat z16); let z3 := (Sx.Ask (g_1.G.n = g_1.G.n) ∧ ∀ (i : Nat), i < g_1.G.n → (((((((True ∧ Sx.Ask z1 ∧ Sx.Ask (g_1.G.ink i z12 = g_1.G.ink i z12)) ∧ Sx.Ask z1 ∧ Sx.Ask (g_1.G.ink i z23 = g_1.G.ink i z23)) ∧ Sx.Ask z1 ∧ Sx.Ask (g_1.G.ink i z26 = g_1.G.ink i z26)) ∧ Sx.Ask z1 ∧ Sx.Ask (g_1.G.ink i z27 = g_1.G.ink i z27)) ∧ Sx.Ask z1 ∧ Sx.Ask (g_1.G.ink i z28 = g_1.G.ink i z28)) ∧ Sx.Ask z1 ∧ Sx.Ask (g_1.G.ink i z29 = g_1.G.ink i z29)) ∧ Sx.Ask z1 ∧ Sx.Ask (g_1.G.ink i z30 = g_1.G.ink i z30)) ∧ Sx.Ask z1 ∧ Sx.Ask (g_1.G.ink i z31 = g_1.G.ink i z31)); let z0 := (rowA g_1.G z10 z6.toNat fun (i : Nat) => g.f ((Int.ofNat z16).toNat + i)); (ofI g).pre g_1 → True ∧ Sx.Br (decide (z10 < z17 * z15)) (True ∧ True ∧ True ∧ True ∧ True ∧ True ∧ Sx.Ask (z8 ≤ z10 * z17 ∧ z10 * z17 ≤ z9) ∧ True ∧ Sx.Ask (z8 ≤ z10 * z17 * z13 ∧ z10 * z17 * z13 ≤ z9) ∧ True ∧ Sx.Ask (z8 ≤ z10 + z24 ∧ z10 + z24 ≤ z9) ∧ Sx.Ask (z8 ≤ (z10 + z24) * z17 ∧ (z10 + z24) * z17 ≤ z9) ∧ True ∧ Sx.Ask (z8 ≤ (z10 + z24) * z17 * z13 ∧ (z10 + z24) * z17 * z13 ≤ z9) ∧ Sx.Ask ((0 : Int) ≤ Int.ofNat z16 ∧ Int.ofNat z16 ≤ Int.ofNat z19 ∧ Int.ofNat z19 ≤ Int.ofNat g.n ∧ Int.ofNat g.n ≤ (↑g.n : Int)) ∧ ((True ∧ (Sx.Ask (z12 = z12) ∧ (Sx.Ask z4 ∧ Sx.Ask (z10 = z10)) ∧ (Sx.Ask (z6.toNat = z6.toNat) ∧ ∀ (i : Nat), let z2 := ((Int.ofNat z16).toNat + i); i < z6.toNat → (((((((True ∧ Sx.Ask z1 ∧ Sx.Ask (g.f z2 z12 = g.f z2 z12)) ∧ Sx.Ask z1 ∧ Sx.Ask (g.f z2 z23 = g.f z2 z23)) ∧ Sx.Ask z1 ∧ Sx.Ask (g.f z2 z26 = g.f z2 z26)) ∧ Sx.Ask z1 ∧ Sx.Ask (g.f z2 z27 = g.f z2 z27)) ∧ Sx.Ask z1 ∧ Sx.Ask (g.f z2 z28 = g.f z2 z28)) ∧ Sx.Ask z1 ∧ Sx.Ask (g.f z2 z29 = g.f z2 z29)) ∧ Sx.Ask z1 ∧ Sx.Ask (g.f z2 z30 = g.f z2 z30)) ∧ Sx.Ask z1 ∧ Sx.Ask (g.f z2 z31 = g.f z2 z31)) ∧ True) ∧ z34 ∧ z11 ∧ z7 ∧ z3 ∧ True) ∧ Sx.Ask (∃ (B : Nat), Gat.Gok B g_1.G ∧ B + z6.toNat ≤ (4294967295 : Nat))) ∧ Sx.Ask (z8 ≤ z10 + z24 ∧ z10 + z24 ≤ z9) ∧ True ∧ ∃ (g' : OfS), Sx.Ask ((ofI g).pre g') ∧ ((z22 ∧ z5 ∧ Sx.Ask (z12 = z12) ∧ z33 ∧ (Sx.Ask z4 ∧ Sx.Ask (z10 + z24 = (↑g'.y : Int))) ∧ True) ∧ (z18 ∧ Sx.Ask (z0.full = g'.G.full)) ∧ (∀ (l : List Int), l.length = (8 : Nat) → Sx.Ask (z0.has l = g'.G.has l) ∧ ((g'.G.has l || false) = true → Sx.Ask z4 ∧ Sx.Ask (z0.val l = g'.G.val l))) ∧ (Sx.Ask (z0.n = g'.G.n) ∧ (∀ (i : Nat), i < g'.G.n → Sx.Ask (z0.m i = g'.G.m i) ∧ ∀ (i' : Nat), i' < g'.G.m i → ((True ∧ Sx.Ask z4 ∧ Sx.Ask ((z0.p i i').y = (g'.G.p i i').y)) ∧ Sx.Ask z4 ∧ Sx.Ask ((z0.p i i').x0 = (g'.G.p i i').x0)) ∧ Sx.Ask z4 ∧ Sx.Ask ((z0.p i i').x1 = (g'.G.p i i').x1)) ∧ ∀ (i : Nat), i < g'.G.n → True) ∧ (Sx.Ask (z0.n = g'.G.n) ∧ ∀ (i : Nat), i < g'.G.n → (((((((True ∧ Sx.Ask z1 ∧ Sx.Ask (z0.ink i z12 = g'.G.ink i z12)) ∧ Sx.Ask z1 ∧ Sx.Ask (z0.ink i z23 = g'.G.ink i z23)) ∧ Sx.Ask z1 ∧ Sx.Ask (z0.ink i z26 = g'.G.ink i z26)) ∧ Sx.Ask z1 ∧ Sx.Ask (z0.ink i z27 = g'.G.ink i z27)) ∧ Sx.Ask z1 ∧ Sx.Ask (z0.ink i z28 = g'.G.ink i z28)) ∧ Sx.Ask z1 ∧ Sx.Ask (z0.ink i z29 = g'.G.ink i z29)) ∧ Sx.Ask z1 ∧ Sx.Ask (z0.ink i z30 = g'.G.ink i z30)) ∧ Sx.Ask z1 ∧ Sx.Ask (z0.ink i z31 = g'.G.ink i z31)) ∧ True) ∧ Sx.Ask ((ofI g).meas g' < (ofI g).meas g_1)) (True ∧ ((True ∧ (Sx.Ask (z12 = z12) ∧ True) ∧ z34 ∧ z11 ∧ z7 ∧ z3 ∧ True) ∧ Sx.Ask (g_1.G.n ≤ (4096 : Nat))) ∧ True ∧ True ∧ True ∧ True ∧ True ∧ (True ∧ Sx.Ask ((bif g_1.G.full then z12 else g_1.G.n) = bif (ofA g).full then z12 else (ofA g).n) ∧ ∀ (i : Nat), (i < bif (ofA g).full then z12 else (ofA g).n) → ((((((((True ∧ Sx.Ask (z20.m i = z14.m i) ∧ ∀ (i_1 : Nat), i_1 < z14.m i → ((True ∧ Sx.Ask z4 ∧ Sx.Ask ((g_1.G.p i i_1).y = (z14.p i i_1).y)) ∧ Sx.Ask z4 ∧ Sx.Ask ((g_1.G.p i i_1).x0 = (z14.p i i_1).x0)) ∧ Sx.Ask z4 ∧ Sx.Ask ((g_1.G.p i i_1).x1 = (z14.p i i_1).x1)) ∧ Sx.Ask z1 ∧ Sx.Ask (z20.ink i z12 = z14.ink i z12)) ∧ Sx.Ask z1 ∧ Sx.Ask (z20.ink i z23 = z14.ink i z23)) ∧ Sx.Ask z1 ∧ Sx.Ask (z20.ink i z26 = z14.ink i z26)) ∧ Sx.Ask z1 ∧ Sx.Ask (z20.ink i z27 = z14.ink i z27)) ∧ Sx.Ask z1 ∧ Sx.Ask (z20.ink i z28 = z14.ink i z28)) ∧ Sx.Ask z1 ∧ Sx.Ask (z20.ink i z29 = z14.ink i z29)) ∧ Sx.Ask z1 ∧ Sx.Ask (z20.ink i z30 = z14.ink i z30)) ∧ Sx.Ask z1 ∧ Sx.Ask (z20.ink i z31 = z14.ink i z31)) ∧ Sx.Ask z4 ∧ Sx.Ask ((bif g_1.G.full then (2 : Int) else (0 : Int)) = bif (ofA g).full then (2 : Int) else (0 : Int)))))) (by kernel_rfl) ?_
  simp only [ask_iff, br_iff, eq_self, true_and, and_true, implies_true, forall_const, decide_eq_true_eq, decide_eq_false_iff_not, ne_eq, Nat.mul_one, Nat.add_zero, Nat.zero_add, Int.toNat_natCast, Bool.or_false]
  simp only [Int.ofNat_eq_natCast, Int.toNat_natCast]
  have hsz : (decide (1 ≤ (g.w : Int)) && (decide ((g.w : Int) ≤ 256) && (decide (1 ≤ (g.h : Int)) && decide ((g.h : Int) ≤ 256)))) = true := by
    simp only [Bool.and_eq_true, decide_eq_true_eq]; omega
  have e3 : 256 * g.w * g.h ≤ 256 * 256 * 256 := Nat.mul_le_mul (Nat.mul_le_mul_left _ hw.2) hh.2
  have c1 : (256 * (g.w : Int) * g.h) = ((256 * g.w * g.h : Nat) : Int) := by simp
  have start : ∀ G : Gt, G = emptyG → G.full = false ∧ (∀ l, G.has l = false) ∧ G.n = 0 := by rintro G rfl; exact ⟨rfl, fun _ => rfl, rfl⟩
  refine ⟨fun hc => (by rw [hsz] at hc; cases hc), fun _ => ⟨by omega, by rw [c1]; omega, fun hc => absurd (show (g.n : Int) = 256 * g.w * g.h by rw [c1, hn]) hc, fun _ => ⟨ok_gat, by omega, ⟨⟨0, emptyG⟩, ⟨Nat.zero_le _, rfl⟩, ?_⟩, fun s hs => ⟨fun hlt => ?_, fun hge => ?_⟩⟩⟩⟩
  · exact ⟨rfl, rfl, fun l _ => ⟨rfl, fun h => by cases h⟩, ⟨rfl, fun i hi => absurd hi (Nat.not_lt_zero _)⟩, rfl, fun i hi => absurd hi (Nat.not_lt_zero _)⟩
  · have hy : s.y + 1 ≤ 16 * g.h := by omega
    have e1 : (s.y + 1) * 16 * g.w = s.y * 16 * g.w + 16 * g.w := by rw [Nat.add_mul, Nat.one_mul, Nat.add_mul]
    have e2 : (s.y + 1) * 16 * g.w ≤ 256 * g.w * g.h := by
      refine Nat.le_trans (Nat.mul_le_mul_right _ (Nat.mul_le_mul_right _ hy)) (Nat.le_of_eq ?_)
      grind
    have c2 : ((s.y : Int) * 16 * g.w) = ((s.y * 16 * g.w : Nat) : Int) := by simp
    have c3 : (((s.y : Int) + 1) * 16 * g.w) = (((s.y + 1) * 16 * g.w : Nat) : Int) := by simp
    have hl : ((((s.y + 1) * 16 * g.w : Nat) : Int) - ((s.y * 16 * g.w : Nat) : Int)).toNat = 16 * g.w := by omega
    have hG : s.G = ofR g.f (16 * g.w) s.y := hs.2
    have hmul : s.y * (16 * g.w) = s.y * 16 * g.w := (Nat.mul_assoc _ _ _).symm
    have hB : Gok (s.y * (16 * g.w)) s.G := hG ▸ ofR_ok g.f (16 * g.w) s.y
    rw [hl]
    refine ⟨by omega, by rw [c2]; omega, by omega, by omega, by rw [c3]; omega, by omega, ⟨_, hB, by rw [hmul]; omega⟩, by omega, ⟨s.y + 1, rowA s.G s.y (16 * g.w) fun i => g.f (s.y * 16 * g.w + i)⟩, ⟨hy, ?_⟩, ⟨by simp, sameG _⟩, by show 16 * g.h - (s.y + 1) < 16 * g.h - s.y; omega⟩
    show rowA s.G s.y (16 * g.w) (fun i => g.f (s.y * 16 * g.w + i)) = rowA (ofR g.f (16 * g.w) s.y) s.y (16 * g.w) (fun x => g.f (s.y * (16 * g.w) + x))
    rw [hG, hmul]
  · have hy : s.y ≤ 16 * g.h := hs.1
    have hG : s.G = ofR g.f (16 * g.w) s.y := hs.2
    have e : ofA g = s.G := by
      rw [of_eq, hG, show s.y = 16 * g.h by omega]
      rfl
    have hB : Gok (s.y * (16 * g.w)) s.G := hG ▸ ofR_ok g.f (16 * g.w) s.y
    rw [e]
    refine ⟨hB.n, ⟨rfl, fun i hi => ?_⟩, rfl⟩
    repeat' (first | rfl | trivial | apply And.intro | intro _)
end Go.Proofs.Ytbkgncikjhibiaa.Gar
