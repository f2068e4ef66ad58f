/- printworkskeep1.GradientAcross returns true for every two points and five numbers, and leaves its arguments as they were. -/
import Derived.Test.YtiicncaamlkkbaaRows
import Derived.Test.YtiicncaamlkkbaaFrame
import Derived.Test.YtiicncaamlkkbaaGrad3
import Derived.Laws.CopyOwn
namespace Go.Proofs.Ytiicncaamlkkbaa.gradientAcross
open Go.ChangeShapes Go.WideShapes Go.ChangeAt Go.RowKit
set_option linter.unusedVariables false
open Num Grad
theorem one_stop {w : World} {B : Nat} {T : TypeId} (h : w.heap[B]? = some (.cells #[.int .i64 0, .int .u8 0, .int .u8 0, .int .u8 0, .int .u8 0, .int .u8 0, .int .u8 0, .int .u8 0, .int .u8 0] T)) :
    ∀ i j : Nat, ∀ hi : i < ([⟨0, fun _ => 0⟩] : List Stop).length, j < 9 → w.cell? ⟨B, 0 + i * 9 + j, none⟩ = (Stop.cells ([⟨0, fun _ => 0⟩] : List Stop)[i])[j]? := by
  intro i j hi hj
  rw [(block_cells h).1]
  obtain rfl : i = 0 := by simp at hi; omega
  rcases (show j = 0 ∨ j = 1 ∨ j = 2 ∨ j = 3 ∨ j = 4 ∨ j = 5 ∨ j = 6 ∨ j = 7 ∨ j = 8 by omega) with rfl | rfl | rfl | rfl | rfl | rfl | rfl | rfl | rfl <;> rfl
theorem one_ok : StopsOk [⟨0, fun _ => 0⟩] := by
  refine ⟨by simp, by simp, ?_, ?_⟩
  · intro s hs
    simp only [List.mem_cons, List.not_mem_nil, or_false] at hs
    subst hs
    exact ⟨by show (0 : Int) ≤ 0; omega, by show (0 : Int) ≤ 65536; omega, fun _ _ => ⟨by show (0 : Int) ≤ 0; omega, by show (0 : Int) ≤ 255; omega⟩⟩
  · intro i hi
    simp at hi
theorem t24576 : clampW (placeQ 0 0 4 0 1 0) = 24576 := by decide
theorem across (fx fy tx ty x y k : Int) : placeQ fx fy tx ty (x - k * (ty - fy)) (y + k * (tx - fx)) = placeQ fx fy tx ty x y := by
  unfold placeQ
  congr 2
  grind
theorem moved (fx fy tx ty x y dx dy : Int) : placeQ (fx + dx) (fy + dy) (tx + dx) (ty + dy) (x + dx) (y + dy) = placeQ fx fy tx ty x y := by
  unfold placeQ
  have e1 : tx + dx - (fx + dx) = tx - fx := by omega
  have e2 : ty + dy - (fy + dy) = ty - fy := by omega
  have e3 : 2 * (x + dx) + 1 - 2 * (fx + dx) = 2 * x + 1 - 2 * fx := by omega
  have e4 : 2 * (y + dy) + 1 - 2 * (fy + dy) = 2 * y + 1 - 2 * fy := by omega
  rw [e1, e2, e3, e4]
theorem heap_new3 (w : World) (A B C D : Obj) : ((((w.alloc A).alloc B).alloc C).alloc D).heap[w.heap.size + 1 + 1 + 1]? = some D := by
  have := heap_new (((w.alloc A).alloc B).alloc C) D
  simpa using this
theorem heap4 (w : World) (A B C D : Obj) : ((((w.alloc A).alloc B).alloc C).alloc D).heap[w.heap.size]? = some A ∧ ((((w.alloc A).alloc B).alloc C).alloc D).heap[w.heap.size + 1]? = some B ∧
    ((((w.alloc A).alloc B).alloc C).alloc D).heap[w.heap.size + 1 + 1]? = some C ∧ ((((w.alloc A).alloc B).alloc C).alloc D).heap[w.heap.size + 1 + 1 + 1]? = some D ∧
    ((((w.alloc A).alloc B).alloc C).alloc D).heap.size = w.heap.size + 4 ∧ Below w.heap.size w ((((w.alloc A).alloc B).alloc C).alloc D) := by
  have s1 : (w.alloc A).heap.size = w.heap.size + 1 := by simp
  have s2 : ((w.alloc A).alloc B).heap.size = w.heap.size + 2 := by simp
  have s3 : (((w.alloc A).alloc B).alloc C).heap.size = w.heap.size + 3 := by simp
  have b1 : ∀ (W : World) (O : Obj) (k : Nat), k < W.heap.size → (W.alloc O).heap[k]? = W.heap[k]? := fun W O k hk => ((Below.refl W.heap.size W).alloc (Nat.le_refl _) O).block k hk
  refine ⟨?_, ?_, ?_, heap_new3 w A B C D, by simp, by go_grown⟩
  · rw [b1 _ _ _ (by omega), b1 _ _ _ (by omega), b1 _ _ _ (by omega), heap_new]
  · rw [b1 _ _ _ (by omega), b1 _ _ _ (by omega)]
    have := heap_new (w.alloc A) B; rwa [s1] at this
  · rw [b1 _ _ _ (by omega)]
    have := heap_new ((w.alloc A).alloc B) C; rwa [s2] at this
abbrev zeroSrc : Array Value := #[.int .i64 0, .int .u8 0, .int .u8 0, .int .u8 0, .int .u8 0, .int .u8 0, .int .u8 0, .int .u8 0, .int .u8 0, .int .i64 0, .int .i64 0, .int .i64 0, .int .i64 0, .int .i64 0, .slice none 0 0,
  .int .i64 0, .int .i64 0, .slice none 0 0, .slice none 0 0, .int .i64 0, .int .i64 0, .int .i64 0, .int .i64 0, .int .i64 0, .int .i64 0, .bool false, .bool false]
theorem set2 {W : World} {S : Nat} {cs : Array Value} {T : TypeId} (o : Nat) (h : W.heap[S]? = some (.cells cs T)) (v1 v2 : Value) :
    (((W.setCell ⟨S, o, none⟩ v1).setCell ⟨S, o + 1, none⟩ v2).drew).heap[S]? = some (.cells ((cs.setIfInBounds o v1).setIfInBounds (o + 1) v2) T) ∧
    (∀ k, k ≠ S → (((W.setCell ⟨S, o, none⟩ v1).setCell ⟨S, o + 1, none⟩ v2).drew).heap[k]? = W.heap[k]?) ∧
    (((W.setCell ⟨S, o, none⟩ v1).setCell ⟨S, o + 1, none⟩ v2).drew).heap.size = W.heap.size ∧
    (∀ B a, B ≤ S → Below B a W → Below B a ((W.setCell ⟨S, o, none⟩ v1).setCell ⟨S, o + 1, none⟩ v2).drew) := by
  have one : ∀ (W : World) (cs : Array Value) (o : Nat) (v : Value), W.heap[S]? = some (.cells cs T) → (W.setCell ⟨S, o, none⟩ v).heap[S]? = some (.cells (cs.setIfInBounds o v) T) := by
    intro W cs o v h
    simp only [World.setCell, Array.getElem?_modify, h]
    simp
  refine ⟨one _ _ _ _ (one _ _ _ _ h), fun k hk => ?_, by simp [World.setCell], fun B a hB hb => ((hb.setCell hB _).setCell hB _).drew⟩
  show ((W.setCell ⟨S, o, none⟩ v1).setCell ⟨S, o + 1, none⟩ v2).heap[k]? = _
  rw [Below.heap_setCell _ _ _ _ hk, Below.heap_setCell _ _ _ _ hk]
theorem below_drewN_base {W w : World} {n : Nat} (h : Below (W.drewN n).heap.size (W.drewN n) w) : Below W.heap.size W w := ⟨h.os, h.tape, h.output, h.size, h.block⟩
theorem set1 {W : World} {S : Nat} {cs : Array Value} {T : TypeId} {o : Nat} {v : Value} (h : W.heap[S]? = some (.cells cs T)) : (W.setCell ⟨S, o, none⟩ v).heap[S]? = some (.cells (cs.setIfInBounds o v) T) := by
  simp only [World.setCell, Array.getElem?_modify, h]
  simp
theorem set4 {W : World} {S : Nat} {cs : Array Value} {T : TypeId} (h : W.heap[S]? = some (.cells cs T)) (a b c d : Value) :
    ((((W.setCell ⟨S, 9, none⟩ a).setCell ⟨S, 10, none⟩ b).setCell ⟨S, 11, none⟩ c).setCell ⟨S, 12, none⟩ d).heap[S]? = some (.cells ((((cs.setIfInBounds 9 a).setIfInBounds 10 b).setIfInBounds 11 c).setIfInBounds 12 d) T) :=
  set1 (set1 (set1 (set1 h)))
theorem other4 {W : World} {S k : Nat} (h : k ≠ S) (a b c d : Value) :
    ((((W.setCell ⟨S, 9, none⟩ a).setCell ⟨S, 10, none⟩ b).setCell ⟨S, 11, none⟩ c).setCell ⟨S, 12, none⟩ d).heap[k]? = W.heap[k]? := by
  rw [Below.heap_setCell _ _ _ _ h, Below.heap_setCell _ _ _ _ h, Below.heap_setCell _ _ _ _ h, Below.heap_setCell _ _ _ _ h]
theorem size4 {W : World} {S : Nat} (a b c d : Value) : ((((W.setCell ⟨S, 9, none⟩ a).setCell ⟨S, 10, none⟩ b).setCell ⟨S, 11, none⟩ c).setCell ⟨S, 12, none⟩ d).heap.size = W.heap.size := by simp [World.setCell]
theorem below4 {W w : World} {S B : Nat} (h : Below B w W) (hS : B ≤ S) (a b c d : Value) : Below B w ((((W.setCell ⟨S, 9, none⟩ a).setCell ⟨S, 10, none⟩ b).setCell ⟨S, 11, none⟩ c).setCell ⟨S, 12, none⟩ d) :=
  (((h.setCell hS _).setCell hS _).setCell hS _).setCell hS _
theorem moved_ne {fx fy tx ty dx dy : Int} (h : (fx == tx && fy == ty) = false) : (fx + dx == tx + dx && fy + dy == ty + dy) = false := by
  rw [Bool.and_eq_false_iff] at h ⊢
  rcases h with h | h
  · left; simp at h ⊢; omega
  · right; simp at h ⊢; omega
theorem srcsize (fx fy tx ty : Int) (st : Value) : (Try.prog.info? 54).map (·.size) = some (linArr fx fy tx ty st).size := by kernel_rfl
theorem one27 (fx fy tx ty : Int) (a : Addr) (n m : Nat) : (linArr fx fy tx ty (.slice (some a) n m)).all (·.oneCell') = true := by simp [Value.oneCell']
theorem bld (a : Addr) (n m : Nat) : Try.prog.built 54 [(0, .int .i64 1), (3, .agg #[.int .i64 4, .int .i64 0]), (5, .slice (some a) n m)] = some (linArr 0 0 4 0 (.slice (some a) n m)) := by kernel_rfl
set_option maxRecDepth 100000 in
set_option maxHeartbeats 4000000 in

theorem walk (x0_0 : Int) (x0_1 : Int) (x1_0 : Int) (x1_1 : Int) (a2 : Int) (a3 : Int) (a4 : Int) (a5 : Int) (a6 : Int) (w : World) (w0_0 : (Lit.int .i64 x0_0).wf = true) (w0_1 : (Lit.int .i64 x0_1).wf = true) (w1_0 : (Lit.int .i64 x1_0).wf = true) (w1_1 : (Lit.int .i64 x1_1).wf = true) (w2 : (Lit.int .i64 a2).wf = true) (w3 : (Lit.int .i64 a3).wf = true) (w4 : (Lit.int .i64 a4).wf = true) (w5 : (Lit.int .i64 a5).wf = true) (w6 : (Lit.int .i64 a6).wf = true) :
    Calls Try.prog 9 #[.agg #[.int .i64 x0_0, .int .i64 x0_1], .agg #[.int .i64 x1_0, .int .i64 x1_1], .int .i64 a2, .int .i64 a3, .int .i64 a4, .int .i64 a5, .int .i64 a6] w fun e w' => e = .returned (.bool true) ∧ Below w.heap.size w w' := by
  obtain ⟨n1, n2⟩ := bounds_i64 w0_0
  obtain ⟨n3, n4⟩ := bounds_i64 w0_1
  obtain ⟨n5, n6⟩ := bounds_i64 w1_0
  obtain ⟨n7, n8⟩ := bounds_i64 w1_1
  obtain ⟨n9, n10⟩ := bounds_i64 w2
  obtain ⟨n11, n12⟩ := bounds_i64 w3
  obtain ⟨n13, n14⟩ := bounds_i64 w4
  obtain ⟨n15, n16⟩ := bounds_i64 w5
  obtain ⟨n17, n18⟩ := bounds_i64 w6
  clear w0_0 w0_1 w1_0 w1_1 w2 w3 w4 w5 w6
  go_enter Try.func9, Try.ntmps9
  go_wp2_with (first
    | ((with_reducible refine wpList_build_to rfl 54 _ rfl [(0, .int .i64 1), (3, .agg #[.int .i64 4, .int .i64 0]), (5, .slice (some ⟨w.heap.size + 1 + 1, 0, none⟩) 1 1)] ?_ _ (bld _ _ _) ?_); focus rfl)
    | ((with_reducible refine wpList_store_row rfl 54 _ _ rfl (w.heap.size + 1 + 1 + 1) (linArr 0 0 4 0 (.slice (some ⟨w.heap.size + 1 + 1, 0, none⟩) 1 1)) ?_ ?_ 54 _ (heap_new3 w _ _ _ _) (srcsize ..) ?_ (one27 _ _ _ _ _ _ _) ?_); (focus rfl); (focus rfl); (focus rfl))
    | ((with_reducible refine wpList_load_row rfl 54 _ rfl (w.heap.size + 1 + 1 + 1) ?_ 54 (linArr 0 0 4 0 (.slice (some ⟨w.heap.size + 1 + 1, 0, none⟩) 1 1)) (0, 0) _ (setRow_heap _ _ _ _ _ _ (heap_new3 w _ _ _ _)) Try.underlying54 ?_ (srcsize ..) ?_); (focus rfl); (focus rfl)))
  obtain ⟨h4a, h4b, h4c, h4d, h4s, h4w⟩ := heap4 w (.cells #[.int .i64 x0_0, .int .i64 x0_1] 46) (.cells #[.int .i64 x1_0, .int .i64 x1_1] 46)
    (.cells #[.int .i64 0, .int .u8 0, .int .u8 0, .int .u8 0, .int .u8 0, .int .u8 0, .int .u8 0, .int .u8 0, .int .u8 0] 40) (.cells (zeroSrc) 54)
  refine (Place_lin 0 0 4 0 1 0 [⟨0, fun _ => 0⟩] (w.heap.size + 1 + 1) 0 1 _ _ rfl one_ok (by decide) (by omega) (by omega) (by omega) (by omega) (by omega) (by omega) (by omega) (by omega) (by omega) (by omega) (by omega) (by omega)
    (one_stop ((setRow_other _ _ _ _ (by omega)).trans h4c))).mono ?_
  rintro e w1 ⟨rfl, k1⟩
  rw [t24576]
  have r3 := (k1.block (w.heap.size + 1 + 1 + 1) (by first | (simp; done) | (simp; omega))).trans (setRow_heap _ _ _ _ _ _ h4d)
  have r2 := (k1.block (w.heap.size + 1 + 1) (by first | (simp; done) | (simp; omega))).trans ((setRow_other _ _ _ _ (by omega)).trans h4c)
  have r1 := (k1.block (w.heap.size + 1) (by first | (simp; done) | (simp; omega))).trans ((setRow_other _ _ _ _ (by omega)).trans h4b)
  have r0 := (k1.block (w.heap.size) (by first | (simp; done) | (simp; omega))).trans ((setRow_other _ _ _ _ (by omega)).trans h4a)
  have bl1 : Below w.heap.size w w1 := (below_setRow h4w (by omega) _).trans (k1.mono (by simp; omega))
  have z1 : w.heap.size + 4 ≤ w1.heap.size := by have := k1.size; simp at this; omega
  clear k1 h4a h4b h4c h4d h4s h4w
  have p0 := (block_cells r0).1 0
  have p1 := (block_cells r0).1 1
  have p2 := (block_cells r1).1 0
  have p3 := (block_cells r1).1 1
  have R1 := Lib.hid r1
  have R2 := Lib.hid r2
  have R3 := Lib.hid r3
  have c9 : w1.cell? ⟨w.heap.size + 1 + 1 + 1, 9, none⟩ = some (.int .i64 0) := (block_cells r3).1 9
  have c10 : w1.cell? ⟨w.heap.size + 1 + 1 + 1, 10, none⟩ = some (.int .i64 0) := (block_cells r3).1 10
  have g9 : w1.frozen? ⟨w.heap.size + 1 + 1 + 1, 9, none⟩ = false := (block_cells r3).2 9
  have g10 : w1.frozen? ⟨w.heap.size + 1 + 1 + 1, 10, none⟩ = false := (block_cells r3).2 10
  simp only [List.getElem?_toArray, List.getElem?_cons_zero, List.getElem?_cons_succ] at p0 p1 p2 p3
  clear r0 r1 r2 r3
  go_wp2_with fail
  go_region_held3 (fun w' => w'.cell? ⟨w.heap.size, 0, none⟩ = some (.int .i64 x0_0) ∧ w'.cell? ⟨w.heap.size, 1, none⟩ = some (.int .i64 x0_1))
    (first | (go_split_ands; refine ⟨?_, ?_⟩ <;> assumption) | (simp [go_sem, p0, p1]))
    (first
      | (go_at_call 17; (with_reducible refine (cut x0_0 (-500) 500 _ n1 n2 (by omega) (by omega) (by omega) (by omega)).mono ?_); rintro e w4 ⟨rfl, rfl⟩)
      | (go_at_call 17; (with_reducible refine (cut x0_1 (-500) 500 _ n3 n4 (by omega) (by omega) (by omega) (by omega)).mono ?_); rintro e w4 ⟨rfl, rfl⟩))
  obtain ⟨q1, q2, q3, q4⟩ := set2 9 R3.out (.int .i64 (cutI x0_0 (-500) 500)) (.int .i64 (cutI x0_1 (-500) 500))
  go_wp2_with fail
  obtain ⟨k1, k2⟩ := cutI_range x0_0 (-500) 500 (by omega)
  obtain ⟨k3, k4⟩ := cutI_range x0_1 (-500) 500 (by omega)
  generalize cutI x0_0 (-500) 500 = fx at *
  generalize cutI x0_1 (-500) 500 = fy at *
  generalize ((w1.setCell ⟨w.heap.size + 1 + 1 + 1, 9, none⟩ (.int .i64 fx)).setCell ⟨w.heap.size + 1 + 1 + 1, 10, none⟩ (.int .i64 fy)).drew = W2 at *
  have s3 : W2.heap[w.heap.size + 1 + 1 + 1]? = some (.cells (linArr fx fy 4 0 (.slice (some ⟨w.heap.size + 1 + 1, 0, none⟩) 1 1)) 54) := q1
  have S2 : Hid (W2.heap[w.heap.size + 1 + 1]? = _) := (q2 _ (by omega)).trans R2.out
  have bl2 := q4 _ _ (by omega) bl1
  have P2 : W2.heap[w.heap.size + 1]? = _ := (q2 _ (by omega)).trans R1.out
  have z2 : W2.heap.size = w1.heap.size := q3
  clear q1 q2 q3 q4 bl1 p0 p1 p2 p3 c9 c10 g9 g10 R3 R2 R1
  have p2 : W2.cell? ⟨w.heap.size + 1, 0, none⟩ = some (.int .i64 x1_0) := (block_cells P2).1 0
  have p3 : W2.cell? ⟨w.heap.size + 1, 1, none⟩ = some (.int .i64 x1_1) := (block_cells P2).1 1
  have c11 : W2.cell? ⟨w.heap.size + 1 + 1 + 1, 11, none⟩ = some (.int .i64 4) := (block_cells s3).1 11
  have c12 : W2.cell? ⟨w.heap.size + 1 + 1 + 1, 12, none⟩ = some (.int .i64 0) := (block_cells s3).1 12
  have g11 : W2.frozen? ⟨w.heap.size + 1 + 1 + 1, 11, none⟩ = false := (block_cells s3).2 11
  have g12 : W2.frozen? ⟨w.heap.size + 1 + 1 + 1, 12, none⟩ = false := (block_cells s3).2 12
  have S3 := Lib.hid s3
  clear s3 P2
  go_region_held3 (fun w' => w'.cell? ⟨w.heap.size + 1, 0, none⟩ = some (.int .i64 x1_0) ∧ w'.cell? ⟨w.heap.size + 1, 1, none⟩ = some (.int .i64 x1_1))
    (first | (go_split_ands; refine ⟨?_, ?_⟩ <;> assumption) | (simp [go_sem, p2, p3]))
    (first
      | (go_at_call 17; (with_reducible refine (cut x1_0 (-500) 500 _ n5 n6 (by omega) (by omega) (by omega) (by omega)).mono ?_); rintro e w4 ⟨rfl, rfl⟩)
      | (go_at_call 17; (with_reducible refine (cut x1_1 (-500) 500 _ n7 n8 (by omega) (by omega) (by omega) (by omega)).mono ?_); rintro e w4 ⟨rfl, rfl⟩))
  have hset := set2 11 S3.out (.int .i64 (cutI x1_0 (-500) 500)) (.int .i64 (cutI x1_1 (-500) 500))
  clear p2 p3 c11 c12 g11 g12
  obtain ⟨k5, k6⟩ := cutI_range x1_0 (-500) 500 (by omega)
  obtain ⟨k7, k8⟩ := cutI_range x1_1 (-500) 500 (by omega)
  generalize cutI x1_0 (-500) 500 = tx at *
  generalize cutI x1_1 (-500) 500 = ty at *
  generalize ((W2.setCell ⟨w.heap.size + 1 + 1 + 1, 11, none⟩ (.int .i64 tx)).setCell ⟨w.heap.size + 1 + 1 + 1, 12, none⟩ (.int .i64 ty)).drew = W3 at *
  obtain ⟨q1, q2, q3, q4⟩ := hset
  have s3 : W3.heap[w.heap.size + 1 + 1 + 1]? = some (.cells (linArr fx fy tx ty (.slice (some ⟨w.heap.size + 1 + 1, 0, none⟩) 1 1)) 54) := q1
  have T2 : Hid (W3.heap[w.heap.size + 1 + 1]? = _) := (q2 _ (by omega)).trans S2.out
  have bl3 := q4 _ _ (by omega) bl2
  have z3 : w.heap.size + 4 ≤ W3.heap.size := by omega
  obtain ⟨c0, c9, c10, c11, c12, c13, c14⟩ := lin_block s3
  have S3' := Lib.hid s3
  clear q1 q2 q3 q4 bl2 S2 S3 s3 c0 c13 c14
  by_cases heq : (fx == tx && fy == ty) = true
  · rw [Bool.and_eq_true] at heq
    obtain ⟨y1, y2⟩ := heq
    go_wp2
    go_ret
    exact ⟨rfl, bl3⟩
  · have HNE : Hid ((fx == tx && fy == ty) = false) := Lib.hid (by simpa using heq)
    by_cases hx : fx = tx
    · have x1 : (fx == tx) = true := by simp [hx]
      have x2 : (fy == ty) = false := by have := HNE.out; rw [x1] at this; simpa using this
      clear hx heq
      go_wp2_with fail
      refine (cut _ (-500) 500 _ n9 n10 (by omega) (by omega) (by omega) (by omega)).mono ?_
      rintro e w' ⟨rfl, rfl⟩
      go_wp2_with fail
      refine (cut _ (-500) 500 _ n11 n12 (by omega) (by omega) (by omega) (by omega)).mono ?_
      rintro e w' ⟨rfl, rfl⟩
      go_wp2_with fail
      refine (cut _ (-3) 3 _ n13 n14 (by omega) (by omega) (by omega) (by omega)).mono ?_
      rintro e w' ⟨rfl, rfl⟩
      go_wp2_with fail
      refine (cut _ (-900) 900 _ n15 n16 (by omega) (by omega) (by omega) (by omega)).mono ?_
      rintro e w' ⟨rfl, rfl⟩
      go_wp2_with fail
      refine (cut _ (-900) 900 _ n17 n18 (by omega) (by omega) (by omega) (by omega)).mono ?_
      rintro e w' ⟨rfl, rfl⟩
      obtain ⟨m1, m2⟩ := cutI_range a2 (-500) 500 (by omega)
      obtain ⟨m3, m4⟩ := cutI_range a3 (-500) 500 (by omega)
      obtain ⟨m5, m6⟩ := cutI_range a4 (-3) 3 (by omega)
      obtain ⟨m7, m8⟩ := cutI_range a5 (-900) 900 (by omega)
      obtain ⟨m9, m10⟩ := cutI_range a6 (-900) 900 (by omega)
      generalize cutI a2 (-500) 500 = x at *
      generalize cutI a3 (-500) 500 = y at *
      generalize cutI a4 (-3) 3 = k at *
      generalize cutI a5 (-900) 900 = dx at *
      generalize cutI a6 (-900) 900 = dy at *
      have e1 : IntKind.i64.wrap (tx - fx) = tx - fx := IntWalk.i64_in _ (by omega)
      have e2 : IntKind.i64.wrap (ty - fy) = ty - fy := IntWalk.i64_in _ (by omega)
      go_wp2_with fail
      go_quiet (fail)
      clear e1 e2
      obtain ⟨v1, v2⟩ := absprod (a := k) (d := ty - fy) (M := 3) (N := 1000) (by omega) (by omega) (by omega) (by omega)
      obtain ⟨v3, v4⟩ := absprod (a := k) (d := tx - fx) (M := 3) (N := 1000) (by omega) (by omega) (by omega) (by omega)
      go_wp2_with ((with_reducible refine wpList_load_row rfl 54 _ rfl (w.heap.size + 1 + 1 + 1) ?_ 54 (linArr fx fy tx ty (.slice (some ⟨w.heap.size + 1 + 1, 0, none⟩) 1 1)) (0, 0) _ ?_ Try.underlying54 ?_ (srcsize ..) ?_); (focus rfl); (focus exact S3'.out); (focus rfl))
      refine (Place_lin fx fy tx ty x y [⟨0, fun _ => 0⟩] (w.heap.size + 1 + 1) 0 1 _ _ rfl one_ok HNE.out (by omega) (by omega) (by omega) (by omega) (by omega) (by omega) (by omega) (by omega) (by omega) (by omega) (by omega) (by omega) (one_stop (by exact T2.out))).mono ?_
      rintro e w4 ⟨rfl, k4⟩
      have z4 : w.heap.size + 4 ≤ w4.heap.size := Nat.le_trans z3 (below_drewN_base k4).size
      have bl4 : Below w.heap.size w w4 := bl3.trans (Below.mono (below_drewN_base k4) (by omega))
      have S4 := Lib.hid ((k4.block (w.heap.size + 1 + 1 + 1) (by show _ < W3.heap.size; omega)).trans S3'.out)
      have T4 := Lib.hid ((k4.block (w.heap.size + 1 + 1) (by show _ < W3.heap.size; omega)).trans T2.out)
      clear k4 S3' T2 bl3
      go_wp2_with ((with_reducible refine wpList_load_row rfl 54 _ rfl (w.heap.size + 1 + 1 + 1) ?_ 54 (linArr fx fy tx ty (.slice (some ⟨w.heap.size + 1 + 1, 0, none⟩) 1 1)) (0, 0) _ ?_ Try.underlying54 ?_ (srcsize ..) ?_); (focus rfl); (focus exact S4.out); (focus rfl))
      refine (Place_lin fx fy tx ty _ _ [⟨0, fun _ => 0⟩] (w.heap.size + 1 + 1) 0 1 _ _ rfl one_ok HNE.out (by omega) (by omega) (by omega) (by omega) (by omega) (by omega) (by omega) (by omega) (by omega) (by omega) (by omega) (by omega) (one_stop T4.out)).mono ?_
      rintro e w5 ⟨rfl, k5'⟩
      rw [across]
      have z5 : w.heap.size + 4 ≤ w5.heap.size := Nat.le_trans z4 k5'.size
      have bl5 : Below w.heap.size w w5 := bl4.trans (Below.mono k5' (by omega))
      have S5 := (k5'.block (w.heap.size + 1 + 1 + 1) (by omega)).trans S4.out
      have T5 := Lib.hid ((k5'.block (w.heap.size + 1 + 1) (by omega)).trans T4.out)
      obtain ⟨c0, c9, c10, c11, c12, c13, c14⟩ := lin_block S5
      have g9 : w5.frozen? ⟨w.heap.size + 1 + 1 + 1, 9, none⟩ = false := (block_cells S5).2 9
      have g10 : w5.frozen? ⟨w.heap.size + 1 + 1 + 1, 10, none⟩ = false := (block_cells S5).2 10
      have g11 : w5.frozen? ⟨w.heap.size + 1 + 1 + 1, 11, none⟩ = false := (block_cells S5).2 11
      have g12 : w5.frozen? ⟨w.heap.size + 1 + 1 + 1, 12, none⟩ = false := (block_cells S5).2 12
      have S5' := Lib.hid S5
      clear k5' S4 T4 bl4 S5
      go_wp2_with ((with_reducible refine wpList_load_row rfl 54 _ rfl (w.heap.size + 1 + 1 + 1) ?_ 54 (linArr (fx + dx) (fy + dy) (tx + dx) (ty + dy) (.slice (some ⟨w.heap.size + 1 + 1, 0, none⟩) 1 1)) (0, 0) _ ?_ Try.underlying54 ?_ (srcsize ..) ?_); (focus rfl); (focus exact set4 S5'.out _ _ _ _); (focus rfl))
      refine (Place_lin (fx + dx) (fy + dy) (tx + dx) (ty + dy) (x + dx) (y + dy) [⟨0, fun _ => 0⟩] (w.heap.size + 1 + 1) 0 1 _ _ rfl one_ok (moved_ne HNE.out) (by omega) (by omega) (by omega) (by omega) (by omega) (by omega) (by omega) (by omega) (by omega) (by omega) (by omega) (by omega) (one_stop (by exact (other4 (by omega) _ _ _ _).trans T5.out))).mono ?_
      rintro e w6 ⟨rfl, k6'⟩
      rw [moved]
      have bl6 : Below w.heap.size w w6 := (below4 bl5 (by omega) _ _ _ _).trans (Below.mono k6' (by rw [size4]; omega))
      clear k6' c0 c9 c10 c11 c12 c13 c14 g9 g10 g11 g12 bl5 S5' T5
      generalize clampW (placeQ fx fy tx ty x y) = v at *
      go_wp2
      go_ret
      exact ⟨rfl, bl6⟩
    · have x1 : (fx == tx) = false := by simp [hx]
      clear hx heq
      go_wp2_with fail
      refine (cut _ (-500) 500 _ n9 n10 (by omega) (by omega) (by omega) (by omega)).mono ?_
      rintro e w' ⟨rfl, rfl⟩
      go_wp2_with fail
      refine (cut _ (-500) 500 _ n11 n12 (by omega) (by omega) (by omega) (by omega)).mono ?_
      rintro e w' ⟨rfl, rfl⟩
      go_wp2_with fail
      refine (cut _ (-3) 3 _ n13 n14 (by omega) (by omega) (by omega) (by omega)).mono ?_
      rintro e w' ⟨rfl, rfl⟩
      go_wp2_with fail
      refine (cut _ (-900) 900 _ n15 n16 (by omega) (by omega) (by omega) (by omega)).mono ?_
      rintro e w' ⟨rfl, rfl⟩
      go_wp2_with fail
      refine (cut _ (-900) 900 _ n17 n18 (by omega) (by omega) (by omega) (by omega)).mono ?_
      rintro e w' ⟨rfl, rfl⟩
      obtain ⟨m1, m2⟩ := cutI_range a2 (-500) 500 (by omega)
      obtain ⟨m3, m4⟩ := cutI_range a3 (-500) 500 (by omega)
      obtain ⟨m5, m6⟩ := cutI_range a4 (-3) 3 (by omega)
      obtain ⟨m7, m8⟩ := cutI_range a5 (-900) 900 (by omega)
      obtain ⟨m9, m10⟩ := cutI_range a6 (-900) 900 (by omega)
      generalize cutI a2 (-500) 500 = x at *
      generalize cutI a3 (-500) 500 = y at *
      generalize cutI a4 (-3) 3 = k at *
      generalize cutI a5 (-900) 900 = dx at *
      generalize cutI a6 (-900) 900 = dy at *
      have e1 : IntKind.i64.wrap (tx - fx) = tx - fx := IntWalk.i64_in _ (by omega)
      have e2 : IntKind.i64.wrap (ty - fy) = ty - fy := IntWalk.i64_in _ (by omega)
      go_wp2_with fail
      go_quiet (fail)
      clear e1 e2
      obtain ⟨v1, v2⟩ := absprod (a := k) (d := ty - fy) (M := 3) (N := 1000) (by omega) (by omega) (by omega) (by omega)
      obtain ⟨v3, v4⟩ := absprod (a := k) (d := tx - fx) (M := 3) (N := 1000) (by omega) (by omega) (by omega) (by omega)
      go_wp2_with ((with_reducible refine wpList_load_row rfl 54 _ rfl (w.heap.size + 1 + 1 + 1) ?_ 54 (linArr fx fy tx ty (.slice (some ⟨w.heap.size + 1 + 1, 0, none⟩) 1 1)) (0, 0) _ ?_ Try.underlying54 ?_ (srcsize ..) ?_); (focus rfl); (focus exact S3'.out); (focus rfl))
      refine (Place_lin fx fy tx ty x y [⟨0, fun _ => 0⟩] (w.heap.size + 1 + 1) 0 1 _ _ rfl one_ok HNE.out (by omega) (by omega) (by omega) (by omega) (by omega) (by omega) (by omega) (by omega) (by omega) (by omega) (by omega) (by omega) (one_stop (by exact T2.out))).mono ?_
      rintro e w4 ⟨rfl, k4⟩
      have z4 : w.heap.size + 4 ≤ w4.heap.size := Nat.le_trans z3 (below_drewN_base k4).size
      have bl4 : Below w.heap.size w w4 := bl3.trans (Below.mono (below_drewN_base k4) (by omega))
      have S4 := Lib.hid ((k4.block (w.heap.size + 1 + 1 + 1) (by show _ < W3.heap.size; omega)).trans S3'.out)
      have T4 := Lib.hid ((k4.block (w.heap.size + 1 + 1) (by show _ < W3.heap.size; omega)).trans T2.out)
      clear k4 S3' T2 bl3
      go_wp2_with ((with_reducible refine wpList_load_row rfl 54 _ rfl (w.heap.size + 1 + 1 + 1) ?_ 54 (linArr fx fy tx ty (.slice (some ⟨w.heap.size + 1 + 1, 0, none⟩) 1 1)) (0, 0) _ ?_ Try.underlying54 ?_ (srcsize ..) ?_); (focus rfl); (focus exact S4.out); (focus rfl))
      refine (Place_lin fx fy tx ty _ _ [⟨0, fun _ => 0⟩] (w.heap.size + 1 + 1) 0 1 _ _ rfl one_ok HNE.out (by omega) (by omega) (by omega) (by omega) (by omega) (by omega) (by omega) (by omega) (by omega) (by omega) (by omega) (by omega) (one_stop T4.out)).mono ?_
      rintro e w5 ⟨rfl, k5'⟩
      rw [across]
      have z5 : w.heap.size + 4 ≤ w5.heap.size := Nat.le_trans z4 k5'.size
      have bl5 : Below w.heap.size w w5 := bl4.trans (Below.mono k5' (by omega))
      have S5 := (k5'.block (w.heap.size + 1 + 1 + 1) (by omega)).trans S4.out
      have T5 := Lib.hid ((k5'.block (w.heap.size + 1 + 1) (by omega)).trans T4.out)
      obtain ⟨c0, c9, c10, c11, c12, c13, c14⟩ := lin_block S5
      have g9 : w5.frozen? ⟨w.heap.size + 1 + 1 + 1, 9, none⟩ = false := (block_cells S5).2 9
      have g10 : w5.frozen? ⟨w.heap.size + 1 + 1 + 1, 10, none⟩ = false := (block_cells S5).2 10
      have g11 : w5.frozen? ⟨w.heap.size + 1 + 1 + 1, 11, none⟩ = false := (block_cells S5).2 11
      have g12 : w5.frozen? ⟨w.heap.size + 1 + 1 + 1, 12, none⟩ = false := (block_cells S5).2 12
      have S5' := Lib.hid S5
      clear k5' S4 T4 bl4 S5
      go_wp2_with ((with_reducible refine wpList_load_row rfl 54 _ rfl (w.heap.size + 1 + 1 + 1) ?_ 54 (linArr (fx + dx) (fy + dy) (tx + dx) (ty + dy) (.slice (some ⟨w.heap.size + 1 + 1, 0, none⟩) 1 1)) (0, 0) _ ?_ Try.underlying54 ?_ (srcsize ..) ?_); (focus rfl); (focus exact set4 S5'.out _ _ _ _); (focus rfl))
      refine (Place_lin (fx + dx) (fy + dy) (tx + dx) (ty + dy) (x + dx) (y + dy) [⟨0, fun _ => 0⟩] (w.heap.size + 1 + 1) 0 1 _ _ rfl one_ok (moved_ne HNE.out) (by omega) (by omega) (by omega) (by omega) (by omega) (by omega) (by omega) (by omega) (by omega) (by omega) (by omega) (by omega) (one_stop (by exact (other4 (by omega) _ _ _ _).trans T5.out))).mono ?_
      rintro e w6 ⟨rfl, k6'⟩
      rw [moved]
      have bl6 : Below w.heap.size w w6 := (below4 bl5 (by omega) _ _ _ _).trans (Below.mono k6' (by rw [size4]; omega))
      clear k6' c0 c9 c10 c11 c12 c13 c14 g9 g10 g11 g12 bl5 S5' T5
      generalize clampW (placeQ fx fy tx ty x y) = v at *
      go_wp2
      go_ret
      exact ⟨rfl, bl6⟩
end Go.Proofs.Ytiicncaamlkkbaa.gradientAcross
