/- path.Parse of a path's text: by the evaluation. -/
import Derived.Test.YthappngbapbkfaaDoorTxs
import Derived.Test.YthappngbapbkfaaDoorTxk
set_option linter.unusedSimpArgs false
set_option linter.unusedVariables false
namespace Go.Proofs.YthappngbapbkfaaDoor.Txr
open Go.RowKit Sx Num Aff Con Cop Coh Pth Pmp Pte Txp Txa Txn Txk Txs
set_option maxRecDepth 100000
def woff (p : Pth) (k : Nat) : Nat := (wl p k).length
def wf (p : Pth) (k i : Nat) : ByteArray := wg p p.n (woff p k + i)
def wn (p : Pth) (k : Nat) : Nat := woff p p.n - woff p k
def prI (p : Pth) : Inv := ⟨Nat, fun k => k ≤ p.n, fun k => ⟨[(4, .osl 1 0), (5, .own 0 0), (6, .fn 15 1 (lst [.own 0 0]))], [wdO (wn p k) (wf p k), .row 0 k 6 (fun i => lst (segL (p.f i))) 32]⟩, fun k => p.n - k⟩
theorem woff_succ (p : Pth) (k : Nat) : woff p (k + 1) = woff p k + (segW (p.f k)).length := by
  show (wl p k ++ segW (p.f k)).length = _
  rw [List.length_append]; rfl
theorem wl_pre (p : Pth) (k : Nat) : ∀ m, ∃ R, wl p (k + m) = wl p k ++ R
  | 0 => ⟨[], (List.append_nil _).symm⟩
  | m + 1 => by
    obtain ⟨R, h⟩ := wl_pre p k m
    exact ⟨R ++ segW (p.f (k + m)), by show wl p (k + m) ++ segW (p.f (k + m)) = _; rw [h, List.append_assoc]⟩
theorem woff_le {p : Pth} {k n : Nat} (h : k ≤ n) : woff p k ≤ woff p n := by
  obtain ⟨R, e⟩ := wl_pre p k (n - k)
  rw [show k + (n - k) = n by omega] at e
  unfold woff
  rw [e, List.length_append]
  omega
theorem wf_seg {p : Pth} {k : Nat} (hk : k < p.n) {i : Nat} (hi : i < (segW (p.f k)).length) : wf p k i = (segW (p.f k)).getD i ⟨#[]⟩ := by
  obtain ⟨R, e⟩ := wl_pre p (k + 1) (p.n - (k + 1))
  rw [show k + 1 + (p.n - (k + 1)) = p.n by omega] at e
  have e2 : wl p (k + 1) = wl p k ++ segW (p.f k) := rfl
  show (wl p p.n).getD ((wl p k).length + i) ⟨#[]⟩ = _
  rw [e, e2, List.append_assoc, List.getD_eq_getElem?_getD, List.getElem?_append_right (by omega), List.getElem?_append_left (by omega), List.getD_eq_getElem?_getD, show (wl p k).length + i - (wl p k).length = i by omega]
theorem wf_next {p : Pth} {k : Nat} (i : Nat) : wf p k ((segW (p.f k)).length + i) = wf p (k + 1) i := by
  unfold wf
  rw [woff_succ, Nat.add_assoc]
theorem wn_next {p : Pth} {k : Nat} (hk : k < p.n) : wn p k = (segW (p.f k)).length + wn p (k + 1) := by
  have := woff_le (p := p) (show k + 1 ≤ p.n from hk)
  unfold wn
  rw [woff_succ] at *
  omega
theorem seg_words {s : Seg} (h : 1 ≤ s.k ∧ s.k ≤ 4) : (s.k = 1 ∧ segW s = [⟨#[109]⟩, itb s.x, itb s.y]) ∨ (s.k = 2 ∧ segW s = [⟨#[108]⟩, itb s.x, itb s.y]) ∨ (s.k = 3 ∧ segW s = [⟨#[113]⟩, itb s.u, itb s.v, itb s.x, itb s.y, itb s.w]) ∨ (s.k = 4 ∧ segW s = [⟨#[104]⟩]) := by
  unfold segW
  by_cases h1 : s.k = 1
  · exact .inl ⟨h1, by rw [if_pos h1]⟩
  · by_cases h2 : s.k = 2
    · exact .inr (.inl ⟨h2, by rw [if_neg h1, if_pos h2]⟩)
    · by_cases h3 : s.k = 3
      · exact .inr (.inr (.inl ⟨h3, by rw [if_neg h1, if_neg h2, if_pos h3]⟩))
      · have h4 : s.k = 4 := by omega
        exact .inr (.inr (.inr ⟨h4, by rw [if_neg h1, if_neg h2, if_neg h3, if_pos h4]⟩))
theorem tot_ge : ∀ L : List ByteArray, L.length ≤ tot L
  | [] => Nat.le_refl _
  | w :: L => by have := tot_ge L; simp only [List.length_cons, tot]; omega
/-- A row of segments, one more behind it. -/
theorem row_step {p : Pth} {k : Nat} {s : Seg} (hs : s = p.f k) : ∀ i, i < k + 1 → (((((bif decide (i < k) then (p.f i).k else s.k) = (p.f i).k ∧ (bif decide (i < k) then (p.f i).x else s.x) = (p.f i).x) ∧ (bif decide (i < k) then (p.f i).y else s.y) = (p.f i).y) ∧ (bif decide (i < k) then (p.f i).u else s.u) = (p.f i).u) ∧ (bif decide (i < k) then (p.f i).v else s.v) = (p.f i).v) ∧ (bif decide (i < k) then (p.f i).w else s.w) = (p.f i).w := fun i hi => by
  by_cases h : i < k
  · rw [decide_eq_true h]; exact ⟨⟨⟨⟨⟨rfl, rfl⟩, rfl⟩, rfl⟩, rfl⟩, rfl⟩
  · rw [decide_eq_false h]
    obtain rfl : i = k := by omega
    rw [hs]
    exact ⟨⟨⟨⟨⟨rfl, rfl⟩, rfl⟩, rfl⟩, rfl⟩, rfl⟩
def spParse (p : Pth) : FSpec := mkSpec 7 (γ := Unit) (fun | [_] => some () | _ => none) (fun _ => [.str (txt p)]) (fun _ => p.chk = 0) (fun _ => .tup 2 (lst [pthS p, .int .i64 0]))
theorem ok_parse (p : Pth) : SpecG Gw Tryd.prog (spParse p) := by
  refine spec_soundG (sure_ok Kw) (specs := [spSplit, spTake, giv spCheckPa]) (all_g (⟨ok_split, ok_take.g, (giv_ok ok_checkPa).g, trivial⟩)) (eqs := []) (fun _ _ h => (List.not_mem_nil h).elim) Aff.mixed Tryd.func7 rfl (by kernel_rfl) (.inr (by kernel_rfl)) (fun _ _ => by kernel_rfl) (fun g => (⟨[(6, .inv (prI p))], [(5, [.own 4 32 6])]⟩ : Ann)) (fun g => Nat.le_of_ble_eq_true (by kernel_rfl)) ?_
  rintro _ hp
  refine vc_of (B := let z15 := (1 : Nat);let z13 := (0 : Nat); let z18 := (z13 = z13); let z17 := (True ∧ Sx.Ask (p.n = z13));let z7 := (0 : Int); let z19 := (z7 = z7);let z6 := (Int.ofNat z15);let z5 := (True ∧ Sx.Ask z18 ∧ (Sx.Ask ((15 : Go.FuncId) = (15 : Go.FuncId)) ∧ True ∧ Sx.Ask z18) ∧ True);let z1 := (IntKind.i64 = IntKind.i64); let z12 := ((((((True ∧ Sx.Ask z1 ∧ Sx.Ask z19) ∧ Sx.Ask z1 ∧ Sx.Ask z19) ∧ Sx.Ask z1 ∧ Sx.Ask z19) ∧ Sx.Ask z1 ∧ Sx.Ask z19) ∧ Sx.Ask z1 ∧ Sx.Ask z19) ∧ Sx.Ask z1 ∧ Sx.Ask z19);True ∧ True ∧ True ∧ True ∧ True ∧ Sx.Br ((Txp.txt p).toList == (ByteArray.mk #[]).toList) (True ∧ True ∧ True ∧ True ∧ z17 ∧ Sx.Ask z1 ∧ Sx.Ask z19) (True ∧ ((Sx.Ask (Txp.txt p = Txp.txt p) ∧ Sx.Ask (ByteArray.mk #[(32 : UInt8)] = Txa.spc) ∧ True) ∧ Sx.Ask ((Txp.txt p).size < (4294967281 : Nat))) ∧ True ∧ True ∧ True ∧ True ∧ (∃ (g : Nat), Sx.Ask ((prI p).pre g) ∧ (True ∧ Sx.Ask z18 ∧ (Sx.Ask ((15 : Nat) = (15 : Go.FuncId)) ∧ True ∧ Sx.Ask z18) ∧ True) ∧ (True ∧ Sx.Ask ((Txa.wds (Txp.txt p)).length = wn p g) ∧ ∀ (i : Nat), i < wn p g → True ∧ Sx.Ask ((match (Txa.wds (Txp.txt p))[i]? with | Option.some x => x | Option.none => ByteArray.mk #[]) = wf p g i)) ∧ (Sx.Ask (z13 = g) ∧ ∀ (i : Nat), i < g → (((((True ∧ False) ∧ False) ∧ False) ∧ False) ∧ False) ∧ False) ∧ True) ∧ ∀ (g : Nat), let z16 := (wf p g (Int.toNat z7)); let z14 := (fun (i : Nat) => match Sx.lst [Sx.SV.str (wf p g (z6.toNat + i))] z13 with | Sx.SV.str s => s | x => ByteArray.mk #[]); let z10 := (match Sx.lst [Sx.SV.str (wf p g (z6.toNat + z15))] z13 with | Sx.SV.str s => s | x => ByteArray.mk #[]); let z9 := (match Sx.lst [Sx.SV.str (wf p g (z6.toNat + z13))] z13 with | Sx.SV.str s => s | x => ByteArray.mk #[]); let z8 := (g + z15 ≤ (9223372036854775807 : Nat) ∧ (g + z15) * (48 : Nat) ≤ (140737488355328 : Nat)); let z4 := (Int.ofNat (wn p g) - Int.ofNat z15); let z11 := (True ∧ Sx.Ask (z4.toNat = z4.toNat) ∧ ∀ (i : Nat), i < z4.toNat → True ∧ Sx.Ask (wf p g (z6.toNat + i) = match Sx.lst [Sx.SV.str (wf p g (z6.toNat + i))] z13 with | Sx.SV.str s => s | x => ByteArray.mk #[])); let z3 := (Txk.TkG.mk (Nat.beq (5 : Nat) (5 : Nat)) z4.toNat z14 (Cop.Seg.mk z7 z7 z7 z7 z7 z7)); let z0 := (Txk.TkG.mk (Nat.beq (2 : Nat) (5 : Nat)) z4.toNat z14 (Cop.Seg.mk z7 z7 z7 z7 z7 z7)); let z2 := ((True ∧ (((True ∧ Sx.Ask (z13 + z15 = z15)) ∧ Sx.Ask (z13 + (2 : Nat) = (2 : Nat))) ∧ Sx.Ask z18 ∧ True) ∧ z12 ∧ z11 ∧ True) ∧ Sx.Ask (z4.toNat ≤ (100000 : Nat) ∧ z0.m ≤ z4.toNat ∧ ∀ (i : Nat), i < z0.m → Txn.Dig (match Sx.lst [Sx.SV.str (wf p g (z6.toNat + i))] z13 with | Sx.SV.str s => s | x => ByteArray.mk #[]))); (prI p).pre g → True ∧ True ∧ True ∧ Sx.Br (decide (z7 < (↑(wn p g) : Int))) (True ∧ Sx.Ask (z7 ≤ z7 ∧ z7 < (↑(wn p g) : Int)) ∧ True ∧ True ∧ True ∧ Sx.Ask (z7 ≤ Int.ofNat z15 ∧ Int.ofNat z15 ≤ Int.ofNat (wn p g) ∧ Int.ofNat (wn p g) ≤ Int.ofNat (wn p g) ∧ Int.ofNat (wn p g) ≤ (↑(wn p g) : Int)) ∧ True ∧ True ∧ True ∧ True ∧ True ∧ True ∧ Sx.Br (z16.toList == (ByteArray.mk #[(109 : UInt8)]).toList) (True ∧ True ∧ True ∧ True ∧ z2 ∧ True ∧ True ∧ True ∧ True ∧ True ∧ True ∧ True ∧ True ∧ Sx.Ask z8 ∧ True ∧ ∃ (g' : Nat), Sx.Ask ((prI p).pre g') ∧ (z5 ∧ (True ∧ Sx.Ask (z4.toNat - z0.m = wn p g') ∧ ∀ (i : Nat), i < wn p g' → True ∧ Sx.Ask ((match Sx.lst [Sx.SV.str (wf p g (z6.toNat + (z0.m + i)))] z13 with | Sx.SV.str s => s | x => ByteArray.mk #[]) = wf p g' i)) ∧ (Sx.Ask (g + z15 = g') ∧ ∀ (i : Nat), i < g' → (((((True ∧ Sx.Ask z1 ∧ Sx.Ask ((bif decide (i < g) then (p.f i).k else (1 : Int)) = (p.f i).k)) ∧ Sx.Ask z1 ∧ Sx.Ask ((bif decide (i < g) then (p.f i).x else Txn.numV z9) = (p.f i).x)) ∧ Sx.Ask z1 ∧ Sx.Ask ((bif decide (i < g) then (p.f i).y else Txn.numV z10) = (p.f i).y)) ∧ Sx.Ask z1 ∧ Sx.Ask ((bif decide (i < g) then (p.f i).u else z7) = (p.f i).u)) ∧ Sx.Ask z1 ∧ Sx.Ask ((bif decide (i < g) then (p.f i).v else z7) = (p.f i).v)) ∧ Sx.Ask z1 ∧ Sx.Ask ((bif decide (i < g) then (p.f i).w else z7) = (p.f i).w)) ∧ True) ∧ Sx.Ask ((prI p).meas g' < (prI p).meas g)) (True ∧ True ∧ Sx.Br (z16.toList == (ByteArray.mk #[(108 : UInt8)]).toList) (True ∧ True ∧ True ∧ True ∧ z2 ∧ True ∧ True ∧ True ∧ True ∧ True ∧ True ∧ True ∧ True ∧ Sx.Ask z8 ∧ True ∧ ∃ (g' : Nat), Sx.Ask ((prI p).pre g') ∧ (z5 ∧ (True ∧ Sx.Ask (z4.toNat - z0.m = wn p g') ∧ ∀ (i : Nat), i < wn p g' → True ∧ Sx.Ask ((match Sx.lst [Sx.SV.str (wf p g (z6.toNat + (z0.m + i)))] z13 with | Sx.SV.str s => s | x => ByteArray.mk #[]) = wf p g' i)) ∧ (Sx.Ask (g + z15 = g') ∧ ∀ (i : Nat), i < g' → (((((True ∧ Sx.Ask z1 ∧ Sx.Ask ((bif decide (i < g) then (p.f i).k else (2 : Int)) = (p.f i).k)) ∧ Sx.Ask z1 ∧ Sx.Ask ((bif decide (i < g) then (p.f i).x else Txn.numV z9) = (p.f i).x)) ∧ Sx.Ask z1 ∧ Sx.Ask ((bif decide (i < g) then (p.f i).y else Txn.numV z10) = (p.f i).y)) ∧ Sx.Ask z1 ∧ Sx.Ask ((bif decide (i < g) then (p.f i).u else z7) = (p.f i).u)) ∧ Sx.Ask z1 ∧ Sx.Ask ((bif decide (i < g) then (p.f i).v else z7) = (p.f i).v)) ∧ Sx.Ask z1 ∧ Sx.Ask ((bif decide (i < g) then (p.f i).w else z7) = (p.f i).w)) ∧ True) ∧ Sx.Ask ((prI p).meas g' < (prI p).meas g)) (True ∧ True ∧ Sx.Br (z16.toList == (ByteArray.mk #[(113 : UInt8)]).toList) (True ∧ True ∧ True ∧ True ∧ True ∧ True ∧ True ∧ ((True ∧ ((((((True ∧ Sx.Ask (z13 + (3 : Nat) = (3 : Nat))) ∧ Sx.Ask (z13 + (4 : Nat) = (4 : Nat))) ∧ Sx.Ask (z13 + z15 = z15)) ∧ Sx.Ask (z13 + (2 : Nat) = (2 : Nat))) ∧ Sx.Ask (z13 + (5 : Nat) = (5 : Nat))) ∧ Sx.Ask z18 ∧ True) ∧ z12 ∧ z11 ∧ True) ∧ Sx.Ask (z4.toNat ≤ (100000 : Nat) ∧ z3.m ≤ z4.toNat ∧ ∀ (i : Nat), i < z3.m → Txn.Dig (match Sx.lst [Sx.SV.str (wf p g (z6.toNat + i))] z13 with | Sx.SV.str s => s | x => ByteArray.mk #[]))) ∧ True ∧ True ∧ True ∧ True ∧ True ∧ True ∧ True ∧ True ∧ Sx.Ask z8 ∧ True ∧ ∃ (g' : Nat), Sx.Ask ((prI p).pre g') ∧ (z5 ∧ (True ∧ Sx.Ask (z4.toNat - z3.m = wn p g') ∧ ∀ (i : Nat), i < wn p g' → True ∧ Sx.Ask ((match Sx.lst [Sx.SV.str (wf p g (z6.toNat + (z3.m + i)))] z13 with | Sx.SV.str s => s | x => ByteArray.mk #[]) = wf p g' i)) ∧ (Sx.Ask (g + z15 = g') ∧ ∀ (i : Nat), i < g' → (((((True ∧ Sx.Ask z1 ∧ Sx.Ask ((bif decide (i < g) then (p.f i).k else (3 : Int)) = (p.f i).k)) ∧ Sx.Ask z1 ∧ Sx.Ask ((bif decide (i < g) then (p.f i).x else Txn.numV (match Sx.lst [Sx.SV.str (wf p g (z6.toNat + (2 : Nat)))] z13 with | Sx.SV.str s => s | x => ByteArray.mk #[])) = (p.f i).x)) ∧ Sx.Ask z1 ∧ Sx.Ask ((bif decide (i < g) then (p.f i).y else Txn.numV (match Sx.lst [Sx.SV.str (wf p g (z6.toNat + (3 : Nat)))] z13 with | Sx.SV.str s => s | x => ByteArray.mk #[])) = (p.f i).y)) ∧ Sx.Ask z1 ∧ Sx.Ask ((bif decide (i < g) then (p.f i).u else Txn.numV z9) = (p.f i).u)) ∧ Sx.Ask z1 ∧ Sx.Ask ((bif decide (i < g) then (p.f i).v else Txn.numV z10) = (p.f i).v)) ∧ Sx.Ask z1 ∧ Sx.Ask ((bif decide (i < g) then (p.f i).w else Txn.numV (match Sx.lst [Sx.SV.str (wf p g (z6.toNat + (4 : Nat)))] z13 with | Sx.SV.str s => s | x => ByteArray.mk #[])) = (p.f i).w)) ∧ True) ∧ Sx.Ask ((prI p).meas g' < (prI p).meas g)) (True ∧ True ∧ Sx.Br (z16.toList == (ByteArray.mk #[(104 : UInt8)]).toList) (True ∧ True ∧ True ∧ True ∧ True ∧ True ∧ True ∧ Sx.Ask z8 ∧ True ∧ ∃ (g' : Nat), Sx.Ask ((prI p).pre g') ∧ (z5 ∧ (True ∧ Sx.Ask (z4.toNat = wn p g') ∧ ∀ (i : Nat), i < wn p g' → True ∧ Sx.Ask (wf p g (z6.toNat + i) = wf p g' i)) ∧ (Sx.Ask (g + z15 = g') ∧ ∀ (i : Nat), i < g' → (((((True ∧ Sx.Ask z1 ∧ Sx.Ask ((bif decide (i < g) then (p.f i).k else (4 : Int)) = (p.f i).k)) ∧ Sx.Ask z1 ∧ Sx.Ask ((bif decide (i < g) then (p.f i).x else z7) = (p.f i).x)) ∧ Sx.Ask z1 ∧ Sx.Ask ((bif decide (i < g) then (p.f i).y else z7) = (p.f i).y)) ∧ Sx.Ask z1 ∧ Sx.Ask ((bif decide (i < g) then (p.f i).u else z7) = (p.f i).u)) ∧ Sx.Ask z1 ∧ Sx.Ask ((bif decide (i < g) then (p.f i).v else z7) = (p.f i).v)) ∧ Sx.Ask z1 ∧ Sx.Ask ((bif decide (i < g) then (p.f i).w else z7) = (p.f i).w)) ∧ True) ∧ Sx.Ask ((prI p).meas g' < (prI p).meas g)) (True ∧ True ∧ True ∧ True ∧ True ∧ True ∧ z17 ∧ Sx.Ask z1 ∧ Sx.Ask ((5 : Int) = z7)))))) (True ∧ (((Sx.Ask (g = g) ∧ ∀ (i : Nat), i < g → (((((True ∧ Sx.Ask z1 ∧ Sx.Ask ((p.f i).k = (p.f i).k)) ∧ Sx.Ask z1 ∧ Sx.Ask ((p.f i).x = (p.f i).x)) ∧ Sx.Ask z1 ∧ Sx.Ask ((p.f i).y = (p.f i).y)) ∧ Sx.Ask z1 ∧ Sx.Ask ((p.f i).u = (p.f i).u)) ∧ Sx.Ask z1 ∧ Sx.Ask ((p.f i).v = (p.f i).v)) ∧ Sx.Ask z1 ∧ Sx.Ask ((p.f i).w = (p.f i).w)) ∧ True) ∧ Sx.Ask (g ≤ (9223372036854775807 : Nat))) ∧ True ∧ True ∧ True ∧ Sx.Br (decide ((Pth.Pth.mk g p.f).chk ≠ z7)) (True ∧ True ∧ True ∧ True ∧ z17 ∧ Sx.Ask z1 ∧ Sx.Ask ((Pth.Pth.mk g p.f).chk = z7)) (True ∧ True ∧ True ∧ True ∧ (True ∧ Sx.Ask (g = p.n) ∧ ∀ (i : Nat), i < p.n → (((((True ∧ Sx.Ask z1 ∧ Sx.Ask ((p.f i).k = (p.f i).k)) ∧ Sx.Ask z1 ∧ Sx.Ask ((p.f i).x = (p.f i).x)) ∧ Sx.Ask z1 ∧ Sx.Ask ((p.f i).y = (p.f i).y)) ∧ Sx.Ask z1 ∧ Sx.Ask ((p.f i).u = (p.f i).u)) ∧ Sx.Ask z1 ∧ Sx.Ask ((p.f i).v = (p.f i).v)) ∧ Sx.Ask z1 ∧ Sx.Ask ((p.f i).w = (p.f i).w)) ∧ Sx.Ask z1 ∧ Sx.Ask z19)))) (by kernel_rfl) ?_
  simp only [ask_iff, br_iff, eq_self, true_and, and_true, implies_true, forall_const, decide_eq_true_eq, decide_eq_false_iff_not, ne_eq, Nat.mul_one, Nat.add_zero, Nat.zero_add, Int.toNat_natCast]
  have hb := fun a b => (beqS a b).1
  have hb2 := fun a b => (beqS a b).2
  simp only [hb, hb2]
  have hn := (chk_0.1 hp).1
  have hL := wl_len p p.n
  have hsz : (txt p).size = (Lib.join ((wl p p.n).map (·.data.toList)) [32]).length := by
    show (Lib.join ((wl p p.n).map (·.data.toList)) [32]).toArray.size = _
    simp
  have hpos : ∀ k, k < p.n → 1 ≤ (segW (p.f k)).length := fun k hk => by
    rcases seg_words (seg_ok hp hk).1 with ⟨_, e⟩ | ⟨_, e⟩ | ⟨_, e⟩ | ⟨_, e⟩ <;> rw [e] <;> simp
  have hwl : 0 < p.n → wl p p.n ≠ [] := fun h0 hc => by
    have h1 := woff_succ p 0
    have h2 := hpos 0 h0
    have h3 := woff_le (p := p) (show 0 + 1 ≤ p.n from h0)
    have h4 : woff p p.n = 0 := by unfold woff; rw [hc]; rfl
    omega
  refine ⟨fun h => ?_, fun h => ?_⟩
  · refine Nat.eq_zero_of_not_pos fun h0 => ?_
    have hj := join_tot (hwl h0)
    have h1 := woff_succ p 0
    have h3 := woff_le (p := p) (show 0 + 1 ≤ p.n from h0)
    have hk := (seg_ok hp h0).2.1 (.inl rfl)
    have h5 : (segW (p.f 0)).length = 3 := by unfold segW; rw [if_pos hk]; rfl
    have h6 := tot_ge (wl p p.n)
    have h7 : (txt p).size = 0 := by rw [h]; rfl
    have h8 : woff p p.n = (wl p p.n).length := rfl
    omega
  · have hne : wl p p.n ≠ [] := fun hc => h (by unfold txt; rw [hc]; rfl)
    have hw := wds_txt hne
    refine ⟨⟨rfl, by have := txt_len hp; omega⟩, ⟨0, Nat.zero_le _, ⟨by rw [hw]; show (wl p p.n).length = (wl p p.n).length - 0; omega, fun i _ => ?_⟩, rfl, fun i hi => absurd hi (Nat.not_lt_zero _)⟩, fun k hk => ⟨fun hlt => ?_, fun hge => ?_⟩⟩
    · rw [hw]
      have e : wf p 0 i = ((wl p p.n)[i]?).getD ⟨#[]⟩ := by
        show (wl p p.n).getD (0 + i) ⟨#[]⟩ = _
        rw [Nat.zero_add, List.getD_eq_getElem?_getD]
      rw [e]
      cases (wl p p.n)[i]? <;> rfl
    · have hk : k ≤ p.n := hk
      have hkn : k < p.n := by
        refine Nat.lt_of_not_le fun hc => ?_
        have : k = p.n := by omega
        rw [this] at hlt
        unfold wn at hlt
        omega
      have hN : (Int.ofNat (wn p k) - Int.ofNat 1).toNat = wn p k - 1 := by show ((wn p k : Int) - 1).toNat = _; omega
      have hB : wn p k ≤ 6000 := by unfold wn woff; omega
      have hpre : (prI p).pre (k + 1) := hkn
      have hms : (prI p).meas (k + 1) < (prI p).meas k := by show p.n - (k + 1) < p.n - k; omega
      have hnx := wn_next hkn
      have hwn : ∀ i, wf p k ((segW (p.f k)).length + i) = wf p (k + 1) i := fun i => wf_next i
      have hws : ∀ i, i < (segW (p.f k)).length → wf p k i = (segW (p.f k)).getD i ⟨#[]⟩ := fun i hi => wf_seg hkn hi
      obtain ⟨bx, by', bu, bv, bw, bz, bq⟩ := seg_in hp hkn
      unfold inC at bx by' bu bv
      have eta : p.f k = ⟨(p.f k).k, (p.f k).x, (p.f k).y, (p.f k).u, (p.f k).v, (p.f k).w⟩ := rfl
      refine ⟨by omega, by show (0 : Int) ≤ 1 ∧ (1 : Int) ≤ (wn p k : Int) ∧ (wn p k : Int) ≤ (wn p k : Int) ∧ (wn p k : Int) ≤ (wn p k : Int); omega, ?_⟩
      rcases seg_words (seg_ok hp hkn).1 with ⟨e1, e⟩ | ⟨e1, e⟩ | ⟨e1, e⟩ | ⟨e1, e⟩ <;> rw [e] at hnx hwn hws
      · have w0 : wf p k (Int.toNat 0) = ⟨#[109]⟩ := hws 0 (by simp)
        have w1 : wf p k 1 = itb (p.f k).x := hws 1 (by simp)
        have w2 : wf p k 2 = itb (p.f k).y := hws 2 (by simp)
        obtain ⟨z1, z2, z3⟩ := bz (.inl e1)
        have hs : (⟨1, numV (wf p k 1), numV (wf p k 2), 0, 0, 0⟩ : Seg) = p.f k := by rw [eta, w1, w2, numV_itb, numV_itb, e1, z1, z2, z3]
        have hnx : wn p k = 3 + wn p (k + 1) := hnx
        rw [w0]
        refine ⟨fun _ => ⟨⟨fun i _ => rfl, by omega, ?_, fun i hi => ?_⟩, by omega, k + 1, hpre, ⟨⟨?_, fun i _ => ?_⟩, rfl, row_step hs⟩, hms⟩, fun h => absurd rfl h⟩
        · show 2 ≤ (Int.ofNat (wn p k) - Int.ofNat 1).toNat; omega
        · have hi : i < 2 := hi
          show Dig (wf p k (1 + i))
          match i, hi with
          | 0, _ => rw [w1]; exact dig_itb (by omega)
          | 1, _ => rw [w2]; exact dig_itb (by omega)
        · show (Int.ofNat (wn p k) - Int.ofNat 1).toNat - 2 = _; omega
        · exact (congrArg (wf p k) (show 1 + (2 + i) = 3 + i by omega)).trans (hwn i)
      · have w0 : wf p k (Int.toNat 0) = ⟨#[108]⟩ := hws 0 (by simp)
        have w1 : wf p k 1 = itb (p.f k).x := hws 1 (by simp)
        have w2 : wf p k 2 = itb (p.f k).y := hws 2 (by simp)
        obtain ⟨z1, z2, z3⟩ := bz (.inr e1)
        have hs : (⟨2, numV (wf p k 1), numV (wf p k 2), 0, 0, 0⟩ : Seg) = p.f k := by rw [eta, w1, w2, numV_itb, numV_itb, e1, z1, z2, z3]
        have hnx : wn p k = 3 + wn p (k + 1) := hnx
        rw [w0]
        refine ⟨fun h => absurd h (by decide), fun _ => ⟨fun _ => ⟨⟨fun i _ => rfl, by omega, ?_, fun i hi => ?_⟩, by omega, k + 1, hpre, ⟨⟨?_, fun i _ => ?_⟩, rfl, row_step hs⟩, hms⟩, fun h => absurd rfl h⟩⟩
        · show 2 ≤ (Int.ofNat (wn p k) - Int.ofNat 1).toNat; omega
        · have hi : i < 2 := hi
          show Dig (wf p k (1 + i))
          match i, hi with
          | 0, _ => rw [w1]; exact dig_itb (by omega)
          | 1, _ => rw [w2]; exact dig_itb (by omega)
        · show (Int.ofNat (wn p k) - Int.ofNat 1).toNat - 2 = _; omega
        · exact (congrArg (wf p k) (show 1 + (2 + i) = 3 + i by omega)).trans (hwn i)
      · have w0 : wf p k (Int.toNat 0) = ⟨#[113]⟩ := hws 0 (by simp)
        have w1 : wf p k 1 = itb (p.f k).u := hws 1 (by simp)
        have w2 : wf p k 2 = itb (p.f k).v := hws 2 (by simp)
        have w3 : wf p k 3 = itb (p.f k).x := hws 3 (by simp)
        have w4 : wf p k 4 = itb (p.f k).y := hws 4 (by simp)
        have w5 : wf p k 5 = itb (p.f k).w := hws 5 (by simp)
        have z := bw e1
        have hs : (⟨3, numV (wf p k 3), numV (wf p k 4), numV (wf p k 1), numV (wf p k 2), numV (wf p k 5)⟩ : Seg) = p.f k := by rw [eta, w1, w2, w3, w4, w5, numV_itb, numV_itb, numV_itb, numV_itb, numV_itb, e1]
        have hnx : wn p k = 6 + wn p (k + 1) := hnx
        rw [w0]
        refine ⟨fun h => absurd h (by decide), fun _ => ⟨fun h => absurd h (by decide), fun _ => ⟨fun _ => ⟨⟨fun i _ => rfl, by omega, ?_, fun i hi => ?_⟩, by omega, k + 1, hpre, ⟨⟨?_, fun i _ => ?_⟩, rfl, row_step hs⟩, hms⟩, fun h => absurd rfl h⟩⟩⟩
        · show 5 ≤ (Int.ofNat (wn p k) - Int.ofNat 1).toNat; omega
        · have hi : i < 5 := hi
          show Dig (wf p k (1 + i))
          match i, hi with
          | 0, _ => rw [w1]; exact dig_itb (by omega)
          | 1, _ => rw [w2]; exact dig_itb (by omega)
          | 2, _ => rw [w3]; exact dig_itb (by omega)
          | 3, _ => rw [w4]; exact dig_itb (by omega)
          | 4, _ => rw [w5]; exact dig_itb (by omega)
        · show (Int.ofNat (wn p k) - Int.ofNat 1).toNat - 5 = _; omega
        · exact (congrArg (wf p k) (show 1 + (5 + i) = 6 + i by omega)).trans (hwn i)
      · have w0 : wf p k (Int.toNat 0) = ⟨#[104]⟩ := hws 0 (by simp)
        obtain ⟨z0, z1, z2, z3, z4⟩ := bq e1
        have hs : (⟨4, 0, 0, 0, 0, 0⟩ : Seg) = p.f k := by rw [eta, e1, z0, z1, z2, z3, z4]
        have hnx : wn p k = 1 + wn p (k + 1) := hnx
        rw [w0]
        refine ⟨fun h => absurd h (by decide), fun _ => ⟨fun h => absurd h (by decide), fun _ => ⟨fun h => absurd h (by decide), fun _ => ⟨fun _ => ⟨by omega, k + 1, hpre, ⟨⟨by omega, fun i _ => hwn i⟩, rfl, row_step hs⟩, hms⟩, fun h => absurd rfl h⟩⟩⟩⟩
    · have hk : k ≤ p.n := hk
      have e : k = p.n := by
        refine Nat.le_antisymm hk (Nat.le_of_not_lt fun hc => ?_)
        have := wn_next hc
        have := hpos k hc
        omega
      subst e
      exact ⟨by omega, fun h => absurd hp h, fun _ => rfl⟩
end Go.Proofs.YthappngbapbkfaaDoor.Txr
