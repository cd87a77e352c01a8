/- Steps to WholeMatrices' card; what each asks stands in it. -/
import Derived.BigRegion
import Derived.Test.YtdfgmmjcamhdjaaGreatDoorA18
set_option linter.unusedVariables false
set_option linter.unusedSimpArgs false
namespace Go.Proofs.YtdfgmmjcamhdjaaGreatDoor
open Go.RowKit
attribute [local go_sem ↓] Go.wp_at_zero Go.wp_at_succ
set_option maxHeartbeats 4000000 in
set_option maxRecDepth 100000 in
theorem f25_1 (b off c i0 x p : Nat) (w : World) (hx : x < 64) (hp : p < 8) (h0 : i0 < 6) (hb : b < w.heap.size) (hc0 : w.cell? ⟨b, off, none⟩ = some (.int .i64 i0)) :
    Calls Tryz.prog 25 #[.agg (wkC x p), .agg #[.int .i64 1, .slice (some ⟨b, off, none⟩) 1 c, .int .i64 0, .int .i64 0]] w fun e w' => e = .returned (.agg (wkC (doneX 1 i0 0 0 x) (doneP 1 i0 0 x p % 8))) ∧ Below w.heap.size w w' := by
  obtain ⟨a, ha⟩ : ∃ a, x / 2 ^ i0 % 2 = a := ⟨_, rfl⟩
  have ha2 : a < 2 := by omega
  have hb1 : b < w.heap.size + 1 := by omega
  have hb2 : b < w.heap.size + 1 + 1 := by omega
  have hb3 : b < w.heap.size + 1 + 1 + 1 := by omega
  unfold wkC
  have hA0 : Blk (((w.alloc (.cells #[.int .i64 x, .int .i64 p, .int .i64 0, .slice none 0 0] 64)).alloc (.cells #[.int .i64 1, .slice (some ⟨b, off, none⟩) 1 c, .int .i64 0, .int .i64 0] 45)).alloc (.cells #[.int .i64 0, .int .i64 0, .int .i64 0, .slice none 0 0] 64)) w.heap.size 64 #[.int .i64 x, .int .i64 p, .int .i64 0, .slice none 0 0] := ((Blk.new' _ _ (by simp)).alloc _).alloc _
  have hG0 : Blk (((w.alloc (.cells #[.int .i64 x, .int .i64 p, .int .i64 0, .slice none 0 0] 64)).alloc (.cells #[.int .i64 1, .slice (some ⟨b, off, none⟩) 1 c, .int .i64 0, .int .i64 0] 45)).alloc (.cells #[.int .i64 0, .int .i64 0, .int .i64 0, .slice none 0 0] 64)) (w.heap.size + 1) 45 #[.int .i64 1, .slice (some ⟨b, off, none⟩) 1 c, .int .i64 0, .int .i64 0] := (Blk.new' _ _ (by simp)).alloc _
  have hR0 : Blk (((w.alloc (.cells #[.int .i64 x, .int .i64 p, .int .i64 0, .slice none 0 0] 64)).alloc (.cells #[.int .i64 1, .slice (some ⟨b, off, none⟩) 1 c, .int .i64 0, .int .i64 0] 45)).alloc (.cells #[.int .i64 0, .int .i64 0, .int .i64 0, .slice none 0 0] 64)) (w.heap.size + 1 + 1) 64 #[.int .i64 0, .int .i64 0, .int .i64 0, .slice none 0 0] := (Blk.new' _ _ (by simp))
  have hW0 : Below w.heap.size w (((w.alloc (.cells #[.int .i64 x, .int .i64 p, .int .i64 0, .slice none 0 0] 64)).alloc (.cells #[.int .i64 1, .slice (some ⟨b, off, none⟩) 1 c, .int .i64 0, .int .i64 0] 45)).alloc (.cells #[.int .i64 0, .int .i64 0, .int .i64 0, .slice none 0 0] 64)) := (((Below.refl _ _).alloc (Nat.le_refl _) _).alloc (by simp) _).alloc (by simp; omega) _
  go_enter Tryz.func25, Tryz.ntmps25
  go_wp2_with (go_at_call 67; refine (f67_any x i0 a _ _ _ _ hx h0 ha).mono ?_; rintro e w1 ⟨rfl, hb91⟩; have hA1 := hA0.below hb91; have hG1 := hG0.below hb91; have hR1 := hR0.below hb91; have hW1 := bt hW0 hb91; have cA1 := hA1.cells; have cG1 := hG1.cells; have fA1 := hA1.frozen; have fR1 := hR1.frozen; have cR1 := hR1.cells; have lA1 := hA1.lt; have lR1 := hR1.lt; have d10 := keep_cell (p := ⟨b, off, none⟩) hW1 hb hc0)
  go_still_tail 6, (by kernel_rfl)
  change wpList _ _ _ _ _ w1.drew
  go_wp2
  have eX : bits BinOp.xor IntKind.i64 (x : Int) (wrap64 (2 ^ i0)) = ((x ^^^ 2 ^ i0 : Nat) : Int) := by rw [w64p i0 h0]; exact i64_xor x (2 ^ i0) (by omega) (by have := pw6 i0 h0; omega)
  have eP : (p : Int) % 8 = ((p % 8 : Nat) : Int) := by
    omega
  have hF := ((((((hR1.far (p := ⟨w.heap.size, 0, none⟩) (by first | (simp; done) | (simp; omega)) (.int .i64 (bits BinOp.xor IntKind.i64 (x : Int) (wrap64 (2 ^ i0))))).far (p := ⟨w.heap.size, 1, none⟩) (by first | (simp; done) | (simp; omega)) (.int .i64 ((p : Int) % 8))).set 0 (.int .i64 (bits BinOp.xor IntKind.i64 (x : Int) (wrap64 (2 ^ i0))))).set 1 (.int .i64 ((p : Int) % 8))).set 2 (.int .i64 0)).set 3 (.slice none 0 0)).drew
  have cF := hF.cells
  refine bodyPost_ret (v := .agg #[.int .i64 (bits BinOp.xor IntKind.i64 (x : Int) (wrap64 (2 ^ i0))), .int .i64 ((p : Int) % 8), .int .i64 0, .slice none 0 0]) (by first | (simp [results, Tryz.results25, go_sem, cF]; done) | simp [results, Tryz.results25, go_sem, World.drew]) rfl ⟨?_, ((((((hW1.setCell (p := ⟨w.heap.size, 0, none⟩) (by first | (simp; done) | (simp; omega)) (.int .i64 (bits BinOp.xor IntKind.i64 (x : Int) (wrap64 (2 ^ i0))))).setCell (p := ⟨w.heap.size, 1, none⟩) (by first | (simp; done) | (simp; omega)) (.int .i64 ((p : Int) % 8))).setCell (p := ⟨w.heap.size + 1 + 1, 0, none⟩) (by first | (simp; done) | (simp; omega)) (.int .i64 (bits BinOp.xor IntKind.i64 (x : Int) (wrap64 (2 ^ i0))))).setCell (p := ⟨w.heap.size + 1 + 1, 1, none⟩) (by first | (simp; done) | (simp; omega)) (.int .i64 ((p : Int) % 8))).setCell (p := ⟨w.heap.size + 1 + 1, 2, none⟩) (by first | (simp; done) | (simp; omega)) (.int .i64 0)).setCell (p := ⟨w.heap.size + 1 + 1, 3, none⟩) (by first | (simp; done) | (simp; omega)) (.slice none 0 0)).drew⟩
  simp only [doneX, doneP, ha, eP, eX]
set_option maxHeartbeats 4000000 in
set_option maxRecDepth 100000 in
theorem f25_2 (b off c i0 x p : Nat) (w : World) (hx : x < 64) (hp : p < 8) (h0 : i0 < 6) (hb : b < w.heap.size) (hc0 : w.cell? ⟨b, off, none⟩ = some (.int .i64 i0)) :
    Calls Tryz.prog 25 #[.agg (wkC x p), .agg #[.int .i64 2, .slice (some ⟨b, off, none⟩) 1 c, .int .i64 0, .int .i64 0]] w fun e w' => e = .returned (.agg (wkC (doneX 2 i0 0 0 x) (doneP 2 i0 0 x p % 8))) ∧ Below w.heap.size w w' := by
  obtain ⟨a, ha⟩ : ∃ a, x / 2 ^ i0 % 2 = a := ⟨_, rfl⟩
  have ha2 : a < 2 := by omega
  have hb1 : b < w.heap.size + 1 := by omega
  have hb2 : b < w.heap.size + 1 + 1 := by omega
  have hb3 : b < w.heap.size + 1 + 1 + 1 := by omega
  unfold wkC
  have hA0 : Blk (((w.alloc (.cells #[.int .i64 x, .int .i64 p, .int .i64 0, .slice none 0 0] 64)).alloc (.cells #[.int .i64 2, .slice (some ⟨b, off, none⟩) 1 c, .int .i64 0, .int .i64 0] 45)).alloc (.cells #[.int .i64 0, .int .i64 0, .int .i64 0, .slice none 0 0] 64)) w.heap.size 64 #[.int .i64 x, .int .i64 p, .int .i64 0, .slice none 0 0] := ((Blk.new' _ _ (by simp)).alloc _).alloc _
  have hG0 : Blk (((w.alloc (.cells #[.int .i64 x, .int .i64 p, .int .i64 0, .slice none 0 0] 64)).alloc (.cells #[.int .i64 2, .slice (some ⟨b, off, none⟩) 1 c, .int .i64 0, .int .i64 0] 45)).alloc (.cells #[.int .i64 0, .int .i64 0, .int .i64 0, .slice none 0 0] 64)) (w.heap.size + 1) 45 #[.int .i64 2, .slice (some ⟨b, off, none⟩) 1 c, .int .i64 0, .int .i64 0] := (Blk.new' _ _ (by simp)).alloc _
  have hR0 : Blk (((w.alloc (.cells #[.int .i64 x, .int .i64 p, .int .i64 0, .slice none 0 0] 64)).alloc (.cells #[.int .i64 2, .slice (some ⟨b, off, none⟩) 1 c, .int .i64 0, .int .i64 0] 45)).alloc (.cells #[.int .i64 0, .int .i64 0, .int .i64 0, .slice none 0 0] 64)) (w.heap.size + 1 + 1) 64 #[.int .i64 0, .int .i64 0, .int .i64 0, .slice none 0 0] := (Blk.new' _ _ (by simp))
  have hW0 : Below w.heap.size w (((w.alloc (.cells #[.int .i64 x, .int .i64 p, .int .i64 0, .slice none 0 0] 64)).alloc (.cells #[.int .i64 2, .slice (some ⟨b, off, none⟩) 1 c, .int .i64 0, .int .i64 0] 45)).alloc (.cells #[.int .i64 0, .int .i64 0, .int .i64 0, .slice none 0 0] 64)) := (((Below.refl _ _).alloc (Nat.le_refl _) _).alloc (by simp) _).alloc (by simp; omega) _
  go_enter Tryz.func25, Tryz.ntmps25
  go_wp2_with (go_at_call 67; refine (f67_any x i0 a _ _ _ _ hx h0 ha).mono ?_; rintro e w1 ⟨rfl, hb91⟩; have hA1 := hA0.below hb91; have hG1 := hG0.below hb91; have hR1 := hR0.below hb91; have hW1 := bt hW0 hb91; have cA1 := hA1.cells; have cG1 := hG1.cells; have fA1 := hA1.frozen; have fR1 := hR1.frozen; have cR1 := hR1.cells; have lA1 := hA1.lt; have lR1 := hR1.lt; have d10 := keep_cell (p := ⟨b, off, none⟩) hW1 hb hc0)
  go_region
  have hA4 : Blk _ w.heap.size 64 #[.int .i64 (bits BinOp.xor IntKind.i64 (x : Int) (wrap64 (2 ^ i0))), .int .i64 ((p : Int) + 2 + 4 * (a : Int)), .int .i64 0, .slice none 0 0] := ((hA1.set 0 (.int .i64 (bits BinOp.xor IntKind.i64 (x : Int) (wrap64 (2 ^ i0))))).set 1 (.int .i64 ((p : Int) + 2 + 4 * (a : Int)))).drew
  have hR4 := ((hR1.far (p := ⟨w.heap.size, 0, none⟩) (by first | (simp; done) | (simp; omega)) (.int .i64 (bits BinOp.xor IntKind.i64 (x : Int) (wrap64 (2 ^ i0))))).far (p := ⟨w.heap.size, 1, none⟩) (by first | (simp; done) | (simp; omega)) (.int .i64 ((p : Int) + 2 + 4 * (a : Int)))).drew
  have hW4 := ((hW1.setCell (p := ⟨w.heap.size, 0, none⟩) (by first | (simp; done) | (simp; omega)) (.int .i64 (bits BinOp.xor IntKind.i64 (x : Int) (wrap64 (2 ^ i0))))).setCell (p := ⟨w.heap.size, 1, none⟩) (by first | (simp; done) | (simp; omega)) (.int .i64 ((p : Int) + 2 + 4 * (a : Int)))).drew
  generalize (((w1.setCell ⟨w.heap.size, 0, none⟩ (.int .i64 (bits BinOp.xor IntKind.i64 (x : Int) (wrap64 (2 ^ i0))))).setCell ⟨w.heap.size, 1, none⟩ (.int .i64 ((p : Int) + 2 + 4 * (a : Int)))).drew) = w4 at hA4 hR4 hW4 ⊢
  have cA4 := hA4.cells
  have cR4 := hR4.cells
  have fA4 := hA4.frozen
  have fR4 := hR4.frozen
  have lA4 := hA4.lt
  have lR4 := hR4.lt
  go_wp2
  have eX : bits BinOp.xor IntKind.i64 (x : Int) (wrap64 (2 ^ i0)) = ((x ^^^ 2 ^ i0 : Nat) : Int) := by rw [w64p i0 h0]; exact i64_xor x (2 ^ i0) (by omega) (by have := pw6 i0 h0; omega)
  have eP : ((p : Int) + 2 + 4 * (a : Int)) % 8 = (((p + 2 + 4 * a) % 8 : Nat) : Int) := by
    omega
  have hF := (((((hR4.far (p := ⟨w.heap.size, 1, none⟩) (by first | (simp; done) | (simp; omega)) (.int .i64 (((p : Int) + 2 + 4 * (a : Int)) % 8))).set 0 (.int .i64 (bits BinOp.xor IntKind.i64 (x : Int) (wrap64 (2 ^ i0))))).set 1 (.int .i64 (((p : Int) + 2 + 4 * (a : Int)) % 8))).set 2 (.int .i64 0)).set 3 (.slice none 0 0))
  have cF := hF.cells
  refine bodyPost_ret (v := .agg #[.int .i64 (bits BinOp.xor IntKind.i64 (x : Int) (wrap64 (2 ^ i0))), .int .i64 (((p : Int) + 2 + 4 * (a : Int)) % 8), .int .i64 0, .slice none 0 0]) (by first | (simp [results, Tryz.results25, go_sem, cF]; done) | simp [results, Tryz.results25, go_sem, World.drew]) rfl ⟨?_, (((((hW4.setCell (p := ⟨w.heap.size, 1, none⟩) (by first | (simp; done) | (simp; omega)) (.int .i64 (((p : Int) + 2 + 4 * (a : Int)) % 8))).setCell (p := ⟨w.heap.size + 1 + 1, 0, none⟩) (by first | (simp; done) | (simp; omega)) (.int .i64 (bits BinOp.xor IntKind.i64 (x : Int) (wrap64 (2 ^ i0))))).setCell (p := ⟨w.heap.size + 1 + 1, 1, none⟩) (by first | (simp; done) | (simp; omega)) (.int .i64 (((p : Int) + 2 + 4 * (a : Int)) % 8))).setCell (p := ⟨w.heap.size + 1 + 1, 2, none⟩) (by first | (simp; done) | (simp; omega)) (.int .i64 0)).setCell (p := ⟨w.heap.size + 1 + 1, 3, none⟩) (by first | (simp; done) | (simp; omega)) (.slice none 0 0))⟩
  simp only [doneX, doneP, ha, eP, eX]
set_option maxHeartbeats 4000000 in
set_option maxRecDepth 100000 in
theorem f25_3 (b off c i0 x p : Nat) (w : World) (hx : x < 64) (hp : p < 8) (h0 : i0 < 6) (hb : b < w.heap.size) (hc0 : w.cell? ⟨b, off, none⟩ = some (.int .i64 i0)) :
    Calls Tryz.prog 25 #[.agg (wkC x p), .agg #[.int .i64 3, .slice (some ⟨b, off, none⟩) 1 c, .int .i64 0, .int .i64 0]] w fun e w' => e = .returned (.agg (wkC (doneX 3 i0 0 0 x) (doneP 3 i0 0 x p % 8))) ∧ Below w.heap.size w w' := by
  obtain ⟨a, ha⟩ : ∃ a, x / 2 ^ i0 % 2 = a := ⟨_, rfl⟩
  have ha2 : a < 2 := by omega
  have hb1 : b < w.heap.size + 1 := by omega
  have hb2 : b < w.heap.size + 1 + 1 := by omega
  have hb3 : b < w.heap.size + 1 + 1 + 1 := by omega
  unfold wkC
  have hA0 : Blk (((w.alloc (.cells #[.int .i64 x, .int .i64 p, .int .i64 0, .slice none 0 0] 64)).alloc (.cells #[.int .i64 3, .slice (some ⟨b, off, none⟩) 1 c, .int .i64 0, .int .i64 0] 45)).alloc (.cells #[.int .i64 0, .int .i64 0, .int .i64 0, .slice none 0 0] 64)) w.heap.size 64 #[.int .i64 x, .int .i64 p, .int .i64 0, .slice none 0 0] := ((Blk.new' _ _ (by simp)).alloc _).alloc _
  have hG0 : Blk (((w.alloc (.cells #[.int .i64 x, .int .i64 p, .int .i64 0, .slice none 0 0] 64)).alloc (.cells #[.int .i64 3, .slice (some ⟨b, off, none⟩) 1 c, .int .i64 0, .int .i64 0] 45)).alloc (.cells #[.int .i64 0, .int .i64 0, .int .i64 0, .slice none 0 0] 64)) (w.heap.size + 1) 45 #[.int .i64 3, .slice (some ⟨b, off, none⟩) 1 c, .int .i64 0, .int .i64 0] := (Blk.new' _ _ (by simp)).alloc _
  have hR0 : Blk (((w.alloc (.cells #[.int .i64 x, .int .i64 p, .int .i64 0, .slice none 0 0] 64)).alloc (.cells #[.int .i64 3, .slice (some ⟨b, off, none⟩) 1 c, .int .i64 0, .int .i64 0] 45)).alloc (.cells #[.int .i64 0, .int .i64 0, .int .i64 0, .slice none 0 0] 64)) (w.heap.size + 1 + 1) 64 #[.int .i64 0, .int .i64 0, .int .i64 0, .slice none 0 0] := (Blk.new' _ _ (by simp))
  have hW0 : Below w.heap.size w (((w.alloc (.cells #[.int .i64 x, .int .i64 p, .int .i64 0, .slice none 0 0] 64)).alloc (.cells #[.int .i64 3, .slice (some ⟨b, off, none⟩) 1 c, .int .i64 0, .int .i64 0] 45)).alloc (.cells #[.int .i64 0, .int .i64 0, .int .i64 0, .slice none 0 0] 64)) := (((Below.refl _ _).alloc (Nat.le_refl _) _).alloc (by simp) _).alloc (by simp; omega) _
  go_enter Tryz.func25, Tryz.ntmps25
  go_wp2_with (go_at_call 67; refine (f67_any x i0 a _ _ _ _ hx h0 ha).mono ?_; rintro e w1 ⟨rfl, hb91⟩; have hA1 := hA0.below hb91; have hG1 := hG0.below hb91; have hR1 := hR0.below hb91; have hW1 := bt hW0 hb91; have cA1 := hA1.cells; have cG1 := hG1.cells; have fA1 := hA1.frozen; have fR1 := hR1.frozen; have cR1 := hR1.cells; have lA1 := hA1.lt; have lR1 := hR1.lt; have d10 := keep_cell (p := ⟨b, off, none⟩) hW1 hb hc0)
  have eP : ((p : Int) + 4 * (a : Int)) % 8 = (((p + 4 * a) % 8 : Nat) : Int) := by
    omega
  have hF := ((((((hR1.far (p := ⟨w.heap.size, 1, none⟩) (by first | (simp; done) | (simp; omega)) (.int .i64 (((p : Int) + 4 * (a : Int))))).far (p := ⟨w.heap.size, 1, none⟩) (by first | (simp; done) | (simp; omega)) (.int .i64 (((p : Int) + 4 * (a : Int)) % 8))).set 0 (.int .i64 ((x : Int)))).set 1 (.int .i64 (((p : Int) + 4 * (a : Int)) % 8))).set 2 (.int .i64 0)).set 3 (.slice none 0 0))
  have cF := hF.cells
  refine bodyPost_ret (v := .agg #[.int .i64 ((x : Int)), .int .i64 (((p : Int) + 4 * (a : Int)) % 8), .int .i64 0, .slice none 0 0]) (by first | (simp [results, Tryz.results25, go_sem, cF]; done) | simp [results, Tryz.results25, go_sem, World.drew]) rfl ⟨?_, ((((((hW1.setCell (p := ⟨w.heap.size, 1, none⟩) (by first | (simp; done) | (simp; omega)) (.int .i64 (((p : Int) + 4 * (a : Int))))).setCell (p := ⟨w.heap.size, 1, none⟩) (by first | (simp; done) | (simp; omega)) (.int .i64 (((p : Int) + 4 * (a : Int)) % 8))).setCell (p := ⟨w.heap.size + 1 + 1, 0, none⟩) (by first | (simp; done) | (simp; omega)) (.int .i64 ((x : Int)))).setCell (p := ⟨w.heap.size + 1 + 1, 1, none⟩) (by first | (simp; done) | (simp; omega)) (.int .i64 (((p : Int) + 4 * (a : Int)) % 8))).setCell (p := ⟨w.heap.size + 1 + 1, 2, none⟩) (by first | (simp; done) | (simp; omega)) (.int .i64 0)).setCell (p := ⟨w.heap.size + 1 + 1, 3, none⟩) (by first | (simp; done) | (simp; omega)) (.slice none 0 0))⟩
  simp only [doneX, doneP, ha, eP]
set_option maxHeartbeats 4000000 in
set_option maxRecDepth 100000 in
theorem f25_5 (b off c i0 x p : Nat) (w : World) (hx : x < 64) (hp : p < 8) (h0 : i0 < 6) (hb : b < w.heap.size) (hc0 : w.cell? ⟨b, off, none⟩ = some (.int .i64 i0)) :
    Calls Tryz.prog 25 #[.agg (wkC x p), .agg #[.int .i64 5, .slice (some ⟨b, off, none⟩) 1 c, .int .i64 0, .int .i64 0]] w fun e w' => e = .returned (.agg (wkC (doneX 5 i0 0 0 x) (doneP 5 i0 0 x p % 8))) ∧ Below w.heap.size w w' := by
  obtain ⟨a, ha⟩ : ∃ a, x / 2 ^ i0 % 2 = a := ⟨_, rfl⟩
  have ha2 : a < 2 := by omega
  have hb1 : b < w.heap.size + 1 := by omega
  have hb2 : b < w.heap.size + 1 + 1 := by omega
  have hb3 : b < w.heap.size + 1 + 1 + 1 := by omega
  unfold wkC
  have hA0 : Blk (((w.alloc (.cells #[.int .i64 x, .int .i64 p, .int .i64 0, .slice none 0 0] 64)).alloc (.cells #[.int .i64 5, .slice (some ⟨b, off, none⟩) 1 c, .int .i64 0, .int .i64 0] 45)).alloc (.cells #[.int .i64 0, .int .i64 0, .int .i64 0, .slice none 0 0] 64)) w.heap.size 64 #[.int .i64 x, .int .i64 p, .int .i64 0, .slice none 0 0] := ((Blk.new' _ _ (by simp)).alloc _).alloc _
  have hG0 : Blk (((w.alloc (.cells #[.int .i64 x, .int .i64 p, .int .i64 0, .slice none 0 0] 64)).alloc (.cells #[.int .i64 5, .slice (some ⟨b, off, none⟩) 1 c, .int .i64 0, .int .i64 0] 45)).alloc (.cells #[.int .i64 0, .int .i64 0, .int .i64 0, .slice none 0 0] 64)) (w.heap.size + 1) 45 #[.int .i64 5, .slice (some ⟨b, off, none⟩) 1 c, .int .i64 0, .int .i64 0] := (Blk.new' _ _ (by simp)).alloc _
  have hR0 : Blk (((w.alloc (.cells #[.int .i64 x, .int .i64 p, .int .i64 0, .slice none 0 0] 64)).alloc (.cells #[.int .i64 5, .slice (some ⟨b, off, none⟩) 1 c, .int .i64 0, .int .i64 0] 45)).alloc (.cells #[.int .i64 0, .int .i64 0, .int .i64 0, .slice none 0 0] 64)) (w.heap.size + 1 + 1) 64 #[.int .i64 0, .int .i64 0, .int .i64 0, .slice none 0 0] := (Blk.new' _ _ (by simp))
  have hW0 : Below w.heap.size w (((w.alloc (.cells #[.int .i64 x, .int .i64 p, .int .i64 0, .slice none 0 0] 64)).alloc (.cells #[.int .i64 5, .slice (some ⟨b, off, none⟩) 1 c, .int .i64 0, .int .i64 0] 45)).alloc (.cells #[.int .i64 0, .int .i64 0, .int .i64 0, .slice none 0 0] 64)) := (((Below.refl _ _).alloc (Nat.le_refl _) _).alloc (by simp) _).alloc (by simp; omega) _
  go_enter Tryz.func25, Tryz.ntmps25
  go_wp2_with (go_at_call 67; refine (f67_any x i0 a _ _ _ _ hx h0 ha).mono ?_; rintro e w1 ⟨rfl, hb91⟩; have hA1 := hA0.below hb91; have hG1 := hG0.below hb91; have hR1 := hR0.below hb91; have hW1 := bt hW0 hb91; have cA1 := hA1.cells; have cG1 := hG1.cells; have fA1 := hA1.frozen; have fR1 := hR1.frozen; have cR1 := hR1.cells; have lA1 := hA1.lt; have lR1 := hR1.lt; have d10 := keep_cell (p := ⟨b, off, none⟩) hW1 hb hc0)
  have eP : ((p : Int) + 2 * (a : Int)) % 8 = (((p + 2 * a) % 8 : Nat) : Int) := by
    omega
  have hF := ((((((hR1.far (p := ⟨w.heap.size, 1, none⟩) (by first | (simp; done) | (simp; omega)) (.int .i64 (((p : Int) + 2 * (a : Int))))).far (p := ⟨w.heap.size, 1, none⟩) (by first | (simp; done) | (simp; omega)) (.int .i64 (((p : Int) + 2 * (a : Int)) % 8))).set 0 (.int .i64 ((x : Int)))).set 1 (.int .i64 (((p : Int) + 2 * (a : Int)) % 8))).set 2 (.int .i64 0)).set 3 (.slice none 0 0))
  have cF := hF.cells
  refine bodyPost_ret (v := .agg #[.int .i64 ((x : Int)), .int .i64 (((p : Int) + 2 * (a : Int)) % 8), .int .i64 0, .slice none 0 0]) (by first | (simp [results, Tryz.results25, go_sem, cF]; done) | simp [results, Tryz.results25, go_sem, World.drew]) rfl ⟨?_, ((((((hW1.setCell (p := ⟨w.heap.size, 1, none⟩) (by first | (simp; done) | (simp; omega)) (.int .i64 (((p : Int) + 2 * (a : Int))))).setCell (p := ⟨w.heap.size, 1, none⟩) (by first | (simp; done) | (simp; omega)) (.int .i64 (((p : Int) + 2 * (a : Int)) % 8))).setCell (p := ⟨w.heap.size + 1 + 1, 0, none⟩) (by first | (simp; done) | (simp; omega)) (.int .i64 ((x : Int)))).setCell (p := ⟨w.heap.size + 1 + 1, 1, none⟩) (by first | (simp; done) | (simp; omega)) (.int .i64 (((p : Int) + 2 * (a : Int)) % 8))).setCell (p := ⟨w.heap.size + 1 + 1, 2, none⟩) (by first | (simp; done) | (simp; omega)) (.int .i64 0)).setCell (p := ⟨w.heap.size + 1 + 1, 3, none⟩) (by first | (simp; done) | (simp; omega)) (.slice none 0 0))⟩
  simp only [doneX, doneP, ha, eP]
set_option maxHeartbeats 4000000 in
set_option maxRecDepth 100000 in
theorem f25_6 (b off c i0 x p : Nat) (w : World) (hx : x < 64) (hp : p < 8) (h0 : i0 < 6) (hb : b < w.heap.size) (hc0 : w.cell? ⟨b, off, none⟩ = some (.int .i64 i0)) :
    Calls Tryz.prog 25 #[.agg (wkC x p), .agg #[.int .i64 6, .slice (some ⟨b, off, none⟩) 1 c, .int .i64 0, .int .i64 0]] w fun e w' => e = .returned (.agg (wkC (doneX 6 i0 0 0 x) (doneP 6 i0 0 x p % 8))) ∧ Below w.heap.size w w' := by
  obtain ⟨a, ha⟩ : ∃ a, x / 2 ^ i0 % 2 = a := ⟨_, rfl⟩
  have ha2 : a < 2 := by omega
  have hb1 : b < w.heap.size + 1 := by omega
  have hb2 : b < w.heap.size + 1 + 1 := by omega
  have hb3 : b < w.heap.size + 1 + 1 + 1 := by omega
  unfold wkC
  have hA0 : Blk (((w.alloc (.cells #[.int .i64 x, .int .i64 p, .int .i64 0, .slice none 0 0] 64)).alloc (.cells #[.int .i64 6, .slice (some ⟨b, off, none⟩) 1 c, .int .i64 0, .int .i64 0] 45)).alloc (.cells #[.int .i64 0, .int .i64 0, .int .i64 0, .slice none 0 0] 64)) w.heap.size 64 #[.int .i64 x, .int .i64 p, .int .i64 0, .slice none 0 0] := ((Blk.new' _ _ (by simp)).alloc _).alloc _
  have hG0 : Blk (((w.alloc (.cells #[.int .i64 x, .int .i64 p, .int .i64 0, .slice none 0 0] 64)).alloc (.cells #[.int .i64 6, .slice (some ⟨b, off, none⟩) 1 c, .int .i64 0, .int .i64 0] 45)).alloc (.cells #[.int .i64 0, .int .i64 0, .int .i64 0, .slice none 0 0] 64)) (w.heap.size + 1) 45 #[.int .i64 6, .slice (some ⟨b, off, none⟩) 1 c, .int .i64 0, .int .i64 0] := (Blk.new' _ _ (by simp)).alloc _
  have hR0 : Blk (((w.alloc (.cells #[.int .i64 x, .int .i64 p, .int .i64 0, .slice none 0 0] 64)).alloc (.cells #[.int .i64 6, .slice (some ⟨b, off, none⟩) 1 c, .int .i64 0, .int .i64 0] 45)).alloc (.cells #[.int .i64 0, .int .i64 0, .int .i64 0, .slice none 0 0] 64)) (w.heap.size + 1 + 1) 64 #[.int .i64 0, .int .i64 0, .int .i64 0, .slice none 0 0] := (Blk.new' _ _ (by simp))
  have hW0 : Below w.heap.size w (((w.alloc (.cells #[.int .i64 x, .int .i64 p, .int .i64 0, .slice none 0 0] 64)).alloc (.cells #[.int .i64 6, .slice (some ⟨b, off, none⟩) 1 c, .int .i64 0, .int .i64 0] 45)).alloc (.cells #[.int .i64 0, .int .i64 0, .int .i64 0, .slice none 0 0] 64)) := (((Below.refl _ _).alloc (Nat.le_refl _) _).alloc (by simp) _).alloc (by simp; omega) _
  go_enter Tryz.func25, Tryz.ntmps25
  go_wp2_with (go_at_call 67; refine (f67_any x i0 a _ _ _ _ hx h0 ha).mono ?_; rintro e w1 ⟨rfl, hb91⟩; have hA1 := hA0.below hb91; have hG1 := hG0.below hb91; have hR1 := hR0.below hb91; have hW1 := bt hW0 hb91; have cA1 := hA1.cells; have cG1 := hG1.cells; have fA1 := hA1.frozen; have fR1 := hR1.frozen; have cR1 := hR1.cells; have lA1 := hA1.lt; have lR1 := hR1.lt; have d10 := keep_cell (p := ⟨b, off, none⟩) hW1 hb hc0)
  have eP : ((p : Int) + 6 * (a : Int)) % 8 = (((p + 6 * a) % 8 : Nat) : Int) := by
    omega
  have hF := ((((((hR1.far (p := ⟨w.heap.size, 1, none⟩) (by first | (simp; done) | (simp; omega)) (.int .i64 (((p : Int) + 6 * (a : Int))))).far (p := ⟨w.heap.size, 1, none⟩) (by first | (simp; done) | (simp; omega)) (.int .i64 (((p : Int) + 6 * (a : Int)) % 8))).set 0 (.int .i64 ((x : Int)))).set 1 (.int .i64 (((p : Int) + 6 * (a : Int)) % 8))).set 2 (.int .i64 0)).set 3 (.slice none 0 0))
  have cF := hF.cells
  refine bodyPost_ret (v := .agg #[.int .i64 ((x : Int)), .int .i64 (((p : Int) + 6 * (a : Int)) % 8), .int .i64 0, .slice none 0 0]) (by first | (simp [results, Tryz.results25, go_sem, cF]; done) | simp [results, Tryz.results25, go_sem, World.drew]) rfl ⟨?_, ((((((hW1.setCell (p := ⟨w.heap.size, 1, none⟩) (by first | (simp; done) | (simp; omega)) (.int .i64 (((p : Int) + 6 * (a : Int))))).setCell (p := ⟨w.heap.size, 1, none⟩) (by first | (simp; done) | (simp; omega)) (.int .i64 (((p : Int) + 6 * (a : Int)) % 8))).setCell (p := ⟨w.heap.size + 1 + 1, 0, none⟩) (by first | (simp; done) | (simp; omega)) (.int .i64 ((x : Int)))).setCell (p := ⟨w.heap.size + 1 + 1, 1, none⟩) (by first | (simp; done) | (simp; omega)) (.int .i64 (((p : Int) + 6 * (a : Int)) % 8))).setCell (p := ⟨w.heap.size + 1 + 1, 2, none⟩) (by first | (simp; done) | (simp; omega)) (.int .i64 0)).setCell (p := ⟨w.heap.size + 1 + 1, 3, none⟩) (by first | (simp; done) | (simp; omega)) (.slice none 0 0))⟩
  simp only [doneX, doneP, ha, eP]
set_option maxHeartbeats 4000000 in
set_option maxRecDepth 100000 in
theorem f25_7 (b off c i0 x p : Nat) (w : World) (hx : x < 64) (hp : p < 8) (h0 : i0 < 6) (hb : b < w.heap.size) (hc0 : w.cell? ⟨b, off, none⟩ = some (.int .i64 i0)) :
    Calls Tryz.prog 25 #[.agg (wkC x p), .agg #[.int .i64 7, .slice (some ⟨b, off, none⟩) 1 c, .int .i64 0, .int .i64 0]] w fun e w' => e = .returned (.agg (wkC (doneX 7 i0 0 0 x) (doneP 7 i0 0 x p % 8))) ∧ Below w.heap.size w w' := by
  obtain ⟨a, ha⟩ : ∃ a, x / 2 ^ i0 % 2 = a := ⟨_, rfl⟩
  have ha2 : a < 2 := by omega
  have hb1 : b < w.heap.size + 1 := by omega
  have hb2 : b < w.heap.size + 1 + 1 := by omega
  have hb3 : b < w.heap.size + 1 + 1 + 1 := by omega
  unfold wkC
  have hA0 : Blk (((w.alloc (.cells #[.int .i64 x, .int .i64 p, .int .i64 0, .slice none 0 0] 64)).alloc (.cells #[.int .i64 7, .slice (some ⟨b, off, none⟩) 1 c, .int .i64 0, .int .i64 0] 45)).alloc (.cells #[.int .i64 0, .int .i64 0, .int .i64 0, .slice none 0 0] 64)) w.heap.size 64 #[.int .i64 x, .int .i64 p, .int .i64 0, .slice none 0 0] := ((Blk.new' _ _ (by simp)).alloc _).alloc _
  have hG0 : Blk (((w.alloc (.cells #[.int .i64 x, .int .i64 p, .int .i64 0, .slice none 0 0] 64)).alloc (.cells #[.int .i64 7, .slice (some ⟨b, off, none⟩) 1 c, .int .i64 0, .int .i64 0] 45)).alloc (.cells #[.int .i64 0, .int .i64 0, .int .i64 0, .slice none 0 0] 64)) (w.heap.size + 1) 45 #[.int .i64 7, .slice (some ⟨b, off, none⟩) 1 c, .int .i64 0, .int .i64 0] := (Blk.new' _ _ (by simp)).alloc _
  have hR0 : Blk (((w.alloc (.cells #[.int .i64 x, .int .i64 p, .int .i64 0, .slice none 0 0] 64)).alloc (.cells #[.int .i64 7, .slice (some ⟨b, off, none⟩) 1 c, .int .i64 0, .int .i64 0] 45)).alloc (.cells #[.int .i64 0, .int .i64 0, .int .i64 0, .slice none 0 0] 64)) (w.heap.size + 1 + 1) 64 #[.int .i64 0, .int .i64 0, .int .i64 0, .slice none 0 0] := (Blk.new' _ _ (by simp))
  have hW0 : Below w.heap.size w (((w.alloc (.cells #[.int .i64 x, .int .i64 p, .int .i64 0, .slice none 0 0] 64)).alloc (.cells #[.int .i64 7, .slice (some ⟨b, off, none⟩) 1 c, .int .i64 0, .int .i64 0] 45)).alloc (.cells #[.int .i64 0, .int .i64 0, .int .i64 0, .slice none 0 0] 64)) := (((Below.refl _ _).alloc (Nat.le_refl _) _).alloc (by simp) _).alloc (by simp; omega) _
  go_enter Tryz.func25, Tryz.ntmps25
  go_wp2_with (go_at_call 67; refine (f67_any x i0 a _ _ _ _ hx h0 ha).mono ?_; rintro e w1 ⟨rfl, hb91⟩; have hA1 := hA0.below hb91; have hG1 := hG0.below hb91; have hR1 := hR0.below hb91; have hW1 := bt hW0 hb91; have cA1 := hA1.cells; have cG1 := hG1.cells; have fA1 := hA1.frozen; have fR1 := hR1.frozen; have cR1 := hR1.cells; have lA1 := hA1.lt; have lR1 := hR1.lt; have d10 := keep_cell (p := ⟨b, off, none⟩) hW1 hb hc0)
  have eP : ((p : Int) + (a : Int)) % 8 = (((p + a) % 8 : Nat) : Int) := by
    omega
  have hF := ((((((hR1.far (p := ⟨w.heap.size, 1, none⟩) (by first | (simp; done) | (simp; omega)) (.int .i64 (((p : Int) + (a : Int))))).far (p := ⟨w.heap.size, 1, none⟩) (by first | (simp; done) | (simp; omega)) (.int .i64 (((p : Int) + (a : Int)) % 8))).set 0 (.int .i64 ((x : Int)))).set 1 (.int .i64 (((p : Int) + (a : Int)) % 8))).set 2 (.int .i64 0)).set 3 (.slice none 0 0))
  have cF := hF.cells
  refine bodyPost_ret (v := .agg #[.int .i64 ((x : Int)), .int .i64 (((p : Int) + (a : Int)) % 8), .int .i64 0, .slice none 0 0]) (by first | (simp [results, Tryz.results25, go_sem, cF]; done) | simp [results, Tryz.results25, go_sem, World.drew]) rfl ⟨?_, ((((((hW1.setCell (p := ⟨w.heap.size, 1, none⟩) (by first | (simp; done) | (simp; omega)) (.int .i64 (((p : Int) + (a : Int))))).setCell (p := ⟨w.heap.size, 1, none⟩) (by first | (simp; done) | (simp; omega)) (.int .i64 (((p : Int) + (a : Int)) % 8))).setCell (p := ⟨w.heap.size + 1 + 1, 0, none⟩) (by first | (simp; done) | (simp; omega)) (.int .i64 ((x : Int)))).setCell (p := ⟨w.heap.size + 1 + 1, 1, none⟩) (by first | (simp; done) | (simp; omega)) (.int .i64 (((p : Int) + (a : Int)) % 8))).setCell (p := ⟨w.heap.size + 1 + 1, 2, none⟩) (by first | (simp; done) | (simp; omega)) (.int .i64 0)).setCell (p := ⟨w.heap.size + 1 + 1, 3, none⟩) (by first | (simp; done) | (simp; omega)) (.slice none 0 0))⟩
  simp only [doneX, doneP, ha, eP]
set_option maxHeartbeats 4000000 in
set_option maxRecDepth 100000 in
theorem f25_8 (b off c i0 x p : Nat) (w : World) (hx : x < 64) (hp : p < 8) (h0 : i0 < 6) (hb : b < w.heap.size) (hc0 : w.cell? ⟨b, off, none⟩ = some (.int .i64 i0)) :
    Calls Tryz.prog 25 #[.agg (wkC x p), .agg #[.int .i64 8, .slice (some ⟨b, off, none⟩) 1 c, .int .i64 0, .int .i64 0]] w fun e w' => e = .returned (.agg (wkC (doneX 8 i0 0 0 x) (doneP 8 i0 0 x p % 8))) ∧ Below w.heap.size w w' := by
  obtain ⟨a, ha⟩ : ∃ a, x / 2 ^ i0 % 2 = a := ⟨_, rfl⟩
  have ha2 : a < 2 := by omega
  have hb1 : b < w.heap.size + 1 := by omega
  have hb2 : b < w.heap.size + 1 + 1 := by omega
  have hb3 : b < w.heap.size + 1 + 1 + 1 := by omega
  unfold wkC
  have hA0 : Blk (((w.alloc (.cells #[.int .i64 x, .int .i64 p, .int .i64 0, .slice none 0 0] 64)).alloc (.cells #[.int .i64 8, .slice (some ⟨b, off, none⟩) 1 c, .int .i64 0, .int .i64 0] 45)).alloc (.cells #[.int .i64 0, .int .i64 0, .int .i64 0, .slice none 0 0] 64)) w.heap.size 64 #[.int .i64 x, .int .i64 p, .int .i64 0, .slice none 0 0] := ((Blk.new' _ _ (by simp)).alloc _).alloc _
  have hG0 : Blk (((w.alloc (.cells #[.int .i64 x, .int .i64 p, .int .i64 0, .slice none 0 0] 64)).alloc (.cells #[.int .i64 8, .slice (some ⟨b, off, none⟩) 1 c, .int .i64 0, .int .i64 0] 45)).alloc (.cells #[.int .i64 0, .int .i64 0, .int .i64 0, .slice none 0 0] 64)) (w.heap.size + 1) 45 #[.int .i64 8, .slice (some ⟨b, off, none⟩) 1 c, .int .i64 0, .int .i64 0] := (Blk.new' _ _ (by simp)).alloc _
  have hR0 : Blk (((w.alloc (.cells #[.int .i64 x, .int .i64 p, .int .i64 0, .slice none 0 0] 64)).alloc (.cells #[.int .i64 8, .slice (some ⟨b, off, none⟩) 1 c, .int .i64 0, .int .i64 0] 45)).alloc (.cells #[.int .i64 0, .int .i64 0, .int .i64 0, .slice none 0 0] 64)) (w.heap.size + 1 + 1) 64 #[.int .i64 0, .int .i64 0, .int .i64 0, .slice none 0 0] := (Blk.new' _ _ (by simp))
  have hW0 : Below w.heap.size w (((w.alloc (.cells #[.int .i64 x, .int .i64 p, .int .i64 0, .slice none 0 0] 64)).alloc (.cells #[.int .i64 8, .slice (some ⟨b, off, none⟩) 1 c, .int .i64 0, .int .i64 0] 45)).alloc (.cells #[.int .i64 0, .int .i64 0, .int .i64 0, .slice none 0 0] 64)) := (((Below.refl _ _).alloc (Nat.le_refl _) _).alloc (by simp) _).alloc (by simp; omega) _
  go_enter Tryz.func25, Tryz.ntmps25
  go_wp2_with (go_at_call 67; refine (f67_any x i0 a _ _ _ _ hx h0 ha).mono ?_; rintro e w1 ⟨rfl, hb91⟩; have hA1 := hA0.below hb91; have hG1 := hG0.below hb91; have hR1 := hR0.below hb91; have hW1 := bt hW0 hb91; have cA1 := hA1.cells; have cG1 := hG1.cells; have fA1 := hA1.frozen; have fR1 := hR1.frozen; have cR1 := hR1.cells; have lA1 := hA1.lt; have lR1 := hR1.lt; have d10 := keep_cell (p := ⟨b, off, none⟩) hW1 hb hc0)
  have eP : ((p : Int) + 7 * (a : Int)) % 8 = (((p + 7 * a) % 8 : Nat) : Int) := by
    omega
  have hF := ((((((hR1.far (p := ⟨w.heap.size, 1, none⟩) (by first | (simp; done) | (simp; omega)) (.int .i64 (((p : Int) + 7 * (a : Int))))).far (p := ⟨w.heap.size, 1, none⟩) (by first | (simp; done) | (simp; omega)) (.int .i64 (((p : Int) + 7 * (a : Int)) % 8))).set 0 (.int .i64 ((x : Int)))).set 1 (.int .i64 (((p : Int) + 7 * (a : Int)) % 8))).set 2 (.int .i64 0)).set 3 (.slice none 0 0))
  have cF := hF.cells
  refine bodyPost_ret (v := .agg #[.int .i64 ((x : Int)), .int .i64 (((p : Int) + 7 * (a : Int)) % 8), .int .i64 0, .slice none 0 0]) (by first | (simp [results, Tryz.results25, go_sem, cF]; done) | simp [results, Tryz.results25, go_sem, World.drew]) rfl ⟨?_, ((((((hW1.setCell (p := ⟨w.heap.size, 1, none⟩) (by first | (simp; done) | (simp; omega)) (.int .i64 (((p : Int) + 7 * (a : Int))))).setCell (p := ⟨w.heap.size, 1, none⟩) (by first | (simp; done) | (simp; omega)) (.int .i64 (((p : Int) + 7 * (a : Int)) % 8))).setCell (p := ⟨w.heap.size + 1 + 1, 0, none⟩) (by first | (simp; done) | (simp; omega)) (.int .i64 ((x : Int)))).setCell (p := ⟨w.heap.size + 1 + 1, 1, none⟩) (by first | (simp; done) | (simp; omega)) (.int .i64 (((p : Int) + 7 * (a : Int)) % 8))).setCell (p := ⟨w.heap.size + 1 + 1, 2, none⟩) (by first | (simp; done) | (simp; omega)) (.int .i64 0)).setCell (p := ⟨w.heap.size + 1 + 1, 3, none⟩) (by first | (simp; done) | (simp; omega)) (.slice none 0 0))⟩
  simp only [doneX, doneP, ha, eP]
set_option maxHeartbeats 4000000 in
set_option maxRecDepth 100000 in
theorem f25_9 (b off c i0 i1 x p : Nat) (w : World) (hx : x < 64) (hp : p < 8) (h0 : i0 < 6) (h1 : i1 < 6) (hb : b < w.heap.size) (hc0 : w.cell? ⟨b, off, none⟩ = some (.int .i64 i0)) (hc1 : w.cell? ⟨b, off + 1, none⟩ = some (.int .i64 i1)) :
    Calls Tryz.prog 25 #[.agg (wkC x p), .agg #[.int .i64 9, .slice (some ⟨b, off, none⟩) 2 c, .int .i64 0, .int .i64 0]] w fun e w' => e = .returned (.agg (wkC (doneX 9 i0 i1 0 x) (doneP 9 i0 i1 x p % 8))) ∧ Below w.heap.size w w' := by
  obtain ⟨a, ha⟩ : ∃ a, x / 2 ^ i0 % 2 = a := ⟨_, rfl⟩
  have ha2 : a < 2 := by omega
  obtain ⟨a', ha'⟩ : ∃ a, x / 2 ^ i1 % 2 = a := ⟨_, rfl⟩
  have ha2' : a' < 2 := by omega
  have hb1 : b < w.heap.size + 1 := by omega
  have hb2 : b < w.heap.size + 1 + 1 := by omega
  have hb3 : b < w.heap.size + 1 + 1 + 1 := by omega
  unfold wkC
  have hA0 : Blk (((w.alloc (.cells #[.int .i64 x, .int .i64 p, .int .i64 0, .slice none 0 0] 64)).alloc (.cells #[.int .i64 9, .slice (some ⟨b, off, none⟩) 2 c, .int .i64 0, .int .i64 0] 45)).alloc (.cells #[.int .i64 0, .int .i64 0, .int .i64 0, .slice none 0 0] 64)) w.heap.size 64 #[.int .i64 x, .int .i64 p, .int .i64 0, .slice none 0 0] := ((Blk.new' _ _ (by simp)).alloc _).alloc _
  have hG0 : Blk (((w.alloc (.cells #[.int .i64 x, .int .i64 p, .int .i64 0, .slice none 0 0] 64)).alloc (.cells #[.int .i64 9, .slice (some ⟨b, off, none⟩) 2 c, .int .i64 0, .int .i64 0] 45)).alloc (.cells #[.int .i64 0, .int .i64 0, .int .i64 0, .slice none 0 0] 64)) (w.heap.size + 1) 45 #[.int .i64 9, .slice (some ⟨b, off, none⟩) 2 c, .int .i64 0, .int .i64 0] := (Blk.new' _ _ (by simp)).alloc _
  have hR0 : Blk (((w.alloc (.cells #[.int .i64 x, .int .i64 p, .int .i64 0, .slice none 0 0] 64)).alloc (.cells #[.int .i64 9, .slice (some ⟨b, off, none⟩) 2 c, .int .i64 0, .int .i64 0] 45)).alloc (.cells #[.int .i64 0, .int .i64 0, .int .i64 0, .slice none 0 0] 64)) (w.heap.size + 1 + 1) 64 #[.int .i64 0, .int .i64 0, .int .i64 0, .slice none 0 0] := (Blk.new' _ _ (by simp))
  have hW0 : Below w.heap.size w (((w.alloc (.cells #[.int .i64 x, .int .i64 p, .int .i64 0, .slice none 0 0] 64)).alloc (.cells #[.int .i64 9, .slice (some ⟨b, off, none⟩) 2 c, .int .i64 0, .int .i64 0] 45)).alloc (.cells #[.int .i64 0, .int .i64 0, .int .i64 0, .slice none 0 0] 64)) := (((Below.refl _ _).alloc (Nat.le_refl _) _).alloc (by simp) _).alloc (by simp; omega) _
  go_enter Tryz.func25, Tryz.ntmps25
  go_wp2_with (go_at_call 67; refine (f67_any x i0 a _ _ _ _ hx h0 ha).mono ?_; rintro e w1 ⟨rfl, hb91⟩; have hA1 := hA0.below hb91; have hG1 := hG0.below hb91; have hR1 := hR0.below hb91; have hW1 := bt hW0 hb91; have cA1 := hA1.cells; have cG1 := hG1.cells; have fA1 := hA1.frozen; have fR1 := hR1.frozen; have cR1 := hR1.cells; have lA1 := hA1.lt; have lR1 := hR1.lt; have d10 := keep_cell (p := ⟨b, off, none⟩) hW1 hb hc0; have d11 := keep_cell (p := ⟨b, off + 1, none⟩) hW1 hb hc1)
  go_still_tail 5, (by kernel_rfl)
  change wpList _ _ _ _ _ w1.drew
  have hA1d := hA1.drew
  have hG1d := hG1.drew
  have hR1d := hR1.drew
  have hW1d := hW1.drew
  have cA1d : ∀ i, w1.drew.cell? ⟨w.heap.size, i, none⟩ = _ := cA1
  have cG1d : ∀ i, w1.drew.cell? ⟨w.heap.size + 1, i, none⟩ = _ := cG1
  have dd : w1.drew.cell? ⟨b, off + 1, none⟩ = _ := d11
  generalize w1.drew = w2 at *
  go_wp2_with (go_at_call 67; refine (f67_any x i1 a' _ _ _ _ hx h1 ha').mono ?_; rintro e w3 ⟨rfl, hb93⟩; have hA3 := hA1d.below hb93; have hG3 := hG1d.below hb93; have hR3 := hR1d.below hb93; have hW3 := bt hW1d hb93; have cA3 := hA3.cells; have cG3 := hG3.cells; have fA3 := hA3.frozen; have fR3 := hR3.frozen; have cR3 := hR3.cells; have lA3 := hA3.lt; have lR3 := hR3.lt; have d30 := keep_cell (p := ⟨b, off, none⟩) hW3 hb hc0; have d31 := keep_cell (p := ⟨b, off + 1, none⟩) hW3 hb hc1; clear cA1 cG1 fA1 fR1 cR1 lA1 lR1 cA1d cG1d d10 d11)
  go_still_tail 10, (by kernel_rfl)
  change wpList _ _ _ _ _ w3.drew
  go_wp2
  have eX : bits BinOp.xor IntKind.i64 (x : Int) (wrap64 ((a : Int) * 2 ^ i1)) = ((x ^^^ a * 2 ^ i1 : Nat) : Int) := by rw [w64m a i1 (by omega) h1]; exact i64_xor x _ (by omega) (w64b a i1 (by omega) h1)
  have eP : (p : Int) % 8 = ((p % 8 : Nat) : Int) := by
    omega
  have hF := ((((((hR3.far (p := ⟨w.heap.size, 0, none⟩) (by first | (simp; done) | (simp; omega)) (.int .i64 (bits BinOp.xor IntKind.i64 (x : Int) (wrap64 ((a : Int) * 2 ^ i1))))).far (p := ⟨w.heap.size, 1, none⟩) (by first | (simp; done) | (simp; omega)) (.int .i64 ((p : Int) % 8))).set 0 (.int .i64 (bits BinOp.xor IntKind.i64 (x : Int) (wrap64 ((a : Int) * 2 ^ i1))))).set 1 (.int .i64 ((p : Int) % 8))).set 2 (.int .i64 0)).set 3 (.slice none 0 0)).drew
  have cF := hF.cells
  refine bodyPost_ret (v := .agg #[.int .i64 (bits BinOp.xor IntKind.i64 (x : Int) (wrap64 ((a : Int) * 2 ^ i1))), .int .i64 ((p : Int) % 8), .int .i64 0, .slice none 0 0]) (by first | (simp [results, Tryz.results25, go_sem, cF]; done) | simp [results, Tryz.results25, go_sem, World.drew]) rfl ⟨?_, ((((((hW3.setCell (p := ⟨w.heap.size, 0, none⟩) (by first | (simp; done) | (simp; omega)) (.int .i64 (bits BinOp.xor IntKind.i64 (x : Int) (wrap64 ((a : Int) * 2 ^ i1))))).setCell (p := ⟨w.heap.size, 1, none⟩) (by first | (simp; done) | (simp; omega)) (.int .i64 ((p : Int) % 8))).setCell (p := ⟨w.heap.size + 1 + 1, 0, none⟩) (by first | (simp; done) | (simp; omega)) (.int .i64 (bits BinOp.xor IntKind.i64 (x : Int) (wrap64 ((a : Int) * 2 ^ i1))))).setCell (p := ⟨w.heap.size + 1 + 1, 1, none⟩) (by first | (simp; done) | (simp; omega)) (.int .i64 ((p : Int) % 8))).setCell (p := ⟨w.heap.size + 1 + 1, 2, none⟩) (by first | (simp; done) | (simp; omega)) (.int .i64 0)).setCell (p := ⟨w.heap.size + 1 + 1, 3, none⟩) (by first | (simp; done) | (simp; omega)) (.slice none 0 0)).drew⟩
  simp only [doneX, doneP, ha, ha', eP, eX]
set_option maxHeartbeats 4000000 in
set_option maxRecDepth 100000 in
theorem f25_10 (b off c i0 i1 x p : Nat) (w : World) (hx : x < 64) (hp : p < 8) (h0 : i0 < 6) (h1 : i1 < 6) (hb : b < w.heap.size) (hc0 : w.cell? ⟨b, off, none⟩ = some (.int .i64 i0)) (hc1 : w.cell? ⟨b, off + 1, none⟩ = some (.int .i64 i1)) :
    Calls Tryz.prog 25 #[.agg (wkC x p), .agg #[.int .i64 10, .slice (some ⟨b, off, none⟩) 2 c, .int .i64 0, .int .i64 0]] w fun e w' => e = .returned (.agg (wkC (doneX 10 i0 i1 0 x) (doneP 10 i0 i1 x p % 8))) ∧ Below w.heap.size w w' := by
  obtain ⟨a, ha⟩ : ∃ a, x / 2 ^ i0 % 2 = a := ⟨_, rfl⟩
  have ha2 : a < 2 := by omega
  obtain ⟨a', ha'⟩ : ∃ a, x / 2 ^ i1 % 2 = a := ⟨_, rfl⟩
  have ha2' : a' < 2 := by omega
  have hb1 : b < w.heap.size + 1 := by omega
  have hb2 : b < w.heap.size + 1 + 1 := by omega
  have hb3 : b < w.heap.size + 1 + 1 + 1 := by omega
  unfold wkC
  have hA0 : Blk (((w.alloc (.cells #[.int .i64 x, .int .i64 p, .int .i64 0, .slice none 0 0] 64)).alloc (.cells #[.int .i64 10, .slice (some ⟨b, off, none⟩) 2 c, .int .i64 0, .int .i64 0] 45)).alloc (.cells #[.int .i64 0, .int .i64 0, .int .i64 0, .slice none 0 0] 64)) w.heap.size 64 #[.int .i64 x, .int .i64 p, .int .i64 0, .slice none 0 0] := ((Blk.new' _ _ (by simp)).alloc _).alloc _
  have hG0 : Blk (((w.alloc (.cells #[.int .i64 x, .int .i64 p, .int .i64 0, .slice none 0 0] 64)).alloc (.cells #[.int .i64 10, .slice (some ⟨b, off, none⟩) 2 c, .int .i64 0, .int .i64 0] 45)).alloc (.cells #[.int .i64 0, .int .i64 0, .int .i64 0, .slice none 0 0] 64)) (w.heap.size + 1) 45 #[.int .i64 10, .slice (some ⟨b, off, none⟩) 2 c, .int .i64 0, .int .i64 0] := (Blk.new' _ _ (by simp)).alloc _
  have hR0 : Blk (((w.alloc (.cells #[.int .i64 x, .int .i64 p, .int .i64 0, .slice none 0 0] 64)).alloc (.cells #[.int .i64 10, .slice (some ⟨b, off, none⟩) 2 c, .int .i64 0, .int .i64 0] 45)).alloc (.cells #[.int .i64 0, .int .i64 0, .int .i64 0, .slice none 0 0] 64)) (w.heap.size + 1 + 1) 64 #[.int .i64 0, .int .i64 0, .int .i64 0, .slice none 0 0] := (Blk.new' _ _ (by simp))
  have hW0 : Below w.heap.size w (((w.alloc (.cells #[.int .i64 x, .int .i64 p, .int .i64 0, .slice none 0 0] 64)).alloc (.cells #[.int .i64 10, .slice (some ⟨b, off, none⟩) 2 c, .int .i64 0, .int .i64 0] 45)).alloc (.cells #[.int .i64 0, .int .i64 0, .int .i64 0, .slice none 0 0] 64)) := (((Below.refl _ _).alloc (Nat.le_refl _) _).alloc (by simp) _).alloc (by simp; omega) _
  go_enter Tryz.func25, Tryz.ntmps25
  go_wp2_with (go_at_call 67; refine (f67_any x i0 a _ _ _ _ hx h0 ha).mono ?_; rintro e w1 ⟨rfl, hb91⟩; have hA1 := hA0.below hb91; have hG1 := hG0.below hb91; have hR1 := hR0.below hb91; have hW1 := bt hW0 hb91; have cA1 := hA1.cells; have cG1 := hG1.cells; have fA1 := hA1.frozen; have fR1 := hR1.frozen; have cR1 := hR1.cells; have lA1 := hA1.lt; have lR1 := hR1.lt; have d10 := keep_cell (p := ⟨b, off, none⟩) hW1 hb hc0; have d11 := keep_cell (p := ⟨b, off + 1, none⟩) hW1 hb hc1)
  go_still_tail 5, (by kernel_rfl)
  change wpList _ _ _ _ _ w1.drew
  have hA1d := hA1.drew
  have hG1d := hG1.drew
  have hR1d := hR1.drew
  have hW1d := hW1.drew
  have cA1d : ∀ i, w1.drew.cell? ⟨w.heap.size, i, none⟩ = _ := cA1
  have cG1d : ∀ i, w1.drew.cell? ⟨w.heap.size + 1, i, none⟩ = _ := cG1
  have dd : w1.drew.cell? ⟨b, off + 1, none⟩ = _ := d11
  generalize w1.drew = w2 at *
  go_wp2_with (go_at_call 67; refine (f67_any x i1 a' _ _ _ _ hx h1 ha').mono ?_; rintro e w3 ⟨rfl, hb93⟩; have hA3 := hA1d.below hb93; have hG3 := hG1d.below hb93; have hR3 := hR1d.below hb93; have hW3 := bt hW1d hb93; have cA3 := hA3.cells; have cG3 := hG3.cells; have fA3 := hA3.frozen; have fR3 := hR3.frozen; have cR3 := hR3.cells; have lA3 := hA3.lt; have lR3 := hR3.lt; have d30 := keep_cell (p := ⟨b, off, none⟩) hW3 hb hc0; have d31 := keep_cell (p := ⟨b, off + 1, none⟩) hW3 hb hc1; clear cA1 cG1 fA1 fR1 cR1 lA1 lR1 cA1d cG1d d10 d11)
  have eP : (wrap64 ((p : Int) + wrap64 (4 * (a : Int) * (a' : Int)))).tmod 8 = (((p + 4 * a * a') % 8 : Nat) : Int) := by
    have e1 : (4 * (a : Int) * (a' : Int)) = ((4 * a * a' : Nat) : Int) := by simp
    have h4 : 4 * a * a' < 8 := by have := aa2 ha2 ha2'; rw [Nat.mul_assoc]; omega
    rw [e1, w64n _ (by omega), show ((p : Int) + ((4 * a * a' : Nat) : Int)) = ((p + 4 * a * a' : Nat) : Int) from by simp, w64n _ (by omega)]
    rfl
  have hF := ((((((hR3.far (p := ⟨w.heap.size, 1, none⟩) (by first | (simp; done) | (simp; omega)) (.int .i64 (wrap64 ((p : Int) + wrap64 (4 * (a : Int) * (a' : Int)))))).far (p := ⟨w.heap.size, 1, none⟩) (by first | (simp; done) | (simp; omega)) (.int .i64 ((wrap64 ((p : Int) + wrap64 (4 * (a : Int) * (a' : Int)))).tmod 8))).set 0 (.int .i64 ((x : Int)))).set 1 (.int .i64 ((wrap64 ((p : Int) + wrap64 (4 * (a : Int) * (a' : Int)))).tmod 8))).set 2 (.int .i64 0)).set 3 (.slice none 0 0))
  have cF := hF.cells
  refine bodyPost_ret (v := .agg #[.int .i64 ((x : Int)), .int .i64 ((wrap64 ((p : Int) + wrap64 (4 * (a : Int) * (a' : Int)))).tmod 8), .int .i64 0, .slice none 0 0]) (by first | (simp [results, Tryz.results25, go_sem, cF]; done) | simp [results, Tryz.results25, go_sem, World.drew]) rfl ⟨?_, ((((((hW3.setCell (p := ⟨w.heap.size, 1, none⟩) (by first | (simp; done) | (simp; omega)) (.int .i64 (wrap64 ((p : Int) + wrap64 (4 * (a : Int) * (a' : Int)))))).setCell (p := ⟨w.heap.size, 1, none⟩) (by first | (simp; done) | (simp; omega)) (.int .i64 ((wrap64 ((p : Int) + wrap64 (4 * (a : Int) * (a' : Int)))).tmod 8))).setCell (p := ⟨w.heap.size + 1 + 1, 0, none⟩) (by first | (simp; done) | (simp; omega)) (.int .i64 ((x : Int)))).setCell (p := ⟨w.heap.size + 1 + 1, 1, none⟩) (by first | (simp; done) | (simp; omega)) (.int .i64 ((wrap64 ((p : Int) + wrap64 (4 * (a : Int) * (a' : Int)))).tmod 8))).setCell (p := ⟨w.heap.size + 1 + 1, 2, none⟩) (by first | (simp; done) | (simp; omega)) (.int .i64 0)).setCell (p := ⟨w.heap.size + 1 + 1, 3, none⟩) (by first | (simp; done) | (simp; omega)) (.slice none 0 0))⟩
  simp only [doneX, doneP, ha, ha', eP]
set_option maxHeartbeats 4000000 in
set_option maxRecDepth 100000 in
theorem f25_11 (b off c i0 i1 x p : Nat) (w : World) (hx : x < 64) (hp : p < 8) (h0 : i0 < 6) (h1 : i1 < 6) (hb : b < w.heap.size) (hc0 : w.cell? ⟨b, off, none⟩ = some (.int .i64 i0)) (hc1 : w.cell? ⟨b, off + 1, none⟩ = some (.int .i64 i1)) :
    Calls Tryz.prog 25 #[.agg (wkC x p), .agg #[.int .i64 11, .slice (some ⟨b, off, none⟩) 2 c, .int .i64 0, .int .i64 0]] w fun e w' => e = .returned (.agg (wkC (doneX 11 i0 i1 0 x) (doneP 11 i0 i1 x p % 8))) ∧ Below w.heap.size w w' := by
  obtain ⟨a, ha⟩ : ∃ a, x / 2 ^ i0 % 2 = a := ⟨_, rfl⟩
  have ha2 : a < 2 := by omega
  obtain ⟨a', ha'⟩ : ∃ a, x / 2 ^ i1 % 2 = a := ⟨_, rfl⟩
  have ha2' : a' < 2 := by omega
  have hb1 : b < w.heap.size + 1 := by omega
  have hb2 : b < w.heap.size + 1 + 1 := by omega
  have hb3 : b < w.heap.size + 1 + 1 + 1 := by omega
  unfold wkC
  have hA0 : Blk (((w.alloc (.cells #[.int .i64 x, .int .i64 p, .int .i64 0, .slice none 0 0] 64)).alloc (.cells #[.int .i64 11, .slice (some ⟨b, off, none⟩) 2 c, .int .i64 0, .int .i64 0] 45)).alloc (.cells #[.int .i64 0, .int .i64 0, .int .i64 0, .slice none 0 0] 64)) w.heap.size 64 #[.int .i64 x, .int .i64 p, .int .i64 0, .slice none 0 0] := ((Blk.new' _ _ (by simp)).alloc _).alloc _
  have hG0 : Blk (((w.alloc (.cells #[.int .i64 x, .int .i64 p, .int .i64 0, .slice none 0 0] 64)).alloc (.cells #[.int .i64 11, .slice (some ⟨b, off, none⟩) 2 c, .int .i64 0, .int .i64 0] 45)).alloc (.cells #[.int .i64 0, .int .i64 0, .int .i64 0, .slice none 0 0] 64)) (w.heap.size + 1) 45 #[.int .i64 11, .slice (some ⟨b, off, none⟩) 2 c, .int .i64 0, .int .i64 0] := (Blk.new' _ _ (by simp)).alloc _
  have hR0 : Blk (((w.alloc (.cells #[.int .i64 x, .int .i64 p, .int .i64 0, .slice none 0 0] 64)).alloc (.cells #[.int .i64 11, .slice (some ⟨b, off, none⟩) 2 c, .int .i64 0, .int .i64 0] 45)).alloc (.cells #[.int .i64 0, .int .i64 0, .int .i64 0, .slice none 0 0] 64)) (w.heap.size + 1 + 1) 64 #[.int .i64 0, .int .i64 0, .int .i64 0, .slice none 0 0] := (Blk.new' _ _ (by simp))
  have hW0 : Below w.heap.size w (((w.alloc (.cells #[.int .i64 x, .int .i64 p, .int .i64 0, .slice none 0 0] 64)).alloc (.cells #[.int .i64 11, .slice (some ⟨b, off, none⟩) 2 c, .int .i64 0, .int .i64 0] 45)).alloc (.cells #[.int .i64 0, .int .i64 0, .int .i64 0, .slice none 0 0] 64)) := (((Below.refl _ _).alloc (Nat.le_refl _) _).alloc (by simp) _).alloc (by simp; omega) _
  go_enter Tryz.func25, Tryz.ntmps25
  go_wp2_with (go_at_call 67; refine (f67_any x i0 a _ _ _ _ hx h0 ha).mono ?_; rintro e w1 ⟨rfl, hb91⟩; have hA1 := hA0.below hb91; have hG1 := hG0.below hb91; have hR1 := hR0.below hb91; have hW1 := bt hW0 hb91; have cA1 := hA1.cells; have cG1 := hG1.cells; have fA1 := hA1.frozen; have fR1 := hR1.frozen; have cR1 := hR1.cells; have lA1 := hA1.lt; have lR1 := hR1.lt; have d10 := keep_cell (p := ⟨b, off, none⟩) hW1 hb hc0; have d11 := keep_cell (p := ⟨b, off + 1, none⟩) hW1 hb hc1)
  go_still_tail 5, (by kernel_rfl)
  change wpList _ _ _ _ _ w1.drew
  have hA1d := hA1.drew
  have hG1d := hG1.drew
  have hR1d := hR1.drew
  have hW1d := hW1.drew
  have cA1d : ∀ i, w1.drew.cell? ⟨w.heap.size, i, none⟩ = _ := cA1
  have cG1d : ∀ i, w1.drew.cell? ⟨w.heap.size + 1, i, none⟩ = _ := cG1
  have dd : w1.drew.cell? ⟨b, off + 1, none⟩ = _ := d11
  generalize w1.drew = w2 at *
  go_wp2_with (go_at_call 67; refine (f67_any x i1 a' _ _ _ _ hx h1 ha').mono ?_; rintro e w3 ⟨rfl, hb93⟩; have hA3 := hA1d.below hb93; have hG3 := hG1d.below hb93; have hR3 := hR1d.below hb93; have hW3 := bt hW1d hb93; have cA3 := hA3.cells; have cG3 := hG3.cells; have fA3 := hA3.frozen; have fR3 := hR3.frozen; have cR3 := hR3.cells; have lA3 := hA3.lt; have lR3 := hR3.lt; have d30 := keep_cell (p := ⟨b, off, none⟩) hW3 hb hc0; have d31 := keep_cell (p := ⟨b, off + 1, none⟩) hW3 hb hc1; clear cA1 cG1 fA1 fR1 cR1 lA1 lR1 cA1d cG1d d10 d11)
  go_still_tail 18, (by kernel_rfl)
  change wpList _ _ _ _ _ w3.drew
  go_wp2
  have hxx : a ^^^ a' < 2 := Nat.xor_lt_two_pow (n := 1) (by omega) (by omega)
  have eX : bits BinOp.xor IntKind.i64 (x : Int) (bits BinOp.or IntKind.i64 (wrap64 (bits BinOp.xor IntKind.i64 (a : Int) (a' : Int) * 2 ^ i0)) (wrap64 (bits BinOp.xor IntKind.i64 (a : Int) (a' : Int) * 2 ^ i1))) = ((x ^^^ (((a ^^^ a') * 2 ^ i0) ||| ((a ^^^ a') * 2 ^ i1)) : Nat) : Int) := by rw [i64_xor a a' (by omega) (by omega), w64m (a ^^^ a') i0 hxx h0, w64m (a ^^^ a') i1 hxx h1, i64_or _ _ (w64b _ _ hxx h0) (w64b _ _ hxx h1)]; exact i64_xor x _ (by omega) (or62 _ _ (w64b _ _ hxx h0) (w64b _ _ hxx h1))
  have eP : (p : Int) % 8 = ((p % 8 : Nat) : Int) := by
    omega
  have hF := ((((((hR3.far (p := ⟨w.heap.size, 0, none⟩) (by first | (simp; done) | (simp; omega)) (.int .i64 (bits BinOp.xor IntKind.i64 (x : Int) (bits BinOp.or IntKind.i64 (wrap64 (bits BinOp.xor IntKind.i64 (a : Int) (a' : Int) * 2 ^ i0)) (wrap64 (bits BinOp.xor IntKind.i64 (a : Int) (a' : Int) * 2 ^ i1)))))).far (p := ⟨w.heap.size, 1, none⟩) (by first | (simp; done) | (simp; omega)) (.int .i64 ((p : Int) % 8))).set 0 (.int .i64 (bits BinOp.xor IntKind.i64 (x : Int) (bits BinOp.or IntKind.i64 (wrap64 (bits BinOp.xor IntKind.i64 (a : Int) (a' : Int) * 2 ^ i0)) (wrap64 (bits BinOp.xor IntKind.i64 (a : Int) (a' : Int) * 2 ^ i1)))))).set 1 (.int .i64 ((p : Int) % 8))).set 2 (.int .i64 0)).set 3 (.slice none 0 0)).drew
  have cF := hF.cells
  refine bodyPost_ret (v := .agg #[.int .i64 (bits BinOp.xor IntKind.i64 (x : Int) (bits BinOp.or IntKind.i64 (wrap64 (bits BinOp.xor IntKind.i64 (a : Int) (a' : Int) * 2 ^ i0)) (wrap64 (bits BinOp.xor IntKind.i64 (a : Int) (a' : Int) * 2 ^ i1)))), .int .i64 ((p : Int) % 8), .int .i64 0, .slice none 0 0]) (by first | (simp [results, Tryz.results25, go_sem, cF]; done) | simp [results, Tryz.results25, go_sem, World.drew]) rfl ⟨?_, ((((((hW3.setCell (p := ⟨w.heap.size, 0, none⟩) (by first | (simp; done) | (simp; omega)) (.int .i64 (bits BinOp.xor IntKind.i64 (x : Int) (bits BinOp.or IntKind.i64 (wrap64 (bits BinOp.xor IntKind.i64 (a : Int) (a' : Int) * 2 ^ i0)) (wrap64 (bits BinOp.xor IntKind.i64 (a : Int) (a' : Int) * 2 ^ i1)))))).setCell (p := ⟨w.heap.size, 1, none⟩) (by first | (simp; done) | (simp; omega)) (.int .i64 ((p : Int) % 8))).setCell (p := ⟨w.heap.size + 1 + 1, 0, none⟩) (by first | (simp; done) | (simp; omega)) (.int .i64 (bits BinOp.xor IntKind.i64 (x : Int) (bits BinOp.or IntKind.i64 (wrap64 (bits BinOp.xor IntKind.i64 (a : Int) (a' : Int) * 2 ^ i0)) (wrap64 (bits BinOp.xor IntKind.i64 (a : Int) (a' : Int) * 2 ^ i1)))))).setCell (p := ⟨w.heap.size + 1 + 1, 1, none⟩) (by first | (simp; done) | (simp; omega)) (.int .i64 ((p : Int) % 8))).setCell (p := ⟨w.heap.size + 1 + 1, 2, none⟩) (by first | (simp; done) | (simp; omega)) (.int .i64 0)).setCell (p := ⟨w.heap.size + 1 + 1, 3, none⟩) (by first | (simp; done) | (simp; omega)) (.slice none 0 0)).drew⟩
  simp only [doneX, doneP, ha, ha', eP, eX]
set_option maxHeartbeats 4000000 in
set_option maxRecDepth 100000 in
theorem f25_12 (b off c i0 i1 i2 x p : Nat) (w : World) (hx : x < 64) (hp : p < 8) (h0 : i0 < 6) (h1 : i1 < 6) (h2 : i2 < 6) (hb : b < w.heap.size) (hc0 : w.cell? ⟨b, off, none⟩ = some (.int .i64 i0)) (hc1 : w.cell? ⟨b, off + 1, none⟩ = some (.int .i64 i1)) (hc2 : w.cell? ⟨b, off + 2, none⟩ = some (.int .i64 i2)) :
    Calls Tryz.prog 25 #[.agg (wkC x p), .agg #[.int .i64 12, .slice (some ⟨b, off, none⟩) 3 c, .int .i64 0, .int .i64 0]] w fun e w' => e = .returned (.agg (wkC (doneX 12 i0 i1 i2 x) (doneP 12 i0 i1 x p % 8))) ∧ Below w.heap.size w w' := by
  obtain ⟨a, ha⟩ : ∃ a, x / 2 ^ i0 % 2 = a := ⟨_, rfl⟩
  have ha2 : a < 2 := by omega
  obtain ⟨a', ha'⟩ : ∃ a, x / 2 ^ i1 % 2 = a := ⟨_, rfl⟩
  have ha2' : a' < 2 := by omega
  have hb1 : b < w.heap.size + 1 := by omega
  have hb2 : b < w.heap.size + 1 + 1 := by omega
  have hb3 : b < w.heap.size + 1 + 1 + 1 := by omega
  unfold wkC
  have hA0 : Blk (((w.alloc (.cells #[.int .i64 x, .int .i64 p, .int .i64 0, .slice none 0 0] 64)).alloc (.cells #[.int .i64 12, .slice (some ⟨b, off, none⟩) 3 c, .int .i64 0, .int .i64 0] 45)).alloc (.cells #[.int .i64 0, .int .i64 0, .int .i64 0, .slice none 0 0] 64)) w.heap.size 64 #[.int .i64 x, .int .i64 p, .int .i64 0, .slice none 0 0] := ((Blk.new' _ _ (by simp)).alloc _).alloc _
  have hG0 : Blk (((w.alloc (.cells #[.int .i64 x, .int .i64 p, .int .i64 0, .slice none 0 0] 64)).alloc (.cells #[.int .i64 12, .slice (some ⟨b, off, none⟩) 3 c, .int .i64 0, .int .i64 0] 45)).alloc (.cells #[.int .i64 0, .int .i64 0, .int .i64 0, .slice none 0 0] 64)) (w.heap.size + 1) 45 #[.int .i64 12, .slice (some ⟨b, off, none⟩) 3 c, .int .i64 0, .int .i64 0] := (Blk.new' _ _ (by simp)).alloc _
  have hR0 : Blk (((w.alloc (.cells #[.int .i64 x, .int .i64 p, .int .i64 0, .slice none 0 0] 64)).alloc (.cells #[.int .i64 12, .slice (some ⟨b, off, none⟩) 3 c, .int .i64 0, .int .i64 0] 45)).alloc (.cells #[.int .i64 0, .int .i64 0, .int .i64 0, .slice none 0 0] 64)) (w.heap.size + 1 + 1) 64 #[.int .i64 0, .int .i64 0, .int .i64 0, .slice none 0 0] := (Blk.new' _ _ (by simp))
  have hW0 : Below w.heap.size w (((w.alloc (.cells #[.int .i64 x, .int .i64 p, .int .i64 0, .slice none 0 0] 64)).alloc (.cells #[.int .i64 12, .slice (some ⟨b, off, none⟩) 3 c, .int .i64 0, .int .i64 0] 45)).alloc (.cells #[.int .i64 0, .int .i64 0, .int .i64 0, .slice none 0 0] 64)) := (((Below.refl _ _).alloc (Nat.le_refl _) _).alloc (by simp) _).alloc (by simp; omega) _
  go_enter Tryz.func25, Tryz.ntmps25
  go_wp2_with (go_at_call 67; refine (f67_any x i0 a _ _ _ _ hx h0 ha).mono ?_; rintro e w1 ⟨rfl, hb91⟩; have hA1 := hA0.below hb91; have hG1 := hG0.below hb91; have hR1 := hR0.below hb91; have hW1 := bt hW0 hb91; have cA1 := hA1.cells; have cG1 := hG1.cells; have fA1 := hA1.frozen; have fR1 := hR1.frozen; have cR1 := hR1.cells; have lA1 := hA1.lt; have lR1 := hR1.lt; have d10 := keep_cell (p := ⟨b, off, none⟩) hW1 hb hc0; have d11 := keep_cell (p := ⟨b, off + 1, none⟩) hW1 hb hc1; have d12 := keep_cell (p := ⟨b, off + 2, none⟩) hW1 hb hc2)
  go_still_tail 5, (by kernel_rfl)
  change wpList _ _ _ _ _ w1.drew
  have hA1d := hA1.drew
  have hG1d := hG1.drew
  have hR1d := hR1.drew
  have hW1d := hW1.drew
  have cA1d : ∀ i, w1.drew.cell? ⟨w.heap.size, i, none⟩ = _ := cA1
  have cG1d : ∀ i, w1.drew.cell? ⟨w.heap.size + 1, i, none⟩ = _ := cG1
  have dd : w1.drew.cell? ⟨b, off + 1, none⟩ = _ := d11
  generalize w1.drew = w2 at *
  go_wp2_with (go_at_call 67; refine (f67_any x i1 a' _ _ _ _ hx h1 ha').mono ?_; rintro e w3 ⟨rfl, hb93⟩; have hA3 := hA1d.below hb93; have hG3 := hG1d.below hb93; have hR3 := hR1d.below hb93; have hW3 := bt hW1d hb93; have cA3 := hA3.cells; have cG3 := hG3.cells; have fA3 := hA3.frozen; have fR3 := hR3.frozen; have cR3 := hR3.cells; have lA3 := hA3.lt; have lR3 := hR3.lt; have d30 := keep_cell (p := ⟨b, off, none⟩) hW3 hb hc0; have d31 := keep_cell (p := ⟨b, off + 1, none⟩) hW3 hb hc1; have d32 := keep_cell (p := ⟨b, off + 2, none⟩) hW3 hb hc2; clear cA1 cG1 fA1 fR1 cR1 lA1 lR1 cA1d cG1d d10 d11 d12)
  go_still_tail 12, (by kernel_rfl)
  change wpList _ _ _ _ _ w3.drew
  go_wp2
  have eX : bits BinOp.xor IntKind.i64 (x : Int) (wrap64 (wrap64 ((a : Int) * (a' : Int)) * 2 ^ i2)) = ((x ^^^ a * a' * 2 ^ i2 : Nat) : Int) := by rw [w64a a a' (by omega) (by omega), w64m (a * a') i2 (aa2 ha2 ha2') h2]; exact i64_xor x _ (by omega) (w64b _ _ (aa2 ha2 ha2') h2)
  have eP : (p : Int) % 8 = ((p % 8 : Nat) : Int) := by
    omega
  have hF := ((((((hR3.far (p := ⟨w.heap.size, 0, none⟩) (by first | (simp; done) | (simp; omega)) (.int .i64 (bits BinOp.xor IntKind.i64 (x : Int) (wrap64 (wrap64 ((a : Int) * (a' : Int)) * 2 ^ i2))))).far (p := ⟨w.heap.size, 1, none⟩) (by first | (simp; done) | (simp; omega)) (.int .i64 ((p : Int) % 8))).set 0 (.int .i64 (bits BinOp.xor IntKind.i64 (x : Int) (wrap64 (wrap64 ((a : Int) * (a' : Int)) * 2 ^ i2))))).set 1 (.int .i64 ((p : Int) % 8))).set 2 (.int .i64 0)).set 3 (.slice none 0 0)).drew
  have cF := hF.cells
  refine bodyPost_ret (v := .agg #[.int .i64 (bits BinOp.xor IntKind.i64 (x : Int) (wrap64 (wrap64 ((a : Int) * (a' : Int)) * 2 ^ i2))), .int .i64 ((p : Int) % 8), .int .i64 0, .slice none 0 0]) (by first | (simp [results, Tryz.results25, go_sem, cF]; done) | simp [results, Tryz.results25, go_sem, World.drew]) rfl ⟨?_, ((((((hW3.setCell (p := ⟨w.heap.size, 0, none⟩) (by first | (simp; done) | (simp; omega)) (.int .i64 (bits BinOp.xor IntKind.i64 (x : Int) (wrap64 (wrap64 ((a : Int) * (a' : Int)) * 2 ^ i2))))).setCell (p := ⟨w.heap.size, 1, none⟩) (by first | (simp; done) | (simp; omega)) (.int .i64 ((p : Int) % 8))).setCell (p := ⟨w.heap.size + 1 + 1, 0, none⟩) (by first | (simp; done) | (simp; omega)) (.int .i64 (bits BinOp.xor IntKind.i64 (x : Int) (wrap64 (wrap64 ((a : Int) * (a' : Int)) * 2 ^ i2))))).setCell (p := ⟨w.heap.size + 1 + 1, 1, none⟩) (by first | (simp; done) | (simp; omega)) (.int .i64 ((p : Int) % 8))).setCell (p := ⟨w.heap.size + 1 + 1, 2, none⟩) (by first | (simp; done) | (simp; omega)) (.int .i64 0)).setCell (p := ⟨w.heap.size + 1 + 1, 3, none⟩) (by first | (simp; done) | (simp; omega)) (.slice none 0 0)).drew⟩
  simp only [doneX, doneP, ha, ha', eP, eX]
end Go.Proofs.YtdfgmmjcamhdjaaGreatDoor
