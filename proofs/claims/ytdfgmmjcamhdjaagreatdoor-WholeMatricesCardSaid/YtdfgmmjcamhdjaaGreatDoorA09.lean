/- Steps to WholeMatrices' card; what each asks stands in it. -/
import Derived.Laws.MakeOwn
import Derived.OwnWalk
import Derived.Test.YtdfgmmjcamhdjaaGreatDoorA06
set_option linter.unusedVariables false
set_option linter.unusedSimpArgs false
namespace Go.Proofs.YtdfgmmjcamhdjaaGreatDoor
open Go.RowKit
attribute [local go_sem ↓] Go.wp_at_zero Go.wp_at_succ
set_option maxHeartbeats 1000000 in
set_option maxRecDepth 100000 in
theorem f53_any (b m : Nat) (As : Nat → Option Addr) (hs ns cs : Nat → Nat) (Ms : Nat → Nat → Nat → Num) (w : World) (hm : m ≤ 10) (hlb : b < w.heap.size)
    (hc : ∀ i, i < m → w.cell? ⟨b, i, none⟩ = some (.slice (As i) (hs i) (cs i)) ∧ Mat w (As i) (hs i) (ns i) (Ms i) ∧ ∀ j k, j < hs i → k < ns i → (Ms i j k).ok) :
    Calls Tryz.prog 53 #[.slice (some ⟨b, 0, none⟩) m m] w fun e w' => e = .returned (.int .i64 0) ∧ Below w.heap.size w w' := by
  go_enter Tryz.func53, Tryz.ntmps53
  go_wp2
  go_loopg [8] m (fun gg s8 wr => ∃ kk : Nat, kk ≤ m ∧ m - kk ≤ gg ∧ s8 = .int .i64 kk ∧ Aside (Below w.heap.size w wr))
  case atStart => exact ⟨0, Nat.zero_le _, by omega, rfl, Below.refl _ w⟩
  case round =>
    obtain ⟨kk, hkk, hg, rfl, BW⟩ := hrel
    by_cases hlt : kk < m
    · have hltz : (kk : Int) < (m : Int) := by omega
      obtain ⟨hcell, hM, hok⟩ := hc kk hlt
      have hcell' := keep_cell (p := ⟨b, kk, none⟩) BW.out hlb hcell
      have hcall := f39_mat (cs kk) (hM.below BW.out) hok
      clear hc hok hcell
      go_wp2_with (go_at_call 39; refine hcall.mono ?_; rintro e w' ⟨rfl, hb'⟩)
      go_roundg (m - (kk + 1))
      case measure => omega
      case rel => exact ⟨kk + 1, by omega, by omega, by go_num, (show Aside _ from bt BW.out hb')⟩
    · have hltz : ¬ (kk : Int) < (m : Int) := by omega
      clear hlt
      go_wp2
      go_ret
      exact ⟨rfl, BW.out⟩
def zrow (n : Nat) : Array Value := Array.replicate (n * 5) (.int .i64 0)
theorem madeCells_const (z : Array Value) (v : Value) (n : Nat) (hz : 0 < z.size) (h : ∀ i, i < z.size → z[i]! = v) : madeCells z n = Array.replicate n v := by
  apply Array.ext
  · simp [madeCells]
  · intro i h1 h2
    simp only [madeCells, Array.getElem_map, Array.getElem_replicate]
    exact h _ (Nat.mod_lt _ hz)
theorem info38 : (Tryz.prog.info? 38).map (fun i => (i.zero, i.size, i.bytes)) = some (some (.agg #[.int .i64 0, .int .i64 0, .int .i64 0, .int .i64 0, .int .i64 0]), 5, 40) := by kernel_rfl
theorem info72 : (Tryz.prog.info? 72).map (fun i => (i.zero, i.size, i.bytes)) = some (some (.slice none 0 0), 1, 24) := by kernel_rfl
theorem und72 : Tryz.prog.underlying 72 = some (.slice 38) := by kernel_rfl
theorem und88 : Tryz.prog.underlying 88 = some (.slice 72) := by kernel_rfl
theorem und31 : Tryz.prog.underlying 31 = some (.slice 72) := by kernel_rfl
theorem mk72 (n : Nat) (w : World) (hn : n ≤ 1000000) : (Instr.makeSlice 72 (.int .i64 n) (.int .i64 n)).run Tryz.prog w = .ok (.slice (some ⟨w.heap.size, 0, none⟩) n n) (w.alloc (.cells (zrow n) 38)) := by
  obtain ⟨i0, hi, hz0, hz1, hz2⟩ := info_parts info38
  rw [run_make w 72 38 i0 _ und72 hi hz0 .i64 .i64 n n (by omega) (Int.le_refl _) (by rw [hz2]; omega) (by omega), hz1]
  rw [madeCells_const _ (.int .i64 0) _ (by simp [Value.cells]) (by intro i hi; simp [Value.cells] at hi; rcases i with _ | _ | _ | _ | _ | i <;> first | rfl | omega)]
  rfl
theorem mkRows {T : TypeId} (hT : Tryz.prog.underlying T = some (.slice 72)) (n : Nat) (w : World) (hn : n ≤ 1000000) : (Instr.makeSlice T (.int .i64 n) (.int .i64 n)).run Tryz.prog w = .ok (.slice (some ⟨w.heap.size, 0, none⟩) n n) (w.alloc (.cells (Array.replicate n (.slice none 0 0)) 72)) := by
  obtain ⟨i0, hi, hz0, hz1, hz2⟩ := info_parts info72
  rw [run_make w T 72 i0 _ hT hi hz0 .i64 .i64 n n (by omega) (Int.le_refl _) (by rw [hz2]; omega) (by omega), hz1]
  rw [madeCells_const _ (.slice none 0 0) _ (by simp [Value.cells]) (by intro i hi; simp [Value.cells] at hi; subst hi; rfl)]
  simp
def rowHead (B n i : Nat) : Value := .slice (some ⟨B + 1 + i, 0, none⟩) n n
/-- the heads of rows, of which k are made -/
def rowHeads (B n h k : Nat) : Array Value := Array.ofFn fun i : Fin h => if i.1 < k then rowHead B n i else .slice none 0 0
theorem rowHeads_at {B n h k i : Nat} (hi : i < h) : (rowHeads B n h k)[i]? = some (if i < k then rowHead B n i else .slice none 0 0) := by simp [rowHeads, hi]
theorem rowHeads_zero {B n h : Nat} : rowHeads B n h 0 = Array.replicate h (.slice none 0 0) := by
  apply Array.ext
  · simp [rowHeads]
  · intro i h1 h2
    simp [rowHeads]
theorem rowHeads_set {B n h k : Nat} (hk : k < h) : (rowHeads B n h k).setIfInBounds k (rowHead B n k) = rowHeads B n h (k + 1) := by
  apply Array.ext
  · simp [rowHeads]
  · intro i h1 h2
    rw [Array.getElem_setIfInBounds]
    · by_cases e : k = i
      · subst e; simp [rowHeads]
      · have : (i < k) = (i < k + 1) := by simp; omega
        simp [e, rowHeads, this]
    · simpa [rowHeads] using h2
set_option maxHeartbeats 1000000 in
set_option maxRecDepth 100000 in
theorem f64_any (h n : Nat) (w : World) (h1 : h ≤ 64) (h2 : n ≤ 64) :
    Calls Tryz.prog 64 #[.int .i64 h, .int .i64 n] w fun e w' => e = .returned (.slice (some ⟨w.heap.size, 0, none⟩) h h) ∧ w'.heap.size = w.heap.size + 1 + h ∧ Blk w' w.heap.size 72 (rowHeads w.heap.size n h h) ∧ (∀ i, i < h → Blk w' (w.heap.size + 1 + i) 38 (zrow n)) ∧ Below w.heap.size w w' := by
  have hm1 := fun w => mkRows und88 h w (by omega)
  have hm2 := fun w => mk72 n w (by omega)
  rw [← rowHeads_zero (B := w.heap.size) (n := n)] at hm1
  go_enter Tryz.func64, Tryz.ntmps64
  go_wp2
  go_loopg [11] h (fun gg s8 wr => ∃ kk : Nat, kk ≤ h ∧ h - kk ≤ gg ∧ s8 = .int .i64 kk ∧ Aside (wr.heap.size = w.heap.size + 1 + kk) ∧ Aside (Blk wr w.heap.size 72 (rowHeads w.heap.size n h kk)) ∧ Aside (∀ i, i < kk → Blk wr (w.heap.size + 1 + i) 38 (zrow n)) ∧ Aside (Below w.heap.size w wr))
  case atStart => exact ⟨0, Nat.zero_le _, by omega, rfl, (by unfold Aside; simp), Blk.new w 72 _, (show Aside _ from fun i hi => absurd hi (Nat.not_lt_zero _)), (Below.refl _ w).alloc (Nat.le_refl _) _⟩
  case round =>
    obtain ⟨kk, hkk, hg, rfl, SW, RW, ZW, BW⟩ := hrel
    by_cases hlt : kk < h
    · have hltz : (kk : Int) < (h : Int) := by omega
      have hR := RW.out
      have cR := (hR.cells kk).trans (rowHeads_at hlt)
      simp at cR
      have fR2 := (hR.alloc (.cells (zrow n) 38)).frozen kk
      have cR2 := ((hR.alloc (.cells (zrow n) 38)).cells kk).trans (hR.cells kk).symm
      rw [cR] at cR2
      go_wp2
      go_roundg (h - (kk + 1))
      case measure => omega
      case rel =>
        have hS := SW.out
        refine ⟨kk + 1, by omega, by omega, by go_num, (show Aside _ from ?_), (show Aside _ from ?_), (show Aside _ from fun i hi => ?_), (show Aside _ from ?_)⟩
        · unfold Aside; simp; omega
        · have := (hR.alloc (.cells (zrow n) 38)).set kk (rowHead w.heap.size n kk)
          rw [rowHeads_set hlt, rowHead, ← hS] at this
          exact this
        · rcases Nat.lt_succ_iff_lt_or_eq.1 hi with hi | rfl
          · exact ((ZW.out i hi).alloc _).far (by simp; omega) _
          · exact (Blk.new' 38 (zrow n) hS.symm).far (by simp; omega) _
        · exact (BW.out.alloc BW.out.size _).setCell (Nat.le_refl _) _
    · have hltz : ¬ (kk : Int) < (h : Int) := by omega
      obtain rfl : kk = h := by omega
      clear hlt
      go_wp2
      go_ret
      exact ⟨rfl, SW.out, RW.out, ZW.out, BW.out⟩
end Go.Proofs.YtdfgmmjcamhdjaaGreatDoor
