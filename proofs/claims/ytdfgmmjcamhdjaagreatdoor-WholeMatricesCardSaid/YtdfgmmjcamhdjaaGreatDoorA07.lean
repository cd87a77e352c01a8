/- Steps to WholeMatrices' card; what each asks stands in it. -/
import Derived.Laws.Closers25b
import Derived.StillTailTactics
import Derived.Test.YtdfgmmjcamhdjaaGreatDoorA00
set_option linter.unusedVariables false
set_option linter.unusedSimpArgs false
namespace Go.Proofs.YtdfgmmjcamhdjaaGreatDoor
section
open Go.RowKit
attribute [local go_sem ↓] Go.wp_at_zero Go.wp_at_succ
structure KeepX (B : Nat) (w w' : World) : Prop where
  os : w'.os = w.os
  tape : w'.tape = w.tape
  output : w'.output = w.output
  size : w.heap.size ≤ w'.heap.size
  block : ∀ k, k < w.heap.size → k ≠ B → w'.heap[k]? = w.heap[k]?
theorem KeepX.refl (B : Nat) (w : World) : KeepX B w w := ⟨rfl, rfl, rfl, Nat.le_refl _, fun _ _ _ => rfl⟩
theorem KeepX.trans {B : Nat} {a b c : World} (h : KeepX B a b) (k : KeepX B b c) : KeepX B a c :=
  ⟨k.os.trans h.os, k.tape.trans h.tape, k.output.trans h.output, Nat.le_trans h.size k.size, fun i hi hne => (k.block i (Nat.lt_of_lt_of_le hi h.size) hne).trans (h.block i hi hne)⟩
theorem KeepX.below {B : Nat} {a b c : World} (h : KeepX B a b) (k : Below b.heap.size b c) : KeepX B a c :=
  ⟨k.os.trans h.os, k.tape.trans h.tape, k.output.trans h.output, Nat.le_trans h.size k.size, fun i hi hne => (k.block i (Nat.lt_of_lt_of_le hi h.size)).trans (h.block i hi hne)⟩
theorem KeepX.of_below {B : Nat} {a b : World} (k : Below a.heap.size a b) : KeepX B a b := (KeepX.refl B a).below k
theorem KeepX.drew {B : Nat} {a w : World} (h : KeepX B a w) : KeepX B a w.drew := ⟨h.os, h.tape, h.output, h.size, h.block⟩
theorem KeepX.alloc {B : Nat} {a w : World} (h : KeepX B a w) (o : Obj) : KeepX B a (w.alloc o) := h.below ((Below.refl _ _).alloc (Nat.le_refl _) o)
theorem KeepX.setCell {B : Nat} {a w : World} (h : KeepX B a w) (i : Nat) (u : Value) : KeepX B a (w.setCell ⟨B, i, none⟩ u) :=
  h.trans ⟨rfl, rfl, rfl, by simp, fun k _ hne => Below.heap_setCell w ⟨B, i, none⟩ u k hne⟩
theorem KeepX.setOwn {B : Nat} {a w : World} (h : KeepX B a w) {p : Addr} (hp : a.heap.size ≤ p.block) (u : Value) : KeepX B a (w.setCell p u) :=
  ⟨h.os, h.tape, h.output, by simpa using h.size, fun k hk hne => (Below.heap_setCell w p u k (by omega)).trans (h.block k hk hne)⟩
theorem Blk.keepX {w w' : World} {B b : Nat} {T : TypeId} {cs : Array Value} (h : Blk w b T cs) (hk : KeepX B w w') (hne : b ≠ B) : Blk w' b T cs := (hk.block b h.lt hne).trans h
theorem KeepX.cell {B : Nat} {w w' : World} (h : KeepX B w w') {p : Addr} (hp : p.block < w.heap.size) (hne : p.block ≠ B) : w'.cell? p = w.cell? p := World.cell?_of_block (w := w) (h.block p.block hp hne)
theorem KeepX.frozen {B : Nat} {w w' : World} (h : KeepX B w w') {p : Addr} (hp : p.block < w.heap.size) (hne : p.block ≠ B) : w'.frozen? p = w.frozen? p := World.frozen?_of_block (w := w) (h.block p.block hp hne)
/-- a store of bytes: nx draws at most -/
structure StoreAt (w : World) (B : Nat) (nx : Nat) : Prop where
  out : ∃ (A : Option Addr) (n c : Nat) (k : Nat) (st : Int), Blk w B 57 #[.slice A n c, .int .i64 k, .int .u32 st] ∧ k ≤ nx ∧ 0 ≤ st ∧ st < 4294967296 ∧ n ≤ 300 ∧
    (0 < n → ∃ b off, A = some ⟨b, off, none⟩ ∧ b < B ∧ ∀ i, i < n → ∃ v : Int, 0 ≤ v ∧ v < 256 ∧ w.cell? ⟨b, off + i, none⟩ = some (.int .u8 v))
theorem u32_lo (x : Int) : 0 ≤ IntKind.u32.wrap x := by have := (wrap_within .u32 x).1; exact this
theorem u32_hi (x : Int) : IntKind.u32.wrap x ≤ 4294967295 := by have := (wrap_within .u32 x).2; exact this
set_option maxHeartbeats 1000000 in
set_option maxRecDepth 100000 in
theorem f22_none (B c : Nat) (A : Option Addr) (k : Nat) (st : Int) (w : World) (hst : 0 ≤ st ∧ st ≤ 4294967295) (hB0 : Blk w B 57 #[.slice A (0 : Nat) c, .int .i64 k, .int .u32 st]) :
    Calls Tryz.prog 22 #[.pointer (some ⟨B, 0, none⟩)] w fun e w' => ∃ v s' : Int, e = .returned (.int .u32 v) ∧ 0 ≤ v ∧ v ≤ 4294967295 ∧ Blk w' B 57 #[.slice A (0 : Nat) c, .int .i64 k, .int .u32 s'] ∧ 0 ≤ s' ∧ s' ≤ 4294967295 ∧ KeepX B w w' := by
  have c0 := hB0.cells
  have f0 := hB0.frozen
  have hK0 := KeepX.refl B w
  go_enter Tryz.func22, Tryz.ntmps22
  go_wp2
  go_still_tail 12, (by kernel_rfl)
  change wpList _ _ _ _ _ w.drew
  go_wp2
  have hB1 : Blk _ B 57 #[.slice A (0 : Nat) c, .int .i64 k, .int .u32 (bits BinOp.xor IntKind.u32 st (st * 8192 % 4294967296))] := (hB0.set 2 (.int .u32 (bits BinOp.xor IntKind.u32 st (st * 8192 % 4294967296)))).drew
  have hK1 := (hK0.setCell 2 (.int .u32 (bits BinOp.xor IntKind.u32 st (st * 8192 % 4294967296)))).drew
  clear c0 f0
  generalize ((w.setCell ⟨B, 2, none⟩ (.int .u32 (bits BinOp.xor IntKind.u32 st (st * 8192 % 4294967296)))).drew) = w1 at *
  have lo1 := bits_lo_u32 BinOp.xor st (st * 8192 % 4294967296)
  have hi1 := bits_hi_u32 BinOp.xor st (st * 8192 % 4294967296)
  generalize bits BinOp.xor IntKind.u32 st (st * 8192 % 4294967296) = s1 at *
  have c1 := hB1.cells
  have f1 := hB1.frozen
  go_still_tail 12, (by kernel_rfl)
  change wpList _ _ _ _ _ w1.drew
  go_wp2
  have hB2 : Blk _ B 57 #[.slice A (0 : Nat) c, .int .i64 k, .int .u32 (bits BinOp.xor IntKind.u32 s1 (s1 / 131072))] := (hB1.set 2 (.int .u32 (bits BinOp.xor IntKind.u32 s1 (s1 / 131072)))).drew
  have hK2 := (hK1.setCell 2 (.int .u32 (bits BinOp.xor IntKind.u32 s1 (s1 / 131072)))).drew
  clear c1 f1
  generalize ((w1.setCell ⟨B, 2, none⟩ (.int .u32 (bits BinOp.xor IntKind.u32 s1 (s1 / 131072)))).drew) = w2 at *
  have lo2 := bits_lo_u32 BinOp.xor s1 (s1 / 131072)
  have hi2 := bits_hi_u32 BinOp.xor s1 (s1 / 131072)
  generalize bits BinOp.xor IntKind.u32 s1 (s1 / 131072) = s2 at *
  have c2 := hB2.cells
  have f2 := hB2.frozen
  go_still_tail 12, (by kernel_rfl)
  change wpList _ _ _ _ _ w2.drew
  go_wp2
  have hB3 : Blk _ B 57 #[.slice A (0 : Nat) c, .int .i64 k, .int .u32 (bits BinOp.xor IntKind.u32 s2 (s2 * 32 % 4294967296))] := (hB2.set 2 (.int .u32 (bits BinOp.xor IntKind.u32 s2 (s2 * 32 % 4294967296)))).drew
  have hK3 := (hK2.setCell 2 (.int .u32 (bits BinOp.xor IntKind.u32 s2 (s2 * 32 % 4294967296)))).drew
  clear c2 f2
  generalize ((w2.setCell ⟨B, 2, none⟩ (.int .u32 (bits BinOp.xor IntKind.u32 s2 (s2 * 32 % 4294967296)))).drew) = w3 at *
  have lo3 := bits_lo_u32 BinOp.xor s2 (s2 * 32 % 4294967296)
  have hi3 := bits_hi_u32 BinOp.xor s2 (s2 * 32 % 4294967296)
  generalize bits BinOp.xor IntKind.u32 s2 (s2 * 32 % 4294967296) = s3 at *
  have c3 := hB3.cells
  have f3 := hB3.frozen
  go_wp2
  go_ret
  exact ⟨s3 / 8, s3, rfl, by omega, by omega, hB3, lo3, hi3, hK3⟩
set_option maxHeartbeats 1000000 in
set_option maxRecDepth 100000 in
theorem f22_some (B b off n c : Nat) (k : Nat) (st : Int) (w : World) (hk : k ≤ 1000000000) (hst : 0 ≤ st ∧ st ≤ 4294967295) (hB0 : Blk w B 57 #[.slice (some ⟨b, off, none⟩) n c, .int .i64 k, .int .u32 st]) (hn : 0 < n) (hn3 : n ≤ 300) (hbB : b ≠ B) (hbl : b < w.heap.size)
    (hby : ∀ i, i < n → ∃ v : Int, 0 ≤ v ∧ v < 256 ∧ w.cell? ⟨b, off + i, none⟩ = some (.int .u8 v)) :
    Calls Tryz.prog 22 #[.pointer (some ⟨B, 0, none⟩)] w fun e w' => ∃ v s' : Int, e = .returned (.int .u32 v) ∧ 0 ≤ v ∧ v ≤ 4294967295 ∧ Blk w' B 57 #[.slice (some ⟨b, off, none⟩) n c, .int .i64 ((k + 1 : Nat) : Int), .int .u32 s'] ∧ 0 ≤ s' ∧ s' ≤ 4294967295 ∧ KeepX B w w' := by
  obtain ⟨v, hv0, hv1, hv⟩ := hby (k % n) (Nat.mod_lt _ hn)
  have hnz : (0 : Int) < n := by omega
  have hkm : (k : Int).tmod (n : Int) = ((k % n : Nat) : Int) := rfl
  have hlt0 := Nat.mod_lt k hn
  have hn0 : ¬ (n = 0) := by omega
  generalize k % n = m at hkm hlt0 hv
  have hlt : (m : Int) < (n : Int) := by omega
  clear hby
  have c0 := hB0.cells
  have f0 := hB0.frozen
  have hK0 := KeepX.refl B w
  go_enter Tryz.func22, Tryz.ntmps22
  go_wp2
  go_still_tail 12, (by kernel_rfl)
  change wpList _ _ _ _ _ w.drew
  go_wp2
  have hB1 : Blk _ B 57 #[.slice (some ⟨b, off, none⟩) n c, .int .i64 k, .int .u32 (bits BinOp.xor IntKind.u32 st (st * 8192 % 4294967296))] := (hB0.set 2 (.int .u32 (bits BinOp.xor IntKind.u32 st (st * 8192 % 4294967296)))).drew
  have hK1 := (hK0.setCell 2 (.int .u32 (bits BinOp.xor IntKind.u32 st (st * 8192 % 4294967296)))).drew
  clear c0 f0
  generalize ((w.setCell ⟨B, 2, none⟩ (.int .u32 (bits BinOp.xor IntKind.u32 st (st * 8192 % 4294967296)))).drew) = w1 at *
  have lo1 := bits_lo_u32 BinOp.xor st (st * 8192 % 4294967296)
  have hi1 := bits_hi_u32 BinOp.xor st (st * 8192 % 4294967296)
  generalize bits BinOp.xor IntKind.u32 st (st * 8192 % 4294967296) = s1 at *
  have c1 := hB1.cells
  have f1 := hB1.frozen
  go_still_tail 12, (by kernel_rfl)
  change wpList _ _ _ _ _ w1.drew
  go_wp2
  have hB2 : Blk _ B 57 #[.slice (some ⟨b, off, none⟩) n c, .int .i64 k, .int .u32 (bits BinOp.xor IntKind.u32 s1 (s1 / 131072))] := (hB1.set 2 (.int .u32 (bits BinOp.xor IntKind.u32 s1 (s1 / 131072)))).drew
  have hK2 := (hK1.setCell 2 (.int .u32 (bits BinOp.xor IntKind.u32 s1 (s1 / 131072)))).drew
  clear c1 f1
  generalize ((w1.setCell ⟨B, 2, none⟩ (.int .u32 (bits BinOp.xor IntKind.u32 s1 (s1 / 131072)))).drew) = w2 at *
  have lo2 := bits_lo_u32 BinOp.xor s1 (s1 / 131072)
  have hi2 := bits_hi_u32 BinOp.xor s1 (s1 / 131072)
  generalize bits BinOp.xor IntKind.u32 s1 (s1 / 131072) = s2 at *
  have c2 := hB2.cells
  have f2 := hB2.frozen
  go_still_tail 12, (by kernel_rfl)
  change wpList _ _ _ _ _ w2.drew
  go_wp2
  have hB3 : Blk _ B 57 #[.slice (some ⟨b, off, none⟩) n c, .int .i64 k, .int .u32 (bits BinOp.xor IntKind.u32 s2 (s2 * 32 % 4294967296))] := (hB2.set 2 (.int .u32 (bits BinOp.xor IntKind.u32 s2 (s2 * 32 % 4294967296)))).drew
  have hK3 := (hK2.setCell 2 (.int .u32 (bits BinOp.xor IntKind.u32 s2 (s2 * 32 % 4294967296)))).drew
  clear c2 f2
  generalize ((w2.setCell ⟨B, 2, none⟩ (.int .u32 (bits BinOp.xor IntKind.u32 s2 (s2 * 32 % 4294967296)))).drew) = w3 at *
  have lo3 := bits_lo_u32 BinOp.xor s2 (s2 * 32 % 4294967296)
  have hi3 := bits_hi_u32 BinOp.xor s2 (s2 * 32 % 4294967296)
  generalize bits BinOp.xor IntKind.u32 s2 (s2 * 32 % 4294967296) = s3 at *
  have c3 := hB3.cells
  have f3 := hB3.frozen
  have hv3 := (hK3.cell (p := ⟨b, off + m, none⟩) hbl hbB).trans hv
  clear hv hK1 hK2 hB1 hB2 hB0
  go_wp2
  go_still_tail 20, (by kernel_rfl)
  change wpList _ _ _ _ _ w3.drew
  have hB4 := hB3.drew
  have hK4 := hK3.drew
  have c4 : ∀ i, w3.drew.cell? ⟨B, i, none⟩ = _ := hB4.cells
  have f4 : ∀ i, w3.drew.frozen? ⟨B, i, none⟩ = _ := hB4.frozen
  have hv4 : w3.drew.cell? ⟨b, off + m, none⟩ = some (.int .u8 v) := hv3
  clear hB3 hK3 c3 f3 hv3
  generalize w3.drew = w4 at *
  go_wp2
  go_still_tail 25, (by kernel_rfl)
  change wpList _ _ _ _ _ w4.drew
  go_wp2
  go_ret
  refine ⟨_, (s3 + (v + 1)) % 4294967296, rfl, u32_lo _, u32_hi _, ?_, by omega, by omega, ((hK4.setCell 2 _).setCell 1 _).drew⟩
  exact ((hB4.set 2 (.int .u32 ((s3 + (v + 1)) % 4294967296))).set 1 (.int .i64 ((k : Int) + 1))).drew
set_option maxHeartbeats 1000000 in
set_option maxRecDepth 100000 in
theorem StoreAt.mono {w : World} {B n m : Nat} (h : StoreAt w B n) (hm : n ≤ m) : StoreAt w B m := by
  obtain ⟨⟨A, n0, c, k, st, h1, h2, h3⟩⟩ := h
  exact ⟨⟨A, n0, c, k, st, h1, by omega, h3⟩⟩
theorem StoreAt.below {w w' : World} {B n : Nat} (h : StoreAt w B n) (hb : Below w.heap.size w w') : StoreAt w' B n := by
  obtain ⟨⟨A, n0, c, k, st, h1, h2, h3, h4, h5, h6⟩⟩ := h
  refine ⟨⟨A, n0, c, k, st, h1.below hb, h2, h3, h4, h5, fun h => ?_⟩⟩
  obtain ⟨b, off, e, g1, g3⟩ := h6 h
  refine ⟨b, off, e, g1, fun i hi => ?_⟩
  obtain ⟨v, a1, a2, a3⟩ := g3 i hi
  exact ⟨v, a1, a2, (hb.cell (p := ⟨b, off + i, none⟩) (Nat.lt_trans g1 h1.lt)).trans a3⟩
theorem StoreAt.lt {w : World} {B n : Nat} (h : StoreAt w B n) : B < w.heap.size := by
  obtain ⟨⟨A, n0, c, k, st, h1, h2⟩⟩ := h
  exact h1.lt
theorem StoreAt.far {w : World} {B n : Nat} (h : StoreAt w B n) {p : Addr} (hp : B < p.block) (u : Value) : StoreAt (w.setCell p u) B n := by
  obtain ⟨⟨A, n0, c, k, st, h1, h2, h3, h4, h5, h6⟩⟩ := h
  refine ⟨⟨A, n0, c, k, st, h1.far (by omega) u, h2, h3, h4, h5, fun h => ?_⟩⟩
  obtain ⟨b, off, e, g1, g3⟩ := h6 h
  refine ⟨b, off, e, g1, fun i hi => ?_⟩
  obtain ⟨v, a1, a2, a3⟩ := g3 i hi
  refine ⟨v, a1, a2, ?_⟩
  rw [World.cell?_setCell_other w p ⟨b, off + i, none⟩ u (fun e => absurd (show B < b by have h0 := hp; rw [e] at h0; exact h0) (by omega))]
  exact a3
theorem f22_any (B n : Nat) (w : World) (hS : StoreAt w B n) (hn : n ≤ 1000000000) :
    Calls Tryz.prog 22 #[.pointer (some ⟨B, 0, none⟩)] w fun e w' => ∃ v : Int, e = .returned (.int .u32 v) ∧ 0 ≤ v ∧ v ≤ 4294967295 ∧ StoreAt w' B (n + 1) ∧ KeepX B w w' := by
  obtain ⟨⟨A, n0, c, k, st, h1, h2, h3, h4, h5, h6⟩⟩ := hS
  obtain rfl | hp := Nat.eq_zero_or_pos n0
  · refine (f22_none B c A k st w ⟨h3, by omega⟩ h1).mono ?_
    rintro e w' ⟨v, s', rfl, g1, g2, g3, g4, g5, g6⟩
    exact ⟨v, rfl, g1, g2, ⟨⟨A, 0, c, k, s', g3, by omega, g4, by omega, by omega, fun h => absurd h (by omega)⟩⟩, g6⟩
  · obtain ⟨b, off, rfl, a1, a3⟩ := h6 hp
    have a2 : b < w.heap.size := Nat.lt_trans a1 h1.lt
    refine (f22_some B b off n0 c k st w (by omega) ⟨h3, by omega⟩ h1 hp h5 (Nat.ne_of_lt a1) a2 a3).mono ?_
    rintro e w' ⟨v, s', rfl, g1, g2, g3, g4, g5, g6⟩
    refine ⟨v, rfl, g1, g2, ⟨⟨_, n0, c, k + 1, s', g3, by omega, g4, by omega, h5, fun _ => ⟨b, off, rfl, a1, fun i hi => ?_⟩⟩⟩, g6⟩
    obtain ⟨v, x1, x2, x3⟩ := a3 i hi
    exact ⟨v, x1, x2, (g6.cell (p := ⟨b, off + i, none⟩) a2 (Nat.ne_of_lt a1)).trans x3⟩
set_option maxHeartbeats 1000000 in
set_option maxRecDepth 100000 in
theorem f5_any (B n m : Nat) (w : World) (hS : StoreAt w B n) (hn : n ≤ 1000000000) (hm : 1 ≤ m) (hm2 : m ≤ 1000) :
    Calls Tryz.prog 5 #[.pointer (some ⟨B, 0, none⟩), .int .i64 m] w fun e w' => ∃ v : Nat, v < m ∧ e = .returned (.int .i64 v) ∧ StoreAt w' B (n + 1) ∧ KeepX B w w' := by
  have hmz : ¬ ((m : Int) ≤ 0) := by omega
  have hmn : ¬ (m = 0) := by omega
  go_enter Tryz.func5, Tryz.ntmps5
  go_wp2_with (go_at_call 22; refine (f22_any B n _ hS hn).mono ?_; rintro e w' ⟨v, rfl, h1, h2, h3, h4⟩; obtain ⟨x, rfl⟩ := Int.eq_ofNat_of_zero_le h1; have q1 : ((x : Int) / 16).tmod (m : Int) = ((x / 16 % m : Nat) : Int) := rfl)
  have hlt := Nat.mod_lt (x / 16) (show 0 < m by omega)
  go_ret
  exact ⟨x / 16 % m, hlt, by simp, h3, h4⟩
end
section
open Go.RowKit
attribute [local go_sem ↓] Go.wp_at_zero Go.wp_at_succ
/-- Less's result as an integer -/
theorem f5_int (B n m : Nat) (w : World) (hS : StoreAt w B n) (hn : n ≤ 1000000000) (hm : 1 ≤ m) (hm2 : m ≤ 1000) :
    Calls Tryz.prog 5 #[.pointer (some ⟨B, 0, none⟩), .int .i64 m] w fun e w' => ∃ v : Int, 0 ≤ v ∧ v < m ∧ e = .returned (.int .i64 v) ∧ StoreAt w' B (n + 1) ∧ KeepX B w w' := by
  refine (f5_any B n m w hS hn hm hm2).mono ?_
  rintro e w' ⟨v, h1, rfl, h2⟩
  exact ⟨v, by omega, by omega, rfl, h2⟩
set_option maxHeartbeats 400000 in
set_option maxRecDepth 100000 in
theorem f80_2 (B n : Nat) (w : World) (hS : StoreAt w B n) (hn : n ≤ 1000000000) :
    Calls Tryz.prog 80 #[.pointer (some ⟨B, 0, none⟩), .int .i64 (-2), .int .i64 2] w fun e w' => ∃ v : Int, -2 ≤ v ∧ v ≤ 2 ∧ e = .returned (.int .i64 v) ∧ StoreAt w' B (n + 1) ∧ KeepX B w w' := by
  have H7 : Calls Tryz.prog 5 #[.pointer (some ⟨B, 0, none⟩), .int .i64 5] w fun e w' => ∃ v : Int, 0 ≤ v ∧ v < 5 ∧ e = .returned (.int .i64 v) ∧ StoreAt w' B (n + 1) ∧ KeepX B w w' := f5_int B n 5 w hS hn (by omega) (by omega)
  clear hn
  go_enter Tryz.func80, Tryz.ntmps80
  go_wp2_with (go_at_call 5; refine H7.mono ?_; clear H7; rintro e w' ⟨v, h0, h1, rfl, g3, g4⟩)
  go_ret
  exact ⟨-2 + v, by omega, by omega, by simp, g3, g4⟩
set_option maxHeartbeats 400000 in
set_option maxRecDepth 100000 in
theorem f80_3 (B n : Nat) (w : World) (hS : StoreAt w B n) (hn : n ≤ 1000000000) :
    Calls Tryz.prog 80 #[.pointer (some ⟨B, 0, none⟩), .int .i64 (-3), .int .i64 3] w fun e w' => ∃ v : Int, -3 ≤ v ∧ v ≤ 3 ∧ e = .returned (.int .i64 v) ∧ StoreAt w' B (n + 1) ∧ KeepX B w w' := by
  have H7 : Calls Tryz.prog 5 #[.pointer (some ⟨B, 0, none⟩), .int .i64 7] w fun e w' => ∃ v : Int, 0 ≤ v ∧ v < 7 ∧ e = .returned (.int .i64 v) ∧ StoreAt w' B (n + 1) ∧ KeepX B w w' := f5_int B n 7 w hS hn (by omega) (by omega)
  clear hn
  go_enter Tryz.func80, Tryz.ntmps80
  go_wp2_with (go_at_call 5; refine H7.mono ?_; clear H7; rintro e w' ⟨v, h0, h1, rfl, g3, g4⟩)
  go_ret
  exact ⟨-3 + v, by omega, by omega, by simp, g3, g4⟩
set_option maxHeartbeats 400000 in
set_option maxRecDepth 100000 in
theorem f80_4 (B n : Nat) (w : World) (hS : StoreAt w B n) (hn : n ≤ 1000000000) :
    Calls Tryz.prog 80 #[.pointer (some ⟨B, 0, none⟩), .int .i64 (-4), .int .i64 4] w fun e w' => ∃ v : Int, -4 ≤ v ∧ v ≤ 4 ∧ e = .returned (.int .i64 v) ∧ StoreAt w' B (n + 1) ∧ KeepX B w w' := by
  have H7 : Calls Tryz.prog 5 #[.pointer (some ⟨B, 0, none⟩), .int .i64 9] w fun e w' => ∃ v : Int, 0 ≤ v ∧ v < 9 ∧ e = .returned (.int .i64 v) ∧ StoreAt w' B (n + 1) ∧ KeepX B w w' := f5_int B n 9 w hS hn (by omega) (by omega)
  clear hn
  go_enter Tryz.func80, Tryz.ntmps80
  go_wp2_with (go_at_call 5; refine H7.mono ?_; clear H7; rintro e w' ⟨v, h0, h1, rfl, g3, g4⟩)
  go_ret
  exact ⟨-4 + v, by omega, by omega, by simp, g3, g4⟩
end
end Go.Proofs.YtdfgmmjcamhdjaaGreatDoor
