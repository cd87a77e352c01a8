/- Steps to WholeMatrices' card; what each asks stands in it. -/
import Derived.Test.YtdfgmmjcamhdjaaGreatDoorA32
import Derived.Test.YtdfgmmjcamhdjaaGreatDoorA33
import Derived.Test.YtdfgmmjcamhdjaaGreatDoorA37
set_option linter.unusedVariables false
set_option linter.unusedSimpArgs false
namespace Go.Proofs.YtdfgmmjcamhdjaaGreatDoor
section
open Go.RowKit
attribute [local go_sem ↓] Go.wp_at_zero Go.wp_at_succ
/-- a matrix does not lie where the drift store lies -/
theorem Mat.keepX {w w' : World} {B nx : Nat} {A : Option Addr} {h n : Nat} {M : Nat → Nat → Num} (H : Mat w A h n M) (hS : StoreAt w B nx) (h2 : 2 ≤ h) (hk : KeepX B w w') : Mat w' A h n M := by
  obtain ⟨b, off, rb, ro, rc, e, H⟩ := H
  obtain ⟨⟨SA, sn, sc, sk, st, hB, _⟩⟩ := hS
  have hc := hB.cells
  have hbB : b ≠ B := by
    intro eb
    subst eb
    have r0 := (H.row 0 (by omega)).1
    have r1 := (H.row 1 (by omega)).1
    rw [hc] at r0 r1
    match off, r0, r1 with
    | 0, _, r1 => cases r1
    | 1, r0, _ => cases r0
    | 2, r0, _ => cases r0
    | k + 3, r0, _ => simp at r0
  have hrB : ∀ i, i < h → rb i ≠ B := by
    intro i hi eb
    have h0 := H.num i 0 hi H.dims.2.2.1
    rw [eb] at h0
    obtain ⟨a0, a1, a2, _⟩ := h0
    rw [hc] at a0 a1 a2
    generalize ro i + 0 * 5 = q at a0 a1 a2
    match q, a0, a2 with
    | 0, a0, _ => cases a0
    | k + 1, _, a2 => simp at a2
  refine ⟨b, off, rb, ro, rc, e, H.dims, Nat.lt_of_lt_of_le H.lt hk.size, fun i hi => ⟨(hk.cell (p := ⟨b, off + i, none⟩) H.lt hbB).trans (H.row i hi).1, Nat.lt_of_lt_of_le (H.row i hi).2 hk.size⟩, fun i j hi hj => ?_⟩
  have hl := (H.row i hi).2
  have hne := hrB i hi
  obtain ⟨a0, a1, a2, a3, a4⟩ := H.num i j hi hj
  exact ⟨(hk.cell (p := ⟨rb i, _, none⟩) hl hne).trans a0, (hk.cell (p := ⟨rb i, _, none⟩) hl hne).trans a1, (hk.cell (p := ⟨rb i, _, none⟩) hl hne).trans a2, (hk.cell (p := ⟨rb i, _, none⟩) hl hne).trans a3, (hk.cell (p := ⟨rb i, _, none⟩) hl hne).trans a4⟩
theorem hM_sm (i j : Nat) (hi : i < 2) (hj : j < 2) : (hM i j).sm := by
  rw [wav_one i hi j hj]
  exact wav_sm (by decide) _ _
def WavPost (m2 k : Nat) (w : World) (e : Ending) (w' : World) : Prop := ∃ B, w.heap.size ≤ B ∧ e = .returned (.tuple #[.slice (some ⟨B, 0, none⟩) m2 m2, .int .i64 0]) ∧ Filled w' B m2 m2 (wavE k) ∧ Below w.heap.size w w'
theorem f14_wav (k m m2 : Nat) (hk : k < 6) (hm : 2 ^ k = m) (hm2 : 2 * m = m2) (h64 : m2 ≤ 64) {A A' : Option Addr} (cap cap' : Nat) (w : World) (HM : Mat w A 2 2 hM) (HN : Mat w A' m m (wavE k)) :
    Calls Tryz.prog 14 #[.slice A 2 cap, .slice A' m cap'] w (WavPost m2 (k + 1) w) := by
  subst hm hm2
  have hp := Nat.two_pow_pos k
  refine (f14_any cap cap' w HM HN hM_sm (fun i j _ _ => wav_sm (by omega) _ _) h64 h64 (fun i j hi hj => by rw [wav_step k hk i j hi hj])).mono ?_
  rintro e w' ⟨B, hB, rfl, hF, hb⟩
  exact ⟨B, hB, rfl, hF.congr (fun i j hi hj => by rw [wav_step k hk i j hi hj]), hb⟩
def wiresA : Array Value := #[.int .i64 1, .int .i64 2, .int .i64 2, .int .i64 3, .int .i64 3, .int .i64 4, .int .i64 5]
theorem wires7 : ∀ v, v < 7 → ∃ n : Nat, 1 ≤ n ∧ n ≤ 5 ∧ wiresA[v]? = some (.int .i64 n)
  | 0, _ => ⟨1, by decide, by decide, rfl⟩
  | 1, _ => ⟨2, by decide, by decide, rfl⟩
  | 2, _ => ⟨2, by decide, by decide, rfl⟩
  | 3, _ => ⟨3, by decide, by decide, rfl⟩
  | 4, _ => ⟨3, by decide, by decide, rfl⟩
  | 5, _ => ⟨4, by decide, by decide, rfl⟩
  | 6, _ => ⟨5, by decide, by decide, rfl⟩
  | _ + 7, h => absurd h (by omega)
/-- the wires that are drawn -/
structure WiresOk (ls : List Nat) (n W : Nat) : Prop where
  len : ls.length = n
  lt : ∀ x ∈ ls, x < W
  nd : ls.Nodup
theorem wiresOk {zs : List Nat} {n W : Nat} (h : zs.Perm (List.range W)) (hn : n ≤ W) : WiresOk (zs.take n) n W := by
  have hl : zs.length = W := by rw [h.length_eq, List.length_range]
  exact ⟨by rw [List.length_take, hl]; omega, fun x hx => List.mem_range.1 (h.mem_iff.1 (List.mem_of_mem_take hx)), ((h.nodup_iff.2 List.nodup_range).sublist (List.take_sublist n zs))⟩
theorem WiresOk.getD {ls : List Nat} {n W : Nat} (h : WiresOk ls n W) : ∀ q, q < n → ls.getD q 0 < W := by
  intro q hq
  have hq' : q < ls.length := by rw [h.len]; exact hq
  have : ls.getD q 0 = ls[q] := by simp [List.getD_eq_getElem?_getD, hq']
  rw [this]
  exact h.lt _ (List.getElem_mem _)
theorem WiresOk.inj {ls : List Nat} {n W : Nat} (h : WiresOk ls n W) : ∀ a b, a < n → b < n → ls.getD a 0 = ls.getD b 0 → a = b := by
  intro a b ha hb e
  have ha' : a < ls.length := by rw [h.len]; exact ha
  have hb' : b < ls.length := by rw [h.len]; exact hb
  rw [show ls.getD a 0 = ls[a] from by simp [List.getD_eq_getElem?_getD, ha'], show ls.getD b 0 = ls[b] from by simp [List.getD_eq_getElem?_getD, hb']] at e
  exact (List.getElem_inj h.nd).1 e
theorem wires_cells {w : World} {b c : Nat} {zs : List Nat} (h : OwnI w b c (zInts zs)) (n : Nat) (hn : n ≤ zs.length) : ∀ j, j < n → w.cell? ⟨b, j, none⟩ = some (.int .i64 ((zs.take n).getD j 0)) := by
  intro j hj
  have hj' : j < zs.length := by omega
  have h1 : (zInts zs)[j]? = some ((zs[j] : Nat) : Int) := by
    unfold zInts
    rw [List.getElem?_map, List.getElem?_eq_getElem hj']
    rfl
  rw [h.cell h1]
  have : (zs.take n).getD j 0 = zs[j] := by
    rw [List.getD_eq_getElem?_getD, List.getElem?_take_of_lt hj, List.getElem?_eq_getElem hj']
    rfl
  rw [this]
  rfl
theorem hGs_succ (k : Nat) : hGs (k + 1) = hGs k ++ [⟨4, [k]⟩] := by unfold hGs; rw [List.range_succ, List.map_append]; rfl
/-- a matrix whose blocks are of a kind -/
def MatOff (w : World) (A : Option Addr) (h n : Nat) (M : Nat → Nat → Num) (P : Nat → Prop) : Prop := ∃ b off rb ro rc, A = some ⟨b, off, none⟩ ∧ MatIn w b off rb ro rc h n M ∧ P b ∧ ∀ i, i < h → P (rb i)
theorem MatOff.mat {w : World} {A : Option Addr} {h n : Nat} {M : Nat → Nat → Num} {P : Nat → Prop} (H : MatOff w A h n M P) : Mat w A h n M := by
  obtain ⟨b, off, rb, ro, rc, e, H, _⟩ := H
  exact ⟨b, off, rb, ro, rc, e, H⟩
theorem MatOff.keep {w w' : World} {A : Option Addr} {h n : Nat} {M : Nat → Nat → Num} {P P' : Nat → Prop} (H : MatOff w A h n M P) (hs : w.heap.size ≤ w'.heap.size) (hk : ∀ k, k < w.heap.size → P k → w'.heap[k]? = w.heap[k]? ∧ P' k) : MatOff w' A h n M P' := by
  obtain ⟨b, off, rb, ro, rc, e, H, hb, hr⟩ := H
  refine ⟨b, off, rb, ro, rc, e, ⟨H.dims, Nat.lt_of_lt_of_le H.lt hs, fun i hi => ⟨(cell_keep (hk b H.lt hb).1).trans (H.row i hi).1, Nat.lt_of_lt_of_le (H.row i hi).2 hs⟩, fun i j hi hj => ?_⟩, (hk b H.lt hb).2, fun i hi => (hk _ (H.row i hi).2 (hr i hi)).2⟩
  obtain ⟨a0, a1, a2, a3, a4⟩ := H.num i j hi hj
  have h := (hk _ (H.row i hi).2 (hr i hi)).1
  exact ⟨(cell_keep h).trans a0, (cell_keep h).trans a1, (cell_keep h).trans a2, (cell_keep h).trans a3, (cell_keep h).trans a4⟩
theorem MatOff.of_mat {w : World} {A : Option Addr} {h n : Nat} {M : Nat → Nat → Num} {P : Nat → Prop} (H : Mat w A h n M) (hP : ∀ k, k < w.heap.size → P k) : MatOff w A h n M P := by
  obtain ⟨b, off, rb, ro, rc, e, H⟩ := H
  exact ⟨b, off, rb, ro, rc, e, H, hP _ H.lt, fun i hi => hP _ (H.row i hi).2⟩
theorem Filled.off {w : World} {B h n : Nat} {M : Nat → Nat → Num} {P : Nat → Prop} (H : Filled w B h n M) (hd : 1 ≤ h ∧ h ≤ 64 ∧ 1 ≤ n ∧ n ≤ 64) (hP : ∀ k, B ≤ k → P k) : MatOff w (some ⟨B, 0, none⟩) h n M P := by
  refine ⟨B, 0, fun i => B + 1 + i, fun _ => 0, fun _ => n, rfl, ⟨hd, H.head.lt, fun i hi => ⟨?_, ?_⟩, fun i j hi hj => ?_⟩, hP _ (Nat.le_refl _), fun i _ => hP _ (by show B ≤ B + 1 + i; omega)⟩
  · rw [Nat.zero_add]; exact H.head_at hi
  · exact (RowG.of (H.row i hi)).lt
  · rw [Nat.zero_add]; exact (RowG.of (H.row i hi)).numAt hj
theorem MatOff.congr {w : World} {A : Option Addr} {h n : Nat} {M M' : Nat → Nat → Num} {P : Nat → Prop} (H : MatOff w A h n M P) (e : ∀ i j, i < h → j < n → M i j = M' i j) : MatOff w A h n M' P := by
  obtain ⟨b, off, rb, ro, rc, hA, H, hb, hr⟩ := H
  exact ⟨b, off, rb, ro, rc, hA, ⟨H.dims, H.lt, H.row, fun i j hi hj => by rw [← e i j hi hj]; exact H.num i j hi hj⟩, hb, hr⟩
/-- the loop that lays H side by side -/
structure KronL (wp W : World) (C B n k D : Nat) (gv : Value) (A : Option Addr) (xs : List GX) : Prop where
  c : Blk W C 43 #[.int .i64 n, .int .i64 0, gv]
  g : OwnG W (C + 1) B gv xs
  xs : xs.map (·.g) = hGs k
  m : MatOff W A D D (wavE (max k 1)) (fun b => b ≠ C ∧ gv.ownBlock ≠ some b)
  d : 2 ^ (max k 1) = D
  b : Below C wp W
def KronA (wp W : World) (C B n k : Nat) (v : Value) : Prop := ∃ D gv A cap xs, v = .slice A D cap ∧ KronL wp W C B n k D gv A xs
theorem KronL.len {wp W : World} {C B n k D : Nat} {gv : Value} {A : Option Addr} {xs : List GX} (h : KronL wp W C B n k D gv A xs) : xs.length = k := by
  have := congrArg List.length h.xs
  rwa [List.length_map, hGs_len] at this
/-- a gate is appended, and the circuit holds it -/
theorem KronL.step {wp W W2 : World} {C B n k D g cap : Nat} {gv : Value} {A : Option Addr} {xs : List GX} (h : KronL wp W C B n k D gv A xs) (hB : B < C) (hC : wp.heap.size = C)
    (hO : W2.ownsRow (C + 1) 45 4 (.slice (some ⟨g, 0, none⟩) (xs.length + 1 : Nat) cap) (xs.length + 1) (flatG xs ++ [.int .i64 4, .slice (some ⟨W.heap.size, 0, none⟩) 1 1, .int .i64 0, .int .i64 0]))
    (hg : ((W.alloc (.cells #[.int .i64 k] 3)).alloc (.cells #[.int .i64 4, .slice (some ⟨W.heap.size, 0, none⟩) 1 1, .int .i64 0, .int .i64 0] 45)).grownBy W2 gv.ownBlock) (hat : gv.ownBlock = some g ∨ g = W.heap.size + 2) (hlt : g < W2.heap.size) :
    ∃ xs', xs'.map (·.g) = hGs (k + 1) ∧ OwnG (W2.setCell ⟨C, 2, none⟩ (.slice (some ⟨g, 0, none⟩) (xs.length + 1 : Nat) cap)) (C + 1) B (.slice (some ⟨g, 0, none⟩) (xs.length + 1 : Nat) cap) xs' ∧
      Blk (W2.setCell ⟨C, 2, none⟩ (.slice (some ⟨g, 0, none⟩) (xs.length + 1 : Nat) cap)) C 43 #[.int .i64 n, .int .i64 0, .slice (some ⟨g, 0, none⟩) (xs.length + 1 : Nat) cap] ∧
      MatOff (W2.setCell ⟨C, 2, none⟩ (.slice (some ⟨g, 0, none⟩) (xs.length + 1 : Nat) cap)) A D D (wavE (max k 1)) (fun b => b ≠ C ∧ (Value.slice (some ⟨g, 0, none⟩) (xs.length + 1 : Nat) cap).ownBlock ≠ some b) ∧
      Below C wp (W2.setCell ⟨C, 2, none⟩ (.slice (some ⟨g, 0, none⟩) (xs.length + 1 : Nat) cap)) ∧ W.heap.size ≤ (W2.setCell ⟨C, 2, none⟩ (.slice (some ⟨g, 0, none⟩) (xs.length + 1 : Nat) cap)).heap.size := by
  have hCl := h.c.lt
  have hb2 : Below W.heap.size W ((W.alloc (.cells #[.int .i64 k] 3)).alloc (.cells #[.int .i64 4, .slice (some ⟨W.heap.size, 0, none⟩) 1 1, .int .i64 0, .int .i64 0] 45)) := ((Below.refl _ _).alloc (Nat.le_refl _) _).alloc (by simp) _
  have hI : OwnI ((W.alloc (.cells #[.int .i64 k] 3)).alloc (.cells #[.int .i64 4, .slice (some ⟨W.heap.size, 0, none⟩) 1 1, .int .i64 0, .int .i64 0] 45)) W.heap.size 1 (zInts [k]) := by
    refine ⟨#[.int .i64 k], (Blk.new _ _ _).alloc _, rfl, by simp [zInts], by decide, fun j z hj => ?_⟩
    match j, hj with
    | 0, hj => cases hj; rfl
  have hs2 : ((W.alloc (.cells #[.int .i64 k] 3)).alloc (.cells #[.int .i64 4, .slice (some ⟨W.heap.size, 0, none⟩) 1 1, .int .i64 0, .int .i64 0] 45)).heap.size = W.heap.size + 2 := by simp
  have hgb : ∀ b, gv.ownBlock = some b → C + 1 ≤ b ∧ b < W.heap.size := fun b hb => ownsRow_block h.g.row b hb
  have hgC : gv.ownBlock ≠ some C := fun e => by have := (hgb C e).1; omega
  have hgn : gv.ownBlock ≠ some W.heap.size := fun e => by have := (hgb _ e).2; omega
  have hG2 := (h.g.below (by omega) hb2).app (x := ⟨⟨4, [k]⟩, W.heap.size, 1⟩) hO hg hat hs2 ⟨by show C + 1 ≤ W.heap.size; omega, by show W.heap.size ≠ B; omega, hgn, hI⟩
  generalize ((W.alloc (.cells #[.int .i64 k] 3)).alloc (.cells #[.int .i64 4, .slice (some ⟨W.heap.size, 0, none⟩) 1 1, .int .i64 0, .int .i64 0] 45)) = W1 at hg hb2 hs2
  have hfar : ∀ b, b ≠ C → (W2.setCell ⟨C, 2, none⟩ (.slice (some ⟨g, 0, none⟩) (xs.length + 1 : Nat) cap)).heap[b]? = W2.heap[b]? := fun b hb => Below.heap_setCell _ _ _ _ hb
  have hgC' : g ≠ C := by
    rcases hat with e | e
    · have := (hgb g e).1; omega
    · omega
  have hsz : (W2.setCell ⟨C, 2, none⟩ (.slice (some ⟨g, 0, none⟩) (xs.length + 1 : Nat) cap)).heap.size = W2.heap.size := by simp
  have hsg := hg.size
  refine ⟨xs ++ [⟨⟨4, [k]⟩, W.heap.size, 1⟩], by rw [List.map_append, h.xs, hGs_succ]; rfl, hG2.keep (by omega) (fun b hb _ => hfar b (by omega)), ?_, ?_, ?_, by omega⟩
  · have hc2 := (h.c.below hb2).grown hg hgC
    exact hc2.set 2 _
  · refine h.m.keep (by omega) (fun b hb hP => ⟨?_, hP.1, fun e => ?_⟩)
    · exact (hfar b hP.1).trans ((hg.block b (by have := hb2.size; omega) (fun e => hP.2 e.symm)).trans (hb2.block b hb))
    · have e2 : g = b := Option.some.inj (show (some g : Option Nat) = some b from e)
      rcases hat with h3 | h3
      · exact hP.2 (by rw [h3, e2])
      · omega
  · have k1 : Below C wp W1 := h.b.trans (hb2.mono (by omega))
    have k2 := Below.grownBy k1 hg (by omega) (fun b hb => by have := (hgb b hb).1; omega)
    exact k2.setCell (Nat.le_refl _) _
theorem below_keep {n B : Nat} {w W W' : World} (h : Below n w W) (hn : n ≤ w.heap.size) (hB : n ≤ B) (hk : KeepX B W W') : Below n w W' :=
  ⟨hk.os.trans h.os, hk.tape.trans h.tape, hk.output.trans h.output, Nat.le_trans h.size hk.size, fun i hi => (hk.block i (Nat.lt_of_lt_of_le hi (Nat.le_trans hn h.size)) (by omega)).trans (h.block i hi)⟩
set_option maxHeartbeats 2000000 in
set_option maxRecDepth 100000 in
theorem f4_all (A : Option Addr) (n c : Nat) (w : World) (hc : n ≤ c) (hA : BytesAt w A n) (h0 : A = none → n = 0 ∧ c = 0) :
    Calls Tryz.prog 4 #[.slice A n c] w (OfPost w) := by
  obtain ⟨m, hm⟩ : ∃ m, min n 300 = m := ⟨_, rfl⟩
  have hm1 : m ≤ 300 := by omega
  have hm2 : m ≤ n := by omega
  have H21 := f21_any A m c w hm1 (fun hp => by
    obtain ⟨b, off, h1, h2, h3⟩ := hA (by omega)
    exact ⟨b, off, h1, h2, fun i hi => h3 i (by omega)⟩) (fun h => ⟨by have := (h0 h).1; omega, (h0 h).2⟩)
  have hmin : min (n : Int) 300 = (m : Int) := by omega
  clear hA
  cases A with
  | none =>
    obtain ⟨rfl, rfl⟩ := h0 rfl
    obtain rfl : m = 0 := by omega
    clear hm hmin
    go_enter Tryz.func4, Tryz.ntmps4
    go_wp2_with (go_at_call 21; refine H21.mono ?_; clear H21; rintro e w1 ⟨A1, c1, rfl, hB1, hb1⟩; have hS := store_new (c := c1) hm1 hB1)
    go_ret
    exact ⟨_, hb1.size, rfl, hS, hb1.alloc hb1.size _⟩
  | some ad =>
    go_enter Tryz.func4, Tryz.ntmps4
    go_wp2_with (go_at_call 21; refine H21.mono ?_; clear H21; rintro e w1 ⟨A1, c1, rfl, hB1, hb1⟩; have hS := store_new (c := c1) hm1 hB1)
    go_ret
    exact ⟨_, hb1.size, rfl, hS, hb1.alloc hb1.size _⟩
def StooK (B : Nat) (w0 : World) (n : Nat) (W : World) : Prop := StoreAt W B n ∧ KeepX B w0 W
theorem StooK.alloc {B n : Nat} {w0 W : World} (h : StooK B w0 n W) (o : Obj) : StooK B w0 n (W.alloc o) := ⟨h.1.below ((Below.refl _ _).alloc (Nat.le_refl _) o), h.2.alloc o⟩
theorem f5_st {B : Nat} {w0 : World} (W : World) (n m : Nat) (hn : n ≤ 1000) (h1 : 1 ≤ m) (h2 : m ≤ 1000) (h : StooK B w0 n W) :
    Calls Tryz.prog 5 #[.pointer (some ⟨B, 0, none⟩), .int .i64 m] W fun e w' => ∃ v : Nat, v < m ∧ e = .returned (.int .i64 v) ∧ StooK B w0 (n + 1) w' ∧ KeepX B W w' := by
  refine (f5_any B n m W h.1 (by omega) h1 h2).mono ?_
  rintro e w' ⟨v, h3, rfl, h4, h5⟩
  exact ⟨v, h3, rfl, ⟨h4, h.2.trans h5⟩, h5⟩
/-- the draws that are done -/
def cntD (D : Nat → Bool) : Nat := (if D 4 = true then 1 else 0) + (if D 8 = true then 1 else 0) + (if D 10 = true then 1 else 0)
theorem cntD_le (D : Nat → Bool) (n : Nat) (h : n ≤ 900 := by decide) : n + cntD D ≤ 1000 := by
  unfold cntD
  split <;> split <;> split <;> omega
def StoD (B : Nat) (w0 : World) (D : Nat → Bool) (W : World) : Prop := StooK B w0 (710 + cntD D) W
theorem StoD.zero {B : Nat} {w0 : World} {D : Nat → Bool} (h4 : D 4 = false) (h8 : D 8 = false) (h10 : D 10 = false) (h : StoreAt w0.drew B 710) : StoD B w0 D w0.drew := by
  unfold StoD cntD
  rw [h4, h8, h10]
  exact ⟨h, (KeepX.refl _ _).drew⟩
theorem StoD.end_ {B : Nat} {w0 W : World} {D : Nat → Bool} (h : StoD B w0 D W) (h4 : D 4 = true) (h8 : D 8 = true) (h10 : D 10 = true) : StooK B w0 713 W := by
  unfold StoD cntD at h
  rw [h4, h8, h10] at h
  exact h
theorem StoD.upd {B i : Nat} {w0 W : World} {D : Nat → Bool} (h : StoD B w0 D W) (h4 : 4 ≠ i) (h8 : 8 ≠ i) (h10 : 10 ≠ i) : StoD B w0 (fun j => decide (j = i) || D j) W := by
  unfold StoD cntD at *
  simp only [h4, h8, h10, decide_false, Bool.false_or]
  exact h
theorem StoD.call4 {B : Nat} {w0 W : World} {D : Nat → Bool} (hD : D 4 = false) (h : StooK B w0 (710 + cntD D + 1) W) : StoD B w0 (fun j => decide (j = 4) || D j) W := by
  unfold StoD cntD at *
  rw [hD] at h
  simp at h ⊢
  exact ⟨h.1.mono (by omega), h.2⟩
theorem StoD.call8 {B : Nat} {w0 W : World} {D : Nat → Bool} (hD : D 8 = false) (h : StooK B w0 (710 + cntD D + 1) W) : StoD B w0 (fun j => decide (j = 8) || D j) W := by
  unfold StoD cntD at *
  rw [hD] at h
  simp at h ⊢
  exact ⟨h.1.mono (by omega), h.2⟩
theorem StoD.call10 {B : Nat} {w0 W : World} {D : Nat → Bool} (hD : D 10 = false) (h : StooK B w0 (710 + cntD D + 1) W) : StoD B w0 (fun j => decide (j = 10) || D j) W := by
  unfold StoD cntD at *
  rw [hD] at h
  simp at h ⊢
  exact ⟨h.1.mono (by omega), h.2⟩
theorem StoD.alloc {B : Nat} {w0 W : World} {D : Nat → Bool} (h : StoD B w0 D W) (o : Obj) : StoD B w0 D (W.alloc o) := StooK.alloc h o
/-- what the operations promise that draw a string -/
def pauR (B lo i D : Nat) (j : Nat) (v : Value) (W : World) : Prop :=
  match j with
  | 0 => v = .int .i64 i
  | 1 => v = .pointer (some ⟨B, 0, none⟩)
  | 2 => v = .int .i64 i
  | 3 => v = .int .i64 D
  | 4 => ∃ x : Nat, x < D ∧ v = .int .i64 x
  | 5 => v = .pointer (some ⟨B, 0, none⟩)
  | 6 => v = .int .i64 i
  | 7 => v = .int .i64 D
  | 8 => ∃ x : Nat, x < D ∧ v = .int .i64 x
  | 9 => v = .pointer (some ⟨B, 0, none⟩)
  | 10 => ∃ x : Nat, x < 4 ∧ v = .int .i64 x
  | 11 => ∃ x z p : Nat, x < D ∧ z < D ∧ p < 4 ∧ v = .agg #[.int .i64 i, .int .i64 x, .int .i64 z, .int .i64 p]
  | 12 => ∃ P, v = .pointer (some ⟨P, 0, none⟩) ∧ B < P ∧ lo ≤ P ∧ Blk W P 49 #[.int .i64 0, .int .i64 0, .int .i64 0, .int .i64 0]
  | _ => True
theorem pauR_stable {B lo i D j : Nat} {v : Value} {W W' : World} (hk : KeepX B W W') (h : pauR B lo i D j v W) : pauR B lo i D j v W' := by
  unfold pauR at *
  split at h
  case h_13 =>
    obtain ⟨P, h1, h2, h3, h4⟩ := h
    exact ⟨P, h1, h2, h3, h4.keepX hk (by omega)⟩
  all_goals exact h
/-- a table that is drawn -/
def TabPost (B n N nx : Nat) (w : World) (e : Ending) (w' : World) : Prop := ∃ T tw pw gs, e = .returned (.pointer (some ⟨T, 0, none⟩)) ∧ TabOk tw pw N ∧ Hid (colM gs = pM tw pw (fun _ => true)) ∧ (∀ g ∈ gs, Gt.ok g n) ∧ gs.length ≤ 120 ∧ TableAt w' w.heap.size T n N tw pw gs ∧ StoreAt w' B (nx + 300) ∧ KeepX B w w'
theorem f6_tab (B n N nx : Nat) (w : World) (hS : StoreAt w B nx) (hx : nx ≤ 999970000) (hn1 : 1 ≤ n) (hn : n ≤ 6) (hN : Hid (2 ^ n = N)) :
    Calls Tryz.prog 6 #[.pointer (some ⟨B, 0, none⟩), .int .i64 n] w (TabPost B n N nx w) := by
  refine (f6_any B n N nx w hS hx hn1 hn hN).mono ?_
  rintro e w' ⟨T, gs, rfl, h1, h2, h3, h4, h5⟩
  exact ⟨T, _, _, gs, rfl, tabOk n N hn hN.out gs h1, Lib.hid (colM_pM gs), h1, by omega, h3, h4, h5⟩
end
section
open Go.RowKit
attribute [local go_sem ↓] Go.wp_at_zero Go.wp_at_succ
set_option maxHeartbeats 4000000 in
set_option maxRecDepth 100000 in
theorem f3_any (A : Option Addr) (n c : Nat) (w : World) (H4 : Calls Tryz.prog 4 #[.slice A n c] w (OfPost w)) :
    Calls Tryz.prog 3 #[.slice A n c] w fun e w' => e = .returned (.bool true) ∧ Below w.heap.size w w' := by
  go_enter Tryz.func3, Tryz.ntmps3
  go_wp2_with (go_at_call 4; refine H4.mono ?_; clear H4; rintro e w1 ⟨B, hB, rfl, hS1, hb1⟩)
  have hS1a := hS1.below ((Below.refl _ _).alloc (Nat.le_refl _) (.cells wiresA 3))
  have hWr := Blk.new w1 3 wiresA
  go_wp2_with (go_at_call 5; refine (f5_any B 0 7 _ hS1a (by decide) (by decide) (by decide)).mono ?_; rintro e w2 ⟨v, hv, rfl, hS2, hK2⟩; obtain ⟨k, hk1, hk5, hkw⟩ := wires7 v hv; have cWr : w2.cell? ⟨w1.heap.size, v, none⟩ = some (.int .i64 k) := (hK2.cell (p := ⟨w1.heap.size, v, none⟩) hWr.lt (Nat.ne_of_gt hS1.lt)).trans ((hWr.cells v).trans hkw))
  obtain ⟨N, hNe⟩ : ∃ N, 2 ^ k = N := ⟨_, rfl⟩
  have hNb := pow6 k hk1 (by omega)
  rw [hNe] at hNb
  have hN := Lib.hid hNe
  clear hNe
  have hbw2 : Below w.heap.size w w2 := below_keep (hb1.alloc hb1.size _) (Nat.le_refl _) hB hK2
  go_wp2_with (go_at_call 6; refine (f6_tab B k N _ _ hS2 (by decide) hk1 (by omega) hN).mono ?_; rintro e w3 ⟨T, tw, pw, gs, rfl, hok, hcol, hg, hgl, hT3, hS3, hK3⟩)
  have hB2 := hS2.lt
  have H7c := f7_any _ B T k N _ tw pw gs w3 hk1 (by omega) hN hT3 hok hcol hg hgl hS3 (by decide) hB2
  clear hg hcol
  have hbw3 : Below w.heap.size w w3 := below_keep hbw2 (Nat.le_refl _) hB hK3
  go_wp2_with (go_at_call 7; refine H7c.mono ?_; clear H7c; rintro e w4 ⟨rfl, hS4, hK4⟩)
  have hbw4 : Below w.heap.size w w4 := below_keep hbw3 (Nat.le_refl _) hB hK4
  have hT4 := hT3.keepX hK4 hB2
  obtain ⟨lo, hlo⟩ : ∃ lo, w2.heap.size = lo := ⟨_, rfl⟩
  rw [hlo] at hT4 hB2
  have hS4 := hS4.mono (show 0 + 1 + 300 + 1 + 5 * N ≤ 700 by omega)
  clear hlo hT3 hS3 hS2 hK2 hK3 hK4 hbw2 hbw3 hWr hS1a hS1 hb1 cWr hkw
  go_wp2_with (go_at_call 5; refine (f5_any B 700 3 _ hS4 (by decide) (by decide) (by decide)).mono ?_; rintro e w5 ⟨u, hu, rfl, hS5, hK5⟩)
  obtain ⟨Wn, hWe⟩ : ∃ Wn : Nat, min 6 ((k : Int) + (u : Int)) = (Wn : Int) := ⟨min 6 (k + u), by omega⟩
  have hkW : k ≤ Wn := by omega
  have hW6 : Wn ≤ 6 := by omega
  rw [hWe]
  have hbw5 : Below w.heap.size w w5 := below_keep hbw4 (Nat.le_refl _) hB hK5
  have hT5 := hT4.keepX hK5 hB2
  clear hWe hu hK5 hT4 hbw4 hS4
  refine (f8_any B (700 + 1) Wn _ hS5 (by decide) (by omega) (by omega)).mono ?_
  rintro e w6 ⟨zs, hzp, lb, lc, rfl, hI, hlb, hS6, hK6⟩
  have hzl : zs.length = Wn := by rw [hzp.length_eq, List.length_range]
  have hzc : Wn ≤ lc := by obtain ⟨cs, o1, o2, o3, o4⟩ := hI; unfold zInts at o3; rw [List.length_map] at o3; omega
  go_wp2_with (fail)
  have hbw6 : Below w.heap.size w w6 := below_keep hbw5 (Nat.le_refl _) hB hK6
  have hT6 := hT5.keepX hK6 hB2
  have hL := wiresOk hzp hkW
  have hcl := wires_cells hI k (by omega)
  have llb := hI.lt
  obtain ⟨ls, hls⟩ : ∃ ls, zs.take k = ls := ⟨_, rfl⟩
  rw [hls] at hL hcl
  obtain ⟨NN, hNNe⟩ : ∃ NN, 2 ^ Wn = NN := ⟨_, rfl⟩
  have hNNb := pow6 Wn (by omega) hW6
  rw [hNNe] at hNNb
  have hNN := Lib.hid hNNe
  clear hNNe hls hI hlb hK6 hT5 hbw5 hS5 hS4
  have hto : ∀ i, i < N → tw i < N ∧ pw i < 8 := fun i hi => ⟨hok.t i hi, hok.p i hi⟩
  refine (f10_any lo T k N tw pw gs false w6 hk1 (by omega) hN hT6 hto).mono ?_
  rintro e w7 ⟨b7, c7, rb7, rc7, rfl, hG7, hb7⟩
  have hd7 : 1 ≤ N ∧ N ≤ 64 ∧ 1 ≤ N ∧ N ≤ 64 := by omega
  have hdd : 1 ≤ NN ∧ NN ≤ 64 ∧ 1 ≤ NN ∧ NN ≤ 64 := by omega
  go_wp2_with (fail)
  refine (f9_any c7 ls lb lc k Wn NN w7 (hG7.mat hd7) (fun i j _ _ => ⟨(tabM_ok i j).1, (tabM_ok i j).2.1⟩) hN hNN hL.len hk1 hkW hW6 hL.lt hL.nd (by omega) (Nat.lt_of_lt_of_le llb hb7.size) (fun j hj => keep_cell (p := ⟨lb, j, none⟩) hb7 llb (hcl j hj))).mono ?_
  rintro e w8 ⟨B8, hB8, rfl, hF8, hb8⟩
  have hb68 := bt hb7 hb8
  go_wp2_with (fail)
  refine (f12_any lo T k N Wn NN lb lc ls tw pw gs w8 hk1 hkW hW6 hN hNN (hT6.below hb68) hto hL.getD (Nat.lt_of_lt_of_le llb hb68.size) (fun j hj => keep_cell (p := ⟨lb, j, none⟩) hb68 llb (hcl j hj))).mono ?_
  rintro e w9 ⟨b9, c9, rb9, rc9, rfl, hG9, hb9⟩
  go_wp2_with (fail)
  refine (f11_same NN c9 w9 ((hF8.below hb9).mat hdd) (hG9.mat hdd) (fun i j hi hj => on_spread (fun q hq => Nat.lt_of_lt_of_le (hL.getD q hq) hW6) hL.inj hN.out hNN.out hW6 hto i j hi hj)).mono ?_
  rintro e w10 ⟨rfl, hb10⟩
  have hbw10 : Below w.heap.size w w10 := (hbw6.trans ((bt hb68 (bt hb9 hb10)).mono hbw6.size))
  have hS10 := hS6.below (bt hb68 (bt hb9 hb10))
  have hS10 := hS10.mono (show 700 + 1 + Wn ≤ 710 by omega)
  clear hb10 hb9 hG9 hb68 hb8 hF8 hB8 hb7 hG7 hcl hto hT6 hok hL llb hdd hNN hNNb hS6 hbw6 hzc hzl hzp
  go_wp2_with (fail)
  have H13 : Calls Tryz.prog 13 #[.int .i64 4] w10 (fun e w' => ∃ b off, e = .returned (.tuple #[.slice (some ⟨b, off, none⟩) 2 2, .int .i64 0]) ∧ Mat w' (some ⟨b, off, none⟩) 2 2 hM ∧ Below w10.heap.size w10 w') := f13_any 4 w10 (by decide) (by decide)
  refine H13.mono ?_
  clear H13
  rintro e w11 ⟨hb, ho, rfl, hH, hb11⟩
  have hbw11 := bt hbw10 hb11
  have hS11 := hS10.below hb11
  have lB11 := hS11.lt
  have hC0 := Blk.new w11 43 #[.int .i64 k, .int .i64 0, .slice none 0 0]
  have hbC := (Below.refl w11.heap.size w11).alloc (Nat.le_refl _) (.cells #[.int .i64 k, .int .i64 0, .slice none 0 0] 43)
  clear hbw10 hb11 hS10
  go_wp2_with (fail)
  obtain ⟨C, hCe⟩ : ∃ C, w11.heap.size = C := ⟨_, rfl⟩
  have hL0 : KronA w11 (w11.alloc (.cells #[.int .i64 k, .int .i64 0, .slice none 0 0] 43)) C B k 0 (.slice (some ⟨hb, ho, none⟩) 2 2) := by
    rw [← hCe]
    refine ⟨2, .slice none 0 0, _, 2, [], rfl, hC0, ⟨World.ownsRow_nil _ _ _ _, fun x hx => by cases hx⟩, rfl, ?_, rfl, hbC⟩
    exact (MatOff.of_mat (P := fun b => b ≠ w11.heap.size) hH (fun b hb => Nat.ne_of_lt hb)).keep hbC.size (fun b hb hP => ⟨hbC.block b hb, hP, fun e => by cases e⟩) |>.congr (fun i j hi hj => wav_one i hi j hj)
  rw [hCe] at lB11 hC0 hbC
  rw [hCe]
  generalize w11.alloc (.cells #[.int .i64 k, .int .i64 0, .slice none 0 0] 43) = w12 at hL0 hC0 hbC ⊢
  have hCH := Lib.hid hCe
  clear hCe hC0 hbC
  go_loopg [9, 11, 76] k (fun gg s9 s11 s76 wr => ∃ i : Nat, i ≤ k ∧ k - i ≤ gg ∧ s76 = .int .i64 i ∧ s9 = .int .i64 0 ∧ Aside (KronA w11 wr C B k i s11))
  case atStart => exact ⟨0, Nat.zero_le _, by omega, rfl, rfl, (show Aside _ from hL0)⟩
  case round =>
    obtain ⟨i, hi, hgg, rfl, rfl, AL⟩ := hrel
    obtain ⟨D, gv, A', cap, xs, rfl, hKL⟩ := AL.out
    clear AL hL0
    have cC := hKL.c.cells
    have lC := hKL.c.lt
    by_cases hlt : i < k
    · have hltz : (i : Int) < (k : Int) := by omega
      have hO1 := ownsRow_alloc (ownsRow_alloc hKL.g.row (.cells #[.int .i64 i] 3)) (.cells #[.int .i64 4, .slice (some ⟨wr.heap.size, 0, none⟩) 1 1, .int .i64 0, .int .i64 0] 45)
      have hN1 : Blk ((wr.alloc (.cells #[.int .i64 i] 3)).alloc (.cells #[.int .i64 4, .slice (some ⟨wr.heap.size, 0, none⟩) 1 1, .int .i64 0, .int .i64 0] 45)) (wr.heap.size + 1) 45 #[.int .i64 4, .slice (some ⟨wr.heap.size, 0, none⟩) 1 1, .int .i64 0, .int .i64 0] := Blk.new' _ _ (by simp)
      have hxl : xs.length = i := hKL.len
      have hlo1 : C + 1 ≤ ((wr.alloc (.cells #[.int .i64 i] 3)).alloc (.cells #[.int .i64 4, .slice (some ⟨wr.heap.size, 0, none⟩) 1 1, .int .i64 0, .int .i64 0] 45)).heap.size := by simp; omega
      have hC1 := (hKL.c.alloc (.cells #[.int .i64 i] 3)).alloc (.cells #[.int .i64 4, .slice (some ⟨wr.heap.size, 0, none⟩) 1 1, .int .i64 0, .int .i64 0] 45)
      have hgC : gv.ownBlock ≠ some C := fun e => by have := (ownsRow_block hKL.g.row C e).1; omega
      have hd6 := pow6 (max i 1) (by omega) (by omega)
      rw [hKL.d] at hd6
      by_cases hi0 : 0 < i
      · skip
        have hiz : (0 : Int) < (i : Int) := by omega
        go_wp2_with (at_builtin; refine wl_app rfl _ _ 41 rfl (C + 1) 45 _ 4 48 und41 info45 rfl (by decide) (by decide) _ _ _ rfl hO1 (wr.heap.size + 1) 45 #[.int .i64 4, .slice (some ⟨wr.heap.size, 0, none⟩) 1 1, .int .i64 0, .int .i64 0] rfl hN1 rfl (by simp [Value.oneCell']) (by omega) hlo1 (wr.heap.size + 2) (by simp) ?_; intro g gc w2 hO2 hgr hat hlt2; have hC2 := hC1.grown hgr hgC; have cC2 := hC2.cells; have fC2 := hC2.frozen; have lC2 := hC2.lt)
        have hst := hKL.step lB11 hCH.out hO2 hgr hat hlt2
        rw [hxl] at hst
        obtain ⟨xs', hx', hG', hC', hM', hb', hs'⟩ := hst
        clear hO2 hgr hat hC2 cC2 fC2 lC2 hO1 hN1 hC1 hlo1 cC lC
        have hmx : max i 1 = i := by omega
        have hKd := hKL.d
        rw [hmx] at hKd hM'
        have h2d : 2 ^ (i + 1) = 2 * D := by rw [Nat.pow_succ, hKd, Nat.mul_comm]
        have hp6 := pow6 (i + 1) (by omega) (by omega)
        rw [h2d] at hp6
        have hl3 : g < (w2.setCell ⟨C, 2, none⟩ (.slice (some ⟨g, 0, none⟩) (i + 1 : Nat) gc)).heap.size := by simp; exact hlt2
        have hH3 := hH.below (w' := w2.setCell ⟨C, 2, none⟩ (.slice (some ⟨g, 0, none⟩) (i + 1 : Nat) gc)) (by rw [hCH.out]; exact hb')
        clear hKL
        generalize w2.setCell ⟨C, 2, none⟩ (.slice (some ⟨g, 0, none⟩) (i + 1 : Nat) gc) = wq at hG' hC' hM' hb' hs' hl3 hH3 ⊢
        refine (f14_wav i D (2 * D) (by omega) hKd rfl hp6.2 _ _ wq hH3 hM'.mat).mono ?_
        rintro e w4 ⟨Bk, hBk, rfl, hF, hb4⟩
        have hlC := hC'.lt
        go_wp2_with (fail)
        have hmx2 : max (i + 1) 1 = i + 1 := by omega
        have hKL' : KronL w11 w4 C B k (i + 1) (2 * D) (.slice (some ⟨g, 0, none⟩) (i + 1 : Nat) gc) (some ⟨Bk, 0, none⟩) xs' := by
          refine ⟨hC'.below hb4, hG'.below (by omega) hb4, hx', ?_, by rw [hmx2]; exact h2d, hb'.trans (hb4.mono (by omega))⟩
          rw [hmx2]
          exact hF.off (by omega) (fun b hb => ⟨by omega, fun e => by have e2 : g = b := Option.some.inj (show (some g : Option Nat) = some b from e); omega⟩)
        go_roundg (k - (i + 1))
        case measure => omega
        case rel => exact ⟨i + 1, by omega, by omega, by go_num, rfl, (show Aside _ from ⟨2 * D, _, _, _, xs', rfl, hKL'⟩)⟩
      · skip
        obtain rfl : i = 0 := by omega
        have hiz : ¬ (0 : Int) < ((0 : Nat) : Int) := by decide
        go_wp2_with (at_builtin; refine wl_app rfl _ _ 41 rfl (C + 1) 45 _ 4 48 und41 info45 rfl (by decide) (by decide) _ _ _ rfl hO1 (wr.heap.size + 1) 45 #[.int .i64 4, .slice (some ⟨wr.heap.size, 0, none⟩) 1 1, .int .i64 0, .int .i64 0] rfl hN1 rfl (by simp [Value.oneCell']) (by omega) hlo1 (wr.heap.size + 2) (by simp) ?_; intro g gc w2 hO2 hgr hat hlt2; have hC2 := hC1.grown hgr hgC; have cC2 := hC2.cells; have fC2 := hC2.frozen; have lC2 := hC2.lt)
        have hst := hKL.step lB11 hCH.out hO2 hgr hat hlt2
        rw [hxl] at hst
        obtain ⟨xs', hx', hG', hC', hM', hb', hs'⟩ := hst
        clear hO2 hgr hat hC2 cC2 fC2 lC2 hO1 hN1 hC1 hlo1 cC lC
        have hKL' : KronL w11 (w2.setCell ⟨C, 2, none⟩ (.slice (some ⟨g, 0, none⟩) (0 + 1 : Nat) gc)) C B k (0 + 1) D (.slice (some ⟨g, 0, none⟩) (0 + 1 : Nat) gc) A' xs' := ⟨hC', hG', hx', hM', hKL.d, hb'⟩
        clear hKL hC' hG' hM' hb'
        go_roundg (k - (0 + 1))
        case measure => omega
        case rel => exact ⟨0 + 1, by omega, by omega, by go_num, rfl, (show Aside _ from ⟨D, _, _, _, xs', rfl, hKL'⟩)⟩
    · have hltz : ¬ (i : Int) < (k : Int) := by omega
      obtain rfl : i = k := by omega
      clear hlt hgg
      have hmx : max i 1 = i := by omega
      have hKd := hKL.d
      have hKm := hKL.m
      have hx := hKL.xs
      have hKg := hKL.g
      have hKc := hKL.c
      have hKb := hKL.b
      rw [hmx] at hKd hKm
      obtain rfl : D = N := hKd.symm.trans hN.out
      clear hKL
      have hdd : 1 ≤ D ∧ D ≤ 64 ∧ 1 ≤ D ∧ D ≤ 64 := by omega
      go_wp2_with (fail)
      refine (f15_any i D wr hk1 (by omega) hN).mono ?_
      rintro e w13 ⟨b13, c13, rb13, rc13, rfl, hG13, hb13⟩
      go_wp2_with (fail)
      refine (f11_same cap c13 w13 ((hKm.mat).below hb13) (hG13.mat hdd) (fun _ _ _ _ => rfl)).mono ?_
      rintro e w14 ⟨rfl, hb14⟩
      have hb1 := bt hb13 hb14
      have hM14 := hKm.mat.below hb1
      have hC14 := hKc.below hb1
      have hR14 := (hKg.gates (Nat.le_refl _)).below hb1
      rw [hx] at hR14
      have hbC14 : Below C w11 w14 := hKb.trans (hb1.mono (by omega))
      have hS14 := hS11.below (by rw [hCH.out]; exact hbC14)
      have hbw14 : Below w.heap.size w w14 := hbw11.trans (hbC14.mono (by have h := hCH.out; have h2 := hbw11.size; omega))
      clear hb1 hb14 hb13 hG13 hKm hKg hKb hKc hx hS11 hbw11 hH
      go_wp2_with (fail)
      have hsh : (1 : Int) ≤ D ∧ (D : Int) ≤ 64 := by omega
      have hw1 := w64s i (by omega)
      rw [hN.out] at hw1
      have hw2 : IntKind.i64.wrap (2 ^ i) = (D : Int) := by rw [IntKind.wrap_i64]; have h := hw1; unfold wrap64 at h; exact h
      go_cut [14] from 109 (fun s14 wx => ∃ (P x z p : Nat), s14 = .pointer (some ⟨P, 0, none⟩) ∧ x < D ∧ z < D ∧ p < 4 ∧ Blk wx P 49 #[.int .i64 i, .int .i64 x, .int .i64 z, .int .i64 p] ∧ StoreAt wx B 720 ∧ KeepX B w14 wx)
      case first =>
        have hS14d : StoreAt w14.drew B 710 := hS14.below (Below.refl _ _).drew
        clear hS14
        refine wp_named (fun a0 ha0 => ?_)
        refine Rely.wp_region_tailJ (C := StoD B w14) (T := fun _ W W' => KeepX B W W') (R := fun j vs W1 => pauR B w14.heap.size i D j (vs j) W1) (N := 224) (m := 13) (by kernel_rfl) (by kernel_rfl) (by rw [ha0]; rfl) (fun i j vs A A' _ _ _ _ hT h => pauR_stable hT h) (fun i vs vs' A hi _ h => by rw [← hi]; exact h) (fun D0 hD => StoD.zero (hD 4 (by decide)) (hD 8 (by decide)) (hD 10 (by decide)) hS14d) (fun j o hj ho D0 ρ vs W1 hD0 hDd hdn hC hk => ?hstep) (fun D0 vs W1 hD hC hR => ?hQ)
        case hQ =>
          obtain ⟨x, z, p, hx, hz, hp, e11⟩ : ∃ x z p : Nat, x < D ∧ z < D ∧ p < 4 ∧ vs 11 = .agg #[.int .i64 i, .int .i64 x, .int .i64 z, .int .i64 p] := hR 11 (by decide)
          obtain ⟨P, e12, hBP, hlP, hP⟩ : ∃ P, vs 12 = .pointer (some ⟨P, 0, none⟩) ∧ B < P ∧ w14.heap.size ≤ P ∧ Blk W1 P 49 #[.int .i64 0, .int .i64 0, .int .i64 0, .int .i64 0] := hR 12 (by decide)
          have hSE := hC.end_ (hD 4 (by decide)) (hD 8 (by decide)) (hD 10 (by decide))
          refine tailJ_lit ?_
          simp only [List.drop_succ_cons, List.drop_zero]
          generalize hA : Rely.putL _ a0 vs (fun _ => true) 13 = A
          rw [putS 12 (d := some 14) (by kernel_rfl), putL_seg 109 12 12 (by kernel_rfl) (Nat.le_refl _) (by rw [ha0]; exact Nat.le_of_ble_eq_true rfl), ha0] at hA
          subst hA
          clear hR hC hD ha0
          have cP := hP.cells
          have fP := hP.frozen
          have lP := hP.lt
          rw [e12]
          simp only [List.take_succ_cons, List.take_zero, List.drop_succ_cons, List.drop_zero, List.range, List.range.loop, List.map_cons, List.map_nil, List.cons_append, List.nil_append, Act.put, List.setIfInBounds_toArray, List.set_cons_succ, List.set_cons_zero]
          rw [e11]
          clear e11 e12
          go_wp2_with (fail)
          go_meet
          case rel => exact ⟨P, x, z, p, rfl, hx, hz, hp, hP.set4 (.int .i64 i) (.int .i64 x) (.int .i64 z) (.int .i64 p), ((((hSE.1.mono (by decide)).far (p := ⟨P, 0, none⟩) hBP _).far (p := ⟨P, 1, none⟩) hBP _).far (p := ⟨P, 2, none⟩) hBP _).far (p := ⟨P, 3, none⟩) hBP _, (((hSE.2.setOwn (p := ⟨P, 0, none⟩) hlP _).setOwn (p := ⟨P, 1, none⟩) hlP _).setOwn (p := ⟨P, 2, none⟩) hlP _).setOwn (p := ⟨P, 3, none⟩) hlP _⟩
        case hstep =>
          obtain rfl | rfl | rfl | rfl | rfl | rfl | rfl | rfl | rfl | rfl | rfl | rfl | rfl : j = 0 ∨ j = 1 ∨ j = 2 ∨ j = 3 ∨ j = 4 ∨ j = 5 ∨ j = 6 ∨ j = 7 ∨ j = 8 ∨ j = 9 ∨ j = 10 ∨ j = 11 ∨ j = 12 := by omega
          · obtain rfl : _ = o := Option.some.inj ho
            have e4 : ρ (.tmp 4) = (.int .i64 (i : Int)) := (hk.2 (.tmp 4) (notDstM_spec (by kernel_rfl))).trans (by rw [ha0]; rfl)
            clear hk
            go_simp
            exact ⟨hC.upd (by decide) (by decide) (by decide), KeepX.refl _ _, rfl⟩
          · obtain rfl : _ = o := Option.some.inj ho
            have e3 : ρ (.tmp 3) = (.pointer (some ⟨B, 0, none⟩)) := (hk.2 (.tmp 3) (notDstM_spec (by kernel_rfl))).trans (by rw [ha0]; rfl)
            clear hk
            go_simp
            exact ⟨hC.upd (by decide) (by decide) (by decide), KeepX.refl _ _, rfl⟩
          · obtain rfl : _ = o := Option.some.inj ho
            have e4 : ρ (.tmp 4) = (.int .i64 (i : Int)) := (hk.2 (.tmp 4) (notDstM_spec (by kernel_rfl))).trans (by rw [ha0]; rfl)
            clear hk
            go_simp
            exact ⟨hC.upd (by decide) (by decide) (by decide), KeepX.refl _ _, rfl⟩
          · obtain rfl : _ = o := Option.some.inj ho
            have e111 : ρ (.tmp 111) = (.int .i64 (i : Int)) := ((hk.1 2 (mem_direct (by kernel_rfl))).2 111 (by kernel_rfl)).trans (hk.1 2 (mem_direct (by kernel_rfl))).1
            have ec : ρ (.const (.int .i64 1)) = .int .i64 1 := hk.2 (.const (.int .i64 1)) (fun _ _ _ _ e => by cases e)
            clear hk
            go_simp
            exact ⟨hC.upd (by decide) (by decide) (by decide), KeepX.refl _ _, rfl⟩
          · obtain rfl : _ = o := Option.some.inj ho
            have e110 : ρ (.tmp 110) = (.pointer (some ⟨B, 0, none⟩)) := ((hk.1 1 (mem_direct (by kernel_rfl))).2 110 (by kernel_rfl)).trans (hk.1 1 (mem_direct (by kernel_rfl))).1
            have e112 : ρ (.tmp 112) = (.int .i64 (D : Int)) := ((hk.1 3 (mem_direct (by kernel_rfl))).2 112 (by kernel_rfl)).trans (hk.1 3 (mem_direct (by kernel_rfl))).1
            have ef : ρ (.func 5) = .func (.func 5) #[] #[] := hk.2 (.func 5) (fun _ _ _ _ e => by cases e)
            clear hk
            go_simp
            refine (f5_st W1 _ D (cntD_le D0 710) hdd.1 (Nat.le_trans hdd.2.1 (by decide)) hC).mono ?_
            rintro e w' ⟨v, hv, rfl, hS, hK⟩
            exact ⟨_, rfl, StoD.call4 hD0 hS, hK, v, hv, rfl⟩
          · obtain rfl : _ = o := Option.some.inj ho
            have e3 : ρ (.tmp 3) = (.pointer (some ⟨B, 0, none⟩)) := (hk.2 (.tmp 3) (notDstM_spec (by kernel_rfl))).trans (by rw [ha0]; rfl)
            clear hk
            go_simp
            exact ⟨hC.upd (by decide) (by decide) (by decide), KeepX.refl _ _, rfl⟩
          · obtain rfl : _ = o := Option.some.inj ho
            have e4 : ρ (.tmp 4) = (.int .i64 (i : Int)) := (hk.2 (.tmp 4) (notDstM_spec (by kernel_rfl))).trans (by rw [ha0]; rfl)
            clear hk
            go_simp
            exact ⟨hC.upd (by decide) (by decide) (by decide), KeepX.refl _ _, rfl⟩
          · obtain rfl : _ = o := Option.some.inj ho
            have e115 : ρ (.tmp 115) = (.int .i64 (i : Int)) := ((hk.1 6 (mem_direct (by kernel_rfl))).2 115 (by kernel_rfl)).trans (hk.1 6 (mem_direct (by kernel_rfl))).1
            have ec : ρ (.const (.int .i64 1)) = .int .i64 1 := hk.2 (.const (.int .i64 1)) (fun _ _ _ _ e => by cases e)
            clear hk
            go_simp
            exact ⟨hC.upd (by decide) (by decide) (by decide), KeepX.refl _ _, rfl⟩
          · obtain rfl : _ = o := Option.some.inj ho
            have e114 : ρ (.tmp 114) = (.pointer (some ⟨B, 0, none⟩)) := ((hk.1 5 (mem_direct (by kernel_rfl))).2 114 (by kernel_rfl)).trans (hk.1 5 (mem_direct (by kernel_rfl))).1
            have e116 : ρ (.tmp 116) = (.int .i64 (D : Int)) := ((hk.1 7 (mem_direct (by kernel_rfl))).2 116 (by kernel_rfl)).trans (hk.1 7 (mem_direct (by kernel_rfl))).1
            have ef : ρ (.func 5) = .func (.func 5) #[] #[] := hk.2 (.func 5) (fun _ _ _ _ e => by cases e)
            clear hk
            go_simp
            refine (f5_st W1 _ D (cntD_le D0 710) hdd.1 (Nat.le_trans hdd.2.1 (by decide)) hC).mono ?_
            rintro e w' ⟨v, hv, rfl, hS, hK⟩
            exact ⟨_, rfl, StoD.call8 hD0 hS, hK, v, hv, rfl⟩
          · obtain rfl : _ = o := Option.some.inj ho
            have e3 : ρ (.tmp 3) = (.pointer (some ⟨B, 0, none⟩)) := (hk.2 (.tmp 3) (notDstM_spec (by kernel_rfl))).trans (by rw [ha0]; rfl)
            clear hk
            go_simp
            exact ⟨hC.upd (by decide) (by decide) (by decide), KeepX.refl _ _, rfl⟩
          · obtain rfl : _ = o := Option.some.inj ho
            have e118 : ρ (.tmp 118) = (.pointer (some ⟨B, 0, none⟩)) := ((hk.1 9 (mem_direct (by kernel_rfl))).2 118 (by kernel_rfl)).trans (hk.1 9 (mem_direct (by kernel_rfl))).1
            have ec : ρ (.const (.int .i64 4)) = .int .i64 4 := hk.2 (.const (.int .i64 4)) (fun _ _ _ _ e => by cases e)
            have ef : ρ (.func 5) = .func (.func 5) #[] #[] := hk.2 (.func 5) (fun _ _ _ _ e => by cases e)
            clear hk
            go_simp
            refine (f5_st W1 _ 4 (cntD_le D0 710) (by decide) (by decide) hC).mono ?_
            rintro e w' ⟨v, hv, rfl, hS, hK⟩
            exact ⟨_, rfl, StoD.call10 hD0 hS, hK, v, hv, rfl⟩
          · obtain rfl : _ = o := Option.some.inj ho
            have e109 : ρ (.tmp 109) = (.int .i64 (i : Int)) := ((hk.1 0 (mem_direct (by kernel_rfl))).2 109 (by kernel_rfl)).trans (hk.1 0 (mem_direct (by kernel_rfl))).1
            obtain ⟨x, hx, q4⟩ : ∃ x : Nat, x < D ∧ vs 4 = .int .i64 x := (hk.1 4 (mem_direct (by kernel_rfl))).1
            have e113 : ρ (.tmp 113) = .int .i64 x := ((hk.1 4 (mem_direct (by kernel_rfl))).2 113 (by kernel_rfl)).trans q4
            obtain ⟨z, hz, q8⟩ : ∃ z : Nat, z < D ∧ vs 8 = .int .i64 z := (hk.1 8 (mem_direct (by kernel_rfl))).1
            have e117 : ρ (.tmp 117) = .int .i64 z := ((hk.1 8 (mem_direct (by kernel_rfl))).2 117 (by kernel_rfl)).trans q8
            obtain ⟨p, hp, q10⟩ : ∃ p : Nat, p < 4 ∧ vs 10 = .int .i64 p := (hk.1 10 (mem_direct (by kernel_rfl))).1
            have e119 : ρ (.tmp 119) = .int .i64 p := ((hk.1 10 (mem_direct (by kernel_rfl))).2 119 (by kernel_rfl)).trans q10
            clear q4 q8 q10
            clear hk
            go_simp
            exact ⟨hC.upd (by decide) (by decide) (by decide), KeepX.refl _ _, x, z, p, hx, hz, hp, rfl⟩
          · obtain rfl : _ = o := Option.some.inj ho
            clear hk
            go_simp
            exact ⟨StoD.upd (StoD.alloc hC _) (by decide) (by decide) (by decide), (KeepX.refl _ _).alloc _, W1.heap.size, rfl, hC.1.lt, hC.2.size, Blk.new _ _ _⟩
      case rest =>
        obtain ⟨P, x, z, p, rfl, hx, hz, hp, hP, hS15, hK15⟩ := hcut
        clear hw1 hw2 hsh
        have hD2 : 2 ≤ D := hNb.1
        have hi6 : i ≤ 6 := Nat.le_trans hk5 (by decide)
        have hCB : C ≠ B := Nat.ne_of_gt lB11
        have hM15 := hM14.keepX hS14 hD2 hK15
        have hC15 := hC14.keepX hK15 hCB
        have hR15 : GatesR wc (C + 1) gv (hGs i) := hR14.keep hK15.size (fun k h1 h2 => hK15.block k h2 (Nat.ne_of_gt (Nat.lt_of_lt_of_le lB11 (Nat.le_of_succ_le h1))))
        have hbw15 : Below w.heap.size w wc := below_keep hbw14 (Nat.le_refl _) hB hK15
        have cP := hP.cells
        have cC := hC15.cells
        have lC := hC15.lt
        have lP := hP.lt
        obtain ⟨p', hp'⟩ : ∃ p', (p + 2 * cntY x z i) % 4 = p' := ⟨_, rfl⟩
        have hp4 : p' < 4 := by rw [← hp']; exact Nat.mod_lt _ (by decide)
        have H16 := f16_any i x z p (C + 1) D gv wc hk1 hi6 hN hx hz hp hR15
        unfold AlPost pauV at H16
        rw [hp'] at H16
        have H17x := fun W => f17_any i x z p D W hk1 hi6 hN hx hz hp
        have H17y := fun W => f17_any i z x p' D W hk1 hi6 hN hz hx hp4
        have hpH := Lib.hid hp'
        clear hM14 hC14 hR14 hS14 hbC14 hbw14 hS15 hK15 hR15 hp' lB11 hB2
        go_wp2_with (first
          | (go_at_call 16; refine H16.mono ?_; clear H16; rintro e w16 ⟨rfl, hb16⟩; have hPa := (hP.below hb16).alloc (.cells #[.int .i64 i, .int .i64 z, .int .i64 x, .int .i64 p'] 49); have cPa := hPa.cells; have hQa := Blk.new w16 49 #[.int .i64 i, .int .i64 z, .int .i64 x, .int .i64 p']; have hb16a := hb16.alloc hb16.size (.cells #[.int .i64 i, .int .i64 z, .int .i64 x, .int .i64 p'] 49))
          | (go_at_call 17; refine (H17x _).mono ?_; clear H17x; rintro e w17 ⟨bx, rfl, hMx, hb17⟩; have hPb := hPa.below hb17; have cPb := hPb.cells; have hQb := hQa.below hb17; have cQb := hQb.cells; have hb17a := bt hb16a hb17)
          | (go_at_call 17; refine (H17y _).mono ?_; clear H17y; rintro e w18 ⟨by_, rfl, hMy, hb18⟩; have hPc := hPb.below hb18; have cPc := hPc.cells; have hQc := hQb.below hb18; have cQc := hQc.cells; have hb18a := bt hb17a hb18))
        have hx64 : x < 64 := Nat.lt_of_lt_of_le hx hdd.2.1
        have hz64 : z < 64 := Nat.lt_of_lt_of_le hz hdd.2.1
        obtain ⟨a, ha⟩ : ∃ a, x &&& z = a := ⟨_, rfl⟩
        have ha64 : a < 64 := by rw [← ha]; exact Nat.lt_of_le_of_lt Nat.and_le_left hx64
        have hza : bits .and .i64 (x : Int) (z : Int) = (a : Int) := by rw [← ha]; exact i64_and x z (Nat.lt_trans hx64 (by decide)) (Nat.lt_trans hz64 (by decide))
        obtain ⟨o, ho⟩ : ∃ o, odd a = o := ⟨_, rfl⟩
        have ho2 : o < 2 := by rw [← ho]; exact odd_lt2 a ha64
        have hpe : (p + 2 * o) % 4 = p' := by
          have hc := cntY_odd x z hx64 i hi6
          rw [Nat.mod_eq_of_lt (Nat.lt_of_le_of_lt Nat.and_le_left (show x < 2 ^ i by rw [hN.out]; exact hx)), ha, ho] at hc
          rw [← hpH.out]
          omega
        have H18 : ∀ W, Calls Tryz.prog 18 #[.int .i64 (a : Int)] W fun e w' => e = .returned (.int .i64 (o : Int)) ∧ w' = W := fun W => by
          rw [← ho]; exact f18_any a W ha64
        have hpz : ((p : Int) + 2 * (o : Int)) % 4 = (p' : Int) := by omega
        have hpt : ((p : Int) + 2 * (o : Int)).tmod 4 = (p' : Int) := by rw [Int.tmod_eq_emod_of_nonneg (by omega)]; exact hpz
        clear ha ho hpe
        go_quiet (first | (go_at_call 18; exact Calls.quiet_of_same (H18 _)))
        have hbd : Below w18.heap.size w18 (w18.drewN nq) := below_drewN (Below.refl _ _) nq
        have hMw := (hM15.below hb18a).below hbd
        have hMx1 := (hMx.below hb18).below hbd
        have hMy1 := hMy.below hbd
        have hbw18 : Below w.heap.size w (w18.drewN nq) := hbw15.trans ((bt hb18a hbd).mono hbw15.size)
        clear hPa cPa hPb cPb hPc cPc hQa hQb cQb hQc cQc hb16 hb16a hb17 hb17a hb18 hb18a hbd hMx hMy hM15 hbw15 hP cP hC15 cC lC lP H18 hza hpz hpt ho2 ha64 hx64 hz64
        generalize w18.drewN nq = w19 at hMw hMx1 hMy1 hbw18 ⊢
        have hwok : ∀ a b, a < D → b < D → (wavE i a b).ok := fun a b _ _ => (wav_sm (Nat.lt_succ_of_le hi6) a b).1
        have hpok : ∀ x z p a b, a < D → b < D → (pauN x z p i a b).ok := fun x z p a b _ _ => (pauN_sm x z p i a b).1
        have hHx := fun a b (_ : a < D) (hb : b < D) => (wav_pau hi6 hN.out x z p a b hx hb).1
        have hHy := fun a b (ha : a < D) (_ : b < D) => (pau_wav hi6 hN.out z x p' a b hz ha).1
        have hHw := fun a b (ha : a < D) (hb : b < D) => (wav_wav hk5 hN.out a b ha hb).1
        have hE1 : ∀ a b, a < D → b < D → prodN (wavE i) (pauN x z p i) D a b = prodN (pauN z x p' i) (wavE i) D a b := fun a b ha hb => by rw [← hpH.out]; exact wav_string hi6 hN.out x z p a b hx hz ha hb
        have hE2 : ∀ a b, a < D → b < D → prodN (wavE i) (wavE i) D a b = movN (fun k => k) D a b := fun a b ha hb => (wav_wav hk5 hN.out a b ha hb).2
        go_wp2_with (first
          | (go_at_call 19; refine (f19_any _ _ _ hMw hMx1 hwok (hpok x z p) hHx).mono ?_; clear hHx; rintro e w20 ⟨B20, _, rfl, hF20, hb20⟩; have hMw20 := hMw.below hb20; have hMy20 := hMy1.below hb20)
          | (go_at_call 19; refine (f19_any _ _ _ hMy20 hMw20 (hpok z x p') hwok hHy).mono ?_; clear hHy; rintro e w21 ⟨B21, _, rfl, hF21, hb21⟩; have hMw21 := hMw20.below hb21)
          | (go_at_call 19; refine (f19_any _ _ _ hMw21 hMw21 hwok hwok hHw).mono ?_; clear hHw; rintro e w22 ⟨B22, _, rfl, hF22, hb22⟩)
          | (go_at_call 20; refine (f20_any i D _ hi6 hN).mono ?_; rintro e w23 ⟨rfl, hF23, hb23⟩))
        have hF20 := (((hF20.below hb21).below hb22).below hb23).mat hdd
        have hF21 := ((hF21.below hb22).below hb23).mat hdd
        have hF22 := (hF22.below hb23).mat hdd
        have hbw23 : Below w.heap.size w w23 := hbw18.trans ((bt hb20 (bt hb21 (bt hb22 hb23))).mono hbw18.size)
        refine (f11_same D D w23 hF20 hF21 hE1).mono ?_
        rintro e w24 ⟨rfl, hb24⟩
        have hF22 := hF22.below hb24
        have hF23 := (hF23.mat hdd).below hb24
        have hbw24 := bt hbw23 hb24
        clear hF20 hF21 hbw23 hbw18 hMw hMx1 hMy1 hE1 hwok hpok hMw20 hMy20 hMw21
        go_wp2_with (fail)
        refine (f11_same D D w24 hF22 hF23 hE2).mono ?_
        rintro e w25 ⟨rfl, hb25⟩
        have hbw25 := bt hbw24 hb25
        clear hF22 hF23 hE2 hbw24
        go_wp2_with (fail)
        exact bodyPost_ret (v := .bool true) (by simp [results, Tryz.results3, go_sem]) rfl ⟨rfl, hbw25⟩
end
end Go.Proofs.YtdfgmmjcamhdjaaGreatDoor
