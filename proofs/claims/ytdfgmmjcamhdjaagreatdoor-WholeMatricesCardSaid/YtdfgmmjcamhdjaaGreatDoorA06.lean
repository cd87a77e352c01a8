/- Steps to WholeMatrices' card; what each asks stands in it. -/
import Derived.LoopIn
import Derived.LoopNIn
import Derived.OwnWalkIn
import Derived.RangeFuncBound
import Derived.RangeFuncCalls
import Derived.RangeFuncLeaves
import Derived.RangeFuncNested
import Derived.TacticsInMore
import Derived.Test.YtdfgmmjcamhdjaaGreatDoorA03
set_option linter.unusedVariables false
set_option linter.unusedSimpArgs false
namespace Go.Proofs.YtdfgmmjcamhdjaaGreatDoor
section
open Go.RowKit Go.Shelf
attribute [local go_sem] Oper.semAt_some
/-- the cells of a block stay as they are -/
def KeepsBlk (b : Nat) (W W' : World) : Prop := ∀ i v, W.cell? ⟨b, i, none⟩ = some v → W'.cell? ⟨b, i, none⟩ = some v
theorem KeepsBlk.refl (b : Nat) (W : World) : KeepsBlk b W W := fun _ _ h => h
theorem KeepsBlk.trans {b : Nat} {A B C : World} (h : KeepsBlk b A B) (k : KeepsBlk b B C) : KeepsBlk b A C := fun i v hv => k i v (h i v hv)
theorem KeepsBlk.of_below {b n : Nat} {A B : World} (h : Below n A B) (hb : b < n) : KeepsBlk b A B := fun i v hv => (h.cell (p := ⟨b, i, none⟩) hb).trans hv
theorem KeepsBlk.of_cells {b : Nat} {A B : World} (h : ∀ i, B.cell? ⟨b, i, none⟩ = A.cell? ⟨b, i, none⟩) : KeepsBlk b A B := fun i v hv => (h i).trans hv
theorem keepsBlk_t {b : Nat} {A B C : World} (h : KeepsBlk b A B) (k : KeepsBlk b B C) : KeepsBlk b A C := h.trans k
theorem keepsBlk_b {b : Nat} {w : World} (W : World) (l : Nat) (o o' : Obj) (_ : w.heap.size ≤ l) (h : W.heap[l]? = some o) (ho : o.isCells = false) (_ : o.isWalk = false) : KeepsBlk b W (W.putObj l o') := fun i v hv =>
  cell_kept hv (grownBy_putObj' W l o') (fun r e => by cases e; exact ⟨_, h, ho⟩)
/-- the places of a matrix -/
abbrev Pl (h n : Nat) := { p : Nat × Nat // p.1 < h ∧ p.2 < n }
def encPl {h n : Nat} (p : Pl h n) : Array Value := #[.agg #[.int .i64 (p.1.1 : Int), .int .i64 (p.1.2 : Int)]]
/-- all places ahead of row k's place j have come -/
def Come {h n : Nat} (k j : Nat) (pre : List (Pl h n)) : Prop := pre.length = k * n + j ∧ ∀ p : Pl h n, p.1.1 < k ∨ p.1.1 = k ∧ p.1.2 < j → p ∈ pre
def Full {h n : Nat} (ys : List (Pl h n)) : Prop := ∀ p, p ∈ ys
theorem Come.nil {h n : Nat} : Come (h := h) (n := n) 0 0 [] := ⟨by simp, fun p hp => by omega⟩
theorem Come.snoc {h n k j : Nat} {pre : List (Pl h n)} (H : Come k j pre) (x : Pl h n) (h1 : x.1.1 = k) (h2 : x.1.2 = j) : Come k (j + 1) (pre ++ [x]) := by
  refine ⟨by have := H.1; simp; omega, fun p hp => ?_⟩
  by_cases e : p = x
  · simp [e]
  · have : p ∈ pre := H.2 p (by
      rcases hp with hp | ⟨hp, hq⟩
      · exact .inl hp
      · refine .inr ⟨hp, ?_⟩
        rcases Nat.lt_succ_iff_lt_or_eq.1 hq with hq | hq
        · exact hq
        · exact absurd (Subtype.ext (Prod.ext (hp.trans h1.symm) (hq.trans h2.symm))) e)
    simp [this]
theorem Come.row {h n k : Nat} {pre : List (Pl h n)} (H : Come k n pre) : Come (k + 1) 0 pre := by
  refine ⟨by rw [H.1, Nat.succ_mul]; rfl, fun p hp => H.2 p ?_⟩
  have := p.2.2
  omega
theorem Come.full {h n k : Nat} {pre : List (Pl h n)} (H : Come h k pre) : Full pre := fun p => H.2 p (.inl p.2.1)
set_option maxRecDepth 100000 in
set_option maxHeartbeats 2000000 in
theorem f123_in {h n : Nat} (F : Fence) (m : Nat) (h123 : F.fn 123) (hro : F.round = none) (hm : 1 ≤ m) (l Bs b off cap : Nat) (rp : Nat → Option Addr) (rc : Nat → Nat) (hh : h ≤ 1000) (hn : n ≤ 1000) (J Jx : List (Pl h n) → World → Prop)
    (hY : ∀ pre x W, J pre W → pre.length < h * n → YieldAt F (m - 1) Tryz.prog l (encPl x) W fun e W' =>
      (e = .returned (.bool true) ∧ J (pre ++ [x]) W' ∧ KeepsBlk b W W') ∨ (e = .returned (.bool false) ∧ Jx (pre ++ [x]) W'))
    (W : World) (hBs : W.cell? ⟨Bs, 0, none⟩ = some (.slice (some ⟨b, off, none⟩) h cap)) (hc : ∀ i, i < h → W.cell? ⟨b, off + i, none⟩ = some (.slice (rp i) n (rc i))) (h0 : J [] W) :
    CallsIn F m Tryz.prog 123 #[.func (.yield l) #[] #[], .pointer (some ⟨Bs, 0, none⟩)] W fun e W' => (∃ v, e = .returned v) ∧
      ((∃ ys : List (Pl h n), Full ys ∧ J ys W') ∨ (∃ pre, Jx pre W')) := by
  refine callsIn_of_wp Tryz.func123 rfl h123 ?_ hro
  simp only [Tryz.ntmps123, List.size_toArray, List.length_cons, List.length_nil, Nat.reduceAdd, Nat.reduceSub, Array.replicate_succ, Array.replicate_zero, List.push_toArray, List.append_toArray, List.nil_append, List.cons_append]
  gi_wp2
  gi_loopw [8] (fun i wr => ∃ k : Nat, k ≤ h ∧ i = .int .i64 k ∧ KeepsBlk b W wr ∧ ∃ pre : List (Pl h n), Come k 0 pre ∧ J pre wr)
    (fun i _ => h - (intOf i).toNat)
  case atStart => exact ⟨0, Nat.zero_le _, rfl, KeepsBlk.refl _ _, [], Come.nil, h0⟩
  case round =>
    obtain ⟨k, hk, rfl, hkeep, pre, hall, hJ⟩ := hrel
    by_cases hlt : k < h
    · have hltz : (k : Int) < (h : Int) := by omega
      have hcx := hkeep _ _ (hc k hlt)
      gi_wp2
      gi_loopw [15] (fun i wr' => ∃ j : Nat, j ≤ n ∧ i = .int .i64 j ∧ KeepsBlk b W wr' ∧ ∃ pre : List (Pl h n), Come k j pre ∧ J pre wr')
        (fun i _ => n - (intOf i).toNat)
      case atStart => exact ⟨0, Nat.zero_le _, rfl, hkeep, pre, hall, hJ⟩
      case round =>
        clear hJ hall pre
        obtain ⟨j, hj, rfl, hkeep2, pre, hall, hJ⟩ := hrel
        by_cases hlt2 : j < n
        · have hltz2 : (j : Int) < (n : Int) := by omega
          obtain ⟨fn, tmps, assign, body, hy, hR⟩ := hY _ ⟨(k, j), hlt, hlt2⟩ _ hJ (by
            rw [hall.1]; have : (k + 1) * n ≤ h * n := Nat.mul_le_mul_right n hlt; rw [Nat.succ_mul] at this; omega)
          simp only [encPl] at hy hR
          gi_wp2
          refine hR.mono ?_
          rintro e W3 (⟨rfl, hJ3, hk3⟩ | ⟨rfl, hJx3⟩)
          · gi_wp2
            go_roundw
            case rel => exact ⟨j + 1, by omega, by simp, hkeep2.trans hk3, _, hall.snoc _ rfl rfl, hJ3⟩
            case measure => simp [intOf]; omega
          · gi_wp2
            refine bodyPost_ret (results_none rfl _ _ _) rfl ?_
            exact ⟨⟨_, rfl⟩, .inr ⟨_, hJx3⟩⟩
        · obtain rfl : j = n := by omega
          have hltz : ¬ (j : Int) < (j : Int) := by omega
          clear hlt2
          gi_wp2
          go_roundw
          case rel => exact ⟨k + 1, by omega, by simp, hkeep2, _, hall.row, hJ⟩
          case measure => simp [intOf]; omega
    · obtain rfl : k = h := by omega
      have hltz : ¬ (k : Int) < (k : Int) := by omega
      clear hlt
      gi_wp2
      go_end0
      exact ⟨⟨_, rfl⟩, .inl ⟨pre, hall.full, hJ⟩⟩
theorem f123_stops {h n : Nat} (F : Fence) (m : Nat) (h123 : F.fn 123) (hro : F.round = none) (hm : 1 ≤ m) (Bs b off cap : Nat) (rp : Nat → Option Addr) (rc : Nat → Nat) (hh : h ≤ 1000) (hn : n ≤ 1000) (w : World) (hlt : Bs < w.heap.size) (hblt : b < w.heap.size)
    (hBs : w.cell? ⟨Bs, 0, none⟩ = some (.slice (some ⟨b, off, none⟩) h cap)) (hc : ∀ i, i < h → w.cell? ⟨b, off + i, none⟩ = some (.slice (rp i) n (rc i))) :
    SeqStopsK F m Tryz.prog 123 #[.pointer (some ⟨Bs, 0, none⟩)] (encPl (h := h) (n := n)) (KeepsBlk b) Full (fun _ => True) (h * n) w := fun l J Jx W hW _ _ hY h0 => by
  refine (f123_in F m h123 hro hm l Bs b off cap rp rc hh hn J Jx hY W ((hW.cell (p := ⟨Bs, 0, none⟩) hlt).trans hBs) (fun i hi => (hW.cell (p := ⟨b, off + i, none⟩) hblt).trans (hc i hi)) h0).mono ?_
  rintro e W' ⟨he, h | ⟨pre, h⟩⟩
  · exact ⟨he, .inl h⟩
  · exact ⟨he, .inr ⟨pre, trivial, h⟩⟩
theorem f74_in (F : Fence) (m : Nat) (h74 : F.fn 74) (hro : F.round = none) (a : Option Addr) (len cap : Nat) (w : World) :
    CallsIn F m Tryz.prog 74 #[.slice a len cap] w fun e w' => e = .returned (.func (.func 123) #[] #[.pointer (some ⟨w.heap.size, 0, none⟩)]) ∧ w' = w.alloc (.cells #[.slice a len cap] 88) := by
  refine callsIn_of_wp Tryz.func74 rfl h74 ?_ hro
  simp only [Tryz.ntmps74, List.size_toArray, List.length_cons, List.length_nil, Nat.reduceAdd, Nat.reduceSub, Array.replicate_succ, Array.replicate_zero, List.push_toArray, List.append_toArray, List.nil_append, List.cons_append]
  gi_wp2
  go_ret
  exact ⟨rfl, rfl⟩
end
section
open Go.RowKit
attribute [local go_sem ↓] Go.wp_at_zero Go.wp_at_succ
/-- a number's five cells -/
def NumAt (w : World) (b o : Nat) (x : Num) : Prop :=
  w.cell? ⟨b, o, none⟩ = some (.int .i64 x.q.a) ∧ w.cell? ⟨b, o + 1, none⟩ = some (.int .i64 x.q.b) ∧ w.cell? ⟨b, o + 2, none⟩ = some (.int .i64 x.q.c) ∧ w.cell? ⟨b, o + 3, none⟩ = some (.int .i64 x.q.d) ∧ w.cell? ⟨b, o + 4, none⟩ = some (.int .i64 x.k)
theorem NumAt.below {w w' : World} {b o : Nat} {x : Num} {n : Nat} (h : NumAt w b o x) (hb : Below n w w') (hl : b < n) : NumAt w' b o x :=
  ⟨(hb.cell (p := ⟨b, o, none⟩) hl).trans h.1, (hb.cell (p := ⟨b, o + 1, none⟩) hl).trans h.2.1, (hb.cell (p := ⟨b, o + 2, none⟩) hl).trans h.2.2.1, (hb.cell (p := ⟨b, o + 3, none⟩) hl).trans h.2.2.2.1, (hb.cell (p := ⟨b, o + 4, none⟩) hl).trans h.2.2.2.2⟩
/-- a matrix whose rows lie somewhere -/
structure MatIn (w : World) (b off : Nat) (rb ro rc : Nat → Nat) (h n : Nat) (M : Nat → Nat → Num) : Prop where
  dims : 1 ≤ h ∧ h ≤ 64 ∧ 1 ≤ n ∧ n ≤ 64
  lt : b < w.heap.size
  row : ∀ i, i < h → w.cell? ⟨b, off + i, none⟩ = some (.slice (some ⟨rb i, ro i, none⟩) n (rc i)) ∧ rb i < w.heap.size
  num : ∀ i j, i < h → j < n → NumAt w (rb i) (ro i + j * 5) (M i j)
theorem MatIn.below {w w' : World} {b off : Nat} {rb ro rc : Nat → Nat} {h n : Nat} {M : Nat → Nat → Num} (H : MatIn w b off rb ro rc h n M) (hb : Below w.heap.size w w') : MatIn w' b off rb ro rc h n M :=
  ⟨H.dims, Nat.lt_of_lt_of_le H.lt hb.size, fun i hi => ⟨(hb.cell (p := ⟨b, off + i, none⟩) H.lt).trans (H.row i hi).1, Nat.lt_of_lt_of_le (H.row i hi).2 hb.size⟩, fun i j hi hj => (H.num i j hi hj).below hb (H.row i hi).2⟩
def Mat (w : World) (A : Option Addr) (h n : Nat) (M : Nat → Nat → Num) : Prop := ∃ b off rb ro rc, A = some ⟨b, off, none⟩ ∧ MatIn w b off rb ro rc h n M
theorem Mat.below {w w' : World} {A : Option Addr} {h n : Nat} {M : Nat → Nat → Num} (H : Mat w A h n M) (hb : Below w.heap.size w w') : Mat w' A h n M := by
  obtain ⟨b, off, rb, ro, rc, e, H⟩ := H
  exact ⟨b, off, rb, ro, rc, e, H.below hb⟩
set_option maxHeartbeats 400000 in
set_option maxRecDepth 100000 in
theorem f54_any (n : Nat) (w : World) (h1 : 1 ≤ n) (h2 : n ≤ 64) :
    Calls Tryz.prog 54 #[.int .i64 n] w fun e w' => e = .returned (.bool true) ∧ Below w.heap.size w w' := by
  have h1z : (1 : Int) ≤ n := by omega
  have h2z : (n : Int) ≤ 64 := by omega
  go_enter Tryz.func54, Tryz.ntmps54
  go_wp2
  go_ret
  exact ⟨rfl, Below.refl _ _⟩
set_option maxHeartbeats 400000 in
set_option maxRecDepth 100000 in
theorem f92_any (p p0 : Option Addr) (n c c0 B b off h cap : Nat) (w : World) (h1 : 1 ≤ n) (h2 : n ≤ 64) (hh : 1 ≤ h) (hB : w.cell? ⟨B, 0, none⟩ = some (.slice (some ⟨b, off, none⟩) h cap)) (hlB : B < w.heap.size) (hlb : b < w.heap.size)
    (hc : w.cell? ⟨b, off, none⟩ = some (.slice p0 n c0)) :
    Calls Tryz.prog 92 #[.slice p n c, .pointer (some ⟨B, 0, none⟩)] w fun e w' => e = .returned (.bool true) ∧ Below w.heap.size w w' := by
  have hhz : (0 : Int) < h := by omega
  go_enter Tryz.func92, Tryz.ntmps92
  go_wp2_with (go_at_call 54; refine (f54_any n _ h1 h2).mono ?_; rintro e w' ⟨rfl, hb'⟩; have hB' := keep_cell hb' hlB hB; have hc' := keep_cell hb' hlb hc)
  go_ret
  exact ⟨rfl, hb'⟩
set_option maxHeartbeats 400000 in
set_option maxRecDepth 100000 in
theorem f130_any (g : Nat) (lb : Array Value) (eg : ∀ args w, (callFunc g args).run Tryz.prog w = .ok (.enter g args) w) (p : Option Addr) (n c : Nat) (B : Nat) (w : World)
    (hB : w.cell? ⟨B, 0, none⟩ = some (.func (.func g) #[] lb))
    (hp : Calls Tryz.prog g (#[.slice p n c] ++ lb) w fun e w' => e = .returned (.bool true) ∧ Below w.heap.size w w') :
    Calls Tryz.prog 130 #[.slice p n c, .pointer (some ⟨B, 0, none⟩)] w fun e w' => e = .returned (.bool false) ∧ Below w.heap.size w w' := by
  go_enter Tryz.func130, Tryz.ntmps130
  go_wp2_with (go_at_fn g; refine hp.mono ?_; rintro e w' ⟨rfl, hb'⟩)
  go_ret
  exact ⟨rfl, hb'⟩
set_option maxHeartbeats 1000000 in
set_option maxRecDepth 100000 in
theorem f151_miss (g : Nat) (lb : Array Value) (eg : ∀ args w, (callFunc g args).run Tryz.prog w = .ok (.enter g args) w) (b off h n cap : Nat) (rp : Nat → Option Addr) (rc : Nat → Nat) (w : World) (hh : h ≤ 64) (hlb : b < w.heap.size)
    (hc : ∀ i, i < h → w.cell? ⟨b, off + i, none⟩ = some (.slice (rp i) n (rc i)))
    (hp : ∀ W i, i < h → Below w.heap.size w W → Calls Tryz.prog g (#[.slice (rp i) n (rc i)] ++ lb) W fun e w' => e = .returned (.bool false) ∧ Below W.heap.size W w') :
    Calls Tryz.prog 151 #[.slice (some ⟨b, off, none⟩) h cap, .func (.func g) #[] lb] w fun e w' => e = .returned (.int .i64 (-1)) ∧ Below w.heap.size w w' := by
  go_enter Tryz.func151, Tryz.ntmps151
  go_wp2
  go_loopg [5, 8] h (fun gg _ s8 wr => ∃ kk : Nat, kk ≤ h ∧ h - kk ≤ gg ∧ s8 = .int .i64 kk ∧ Aside (Below w.heap.size w wr))
  case atStart => exact ⟨0, Nat.zero_le _, by omega, rfl, Below.refl _ w⟩
  case round =>
    obtain ⟨kk, hkk, hg, rfl, BW⟩ := hrel
    by_cases hlt : kk < h
    · have hltz : (kk : Int) < (h : Int) := by omega
      have hcell := keep_cell (p := ⟨b, off + kk, none⟩) BW.out hlb (hc kk hlt)
      have hcall := hp wr kk hlt BW.out
      clear hp hc
      go_wp2_with (go_at_fn g; refine hcall.mono ?_; rintro e w' ⟨rfl, hb'⟩)
      go_roundg (h - (kk + 1))
      case measure => omega
      case rel => exact ⟨kk + 1, by omega, by omega, by go_num, (show Aside _ from bt BW.out hb')⟩
    · have hltz : ¬ (kk : Int) < (h : Int) := by omega
      clear hlt
      go_wp2
      go_ret
      exact ⟨rfl, BW.out⟩
set_option maxHeartbeats 400000 in
set_option maxRecDepth 100000 in
theorem f129_miss (g : Nat) (lb : Array Value) (eg : ∀ args w, (callFunc g args).run Tryz.prog w = .ok (.enter g args) w) (b off h n cap : Nat) (rp : Nat → Option Addr) (rc : Nat → Nat) (w : World) (hh : h ≤ 64) (hlb : b < w.heap.size)
    (hc : ∀ i, i < h → w.cell? ⟨b, off + i, none⟩ = some (.slice (rp i) n (rc i)))
    (hp : ∀ W i, i < h → Below w.heap.size w W → Calls Tryz.prog g (#[.slice (rp i) n (rc i)] ++ lb) W fun e w' => e = .returned (.bool false) ∧ Below W.heap.size W w') :
    Calls Tryz.prog 129 #[.slice (some ⟨b, off, none⟩) h cap, .func (.func g) #[] lb] w fun e w' => e = .returned (.bool false) ∧ Below w.heap.size w w' := by
  have H := f151_miss g lb eg b off h n cap rp rc w hh hlb hc hp
  clear hp hc
  go_enter Tryz.func129, Tryz.ntmps129
  go_wp2_with (go_at_call 151; refine H.mono ?_; rintro e w' ⟨rfl, hb'⟩)
  go_ret
  exact ⟨rfl, hb'⟩
set_option maxHeartbeats 400000 in
set_option maxRecDepth 100000 in
theorem f91_all (g : Nat) (lb : Array Value) (eg : ∀ args w, (callFunc g args).run Tryz.prog w = .ok (.enter g args) w) (b off h n cap : Nat) (rp : Nat → Option Addr) (rc : Nat → Nat) (w : World) (hh : h ≤ 64) (hlb : b < w.heap.size)
    (hc : ∀ i, i < h → w.cell? ⟨b, off + i, none⟩ = some (.slice (rp i) n (rc i)))
    (hp : ∀ W i, i < h → Below w.heap.size w W → Calls Tryz.prog g (#[.slice (rp i) n (rc i)] ++ lb) W fun e w' => e = .returned (.bool true) ∧ Below W.heap.size W w') :
    Calls Tryz.prog 91 #[.slice (some ⟨b, off, none⟩) h cap, .func (.func g) #[] lb] w fun e w' => e = .returned (.bool true) ∧ Below w.heap.size w w' := by
  have hb0 : Below w.heap.size w (w.alloc (.cells #[.func (.func g) #[] lb] 134)) := (Below.refl _ w).alloc (Nat.le_refl _) _
  have H := f129_miss 130 #[.pointer (some ⟨w.heap.size, 0, none⟩)] (enters_of Tryz.func130 (by kernel_rfl) rfl) b off h n cap rp rc (w.alloc (.cells #[.func (.func g) #[] lb] 134)) hh (by simp; omega)
    (fun i hi => keep_cell (p := ⟨b, off + i, none⟩) hb0 hlb (hc i hi))
    (fun W i hi hb => f130_any g lb eg (rp i) n (rc i) w.heap.size W ((hb.cell (p := ⟨w.heap.size, 0, none⟩) (by simp)).trans (by simp)) (hp W i hi (hb0.trans (hb.mono (by simp)))))
  clear hp hc
  go_enter Tryz.func91, Tryz.ntmps91
  go_wp2_with (go_at_call 129; refine H.mono ?_; rintro e w' ⟨rfl, hb'⟩)
  go_ret
  exact ⟨rfl, hb0.trans (hb'.mono (by simp))⟩
set_option maxHeartbeats 400000 in
set_option maxRecDepth 100000 in
theorem f62_any (b off h n cap : Nat) (p : Option Addr) (c : Nat) (w : World) (hh : 1 ≤ h) (hc : w.cell? ⟨b, off, none⟩ = some (.slice p n c)) :
    Calls Tryz.prog 62 #[.slice (some ⟨b, off, none⟩) h cap] w fun e w' => e = .returned (.int .i64 n) ∧ Below w.heap.size w w' := by
  have hhz : (0 : Int) < h := by omega
  go_enter Tryz.func62, Tryz.ntmps62
  go_wp2
  go_ret
  exact ⟨rfl, Below.refl _ _⟩
theorem f62_mat {A : Option Addr} {h n : Nat} {M : Nat → Nat → Num} {w : World} (cap : Nat) (H : Mat w A h n M) :
    Calls Tryz.prog 62 #[.slice A h cap] w fun e w' => e = .returned (.int .i64 n) ∧ Below w.heap.size w w' := by
  obtain ⟨b, off, rb, ro, rc, rfl, H⟩ := H
  exact f62_any b off h n cap _ _ w H.dims.1 (H.row 0 (by have := H.dims; omega)).1
set_option maxHeartbeats 400000 in
set_option maxRecDepth 100000 in
theorem f43_mat {A : Option Addr} {h n : Nat} {M : Nat → Nat → Num} {w : World} (cap : Nat) (H : Mat w A h n M) (sq : h = n) :
    Calls Tryz.prog 43 #[.slice A h cap] w fun e w' => e = .returned (.bool true) ∧ Below w.heap.size w w' := by
  subst sq
  go_enter Tryz.func43, Tryz.ntmps43
  go_wp2_with (go_at_call 62; refine (f62_mat cap H).mono ?_; rintro e w' ⟨rfl, hb'⟩)
  go_ret
  exact ⟨rfl, hb'⟩
set_option maxHeartbeats 2000000 in
set_option maxRecDepth 100000 in
theorem f48_cells (b off h n cap r ro rc i j : Nat) (x : Num) (w : World) (hh : h ≤ 64) (hn : n ≤ 64) (hi : i < h) (hj : j < n) (hcr : w.cell? ⟨b, off + i, none⟩ = some (.slice (some ⟨r, ro, none⟩) n rc)) (hlb : b < w.heap.size) (hlr : r < w.heap.size) (hx : NumAt w r (ro + j * 5) x) :
    Calls Tryz.prog 48 #[.slice (some ⟨b, off, none⟩) h cap, .agg #[.int .i64 i, .int .i64 j]] w fun e w' => e = .returned (.agg #[.int .i64 x.q.a, .int .i64 x.q.b, .int .i64 x.q.c, .int .i64 x.q.d, .int .i64 x.k]) ∧ Below w.heap.size w w' := by
  have hiz : (i : Int) < h := by omega
  have hjz : (j : Int) < n := by omega
  obtain ⟨e0, e1, e2, e3, e4⟩ := hx
  go_enter Tryz.func48, Tryz.ntmps48
  go_wp2
  refine Calm.wp_region_calm 9 [] (by kernel_rfl) (by kernel_rfl) (by decide) (fun w' => Blk w' w.heap.size 94 #[.int .i64 i, .int .i64 j] ∧ Blk w' (w.heap.size + 1) 38 #[.int .i64 0, .int .i64 0, .int .i64 0, .int .i64 0, .int .i64 0] ∧ Below w.heap.size w w') (0) (fun _ _ => Nat.zero_le _) ⟨((Blk.new' 94 #[.int .i64 i, .int .i64 j] (by simp)).alloc _).drew, (Blk.new' 38 #[.int .i64 0, .int .i64 0, .int .i64 0, .int .i64 0, .int .i64 0] (by simp)).drew, ((((Below.refl _ _).alloc (Nat.le_refl _) _).alloc (by first | (simp; done) | (simp; omega) | omega) _)).drew⟩ ?_
  show Calm.WalkI _ _ _ _ _ _ [0, 1, 2, 3, 4, 5, 6, 7, 8] _ _
  refine Calm.calm_step rfl rfl rfl ?_; apply Exists.intro; refine ⟨fun w' hw' => ?_, ?_⟩
  · obtain ⟨hA, hR, hW⟩ := hw'
    have cA := hA.cells
    have d := keep_cell (p := ⟨b, off + i, none⟩) hW hlb hcr
    have d0 := keep_cell hW hlr e0
    have d1 := keep_cell hW hlr e1
    have d2 := keep_cell hW hlr e2
    have d3 := keep_cell hW hlr e3
    have d4 := keep_cell hW hlr e4
    apply Calm.calm_value
    go_simp
    exact rfl
  intro K hK; go_simp; refine hK _ ?_; clear hK K
  refine Calm.calm_step rfl rfl rfl ?_; apply Exists.intro; refine ⟨fun w' hw' => ?_, ?_⟩
  · obtain ⟨hA, hR, hW⟩ := hw'
    have cA := hA.cells
    have d := keep_cell (p := ⟨b, off + i, none⟩) hW hlb hcr
    have d0 := keep_cell hW hlr e0
    have d1 := keep_cell hW hlr e1
    have d2 := keep_cell hW hlr e2
    have d3 := keep_cell hW hlr e3
    have d4 := keep_cell hW hlr e4
    apply Calm.calm_value
    go_simp
    exact rfl
  intro K hK; go_simp; refine hK _ ?_; clear hK K
  refine Calm.calm_step rfl rfl rfl ?_; apply Exists.intro; refine ⟨fun w' hw' => ?_, ?_⟩
  · obtain ⟨hA, hR, hW⟩ := hw'
    have cA := hA.cells
    have d := keep_cell (p := ⟨b, off + i, none⟩) hW hlb hcr
    have d0 := keep_cell hW hlr e0
    have d1 := keep_cell hW hlr e1
    have d2 := keep_cell hW hlr e2
    have d3 := keep_cell hW hlr e3
    have d4 := keep_cell hW hlr e4
    apply Calm.calm_value
    go_simp
    exact rfl
  intro K hK; go_simp; refine hK _ ?_; clear hK K
  refine Calm.calm_step rfl rfl rfl ?_; apply Exists.intro; refine ⟨fun w' hw' => ?_, ?_⟩
  · obtain ⟨hA, hR, hW⟩ := hw'
    have cA := hA.cells
    have d := keep_cell (p := ⟨b, off + i, none⟩) hW hlb hcr
    have d0 := keep_cell hW hlr e0
    have d1 := keep_cell hW hlr e1
    have d2 := keep_cell hW hlr e2
    have d3 := keep_cell hW hlr e3
    have d4 := keep_cell hW hlr e4
    apply Calm.calm_value
    go_simp
    exact rfl
  intro K hK; go_simp; refine hK _ ?_; clear hK K
  refine Calm.calm_step rfl rfl rfl ?_; apply Exists.intro; refine ⟨fun w' hw' => ?_, ?_⟩
  · obtain ⟨hA, hR, hW⟩ := hw'
    have cA := hA.cells
    have d := keep_cell (p := ⟨b, off + i, none⟩) hW hlb hcr
    have d0 := keep_cell hW hlr e0
    have d1 := keep_cell hW hlr e1
    have d2 := keep_cell hW hlr e2
    have d3 := keep_cell hW hlr e3
    have d4 := keep_cell hW hlr e4
    apply Calm.calm_value
    go_simp
    exact rfl
  intro K hK; go_simp; refine hK _ ?_; clear hK K
  refine Calm.calm_step rfl rfl rfl ?_; apply Exists.intro; refine ⟨fun w' hw' => ?_, ?_⟩
  · obtain ⟨hA, hR, hW⟩ := hw'
    have cA := hA.cells
    have d := keep_cell (p := ⟨b, off + i, none⟩) hW hlb hcr
    have d0 := keep_cell hW hlr e0
    have d1 := keep_cell hW hlr e1
    have d2 := keep_cell hW hlr e2
    have d3 := keep_cell hW hlr e3
    have d4 := keep_cell hW hlr e4
    apply Calm.calm_value
    go_simp
    exact rfl
  intro K hK; go_simp; refine hK _ ?_; clear hK K
  refine Calm.calm_step rfl rfl rfl ?_; apply Exists.intro; refine ⟨fun w' hw' => ?_, ?_⟩
  · obtain ⟨hA, hR, hW⟩ := hw'
    have cA := hA.cells
    have d := keep_cell (p := ⟨b, off + i, none⟩) hW hlb hcr
    have d0 := keep_cell hW hlr e0
    have d1 := keep_cell hW hlr e1
    have d2 := keep_cell hW hlr e2
    have d3 := keep_cell hW hlr e3
    have d4 := keep_cell hW hlr e4
    apply Calm.calm_value
    go_simp
    exact rfl
  intro K hK; go_simp; refine hK _ ?_; clear hK K
  refine Calm.calm_step rfl rfl rfl ?_; apply Exists.intro; refine ⟨fun w' hw' => ?_, ?_⟩
  · obtain ⟨hA, hR, hW⟩ := hw'
    have cA := hA.cells
    have d := keep_cell (p := ⟨b, off + i, none⟩) hW hlb hcr
    have d0 := keep_cell hW hlr e0
    have d1 := keep_cell hW hlr e1
    have d2 := keep_cell hW hlr e2
    have d3 := keep_cell hW hlr e3
    have d4 := keep_cell hW hlr e4
    apply Calm.calm_value
    go_simp
    exact rfl
  intro K hK; go_simp; refine hK _ ?_; clear hK K
  refine Calm.calm_step rfl rfl rfl ?_; apply Exists.intro; refine ⟨fun w' hw' => ?_, ?_⟩
  · obtain ⟨hA, hR, hW⟩ := hw'
    have cA := hA.cells
    have d := keep_cell (p := ⟨b, off + i, none⟩) hW hlb hcr
    have d0 := keep_cell hW hlr e0
    have d1 := keep_cell hW hlr e1
    have d2 := keep_cell hW hlr e2
    have d3 := keep_cell hW hlr e3
    have d4 := keep_cell hW hlr e4
    apply Calm.calm_value
    go_simp
    exact rfl
  intro K hK; go_simp; refine hK _ ?_; clear hK K
  refine Calm.calm_end_lit (fun wk hk => ?_)
  simp only [List.drop_succ_cons, List.drop_zero]
  obtain ⟨⟨hA, hR, hW⟩, _, _⟩ := hk
  have cR := hR.cells
  have fR := hR.frozen
  have lR := hR.lt
  have d0 := keep_cell hW hlr e0
  have d1 := keep_cell hW hlr e1
  have d2 := keep_cell hW hlr e2
  have d3 := keep_cell hW hlr e3
  have d4 := keep_cell hW hlr e4
  go_wp2
  have hF := (((((hR.set 0 (.int .i64 x.q.a)).set 1 (.int .i64 x.q.b)).set 2 (.int .i64 x.q.c)).set 3 (.int .i64 x.q.d)).set 4 (.int .i64 x.k))
  have cF := hF.cells
  refine bodyPost_ret (v := .agg #[.int .i64 x.q.a, .int .i64 x.q.b, .int .i64 x.q.c, .int .i64 x.q.d, .int .i64 x.k]) (by simp [results, Tryz.results48, go_sem, cF]) rfl ⟨rfl, ?_⟩
  exact (((((hW.setCell (by first | (simp; done) | (simp; omega) | omega) _).setCell (by first | (simp; done) | (simp; omega) | omega) _).setCell (by first | (simp; done) | (simp; omega) | omega) _).setCell (by first | (simp; done) | (simp; omega) | omega) _).setCell (by first | (simp; done) | (simp; omega) | omega) _)
theorem f48_mat {A : Option Addr} {h n : Nat} {M : Nat → Nat → Num} {w : World} (cap i j : Nat) (x : Num) (H : Mat w A h n M) (hi : i < h) (hj : j < n) (hx : Hid (M i j = x)) :
    Calls Tryz.prog 48 #[.slice A h cap, .agg #[.int .i64 i, .int .i64 j]] w fun e w' => e = .returned (.agg #[.int .i64 x.q.a, .int .i64 x.q.b, .int .i64 x.q.c, .int .i64 x.q.d, .int .i64 x.k]) ∧ Below w.heap.size w w' := by
  obtain ⟨b, off, rb, ro, rc, rfl, H⟩ := H
  exact f48_cells b off h n cap (rb i) (ro i) (rc i) i j x w H.dims.2.1 H.dims.2.2.2 hi hj (H.row i hi).1 H.lt (H.row i hi).2 (hx.out ▸ H.num i j hi hj)
end
section
open Go.RowKit Go.Shelf
attribute [local go_sem] Oper.semAt_some
theorem keepsFrom_below {W W' : World} (B : Nat) (hb : Below W.heap.size W W') : KeepsFrom B W W' := ⟨hb.size, fun k o _ hk _ => (hb.block k (Array.getElem?_eq_some_iff.1 hk).1).trans hk⟩
theorem blk_own {β : Type} (B : Nat) (t : TypeId) (f : β → Array Value) : Own (fun s W => Blk W B t (f s)) := fun s X Y row hs hg hrow =>
  (hg.block B hs.lt (fun e' => by obtain ⟨o, ho, hc⟩ := hrow B e'.symm; rw [show X.heap[B]? = _ from hs] at ho; cases ho; cases hc)).trans hs
set_option maxRecDepth 100000 in
set_option maxHeartbeats 2000000 in
theorem f39_mat {A : Option Addr} {h n : Nat} {M : Nat → Nat → Num} {w : World} (cap : Nat) (H : Mat w A h n M) (hok : ∀ i j, i < h → j < n → (M i j).ok) :
    Calls Tryz.prog 39 #[.slice A h cap] w fun e w' => e = .returned (.int .i64 0) ∧ Below w.heap.size w w' := by
  obtain ⟨b, off, rb, ro, rc, rfl, H⟩ := H
  obtain ⟨d1, d2, d3, d4⟩ := H.dims
  have hlb := H.lt
  have hb0 : Below w.heap.size w ((w.alloc (.cells #[.slice (some ⟨b, off, none⟩) h cap] 31)).alloc (.cells #[.int .i64 0] 32)) := ((Below.refl _ w).alloc (Nat.le_refl _) _).alloc (by simp) _
  refine (callsIn_wide (n := 6)).1 ?_
  refine callsIn_of_wp_marks Tryz.func39 rfl trivial ?_ rfl
  simp only [Tryz.ntmps39, List.size_toArray, List.length_cons, List.length_nil, Nat.reduceAdd, Nat.reduceSub, Array.replicate_succ, Array.replicate_zero, List.push_toArray, List.append_toArray, List.nil_append, List.cons_append]
  gi_wp2_with (first
    | (refine ⟨trivial, ?_⟩; gi_at_call 54; refine (callsIn_wide.2 (f54_any h _ d1 d2)).mono ?_; rintro e w1 ⟨rfl, hb1⟩; have hB1 := bt hb0 hb1; have hA1 := (Blk.below (b := w.heap.size) (T := 31) (cs := #[.slice (some ⟨b, off, none⟩) h cap]) ((Blk.new' _ _ (by simp)).alloc _) hb1); have hR1 := (Blk.below (b := w.heap.size + 1) (T := 32) (cs := #[.int .i64 0]) (Blk.new' _ _ (by simp)) hb1); have cA1 := hA1.cells; have fA1 := hA1.frozen; have cR1 := hR1.cells; have fR1 := hR1.frozen)
    | (refine ⟨trivial, ?_⟩; gi_at_call 91; refine (callsIn_wide.2 (f91_all 92 #[.pointer (some ⟨w.heap.size, 0, none⟩)] (enters_of Tryz.func92 (by kernel_rfl) rfl) b off h n cap (fun i => some ⟨rb i, ro i, none⟩) rc _ d2 (Nat.lt_of_lt_of_le hlb hB1.size) (fun i hi => keep_cell (p := ⟨b, off + i, none⟩) hB1 hlb (H.row i hi).1) (fun W i hi hb => f92_any _ _ n _ _ w.heap.size b off h cap W d3 d4 d1 (keep_cell (p := ⟨w.heap.size, 0, none⟩) hb hA1.lt (cA1 0)) (Nat.lt_of_lt_of_le hA1.lt hb.size) (Nat.lt_of_lt_of_le hlb (bt hB1 hb).size) (keep_cell (p := ⟨b, off, none⟩) (bt hB1 hb) hlb (H.row 0 d1).1)))).mono ?_; rintro e w2 ⟨rfl, hb2⟩; have hB2 := bt hB1 hb2; have hA2 := hA1.below hb2; have hR2 := hR1.below hb2; have cA2 := hA2.cells; have cR2 := hR2.cells; have fR2 := hR2.frozen)
    | (refine ⟨trivial, ?_⟩; gi_at_call 74; refine (f74_in _ _ trivial rfl _ _ _ _).mono ?_; rintro e w3 ⟨rfl, rfl⟩))
  have bN := Blk.new w2 88 #[.slice (some ⟨b, off, none⟩) h cap]
  have hA3 := hA2.alloc (.cells #[.slice (some ⟨b, off, none⟩) h cap] 88)
  have hR3 := hR2.alloc (.cells #[.slice (some ⟨b, off, none⟩) h cap] 88)
  have hB3 : Below w.heap.size w (w2.alloc (.cells #[.slice (some ⟨b, off, none⟩) h cap] 88)) := hB2.alloc hB2.size _
  obtain ⟨W0, hW0⟩ : ∃ W0, w2.alloc (.cells #[.slice (some ⟨b, off, none⟩) h cap] 88) = W0 := ⟨_, rfl⟩
  rw [hW0] at bN hA3 hR3 hB3 ⊢
  obtain ⟨Bs, hBs⟩ : ∃ Bs, w2.heap.size = Bs := ⟨_, rfl⟩
  rw [hBs] at bN ⊢
  clear hW0 hBs hA2 hA1 hR1 hR2 cA1 fA1 cR1 fR1 hb1 hb2 cA2 cR2 fR2 hB1 hB2 w1 w2 hb0
  refine wpIn_rangeFunc_ownH rfl (by omega) (gf := 123) (lb := #[.pointer (some ⟨Bs, 0, none⟩)]) rfl trivial (enters_of Tryz.func123 (by kernel_rfl) rfl)
    (f123_stops (h := h) (n := n) Fence.wide _ trivial rfl (by omega) Bs b off cap (fun i => some ⟨rb i, ro i, none⟩) rc (by omega) (by omega) W0 bN.lt (Nat.lt_of_lt_of_le hlb hB3.size) (bN.cells 0) (fun i hi => keep_cell (p := ⟨b, off + i, none⟩) hB3 hlb (H.row i hi).1)) keepsBlk_t keepsBlk_b (Below.refl _ _) (fun _ => rfl)
    (fun pre W => (Blk W w.heap.size 31 #[.slice (some ⟨b, off, none⟩) h cap] ∧ Blk W (w.heap.size + 1) 32 #[.int .i64 0]) ∧ Below w.heap.size w W)
    (fun _ _ _ => False)
    (OwnFrom.and (OwnFrom.and (Own.from (blk_own _ _ _) _) (Own.from (blk_own _ _ _) _)) (ownFrom_below (Nat.le_refl _) hB3.size))
    (fun _ _ _ _ _ hs _ _ => hs)
    ⟨⟨hA3, hR3⟩, hB3⟩
    (fun x a' W => ∃ Bx, w.heap.size + 1 < Bx ∧ Blk W Bx 94 #[.int .i64 x.1.1, .int .i64 x.1.2] ∧ a' = { tmps := #[Value.slice (some { block := b, off := off }) h cap, Value.pointer (some { block := w.heap.size, off := 0 }), Value.pointer (some { block := w.heap.size + 1, off := 0 }), Value.pointer (some { block := Bx, off := 0 }), undef, Value.slice (some { block := b, off := off }) h cap, Value.int IntKind.i64 ↑h, Value.bool true, Value.bool false, Value.bool false, Value.slice (some { block := b, off := off }) h cap, Value.func (Fn.func 92) #[] #[Value.pointer (some { block := w.heap.size, off := 0 })], Value.bool true, Value.bool false, Value.bool false, Value.slice (some { block := b, off := off }) h cap, Value.func (Fn.func 123) #[] #[Value.pointer (some { block := Bs, off := 0 })], Value.agg #[Value.int IntKind.i64 ↑x.val.fst, Value.int IntKind.i64 ↑x.val.snd], undef, undef, undef, undef, undef, undef, undef], defers := [] })
    (fun x a' _ X Y row hs hg hr => by obtain ⟨Bx, h1, h2, h3⟩ := hs; exact ⟨Bx, h1, blk_own Bx 94 (fun (_ : Unit) => #[.int .i64 x.1.1, .int .i64 x.1.2]) () X Y row h2 hg (fun r e => (hr r e).2), h3⟩)
    ?assign ?body ?done ?stop
  case assign =>
    rintro l pre x W K ⟨⟨hA, hR⟩, hB⟩ hK
    simp only [encPl]
    gi_wp2
    exact hK _ _ ((KeepsOthers.alloc _ _).from _) (KeepsBlk.of_below ((Below.refl _ W).alloc (Nat.le_refl _) _) (Nat.lt_of_lt_of_le hlb hB.size)) ⟨⟨hA.alloc _, hR.alloc _⟩, hB.alloc hB.size _⟩ ⟨W.heap.size, hR.lt, Blk.new W 94 _, rfl⟩
  case body =>
    rintro l pre x a' W hl ⟨r, hr⟩ ⟨⟨hA, hR⟩, hB⟩ ⟨Bx, hBx, bX, rfl⟩ hlt
    have cA := hA.cells
    have cX := bX.cells
    have hM : Mat W (some ⟨b, off, none⟩) h n M := ⟨b, off, rb, ro, rc, rfl, H.below hB⟩
    have hokx := hok x.1.1 x.1.2 x.2.1 x.2.2
    obtain ⟨y, hy⟩ : ∃ y, M x.1.1 x.1.2 = y := ⟨_, rfl⟩
    rw [hy] at hokx
    gi_wp2_with (first
      | (refine ⟨trivial, ?_⟩; gi_at_call 48; refine (CallsIn.inRound l (callsIn_wide.2 (f48_mat cap x.1.1 x.1.2 y hM x.2.1 x.2.2 hy))).mono ?_; rintro e w1 ⟨rfl, hb1⟩)
      | (refine ⟨trivial, ?_⟩; gi_at_call 71; refine (CallsIn.inRound l (callsIn_wide.2 (f71_any y.q y.k _ hokx))).mono ?_; rintro e w2 ⟨rfl, hb2⟩))
    have hb := bt hb1 hb2
    exact ⟨keepsFrom_below _ hb, KeepsBlk.of_below hb (Nat.lt_of_lt_of_le hlb hB.size), ⟨hA.below hb, hR.below hb⟩, bt hB hb⟩
  case done =>
    rintro D ys W hD _ ⟨⟨hA, hR⟩, hB⟩ hK
    have fR := hR.frozen
    have cR := hR.cells
    gi_wp2
    have hK' := (KeepsOthers.setCell W ⟨w.heap.size + 1, 0, none⟩ (.int .i64 0)).same D _ hK rfl
    refine ⟨by simp, .inl ⟨_, _, rfl, run_takeDeferred hK', ?_⟩⟩
    have hF := hR.set 0 (.int .i64 0)
    have hG : Blk ((W.setCell ⟨w.heap.size + 1, 0, none⟩ (.int .i64 0)).putObj D (.deferred none)) (w.heap.size + 1) 32 #[.int .i64 0] := blk_own (w.heap.size + 1) 32 (fun (_ : Unit) => #[.int .i64 0]) () _ _ _ hF (grownBy_putObj' _ D _) (fun r e => by cases e; exact ⟨_, hK', rfl⟩)
    have cG := hG.cells
    refine ⟨.int .i64 0, by simp [results, Tryz.results39, go_sem, cG], rfl, ?_⟩
    exact (hB.setCell (p := ⟨w.heap.size + 1, 0, none⟩) (by simp) _).trans (belowK_b (w := w) (Nat.le_refl _) _ D _ _ (Nat.le_trans hB3.size hD) hK' rfl rfl)
  case stop =>
    rintro D c pre W _ _ h _
    exact h.elim
end
end Go.Proofs.YtdfgmmjcamhdjaaGreatDoor
