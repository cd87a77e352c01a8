/- Steps to WholeMatrices' card; what each asks stands in it. -/
import Derived.BigRegion
import Derived.Test.YtdfgmmjcamhdjaaGreatDoorA26
set_option linter.unusedVariables false
set_option linter.unusedSimpArgs false
namespace Go.Proofs.YtdfgmmjcamhdjaaGreatDoor
section
open Go.RowKit
attribute [local go_sem ↓] Go.wp_at_zero Go.wp_at_succ
/-- a string of X, Y and Z -/
def pauV (n x z p : Nat) : Value := .agg #[.int .i64 n, .int .i64 x, .int .i64 z, .int .i64 p]
set_option maxHeartbeats 1000000 in
set_option maxRecDepth 100000 in
theorem f59_any (n x z p N : Nat) (w : World) (h1 : 1 ≤ n) (hn : n ≤ 6) (hN : Hid (2 ^ n = N)) (hx : x < N) (hz : z < N) (hp : p < 4) :
    Calls Tryz.prog 59 #[pauV n x z p] w fun e w' => e = .returned (.int .i64 0) ∧ Below w.heap.size w w' := by
  have hNb := pow6 n h1 hn
  have hwN := w64s n hn
  rw [hN.out] at hNb hwN
  have hwN2 : IntKind.i64.wrap (2 ^ n) = (N : Int) := by rw [IntKind.wrap_i64]; have h := hwN; unfold wrap64 at h; exact h
  have a1 : ¬ ((n : Int) < 1) := by omega
  have a2 : ¬ ((12 : Int) < (n : Int)) := by omega
  have a3 : ¬ ((x : Int) < 0) := by omega
  have a4 : ¬ ((z : Int) < 0) := by omega
  have a5 : ¬ ((N : Int) ≤ (x : Int)) := by omega
  have a6 : ¬ ((N : Int) ≤ (z : Int)) := by omega
  have a7 : ¬ ((p : Int) < 0) := by omega
  have a8 : ¬ ((3 : Int) < (p : Int)) := by omega
  have hbA : Below w.heap.size w (w.alloc (.cells #[.int .i64 n, .int .i64 x, .int .i64 z, .int .i64 p] 49)) := (Below.refl _ _).alloc (Nat.le_refl _) _
  have hC0 : Blk (w.alloc (.cells #[.int .i64 n, .int .i64 x, .int .i64 z, .int .i64 p] 49)) w.heap.size 49 #[.int .i64 n, .int .i64 x, .int .i64 z, .int .i64 p] := Blk.new _ _ _
  obtain ⟨w0, hw0⟩ : ∃ w0, w.alloc (.cells #[.int .i64 n, .int .i64 x, .int .i64 z, .int .i64 p] 49) = w0 := ⟨_, rfl⟩
  rw [hw0] at hbA hC0
  have cC := hC0.cells
  unfold pauV
  go_enter Tryz.func59, Tryz.ntmps59
  go_wp2_with (fail)
  go_still_tail 24, (by kernel_rfl)
  change wpList _ _ _ _ _ w0.drew
  have cC1 := (hC0.below ((Below.refl _ w0).drew)).cells
  go_wp2_with (fail)
  go_ret
  exact ⟨rfl, hbA.drew⟩
/-- the letter of a string on a wire -/
def letK (x z i : Nat) : Nat := if x / 2 ^ i % 2 = 0 then (if z / 2 ^ i % 2 = 0 then 0 else 3) else (if z / 2 ^ i % 2 = 0 then 1 else 2)
set_option maxHeartbeats 2000000 in
set_option maxRecDepth 100000 in
theorem f60_any (n x z p i : Nat) (dv : Value) (w : World) (hx : x < 64) (hz : z < 64) (hi : i < 6) :
    Calls Tryz.prog 60 #[.agg #[.int .i64 n, .int .i64 x, .int .i64 z, .int .i64 p, dv], .int .i64 i] w fun e w' => e = .returned (.int .i64 (letK x z i)) ∧ Below w.heap.size w w' := by
  obtain ⟨a, ha⟩ : ∃ a, x / 2 ^ i % 2 = a := ⟨_, rfl⟩
  obtain ⟨b, hb⟩ : ∃ a, z / 2 ^ i % 2 = a := ⟨_, rfl⟩
  have ha2 : a < 2 := by omega
  have hb2 : b < 2 := by omega
  have e1 : bits BinOp.and IntKind.i64 ((x : Int) / 2 ^ i) 1 = (a : Int) := by
    rw [show ((x : Int) / 2 ^ i) = ((x / 2 ^ i : Nat) : Int) from by simp]
    have h2 : x / 2 ^ i ≤ x := Nat.div_le_self _ _
    have := i64_and (x / 2 ^ i) 1 (by omega) (by omega)
    rw [Nat.and_one_is_mod, ha] at this
    exact this
  have e2 : bits BinOp.and IntKind.i64 ((z : Int) / 2 ^ i) 1 = (b : Int) := by
    rw [show ((z : Int) / 2 ^ i) = ((z / 2 ^ i : Nat) : Int) from by simp]
    have h2 : z / 2 ^ i ≤ z := Nat.div_le_self _ _
    have := i64_and (z / 2 ^ i) 1 (by omega) (by omega)
    rw [Nat.and_one_is_mod, hb] at this
    exact this
  unfold letK
  rw [ha, hb]
  clear ha hb
  obtain rfl | rfl : a = 0 ∨ a = 1 := by omega
  all_goals obtain rfl | rfl : b = 0 ∨ b = 1 := by omega
  all_goals
    go_enter Tryz.func60, Tryz.ntmps60
    go_wp2_with (fail)
    go_region
    go_wp2_with (fail)
    go_ret
    exact ⟨rfl, by first | exact (((Below.refl _ w).alloc (Nat.le_refl _) _).drew).alloc (by simp) _ | (trace_state; fail)⟩
end
section
open Go.RowKit
attribute [local go_sem ↓] Go.wp_at_zero Go.wp_at_succ
def oneX (l i : Nat) : Nat := if l = 1 ∨ l = 2 then 2 ^ i else 0
def oneZ (l i : Nat) : Nat := if l = 3 ∨ l = 2 then 2 ^ i else 0
set_option maxHeartbeats 2000000 in
set_option maxRecDepth 100000 in
theorem f110_any (n i l : Nat) (w : World) (hi : i < 6) (hl : l < 4) :
    Calls Tryz.prog 110 #[.int .i64 n, .int .i64 i, .int .i64 l] w fun e w' => e = .returned (pauV n (oneX l i) (oneZ l i) 0) ∧ Below w.heap.size w w' := by
  have e4 := w64p i hi
  have e4' : IntKind.i64.wrap (2 ^ i) = ((2 ^ i : Nat) : Int) := by rw [IntKind.wrap_i64]; have h := e4; unfold wrap64 at h; exact h
  unfold pauV oneX oneZ
  obtain ⟨m, hm⟩ : ∃ m, 2 ^ i = m := ⟨_, rfl⟩
  rw [hm] at e4 e4' ⊢
  clear hm
  have hA1 : Blk ((w.alloc (.cells #[.int .i64 0, .int .i64 0, .int .i64 0, .int .i64 0] 49)).alloc (.cells #[.int .i64 n, .int .i64 0, .int .i64 0, .int .i64 0] 49)) (w.heap.size + 1) 49 #[.int .i64 n, .int .i64 0, .int .i64 0, .int .i64 0] := Blk.new' _ _ (by simp)
  have hbA : Below w.heap.size w ((w.alloc (.cells #[.int .i64 0, .int .i64 0, .int .i64 0, .int .i64 0] 49)).alloc (.cells #[.int .i64 n, .int .i64 0, .int .i64 0, .int .i64 0] 49)) := ((Below.refl _ _).alloc (Nat.le_refl _) _).alloc (by simp) _
  obtain rfl | rfl | rfl | rfl : l = 0 ∨ l = 1 ∨ l = 2 ∨ l = 3 := by omega
  all_goals
    go_enter Tryz.func110, Tryz.ntmps110
    go_wp2_with (fail)
    first | exact bodyPost_ret (v := .agg #[.int .i64 n, .int .i64 m, .int .i64 m, .int .i64 0]) (by simp [results, Tryz.results110, go_sem]) rfl ⟨rfl, ((Below.refl _ _).alloc (Nat.le_refl _) _).alloc (by simp) _⟩ | exact bodyPost_ret (v := .agg #[.int .i64 n, .int .i64 m, .int .i64 0, .int .i64 0]) (by simp [results, Tryz.results110, go_sem]) rfl ⟨rfl, ((Below.refl _ _).alloc (Nat.le_refl _) _).alloc (by simp) _⟩ | exact bodyPost_ret (v := .agg #[.int .i64 n, .int .i64 0, .int .i64 m, .int .i64 0]) (by simp [results, Tryz.results110, go_sem]) rfl ⟨rfl, ((Below.refl _ _).alloc (Nat.le_refl _) _).alloc (by simp) _⟩ | exact bodyPost_ret (v := .agg #[.int .i64 n, .int .i64 0, .int .i64 0, .int .i64 0]) (by simp [results, Tryz.results110, go_sem]) rfl ⟨rfl, ((Below.refl _ _).alloc (Nat.le_refl _) _).alloc (by simp) _⟩
set_option maxHeartbeats 2000000 in
set_option maxRecDepth 100000 in
theorem f108_any (g : Gt) (b c : Nat) (w : World) (h4 : g.k = 4) :
    Calls Tryz.prog 108 #[gtV g b c] w fun e w' => e = .returned (.bool true) ∧ Below w.heap.size w w' := by
  obtain ⟨k, ws⟩ := g
  unfold gtV
  dsimp only at h4 ⊢
  subst h4
  go_enter Tryz.func108, Tryz.ntmps108
  go_wp2_with (fail)
  go_ret
  exact ⟨rfl, (Below.refl _ _).alloc (Nat.le_refl _) _⟩
set_option maxHeartbeats 400000 in
theorem f139_any (g : Nat) (lb : Array Value) (eg : ∀ args w, (callFunc g args).run Tryz.prog w = .ok (.enter g args) w) (gt : Gt) (b c : Nat) (B : Nat) (w : World) (hBl : B < w.heap.size)
    (hB : w.cell? ⟨B, 0, none⟩ = some (.func (.func g) #[] lb))
    (hp : ∀ W, Below w.heap.size w W → Calls Tryz.prog g (#[gtV gt b c] ++ lb) W fun e w' => e = .returned (.bool true) ∧ Below W.heap.size W w') :
    Calls Tryz.prog 139 #[gtV gt b c, .pointer (some ⟨B, 0, none⟩)] w fun e w' => e = .returned (.bool false) ∧ Below w.heap.size w w' := by
  have hbA : Below w.heap.size w (w.alloc (.cells #[.int .i64 gt.k, .slice (some ⟨b, 0, none⟩) gt.ws.length c, .int .i64 0, .int .i64 0] 45)) := (Below.refl _ _).alloc (Nat.le_refl _) _
  have hp' := hp _ hbA
  unfold gtV at hp' ⊢
  clear hp
  go_enter Tryz.func139, Tryz.ntmps139
  go_wp2_with (go_at_fn g; refine hp'.mono ?_; rintro e w' ⟨rfl, hb'⟩)
  go_ret
  exact ⟨rfl, bt hbA hb'⟩
theorem f107_any (g : Nat) (lb : Array Value) (eg : ∀ args w, (callFunc g args).run Tryz.prog w = .ok (.enter g args) w) (lo : Nat) (gv : Value) (gs : List Gt) (w : World) (hL : gs.length ≤ 120) (hR : GatesR w lo gv gs) (hp : GateAll g lb gs w) :
    Calls Tryz.prog 107 #[gv, .func (.func g) #[] lb] w fun e w' => e = .returned (.bool true) ∧ Below w.heap.size w w' := by
  have hb0 : Below w.heap.size w (w.alloc (.cells #[.func (.func g) #[] lb] 144)) := (Below.refl _ w).alloc (Nat.le_refl _) _
  have hP0 := Blk.new w 144 #[.func (.func g) #[] lb]
  have H := f138_any 139 #[.pointer (some ⟨w.heap.size, 0, none⟩)] (enters_of Tryz.func139 (by kernel_rfl) rfl) lo gv gs _ hL (hR.below hb0) (fun W gt b c hgt hb => f139_any g lb eg gt b c w.heap.size W (hP0.below hb).lt ((hP0.below hb).cells 0) (fun W2 hb2 => hp W2 gt b c hgt (bt (bt hb0 hb) hb2)))
  clear hp hR
  go_enter Tryz.func107, Tryz.ntmps107
  go_wp2_with (go_at_call 138; refine H.mono ?_; rintro e w' ⟨rfl, hb'⟩)
  go_ret
  exact ⟨rfl, bt hb0 hb'⟩
theorem f57_any (n x z p lo N : Nat) (gv : Value) (gs : List Gt) (w : World) (h1 : 1 ≤ n) (hn : n ≤ 6) (hN : Hid (2 ^ n = N)) (hx : x < N) (hz : z < N) (hp : p < 4) (hg : ∀ gt ∈ gs, Gt.okH gt n) (h4 : ∀ gt ∈ gs, gt.k = 4) (hL : gs.length ≤ 120) (hR : GatesR w lo gv gs) :
    Calls Tryz.prog 57 #[pauV n x z p, .agg #[.int .i64 n, .int .i64 0, gv]] w fun e w' => e = .returned (.int .i64 0) ∧ Below w.heap.size w w' := by
  have hb1 : Below w.heap.size w ((w.alloc (.cells #[.int .i64 n, .int .i64 x, .int .i64 z, .int .i64 p] 49)).alloc (.cells #[.int .i64 n, .int .i64 0, gv] 43)) := ((Below.refl _ _).alloc (Nat.le_refl _) _).alloc (by simp) _
  have hP0 : Blk ((w.alloc (.cells #[.int .i64 n, .int .i64 x, .int .i64 z, .int .i64 p] 49)).alloc (.cells #[.int .i64 n, .int .i64 0, gv] 43)) w.heap.size 49 #[.int .i64 n, .int .i64 x, .int .i64 z, .int .i64 p] := (Blk.new _ _ _).alloc _
  have hC0 : Blk ((w.alloc (.cells #[.int .i64 n, .int .i64 x, .int .i64 z, .int .i64 p] 49)).alloc (.cells #[.int .i64 n, .int .i64 0, gv] 43)) (w.heap.size + 1) 43 #[.int .i64 n, .int .i64 0, gv] := Blk.new' _ _ (by simp)
  have hR1 := hR.below hb1
  have H59 := fun W => f59_any n x z p N W h1 hn hN hx hz hp
  have H106 := fun W (h : Below ((w.alloc (.cells #[.int .i64 n, .int .i64 x, .int .i64 z, .int .i64 p] 49)).alloc (.cells #[.int .i64 n, .int .i64 0, gv] 43)).heap.size ((w.alloc (.cells #[.int .i64 n, .int .i64 x, .int .i64 z, .int .i64 p] 49)).alloc (.cells #[.int .i64 n, .int .i64 0, gv] 43)) W) => f106_any n lo gv gs W h1 (by omega) hg hL (hR1.below h)
  have H107 := fun W (h : Below ((w.alloc (.cells #[.int .i64 n, .int .i64 x, .int .i64 z, .int .i64 p] 49)).alloc (.cells #[.int .i64 n, .int .i64 0, gv] 43)).heap.size ((w.alloc (.cells #[.int .i64 n, .int .i64 x, .int .i64 z, .int .i64 p] 49)).alloc (.cells #[.int .i64 n, .int .i64 0, gv] 43)) W) => f107_any 108 #[] (enters_of Tryz.func108 (by kernel_rfl) rfl) lo gv gs W hL (hR1.below h) (fun W2 gt b c hgt _ => f108_any gt b c W2 (h4 gt hgt))
  unfold pauV at H59 ⊢
  clear hg h4 hR hR1
  go_enter Tryz.func57, Tryz.ntmps57
  go_wp2_with (first
    | (go_at_call 59; refine (H59 _).mono ?_; clear H59; rintro e w1 ⟨rfl, hw1⟩; have cC1 := (hC0.below hw1).cells)
    | (go_at_call 106; refine (H106 _ hw1).mono ?_; clear H106; rintro e w2 ⟨rfl, hw2⟩; have hw12 := bt hw1 hw2; have cC2 := (hC0.below hw12).cells; have cP2 := (hP0.below hw12).cells)
    | (go_at_call 107; refine (H107 _ hw12).mono ?_; clear H107; rintro e w3 ⟨rfl, hw3⟩))
  go_ret
  exact ⟨rfl, bt (bt hb1 hw12) hw3⟩
end
end Go.Proofs.YtdfgmmjcamhdjaaGreatDoor
