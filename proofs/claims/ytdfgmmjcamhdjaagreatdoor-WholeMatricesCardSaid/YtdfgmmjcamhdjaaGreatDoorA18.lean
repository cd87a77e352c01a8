/- Steps to WholeMatrices' card; what each asks stands in it. -/
import Derived.Test.YtdfgmmjcamhdjaaGreatDoorA07
import Derived.Test.YtdfgmmjcamhdjaaGreatDoorA16
import Derived.Test.YtdfgmmjcamhdjaaGreatDoorA17
set_option linter.unusedVariables false
set_option linter.unusedSimpArgs false
namespace Go.Proofs.YtdfgmmjcamhdjaaGreatDoor
section
open Go.RowKit
attribute [local go_sem ↓] Go.wp_at_zero Go.wp_at_succ
/-- w times a number -/
def Q.turn (q : Q) : Q := ⟨-q.d, q.a, q.b, q.c⟩
def turnQ : Nat → Q → Q
  | 0, q => q
  | k + 1, q => (turnQ k q).turn
theorem Q.turn_le {q : Q} {m : Int} (h : q.Le m) : q.turn.Le m := by
  obtain ⟨h1, h2, h3, h4, h5, h6, h7, h8⟩ := h
  unfold Q.turn Q.Le
  dsimp only
  omega
theorem turnQ_le {q : Q} {m : Int} (h : q.Le m) : ∀ k, (turnQ k q).Le m
  | 0 => h
  | k + 1 => Q.turn_le (turnQ_le h k)
set_option maxHeartbeats 1000000 in
set_option maxRecDepth 100000 in
theorem f33_any (q r : Q) (k p m : Nat) (w : World) (hq : q.Le 1000000000) (hp : p ≤ 1000) (hm : Hid (m = p % 8)) (hr : Hid (turnQ m q = r)) :
    Calls Tryz.prog 33 #[.agg #[.int .i64 q.a, .int .i64 q.b, .int .i64 q.c, .int .i64 q.d, .int .i64 k], .int .i64 p] w fun e w' => e = .returned (.agg #[.int .i64 r.a, .int .i64 r.b, .int .i64 r.c, .int .i64 r.d, .int .i64 k]) ∧ Below w.heap.size w w' := by
  have hb : bits BinOp.and IntKind.i64 (p : Int) 7 = (m : Int) := by
    rw [hm.out]
    have := i64_and p 7 (by omega) (by omega)
    rw [show ((7 : Nat) : Int) = 7 from rfl] at this
    rw [this, show (7 : Nat) = 2 ^ 3 - 1 from rfl, Nat.and_two_pow_sub_one_eq_mod]
  have hm8 : m < 8 := by rw [hm.out]; omega
  clear hm
  go_enter Tryz.func33, Tryz.ntmps33
  go_wp2
  clear hb
  go_loopg [7] m (fun gg s7 wr => ∃ kk : Nat, kk ≤ m ∧ m - kk ≤ gg ∧ s7 = .int .i64 kk ∧ Aside (∃ z, turnQ kk q = z ∧ Blk wr w.heap.size 38 #[.int .i64 z.a, .int .i64 z.b, .int .i64 z.c, .int .i64 z.d, .int .i64 k]) ∧ Aside (Blk wr (w.heap.size + 1) 38 #[.int .i64 0, .int .i64 0, .int .i64 0, .int .i64 0, .int .i64 0]) ∧ Aside (Below w.heap.size w wr))
  case atStart => exact ⟨0, Nat.zero_le _, by omega, rfl, ⟨q, rfl, (Blk.new' _ _ (by simp)).alloc _⟩, Blk.new' _ _ (by simp), (((Below.refl _ _).alloc (Nat.le_refl _) _).alloc (by simp) _)⟩
  case round =>
    obtain ⟨kk, hkk, hg, rfl, AZ, AR, BW⟩ := hrel
    obtain ⟨z, hz, hZ⟩ := AZ.out
    have hR := AR.out
    have hW := BW.out
    have cZ := hZ.cells
    have fZ := hZ.frozen
    have cR := hR.cells
    have fR := hR.frozen
    have hzl := turnQ_le hq kk
    rw [hz] at hzl
    obtain ⟨z1, z2, z3, z4, z5, z6, z7, z8⟩ := hzl
    by_cases hlt : kk < m
    · have hltz : (kk : Int) < (m : Int) := by omega
      go_wp2
      go_roundg (m - (kk + 1))
      case measure => omega
      case rel =>
        exact ⟨kk + 1, by omega, by omega, by go_num, (show Aside _ from ⟨z.turn, by rw [← hz]; rfl, ((((hZ.set 0 (.int .i64 (-z.d))).set 1 (.int .i64 z.a)).set 2 (.int .i64 z.b)).set 3 (.int .i64 z.c))⟩), (show Aside _ from (((hR.far (by simp) _).far (by simp) _).far (by simp) _).far (by simp) _), (show Aside _ from (((hW.setCell (by simp) _).setCell (by simp) _).setCell (by simp) _).setCell (by simp) _)⟩
    · have hltz : ¬ (kk : Int) < (m : Int) := by omega
      obtain rfl : kk = m := by omega
      obtain rfl : z = r := hz.symm.trans hr.out
      go_wp2
      have hF := (((((hR.set 0 (.int .i64 z.a)).set 1 (.int .i64 z.b)).set 2 (.int .i64 z.c)).set 3 (.int .i64 z.d)).set 4 (.int .i64 k))
      have cF := hF.cells
      refine bodyPost_ret (v := .agg #[.int .i64 z.a, .int .i64 z.b, .int .i64 z.c, .int .i64 z.d, .int .i64 k]) (by simp [results, Tryz.results33, go_sem, cF]) rfl ⟨rfl, ?_⟩
      exact (((((hW.setCell (by simp) _).setCell (by simp) _).setCell (by simp) _).setCell (by simp) _).setCell (by simp) _)
end
section
open Go.RowKit
attribute [local go_sem ↓] Go.wp_at_zero Go.wp_at_succ
set_option maxHeartbeats 1000000 in
set_option maxRecDepth 100000 in
theorem f28_any (r : Q) (k p m : Nat) (w : World) (hp : p ≤ 1000) (hm : Hid (m = p % 8)) (hr : Hid (wq m = r)) :
    Calls Tryz.prog 28 #[.int .i64 p, .int .i64 k] w fun e w' => e = .returned (.agg #[.int .i64 r.a, .int .i64 r.b, .int .i64 r.c, .int .i64 r.d, .int .i64 k]) ∧ Below w.heap.size w w' := by
  have hr2 : Hid (turnQ m ⟨1, 0, 0, 0⟩ = r) := by
    show _ = _
    rw [← hr.out]
    have hm8 : m < 8 := by rw [hm.out]; omega
    match m, hm8 with
    | 0, _ => rfl
    | 1, _ => rfl
    | 2, _ => rfl
    | 3, _ => rfl
    | 4, _ => rfl
    | 5, _ => rfl
    | 6, _ => rfl
    | 7, _ => rfl
  have H : ∀ W, Calls Tryz.prog 33 #[.agg #[.int .i64 1, .int .i64 0, .int .i64 0, .int .i64 0, .int .i64 k], .int .i64 p] W fun e w' => e = .returned (.agg #[.int .i64 r.a, .int .i64 r.b, .int .i64 r.c, .int .i64 r.d, .int .i64 k]) ∧ Below W.heap.size W w' := fun W => f33_any ⟨1, 0, 0, 0⟩ r k p m W (show _ ∧ _ from by decide) hp hm hr2
  go_enter Tryz.func28, Tryz.ntmps28
  go_wp2_with (go_at_call 33; refine (H _).mono ?_; rintro e w1 ⟨rfl, hb1⟩; have hR := Blk.below (b := w.heap.size) (T := 38) (cs := #[.int .i64 0, .int .i64 0, .int .i64 0, .int .i64 0, .int .i64 0]) (Blk.new' _ _ (by simp)) hb1; have cR := hR.cells; have fR := hR.frozen; have lR := hR.lt)
  have hF := (((((hR.set 0 (.int .i64 r.a)).set 1 (.int .i64 r.b)).set 2 (.int .i64 r.c)).set 3 (.int .i64 r.d)).set 4 (.int .i64 k))
  have cF := hF.cells
  refine bodyPost_ret (v := .agg #[.int .i64 r.a, .int .i64 r.b, .int .i64 r.c, .int .i64 r.d, .int .i64 k]) (by simp [results, Tryz.results28, go_sem, cF]) rfl ⟨rfl, ?_⟩
  have hW : Below w.heap.size w w1 := bt ((Below.refl _ _).alloc (Nat.le_refl _) _) hb1
  exact (((((hW.setCell (by simp) _).setCell (by simp) _).setCell (by simp) _).setCell (by simp) _).setCell (by simp) _)
def kinds3 : Array Value := #[.int .i64 1, .int .i64 2, .int .i64 3, .int .i64 5, .int .i64 6, .int .i64 7, .int .i64 8, .int .i64 9, .int .i64 10, .int .i64 11, .int .i64 12, .int .i64 12]
set_option maxHeartbeats 1000000 in
set_option maxRecDepth 100000 in
theorem f24_3 (w : World) :
    Calls Tryz.prog 24 #[.int .i64 3] w fun e w' => e = .returned (.slice (some ⟨w.heap.size, 0, none⟩) 12 12) ∧ w' = w.alloc (.cells kinds3 3) := by
  go_enter Tryz.func24, Tryz.ntmps24
  go_wp2
  go_ret
  exact ⟨rfl, rfl⟩
set_option maxHeartbeats 1000000 in
set_option maxRecDepth 100000 in
theorem f18_any (n : Nat) (w : World) (hn : n < 64) :
    Calls Tryz.prog 18 #[.int .i64 n] w fun e w' => e = .returned (.int .i64 (odd n)) ∧ w' = w := by
  have hodd : ∀ m, m < 64 → 0 < m → m &&& (m - 1) < m ∧ odd m = odd (m &&& (m - 1)) ^^^ 1 ∧ odd (m &&& (m - 1)) < 2 := by decide +kernel
  go_enter Tryz.func18, Tryz.ntmps18
  go_wp2
  go_loopg [0, 3] n (fun gg s0 s3 wr => ∃ m o : Nat, m < 64 ∧ m ≤ gg ∧ o < 2 ∧ s0 = .int .i64 m ∧ s3 = .int .i64 o ∧ Aside (o ^^^ odd m = odd n) ∧ Aside (wr = w))
  case atStart => exact ⟨n, 0, hn, Nat.le_refl _, by decide, rfl, rfl, (show Aside _ from Nat.zero_xor _), (show Aside _ from rfl)⟩
  case round =>
    obtain ⟨m, o, hm, hg, ho, rfl, rfl, AO, AW⟩ := hrel
    obtain rfl := AW.out
    by_cases h0 : 0 < m
    · have h0z : (0 : Int) < (m : Int) := by omega
      obtain ⟨g1, g2, g3⟩ := hodd m hm h0
      have hm1 : ((m : Int) - 1) = ((m - 1 : Nat) : Int) := by omega
      have e1 : bits BinOp.and IntKind.i64 (m : Int) ((m : Int) - 1) = ((m &&& (m - 1) : Nat) : Int) := by rw [hm1]; exact i64_and m (m - 1) (by omega) (by omega)
      have e2 : bits BinOp.xor IntKind.i64 (o : Int) 1 = ((o ^^^ 1 : Nat) : Int) := i64_xor o 1 (by omega) (by omega)
      clear hodd
      go_wp2
      go_roundg (m &&& (m - 1))
      case measure => omega
      case rel =>
        refine ⟨m &&& (m - 1), o ^^^ 1, by omega, Nat.le_refl _, ?_, congrArg (Value.int .i64) (hm1 ▸ e1), rfl, (show Aside _ from ?_), (show Aside _ from rfl)⟩
        · obtain rfl | rfl : o = 0 ∨ o = 1 := by omega
          · decide
          · decide
        · show _ = _
          rw [← AO.out, g2, Nat.xor_assoc, Nat.xor_comm 1]
    · obtain rfl : m = 0 := by omega
      have h0z : ¬ (0 : Int) < ((0 : Nat) : Int) := by omega
      clear hodd
      go_wp2
      go_ret
      refine ⟨?_, rfl⟩
      have := AO.out
      rw [show odd 0 = 0 from by simp [odd], Nat.xor_zero] at this
      rw [this]
      rfl
end
end Go.Proofs.YtdfgmmjcamhdjaaGreatDoor
namespace Go.Proofs.YtdfgmmjcamhdjaaGreatDoor
open Go.RowKit
attribute [local go_sem ↓] Go.wp_at_zero Go.wp_at_succ
attribute [local go_sem] World.cell?_alloc_past
/-- how many wires a kind has -/
def arK (k : Nat) : Nat := if k ≤ 8 then 1 else if k ≤ 11 then 2 else 3
theorem kinds12 {k : Nat} (h1 : 1 ≤ k) (h2 : k ≤ 12) : k = 1 ∨ k = 2 ∨ k = 3 ∨ k = 4 ∨ k = 5 ∨ k = 6 ∨ k = 7 ∨ k = 8 ∨ k = 9 ∨ k = 10 ∨ k = 11 ∨ k = 12 := by omega
set_option maxHeartbeats 1000000 in
set_option maxRecDepth 100000 in
theorem f66_any (k : Nat) (w : World) (h1 : 1 ≤ k) (h2 : k ≤ 12) : Calls Tryz.prog 66 #[.int .i64 k] w fun e w' => e = .returned (.int .i64 (arK k)) ∧ w' = w := by
  obtain rfl | rfl | rfl | rfl | rfl | rfl | rfl | rfl | rfl | rfl | rfl | rfl := kinds12 h1 h2
  all_goals
    clear h1 h2
    go_enter Tryz.func66, Tryz.ntmps66
    go_wp2
    go_ret
    exact ⟨rfl, rfl⟩
set_option maxHeartbeats 1000000 in
set_option maxRecDepth 100000 in
theorem f154_any (k : Nat) (w : World) (h1 : 1 ≤ k) (h2 : k ≤ 12) : Calls Tryz.prog 154 #[.int .i64 k] w fun e w' => e = .returned (.int .i64 (arK k)) ∧ w' = w := by
  obtain rfl | rfl | rfl | rfl | rfl | rfl | rfl | rfl | rfl | rfl | rfl | rfl := kinds12 h1 h2
  all_goals
    clear h1 h2
    go_enter Tryz.func154, Tryz.ntmps154
    go_wp2
    go_ret
    exact ⟨rfl, rfl⟩
set_option maxHeartbeats 1000000 in
set_option maxRecDepth 100000 in
theorem f67_any (x i r : Nat) (p b o1 : Value) (w : World) (hx : x < 64) (hi : i < 6) (hr : Hid (x / 2 ^ i % 2 = r)) : Calls Tryz.prog 67 #[.agg #[.int .i64 x, p, b, o1], .int .i64 i] w fun e w' => e = .returned (.int .i64 r) ∧ Below w.heap.size w w' := by
  have hx2 : x / 2 ^ i ≤ x := Nat.div_le_self _ _
  go_enter Tryz.func67, Tryz.ntmps67
  go_wp2
  go_ret
  have e0 : ((x : Int) / 2 ^ i) = ((x / 2 ^ i : Nat) : Int) := by simp
  have e1 : bits BinOp.and IntKind.i64 ((x : Int) / 2 ^ i) 1 = (r : Int) := by
    rw [e0]
    have := i64_and (x / 2 ^ i) 1 (by omega) (by omega)
    rw [Nat.and_one_is_mod, hr.out] at this
    exact this
  exact ⟨by rw [e1]; rfl, (Below.refl _ _).alloc (Nat.le_refl _) _⟩
/-- what a gate that takes basis states to basis states makes of a basis state and its power of w -/
def doneX (k w0 w1 w2 x : Nat) : Nat :=
  match k with
  | 1 | 2 => x ^^^ 2 ^ w0
  | 9 => x ^^^ (x / 2 ^ w0 % 2) * 2 ^ w1
  | 11 => x ^^^ ((((x / 2 ^ w0 % 2) ^^^ (x / 2 ^ w1 % 2)) * 2 ^ w0) ||| (((x / 2 ^ w0 % 2) ^^^ (x / 2 ^ w1 % 2)) * 2 ^ w1))
  | 12 => x ^^^ (x / 2 ^ w0 % 2) * (x / 2 ^ w1 % 2) * 2 ^ w2
  | _ => x
def doneP (k w0 w1 x p : Nat) : Nat :=
  match k with
  | 2 => p + 2 + 4 * (x / 2 ^ w0 % 2)
  | 3 => p + 4 * (x / 2 ^ w0 % 2)
  | 5 => p + 2 * (x / 2 ^ w0 % 2)
  | 6 => p + 6 * (x / 2 ^ w0 % 2)
  | 7 => p + x / 2 ^ w0 % 2
  | 8 => p + 7 * (x / 2 ^ w0 % 2)
  | 10 => p + 4 * (x / 2 ^ w0 % 2) * (x / 2 ^ w1 % 2)
  | _ => p
def wkC (x p : Nat) : Array Value := #[.int .i64 x, .int .i64 p, .int .i64 0, .slice none 0 0]
end Go.Proofs.YtdfgmmjcamhdjaaGreatDoor
namespace Go.Proofs.YtdfgmmjcamhdjaaGreatDoor
open Go.RowKit
theorem pw6 (i : Nat) (h : i < 6) : 2 ^ i ≤ 32 := by
  have := Nat.pow_le_pow_right (n := 2) (by decide) (show i ≤ 5 by omega)
  omega
theorem w64n (n : Nat) (h : n < 4611686018427387904) : wrap64 (n : Int) = n := by unfold wrap64; omega
theorem w64p (i : Nat) (h : i < 6) : wrap64 (2 ^ i) = ((2 ^ i : Nat) : Int) := by
  rw [show (2 ^ i : Int) = ((2 ^ i : Nat) : Int) from by simp]
  exact w64n _ (by have := pw6 i h; omega)
theorem w64b (a i : Nat) (ha : a < 2) (h : i < 6) : a * 2 ^ i < 4611686018427387904 := by
  have := pw6 i h
  obtain rfl | rfl : a = 0 ∨ a = 1 := by omega
  all_goals omega
theorem w64m (a i : Nat) (ha : a < 2) (h : i < 6) : wrap64 ((a : Int) * 2 ^ i) = ((a * 2 ^ i : Nat) : Int) := by
  rw [show ((a : Int) * 2 ^ i : Int) = ((a * 2 ^ i : Nat) : Int) from by simp]
  exact w64n _ (w64b a i ha h)
theorem aa2 {a a' : Nat} (h : a < 2) (h' : a' < 2) : a * a' < 2 := by
  obtain rfl | rfl : a = 0 ∨ a = 1 := by omega
  all_goals omega
theorem w64a (a a' : Nat) (h : a < 2) (h' : a' < 2) : wrap64 ((a : Int) * (a' : Int)) = ((a * a' : Nat) : Int) := by
  rw [show ((a : Int) * (a' : Int)) = ((a * a' : Nat) : Int) from by simp]
  exact w64n _ (by have := aa2 h h'; omega)
theorem or62 (a b : Nat) (h : a < 4611686018427387904) (h' : b < 4611686018427387904) : a ||| b < 4611686018427387904 := Nat.or_lt_two_pow (n := 62) h h'
end Go.Proofs.YtdfgmmjcamhdjaaGreatDoor
namespace Go.Proofs.YtdfgmmjcamhdjaaGreatDoor
section
open Go.RowKit
attribute [local go_sem ↓] Go.wp_at_zero Go.wp_at_succ
/-- a number that driftSome draws: in least form -/
def someN (x : Num) : Prop := (∃ v : Int, x.q.a = 2 * v + 1 ∧ -3 ≤ v ∧ v ≤ 3) ∧ (-4 ≤ x.q.b ∧ x.q.b ≤ 4) ∧ (∃ v : Int, x.q.c = 2 * v ∧ -2 ≤ v ∧ v ≤ 2) ∧ (-4 ≤ x.q.d ∧ x.q.d ≤ 4) ∧ x.k < 5
set_option maxHeartbeats 1000000 in
set_option maxRecDepth 100000 in
theorem f32_any (B n : Nat) (w : World) (hS : StoreAt w B n) (hn : n ≤ 999999000) :
    Calls Tryz.prog 32 #[.pointer (some ⟨B, 0, none⟩)] w fun e w' => ∃ x : Num, e = .returned (.agg #[.int .i64 x.q.a, .int .i64 x.q.b, .int .i64 x.q.c, .int .i64 x.q.d, .int .i64 x.k]) ∧ someN x ∧ StoreAt w' B (n + 5) ∧ KeepX B w w' := by
  have hBl : B < w.heap.size := hS.lt
  have hb0 : Below w.heap.size w (w.alloc (.cells #[.int .i64 0, .int .i64 0, .int .i64 0, .int .i64 0, .int .i64 0] 38)) := (Below.refl _ _).alloc (Nat.le_refl _) _
  have hR0 : Blk (w.alloc (.cells #[.int .i64 0, .int .i64 0, .int .i64 0, .int .i64 0, .int .i64 0] 38)) w.heap.size 38 #[.int .i64 0, .int .i64 0, .int .i64 0, .int .i64 0, .int .i64 0] := Blk.new _ _ _
  have hS0 := hS.below hb0
  have hK0 : KeepX B w _ := KeepX.of_below hb0
  go_enter Tryz.func32, Tryz.ntmps32
  go_wp2_with (first
    | (go_at_call 80; refine (f80_3 B n _ hS0 (by omega)).mono ?_; clear hS0; rintro e w1 ⟨v1, p1, q1, rfl, hS1, hK1⟩; have hR1 := hR0.keepX hK1 (by omega); have hK01 := hK0.trans hK1)
    | (go_at_call 80; refine (f80_4 B (n + 1) _ hS1 (by omega)).mono ?_; clear hS1; rintro e w2 ⟨v2, p2, q2, rfl, hS2, hK2⟩; have hR2 := hR1.keepX hK2 (by omega); have hK02 := hK01.trans hK2)
    | (go_at_call 80; refine (f80_2 B (n + 2) _ hS2 (by omega)).mono ?_; clear hS2; rintro e w3 ⟨v3, p3, q3, rfl, hS3, hK3⟩; have hR3 := hR2.keepX hK3 (by omega); have hK03 := hK02.trans hK3)
    | (go_at_call 80; refine (f80_4 B (n + 3) _ hS3 (by omega)).mono ?_; clear hS3; rintro e w4 ⟨v4, p4, q4, rfl, hS4, hK4⟩; have hR4 := hR3.keepX hK4 (by omega); have hK04 := hK03.trans hK4)
    | (go_at_call 5; refine (f5_any B (n + 4) 5 _ hS4 (by omega) (by omega) (by omega)).mono ?_; clear hS4; rintro e w5 ⟨v5, p5, rfl, hS5, hK5⟩; have hR5 := hR4.keepX hK5 (by omega); have hK05 := hK04.trans hK5; have cR5 := hR5.cells; have fR5 := hR5.frozen; have lR5 := hR5.lt))
  have hF := (((((hR5.set 0 (.int .i64 (2 * v1 + 1))).set 1 (.int .i64 v2)).set 2 (.int .i64 (2 * v3))).set 3 (.int .i64 v4)).set 4 (.int .i64 v5))
  have cF := hF.cells
  refine bodyPost_ret (v := .agg #[.int .i64 (2 * v1 + 1), .int .i64 v2, .int .i64 (2 * v3), .int .i64 v4, .int .i64 v5]) (by simp [results, Tryz.results32, go_sem, cF]) rfl ⟨⟨⟨2 * v1 + 1, v2, 2 * v3, v4⟩, v5⟩, rfl, ⟨⟨v1, rfl, p1, q1⟩, ⟨p2, q2⟩, ⟨v3, rfl, p3, q3⟩, ⟨p4, q4⟩, p5⟩, ?_, ?_⟩
  · exact ((((hS5.far (by simp; omega) _).far (by simp; omega) _).far (by simp; omega) _).far (by simp; omega) _).far (by simp; omega) _
  · exact ((((hK05.setOwn (by simp) _).setOwn (by simp) _).setOwn (by simp) _).setOwn (by simp) _).setOwn (by simp) _
end
end Go.Proofs.YtdfgmmjcamhdjaaGreatDoor
