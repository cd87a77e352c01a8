/- Steps to WholeMatrices' card; what each asks stands in it. -/
import Derived.Test.YtdfgmmjcamhdjaaGreatDoorA31
set_option linter.unusedVariables false
set_option linter.unusedSimpArgs false
namespace Go.Proofs.YtdfgmmjcamhdjaaGreatDoor
section
open Go.RowKit
attribute [local go_sem ↓] Go.wp_at_zero Go.wp_at_succ
def PauMPost (n x z p N : Nat) (w : World) (e : Ending) (w' : World) : Prop := ∃ B, e = .returned (.tuple #[.slice (some ⟨B, 0, none⟩) N N, .int .i64 0]) ∧ Mat w' (some ⟨B, 0, none⟩) N N (pauN x z p n) ∧ Below w.heap.size w w'
theorem Mat.congr {w : World} {A : Option Addr} {h n : Nat} {M M' : Nat → Nat → Num} (H : Mat w A h n M) (e : ∀ i j, i < h → j < n → M i j = M' i j) : Mat w A h n M' := by
  obtain ⟨b, off, rb, ro, rc, hA, H⟩ := H
  exact ⟨b, off, rb, ro, rc, hA, H.dims, H.lt, H.row, fun i j hi hj => by rw [← e i j hi hj]; exact H.num i j hi hj⟩
def KronPost (m2 : Nat) (M : Nat → Nat → Num) (w : World) (e : Ending) (w' : World) : Prop := ∃ B, e = .returned (.tuple #[.slice (some ⟨B, 0, none⟩) m2 m2, .int .i64 0]) ∧ Mat w' (some ⟨B, 0, none⟩) m2 m2 M ∧ Below w.heap.size w w'
theorem f14_pau (x z p k m m2 : Nat) (hm : 2 ^ k = m) (hm2 : 2 * m = m2) (h64 : m2 ≤ 64) {A A' : Option Addr} (cap cap' : Nat) (w : World) (HM : Mat w A 2 2 (letM (letK x z k))) (HN : Mat w A' m m (pauN x z p k)) :
    Calls Tryz.prog 14 #[.slice A 2 cap, .slice A' m cap'] w (KronPost m2 (pauN x z p (k + 1)) w) := by
  subst hm hm2
  have hp := Nat.two_pow_pos k
  refine (f14_any cap cap' w HM HN (fun i j hi hj => letM_sm x z k i j hi hj) (fun i j _ _ => pauN_sm _ _ _ _ _ _) h64 h64 (fun i j hi hj => by rw [pau_step x z p k i j hi hj])).mono ?_
  rintro e w' ⟨B, _, rfl, hF, hb⟩
  exact ⟨B, rfl, (hF.mat ⟨by omega, h64, by omega, h64⟩).congr (fun i j hi hj => by rw [pau_step x z p k i j hi hj]), hb⟩
set_option maxHeartbeats 4000000 in
set_option maxRecDepth 100000 in
theorem f17_any (n x z p N : Nat) (w : World) (hn1 : 1 ≤ n) (hn : n ≤ 6) (hN : Hid (2 ^ n = N)) (hx : x < N) (hz : z < N) (hp : p < 4) :
    Calls Tryz.prog 17 #[.agg #[.int .i64 n, .int .i64 x, .int .i64 z, .int .i64 p]] w (PauMPost n x z p N w) := by
  have h2n : 2 ^ n ≤ 64 := Nat.pow_le_pow_right (n := 2) (by decide) hn
  have hN64 : N ≤ 64 := by rw [← hN.out]; exact h2n
  have e60 : ∀ args w, (callFunc 60 args).run Tryz.prog w = .ok (.enter 60 args) w := enters_of Tryz.func60 (by kernel_rfl) rfl
  have hb0 : Below w.heap.size w (w.alloc (.cells #[.int .i64 n, .int .i64 x, .int .i64 z, .int .i64 p] 49)) := (Below.refl _ _).alloc (Nat.le_refl _) _
  have hP0 : Blk (w.alloc (.cells #[.int .i64 n, .int .i64 x, .int .i64 z, .int .i64 p] 49)) w.heap.size 49 #[.int .i64 n, .int .i64 x, .int .i64 z, .int .i64 p] := Blk.new _ _ _
  obtain ⟨w0, hw0⟩ : ∃ w0, w.alloc (.cells #[.int .i64 n, .int .i64 x, .int .i64 z, .int .i64 p] 49) = w0 := ⟨_, rfl⟩
  rw [hw0] at hb0 hP0
  have cP := hP0.cells
  have H59 := f59_any n x z p N w0 hn1 hn hN hx hz hp
  unfold pauV at H59
  have H61 : ∀ W, Calls Tryz.prog 61 #[.int .i64 (2 * (p : Int))] W fun e w' => e = .returned (.agg #[.int .i64 (wq (2 * p)).a, .int .i64 (wq (2 * p)).b, .int .i64 (wq (2 * p)).c, .int .i64 (wq (2 * p)).d, .int .i64 0]) ∧ Below W.heap.size W w' := fun W => by
    have h := f61_any (2 * p) W (by omega)
    rw [show ((2 * p : Nat) : Int) = 2 * (p : Int) from by simp] at h
    exact h
  obtain ⟨q, hq⟩ : ∃ q, wq (2 * p) = q := ⟨_, rfl⟩
  rw [hq] at H61
  have hqM : (fun (_ _ : Nat) => (⟨q, 0⟩ : Num)) = fun (_ _ : Nat) => Num.w ((2 * p) % 8) := by
    funext _ _
    rw [Nat.mod_eq_of_lt (by omega : 2 * p < 8), ← hq]
    rfl
  have HqM := Lib.hid hqM
  clear hq hqM
  go_enter Tryz.func17, Tryz.ntmps17
  go_wp2_with (first
    | (go_at_call 59; refine H59.mono ?_; clear H59; rintro e w1 ⟨rfl, hb1⟩; have hP1 := hP0.below hb1; have hB1 := bt hb0 hb1; have cP1 := hP1.cells)
    | (go_at_call 61; refine (H61 _).mono ?_; clear H61; rintro e w2 ⟨rfl, hb2⟩; have hP2 := hP1.below hb2; have hB2 := bt hB1 hb2; have hb23 : Below w2.heap.size w2 ((w2.alloc (.cells #[.int .i64 q.a, .int .i64 q.b, .int .i64 q.c, .int .i64 q.d, .int .i64 0] 38)).alloc (.cells #[.slice (some ⟨w2.heap.size, 0, none⟩) 1 1] 72)) := ((Below.refl _ _).alloc (Nat.le_refl _) _).alloc (by simp) _; have hP3 := hP2.below hb23; have cP3 := hP3.cells))
  have hM3 : Mat ((w2.alloc (.cells #[.int .i64 q.a, .int .i64 q.b, .int .i64 q.c, .int .i64 q.d, .int .i64 0] 38)).alloc (.cells #[.slice (some ⟨w2.heap.size, 0, none⟩) 1 1] 72)) (some ⟨w2.heap.size + 1, 0, none⟩) 1 1 (pauN x z p 0) := by
    have hr : Blk ((w2.alloc (.cells #[.int .i64 q.a, .int .i64 q.b, .int .i64 q.c, .int .i64 q.d, .int .i64 0] 38)).alloc (.cells #[.slice (some ⟨w2.heap.size, 0, none⟩) 1 1] 72)) w2.heap.size 38 #[.int .i64 q.a, .int .i64 q.b, .int .i64 q.c, .int .i64 q.d, .int .i64 0] := (Blk.new _ _ _).alloc _
    have hh : Blk ((w2.alloc (.cells #[.int .i64 q.a, .int .i64 q.b, .int .i64 q.c, .int .i64 q.d, .int .i64 0] 38)).alloc (.cells #[.slice (some ⟨w2.heap.size, 0, none⟩) 1 1] 72)) (w2.heap.size + 1) 72 #[.slice (some ⟨w2.heap.size, 0, none⟩) 1 1] := Blk.new' _ _ (by simp)
    have cr := hr.cells
    have ch := hh.cells
    refine ⟨w2.heap.size + 1, 0, fun _ => w2.heap.size, fun _ => 0, fun _ => 1, rfl, ⟨by decide, by decide, by decide, by decide⟩, hh.lt, fun i hi => ?_, fun i j hi hj => ?_⟩
    · obtain rfl : i = 0 := by omega
      exact ⟨ch 0, hr.lt⟩
    · obtain rfl : i = 0 := by omega
      obtain rfl : j = 0 := by omega
      have e : pauN x z p 0 0 0 = ⟨q, 0⟩ := by
        have h := congrFun (congrFun HqM.out 0) 0
        have h' : (⟨q, 0⟩ : Num) = Num.w ((2 * p) % 8) := h
        rw [h']
        unfold pauN
        rw [if_pos (by simp [Nat.mod_one])]
        rfl
      rw [e]
      exact ⟨cr 0, cr 1, cr 2, cr 3, cr 4⟩
  have hB3 := bt hB2 hb23
  clear hP1 hP0 cP1 cP hb1 hb0 hB1 HqM
  generalize ((w2.alloc (.cells #[.int .i64 q.a, .int .i64 q.b, .int .i64 q.c, .int .i64 q.d, .int .i64 0] 38)).alloc (.cells #[.slice (some ⟨w2.heap.size, 0, none⟩) 1 1] 72)) = w3 at hM3 hB3 hP3 cP3 ⊢
  clear hb23
  obtain ⟨bA, hbA⟩ : ∃ bA, w2.heap.size + 1 = bA := ⟨_, rfl⟩
  rw [hbA] at hM3 ⊢
  clear hbA hP3 cP3 hB2 hP2 hb2
  go_loopg [6, 31] n (fun gg s6 s31 wr => ∃ k : Nat, k ≤ n ∧ n - k ≤ gg ∧ (∃ B m, 2 ^ k = m ∧ s6 = .slice (some ⟨B, 0, none⟩) m m ∧ Aside (Mat wr (some ⟨B, 0, none⟩) m m (pauN x z p k))) ∧ s31 = .int .i64 k ∧ Aside (Below w.heap.size w wr))
  case atStart => exact ⟨0, Nat.zero_le _, by omega, ⟨_, 1, rfl, rfl, (show Aside _ from hM3)⟩, rfl, (show Aside _ from hB3)⟩
  case round =>
    obtain ⟨k, hk, hg, ⟨B, m, hm, rfl, AM⟩, rfl, AB⟩ := hrel
    have hA := AM.out
    have hB := AB.out
    clear AM AB hM3 hB3
    by_cases hlt : k < n
    · have hltz : (k : Int) < (n : Int) := by omega
      obtain ⟨m2, hm2⟩ : ∃ m2, 2 * m = m2 := ⟨_, rfl⟩
      have h64 : m2 ≤ 64 := by
        have h1 : 2 ^ (k + 1) ≤ 2 ^ 6 := Nat.pow_le_pow_right (by decide) (by omega)
        rw [Nat.pow_succ, hm] at h1
        omega
      have H14 := fun A A' cap cap' W HM HN => f14_pau x z p k m m2 hm hm2 h64 (A := A) (A' := A') cap cap' W HM HN
      have H60 := fun W => f60_any n x z p k .nilFunc W (by omega) (by omega) (by omega)
      have hl := letK_lt x z k
      obtain ⟨l, hle⟩ : ∃ l, letK x z k = l := ⟨_, rfl⟩
      rw [hle] at hl H14 H60
      clear hle
      obtain rfl | rfl | rfl | rfl : l = 0 ∨ l = 1 ∨ l = 2 ∨ l = 3 := by omega
      · as_aux_lemma =>
        have H20 : ∀ W, Calls Tryz.prog 20 #[.int .i64 1] W fun e w' => e = .returned (.tuple #[.slice (some ⟨W.heap.size, 0, none⟩) 2 2, .int .i64 0]) ∧ Mat w' (some ⟨W.heap.size, 0, none⟩) 2 2 (letM 0) ∧ Below W.heap.size W w' := fun W => (f20_any 1 2 W (by decide) rfl).mono fun e w' ⟨h1, h2, h3⟩ => ⟨h1, h2.mat (by decide), h3⟩
        go_wp2_with (first
          | (go_at_call 20; refine (H20 _).mono ?_; clear H20; rintro e w4 ⟨rfl, hM4, hb4⟩; have hA4 := hA.below hb4)
          | (go_at_fn 60; refine (H60 _).mono ?_; clear H60; rintro e w5 ⟨rfl, hb5⟩; have hA5 := hA4.below hb5; have hM5 := hM4.below hb5; have hB5 := bt hB (bt hb4 hb5))
          | (go_at_call 14; refine (H14 _ _ _ _ _ hM5 hA5).mono ?_; clear H14; rintro e w6 ⟨B6, rfl, hM6, hb6⟩))
        go_roundg (n - (k + 1))
        case measure => omega
        case rel => exact ⟨k + 1, by omega, by omega, ⟨B6, m2, by rw [Nat.pow_succ, hm, Nat.mul_comm]; exact hm2, rfl, (show Aside _ from hM6)⟩, by go_num, (show Aside _ from bt hB5 hb6)⟩
      · as_aux_lemma =>
        have H20 : ∀ W, Calls Tryz.prog 20 #[.int .i64 1] W fun e w' => e = .returned (.tuple #[.slice (some ⟨W.heap.size, 0, none⟩) 2 2, .int .i64 0]) ∧ True ∧ Below W.heap.size W w' := fun W => (f20_any 1 2 W (by decide) rfl).mono fun e w' ⟨h1, h2, h3⟩ => ⟨h1, trivial, h3⟩
        have H13 : ∀ W, Calls Tryz.prog 13 #[.int .i64 1] W fun e w' => ∃ b o, e = .returned (.tuple #[.slice (some ⟨b, o, none⟩) 2 2, .int .i64 0]) ∧ Mat w' (some ⟨b, o, none⟩) 2 2 (letM 1) ∧ Below W.heap.size W w' := fun W => f13_any 1 W (by decide) (by decide)
        go_wp2_with (first
          | (go_at_call 20; refine (H20 _).mono ?_; clear H20; rintro e w4 ⟨rfl, _, hb4⟩; have hA4 := hA.below hb4)
          | (go_at_fn 60; refine (H60 _).mono ?_; clear H60; rintro e w5 ⟨rfl, hb5⟩; have hA5 := hA4.below hb5; have hB5 := bt hB (bt hb4 hb5); have hbS : Below w5.heap.size w5 (w5.alloc (.cells #[.int .i64 0, .int .i64 1, .int .i64 2, .int .i64 3] 3)) := (Below.refl _ _).alloc (Nat.le_refl _) _; have hA6 := hA5.below hbS; have hB6 := bt hB5 hbS)
          | (go_at_call 13; refine (H13 _).mono ?_; clear H13; rintro e w7 ⟨b7, o7, rfl, hM7, hb7⟩; have hA7 := hA6.below hb7; have hB7 := bt hB6 hb7)
          | (go_at_call 14; refine (H14 _ _ _ _ _ hM7 hA7).mono ?_; clear H14; rintro e w8 ⟨B8, rfl, hM8, hb8⟩))
        go_roundg (n - (k + 1))
        case measure => omega
        case rel => exact ⟨k + 1, by omega, by omega, ⟨B8, m2, by rw [Nat.pow_succ, hm, Nat.mul_comm]; exact hm2, rfl, (show Aside _ from hM8)⟩, by go_num, (show Aside _ from bt hB7 hb8)⟩
      · as_aux_lemma =>
        have H20 : ∀ W, Calls Tryz.prog 20 #[.int .i64 1] W fun e w' => e = .returned (.tuple #[.slice (some ⟨W.heap.size, 0, none⟩) 2 2, .int .i64 0]) ∧ True ∧ Below W.heap.size W w' := fun W => (f20_any 1 2 W (by decide) rfl).mono fun e w' ⟨h1, h2, h3⟩ => ⟨h1, trivial, h3⟩
        have H13 : ∀ W, Calls Tryz.prog 13 #[.int .i64 2] W fun e w' => ∃ b o, e = .returned (.tuple #[.slice (some ⟨b, o, none⟩) 2 2, .int .i64 0]) ∧ Mat w' (some ⟨b, o, none⟩) 2 2 (letM 2) ∧ Below W.heap.size W w' := fun W => f13_any 2 W (by decide) (by decide)
        go_wp2_with (first
          | (go_at_call 20; refine (H20 _).mono ?_; clear H20; rintro e w4 ⟨rfl, _, hb4⟩; have hA4 := hA.below hb4)
          | (go_at_fn 60; refine (H60 _).mono ?_; clear H60; rintro e w5 ⟨rfl, hb5⟩; have hA5 := hA4.below hb5; have hB5 := bt hB (bt hb4 hb5); have hbS : Below w5.heap.size w5 (w5.alloc (.cells #[.int .i64 0, .int .i64 1, .int .i64 2, .int .i64 3] 3)) := (Below.refl _ _).alloc (Nat.le_refl _) _; have hA6 := hA5.below hbS; have hB6 := bt hB5 hbS)
          | (go_at_call 13; refine (H13 _).mono ?_; clear H13; rintro e w7 ⟨b7, o7, rfl, hM7, hb7⟩; have hA7 := hA6.below hb7; have hB7 := bt hB6 hb7)
          | (go_at_call 14; refine (H14 _ _ _ _ _ hM7 hA7).mono ?_; clear H14; rintro e w8 ⟨B8, rfl, hM8, hb8⟩))
        go_roundg (n - (k + 1))
        case measure => omega
        case rel => exact ⟨k + 1, by omega, by omega, ⟨B8, m2, by rw [Nat.pow_succ, hm, Nat.mul_comm]; exact hm2, rfl, (show Aside _ from hM8)⟩, by go_num, (show Aside _ from bt hB7 hb8)⟩
      · as_aux_lemma =>
        have H20 : ∀ W, Calls Tryz.prog 20 #[.int .i64 1] W fun e w' => e = .returned (.tuple #[.slice (some ⟨W.heap.size, 0, none⟩) 2 2, .int .i64 0]) ∧ True ∧ Below W.heap.size W w' := fun W => (f20_any 1 2 W (by decide) rfl).mono fun e w' ⟨h1, h2, h3⟩ => ⟨h1, trivial, h3⟩
        have H13 : ∀ W, Calls Tryz.prog 13 #[.int .i64 3] W fun e w' => ∃ b o, e = .returned (.tuple #[.slice (some ⟨b, o, none⟩) 2 2, .int .i64 0]) ∧ Mat w' (some ⟨b, o, none⟩) 2 2 (letM 3) ∧ Below W.heap.size W w' := fun W => f13_any 3 W (by decide) (by decide)
        go_wp2_with (first
          | (go_at_call 20; refine (H20 _).mono ?_; clear H20; rintro e w4 ⟨rfl, _, hb4⟩; have hA4 := hA.below hb4)
          | (go_at_fn 60; refine (H60 _).mono ?_; clear H60; rintro e w5 ⟨rfl, hb5⟩; have hA5 := hA4.below hb5; have hB5 := bt hB (bt hb4 hb5); have hbS : Below w5.heap.size w5 (w5.alloc (.cells #[.int .i64 0, .int .i64 1, .int .i64 2, .int .i64 3] 3)) := (Below.refl _ _).alloc (Nat.le_refl _) _; have hA6 := hA5.below hbS; have hB6 := bt hB5 hbS)
          | (go_at_call 13; refine (H13 _).mono ?_; clear H13; rintro e w7 ⟨b7, o7, rfl, hM7, hb7⟩; have hA7 := hA6.below hb7; have hB7 := bt hB6 hb7)
          | (go_at_call 14; refine (H14 _ _ _ _ _ hM7 hA7).mono ?_; clear H14; rintro e w8 ⟨B8, rfl, hM8, hb8⟩))
        go_roundg (n - (k + 1))
        case measure => omega
        case rel => exact ⟨k + 1, by omega, by omega, ⟨B8, m2, by rw [Nat.pow_succ, hm, Nat.mul_comm]; exact hm2, rfl, (show Aside _ from hM8)⟩, by go_num, (show Aside _ from bt hB7 hb8)⟩
    · as_aux_lemma =>
      obtain rfl : k = n := by omega
      have hltz : ¬ (k : Int) < (k : Int) := by omega
      obtain rfl : m = N := by rw [← hm]; exact hN.out
      clear hlt
      go_wp2_with (fail)
      exact bodyPost_ret (v := .tuple #[.slice (some ⟨B, 0, none⟩) m m, .int .i64 0]) (by simp [results, Tryz.results17, go_sem]) rfl (show PauMPost _ _ _ _ _ _ _ _ from ⟨B, rfl, hA, hB⟩)
end
section
theorem an_bit {x a : Nat} (hx : x < 64) (ha : a < 6) (b : Nat) : (andNot x (2 ^ a)).testBit b = true ↔ x.testBit b = true ∧ a ≠ b := by
  have hp : 2 ^ a < 2 ^ 64 := Nat.pow_lt_pow_right (by decide) (by omega)
  unfold andNot
  rw [Nat.testBit_and, Bool.and_eq_true, show 18446744073709551615 - 2 ^ a = 2 ^ 64 - (2 ^ a + 1) from by omega, Nat.testBit_two_pow_sub_succ hp, Nat.testBit_two_pow]
  constructor
  · rintro ⟨h1, h2⟩
    simp at h2
    exact ⟨h1, h2.2⟩
  · rintro ⟨h1, h2⟩
    have hb : b < 6 := Nat.lt_of_not_le fun h => by
      have : 64 ≤ 2 ^ b := Nat.pow_le_pow_right (n := 2) (by decide) h
      rw [Nat.testBit_lt_two_pow (by omega)] at h1
      cases h1
    refine ⟨h1, ?_⟩
    simp
    omega
theorem an_lt {x a : Nat} (hx : x < 64) : andNot x (2 ^ a) < 64 := Nat.lt_of_le_of_lt Nat.and_le_left hx
theorem bit_one (x a k b : Nat) : ((x / 2 ^ a % 2) * 2 ^ k).testBit b = true ↔ k = b ∧ x.testBit a = true := by
  rw [Nat.testBit_eq_decide_div_mod_eq (x := x)]
  obtain e | e : x / 2 ^ a % 2 = 0 ∨ x / 2 ^ a % 2 = 1 := by omega
  · rw [e, Nat.zero_mul]; simp
  · rw [e, Nat.one_mul, Nat.testBit_two_pow]; simp
section
variable {ls : List Nat} {n : Nat}
theorem restK_bit (hl : ∀ q, q < n → ls.getD q 0 < 6) {x : Nat} (hx : x < 64) : ∀ k, k ≤ n → ∀ b, (restK ls x k).testBit b = true ↔ x.testBit b = true ∧ ∀ q, q < k → ls.getD q 0 ≠ b
  | 0, _, b => ⟨fun h => ⟨h, fun q hq => absurd hq (Nat.not_lt_zero _)⟩, fun h => h.1⟩
  | k + 1, hk, b => by
    unfold restK
    rw [an_bit (Nat.lt_of_le_of_lt (restK_le ls x k) hx) (hl k (by omega)), restK_bit hl hx k (by omega) b]
    constructor
    · rintro ⟨⟨h1, h2⟩, h3⟩
      refine ⟨h1, fun q hq => ?_⟩
      by_cases e : q = k
      · subst e; exact h3
      · exact h2 q (by omega)
    · rintro ⟨h1, h2⟩
      exact ⟨⟨h1, fun q hq => h2 q (by omega)⟩, h2 k (by omega)⟩
theorem inK_bit (ls : List Nat) (x : Nat) : ∀ k b, (inK ls x k).testBit b = true ↔ b < k ∧ x.testBit (ls.getD b 0) = true
  | 0, b => by unfold inK; simp
  | k + 1, b => by
    unfold inK
    rw [Nat.testBit_or, Bool.or_eq_true, inK_bit ls x k b, bit_one]
    constructor
    · rintro (⟨h1, h2⟩ | ⟨rfl, h2⟩)
      · exact ⟨by omega, h2⟩
      · exact ⟨by omega, h2⟩
    · rintro ⟨h1, h2⟩
      by_cases e : b = k
      · subst e; exact .inr ⟨rfl, h2⟩
      · exact .inl ⟨by omega, h2⟩
theorem outK_bit (ls : List Nat) (r t : Nat) : ∀ k b, (outK ls r t k).testBit b = true ↔ r.testBit b = true ∨ ∃ q, q < k ∧ ls.getD q 0 = b ∧ t.testBit q = true
  | 0, b => by unfold outK; simp
  | k + 1, b => by
    unfold outK
    rw [Nat.testBit_or, Bool.or_eq_true, outK_bit ls r t k b, bit_one]
    constructor
    · rintro ((h | ⟨q, h1, h2⟩) | ⟨h1, h2⟩)
      · exact .inl h
      · exact .inr ⟨q, by omega, h2⟩
      · exact .inr ⟨k, by omega, h1, h2⟩
    · rintro (h | ⟨q, h1, h2, h3⟩)
      · exact .inl (.inl h)
      · by_cases e : q = k
        · subst e; exact .inr ⟨h2, h3⟩
        · exact .inl (.inr ⟨q, by omega, h2, h3⟩)
theorem spI_bits : ∀ m, (∀ q, q < m → ls.getD q 0 < 6) → (∀ a b, a < m → b < m → ls.getD a 0 = ls.getD b 0 → a = b) → ∀ x, x < 64 → ∀ b,
    ((spI ls m x).1.testBit b = true ↔ b < m ∧ x.testBit (ls.getD b 0) = true) ∧ ((spI ls m x).2.testBit b = true ↔ x.testBit b = true ∧ ∀ q, q < m → ls.getD q 0 ≠ b)
  | 0, _, _, x, _, b => by
    unfold spI
    exact ⟨by simp, ⟨fun h => ⟨h, fun q hq => absurd hq (Nat.not_lt_zero _)⟩, fun h => h.1⟩⟩
  | m + 1, hl, hi, x, hx, b => by
    have ih := spI_bits m (fun q hq => hl q (by omega)) (fun a b ha hb => hi a b (by omega) (by omega)) (andNot x (2 ^ ls.getD m 0)) (an_lt hx) b
    unfold spI
    dsimp only
    constructor
    · rw [Nat.testBit_or, Bool.or_eq_true, ih.1, bit_one, an_bit hx (hl m (by omega))]
      constructor
      · rintro (⟨h1, h2, h3⟩ | ⟨rfl, h2⟩)
        · exact ⟨by omega, h2⟩
        · exact ⟨by omega, h2⟩
      · rintro ⟨h1, h2⟩
        by_cases e : b = m
        · subst e; exact .inr ⟨rfl, h2⟩
        · exact .inl ⟨by omega, h2, fun h => e (hi m b (by omega) (by omega) h).symm⟩
    · rw [ih.2, an_bit hx (hl m (by omega))]
      constructor
      · rintro ⟨⟨h1, h3⟩, h2⟩
        refine ⟨h1, fun q hq => ?_⟩
        by_cases e : q = m
        · subst e; exact h3
        · exact h2 q (by omega)
      · rintro ⟨h1, h2⟩
        exact ⟨⟨h1, h2 m (by omega)⟩, fun q hq => h2 q (by omega)⟩
theorem bits_ext {a b : Nat} (h : ∀ i, a.testBit i = true ↔ b.testBit i = true) : a = b := Nat.eq_of_testBit_eq fun i => Bool.eq_iff_iff.2 (h i)
theorem spI_in (hl : ∀ q, q < n → ls.getD q 0 < 6) (hi : ∀ a b, a < n → b < n → ls.getD a 0 = ls.getD b 0 → a = b) {x : Nat} (hx : x < 64) : spI ls n x = (inK ls x n, restK ls x n) := by
  refine Prod.ext (bits_ext fun b => ?_) (bits_ext fun b => ?_)
  · rw [(spI_bits n hl hi x hx b).1, inK_bit]
  · rw [(spI_bits n hl hi x hx b).2, restK_bit hl hx n (Nat.le_refl _)]
theorem out_iff (hl : ∀ q, q < n → ls.getD q 0 < 6) (hi : ∀ a b, a < n → b < n → ls.getD a 0 = ls.getD b 0 → a = b) {i j t : Nat} (hi6 : i < 64) (hj : j < 64) (ht : t < 2 ^ n) : i = outK ls (restK ls j n) t n ↔ restK ls i n = restK ls j n ∧ inK ls i n = t := by
  have hr := restK_bit hl hj n (Nat.le_refl _)
  have hri := restK_bit hl hi6 n (Nat.le_refl _)
  have htn : ∀ b, t.testBit b = true → b < n := fun b hb => Nat.lt_of_not_le fun h => by
    rw [Nat.testBit_lt_two_pow (Nat.lt_of_lt_of_le ht (Nat.pow_le_pow_right (by decide) h))] at hb
    cases hb
  constructor
  · intro e
    have hib : ∀ b, i.testBit b = true ↔ (restK ls j n).testBit b = true ∨ ∃ q, q < n ∧ ls.getD q 0 = b ∧ t.testBit q = true := fun b => by rw [e]; exact outK_bit ls _ t n b
    constructor
    · refine bits_ext fun b => ?_
      rw [hri b, hib b]
      constructor
      · rintro ⟨h1 | ⟨q, h1, h2, _⟩, h3⟩
        · exact h1
        · exact absurd h2 (h3 q h1)
      · intro h
        exact ⟨.inl h, ((hr b).1 h).2⟩
    · refine bits_ext fun b => ?_
      rw [inK_bit, hib]
      constructor
      · rintro ⟨h1, h2 | ⟨q, h2, h3, h4⟩⟩
        · exact absurd rfl (((hr _).1 h2).2 b h1)
        · rw [← hi q b h2 h1 h3]; exact h4
      · intro h
        exact ⟨htn b h, .inr ⟨b, htn b h, rfl, h⟩⟩
  · rintro ⟨h1, h2⟩
    refine bits_ext fun b => ?_
    rw [outK_bit, ← h1, ← h2, hri]
    constructor
    · intro h
      by_cases e : ∃ q, q < n ∧ ls.getD q 0 = b
      · obtain ⟨q, hq, rfl⟩ := e
        exact .inr ⟨q, hq, rfl, (inK_bit ls i n q).2 ⟨hq, h⟩⟩
      · exact .inl ⟨h, fun q hq h2 => e ⟨q, hq, h2⟩⟩
    · rintro (h | ⟨q, hq, rfl, h⟩)
      · exact h.1
      · exact ((inK_bit ls i n q).1 h).2
/-- an operator of a table on some wires of more is the table of more -/
theorem on_spread (hl : ∀ q, q < n → ls.getD q 0 < 6) (hi : ∀ a b, a < n → b < n → ls.getD a 0 = ls.getD b 0 → a = b) {tw pw : Nat → Nat} {N W NN : Nat} (hN : 2 ^ n = N) (hNN : 2 ^ W = NN) (hW : W ≤ 6) (hto : ∀ i, i < N → tw i < N ∧ pw i < 8) (i j : Nat) (hi6 : i < NN) (hj : j < NN) :
    onM (tabM tw pw N) ls n i j = tabM (sprT ls n tw) (sprP ls n pw) NN i j := by
  have h64 : NN ≤ 64 := by rw [← hNN]; exact Nat.pow_le_pow_right (n := 2) (by decide) hW
  have hin := inK_lt ls j n
  rw [hN] at hin
  have ht := hto _ hin
  unfold onM tabM
  rw [spI_in hl hi (by omega : i < 64), spI_in hl hi (by omega : j < 64)]
  dsimp only
  have ho := out_iff hl hi (i := i) (j := j) (t := tw (inK ls j n)) (by omega) (by omega) (by rw [hN]; exact ht.1)
  unfold sprT sprP
  by_cases e : i = outK ls (restK ls j n) (tw (inK ls j n)) n
  · obtain ⟨h1, h2⟩ := ho.1 e
    rw [if_pos h1, if_pos ⟨hin, h2⟩, if_pos ⟨hj, e⟩]
    have h := (w_facts (pw (inK ls j n) % 8) (Nat.mod_lt _ (by decide))).1
    unfold Lf at h
    unfold leastOf
    rw [h]
  · by_cases h1 : restK ls i n = restK ls j n
    · rw [if_pos h1, if_neg (fun h => e (ho.2 ⟨h1, h.2⟩)), if_neg (fun h => e h.2)]
      rfl
    · rw [if_neg h1, if_neg (fun h => e h.2)]
/-- what f9 asks of the numbers -/
theorem tabM_ok {tw pw : Nat → Nat} {N : Nat} (i j : Nat) : (tabM tw pw N i j).ok ∧ (leastN (tabM tw pw N i j).q (tabM tw pw N i j).k).2 = 0 ∧ (tabM tw pw N i j).sm := by
  unfold tabM
  have h := ite_sm (A := j < N ∧ i = tw j) (pw j % 8) (Nat.mod_lt _ (by decide))
  refine ⟨h.1, ?_, h⟩
  split
  · have h := (w_facts (pw j % 8) (Nat.mod_lt _ (by decide))).1
    unfold Lf at h
    rw [h]
  · rfl
end
end
section
theorem odd_xor : ∀ a, a < 64 → ∀ b, b < 64 → odd (a ^^^ b) = (odd a + odd b) % 2 := by decide +kernel
theorem odd_split : ∀ k, k < 6 → ∀ m, m < 64 → odd m = (odd (m / 2 ^ k) + odd (m % 2 ^ k)) % 2 := by decide +kernel
theorem odd_bit : ∀ a, a < 2 → ∀ b, b < 2 → odd (a &&& b) = a * b := by decide +kernel
/-- a unit by a power of 1/r -/
def un (n s : Nat) : Num := ⟨wq (s % 8), n⟩
theorem un_facts : ∀ n, n < 7 → ∀ s, s < 8 → Lf (un n s) ∧ okN (un n s).q (un n s).k ∧ (un n s).k ≤ 30 ∧ (un n s).q.Le 536870912 := by
  unfold Lf okN Q.Le
  decide +kernel
theorem un_mod (n s : Nat) : un n s = un n (s % 8) := by unfold un; rw [Nat.mod_mod]
theorem un_sm {n : Nat} (hn : n < 7) (s : Nat) : (un n s).sm := by
  rw [un_mod]
  have h := un_facts n hn (s % 8) (Nat.mod_lt _ (by decide))
  exact ⟨h.2.1, h.2.2.1, h.2.2.2⟩
theorem un_Lf {n : Nat} (hn : n < 7) (s : Nat) : Lf (un n s) := by
  rw [un_mod]
  exact (un_facts n hn (s % 8) (Nat.mod_lt _ (by decide))).1
theorem un_w0 : ∀ n, n < 7 → ∀ s, s < 8 → ∀ e, e < 8 → mulN (un n s) (Num.w e) = (un n (s + e), 0) ∧ mulN (Num.w e) (un n s) = (un n (e + s), 0) := by decide +kernel
theorem un_w {n : Nat} (hn : n < 7) (s e : Nat) (he : e < 8) : mulN (un n s) (Num.w e) = (un n (s + e), 0) ∧ mulN (Num.w e) (un n s) = (un n (e + s), 0) := by
  have h := un_w0 n hn (s % 8) (Nat.mod_lt _ (by decide)) e he
  rw [← un_mod] at h
  rw [h.1, h.2, un_mod n (s % 8 + e), un_mod n (s + e), un_mod n (e + s % 8), un_mod n (e + s)]
  rw [show (s % 8 + e) % 8 = (s + e) % 8 from by omega, show (e + s % 8) % 8 = (e + s) % 8 from by omega]
  exact ⟨rfl, rfl⟩
theorem wav_un (k i j : Nat) : wavE k i j = un k (4 * odd (j &&& i)) := rfl
theorem wav_sm {k : Nat} (hk : k < 7) (i j : Nat) : (wavE k i j).sm := un_sm hk _
/-- H side by side -/
theorem h_wav : ∀ k, k < 6 → ∀ a, a < 2 → ∀ b, b < 2 → ∀ s, s < 2 → mulN (hM a b) (un k (4 * s)) = (un (k + 1) (4 * ((odd (b &&& a) + s) % 2)), 0) := by decide +kernel
theorem wav_one : ∀ i, i < 2 → ∀ j, j < 2 → hM i j = wavE 1 i j := by decide +kernel
theorem wav_step (k : Nat) (hk : k < 6) (i j : Nat) (hi : i < 2 * 2 ^ k) (hj : j < 2 * 2 ^ k) : mulN (hM (i / 2 ^ k) (j / 2 ^ k)) (wavE k (i % 2 ^ k) (j % 2 ^ k)) = (wavE (k + 1) i j, 0) := by
  have h2k : 2 * 2 ^ k ≤ 64 := by rw [Nat.mul_comm, ← Nat.pow_succ]; exact Nat.pow_le_pow_right (n := 2) (by decide) (show k + 1 ≤ 6 by omega)
  have d1 : i / 2 ^ k < 2 := Nat.div_lt_of_lt_mul (by rw [Nat.mul_comm]; exact hi)
  have d2 : j / 2 ^ k < 2 := Nat.div_lt_of_lt_mul (by rw [Nat.mul_comm]; exact hj)
  have hm : j % 2 ^ k &&& i % 2 ^ k = (j &&& i) % 2 ^ k := Nat.and_mod_two_pow.symm
  have hd : j / 2 ^ k &&& i / 2 ^ k = (j &&& i) / 2 ^ k := Nat.and_div_two_pow.symm
  have hj64 : j < 64 := by omega
  have h64 : j &&& i < 64 := Nat.lt_of_le_of_lt Nat.and_le_left hj64
  have ho := odd_split k hk (j &&& i) h64
  have hl := odd_lt2 ((j &&& i) % 2 ^ k) (Nat.lt_of_le_of_lt (Nat.mod_le _ _) h64)
  rw [wav_un, wav_un, hm, h_wav k hk _ d1 _ d2 _ hl, hd, ← ho]
/-- the power of w of a string's operator -/
theorem letK_bits (x z k : Nat) : (letK x z k = 2 ↔ x / 2 ^ k % 2 = 1 ∧ z / 2 ^ k % 2 = 1) ∧ ∀ b, phL (letK x z k) b = if z / 2 ^ k % 2 = 1 then (if x / 2 ^ k % 2 = 1 then 2 + 4 * b else 4 * b) else 0 := by
  have h1 : x / 2 ^ k % 2 = 0 ∨ x / 2 ^ k % 2 = 1 := by omega
  have h2 : z / 2 ^ k % 2 = 0 ∨ z / 2 ^ k % 2 = 1 := by omega
  unfold letK phL
  rcases h1 with h1 | h1 <;> rcases h2 with h2 | h2 <;> simp [h1, h2]
theorem cntY_comm (x z : Nat) : ∀ k, cntY x z k = cntY z x k
  | 0 => rfl
  | k + 1 => by
    unfold cntY
    rw [cntY_comm x z k]
    by_cases e : letK x z k = 2
    · rw [if_pos e, if_pos ((letK_bits z x k).1.2 ((letK_bits x z k).1.1 e).symm)]
    · rw [if_neg e, if_neg (fun h => e ((letK_bits x z k).1.2 ((letK_bits z x k).1.1 h).symm))]
theorem odd_step (m : Nat) (hm : m < 64) (k : Nat) (hk : k < 6) : odd (m % 2 ^ (k + 1)) = (m / 2 ^ k % 2 + odd (m % 2 ^ k)) % 2 := by
  have h := odd_split k hk (m % 2 ^ (k + 1)) (Nat.lt_of_le_of_lt (Nat.mod_le _ _) hm)
  have e1 : (m % 2 ^ (k + 1)) / 2 ^ k = m / 2 ^ k % 2 := by rw [Nat.pow_succ, Nat.mod_mul_right_div_self]
  have e2 : (m % 2 ^ (k + 1)) % 2 ^ k = m % 2 ^ k := Nat.mod_mod_of_dvd _ (Nat.pow_dvd_pow 2 (Nat.le_succ k))
  have h1 := odd_bit 1 (by decide) (m / 2 ^ k % 2) (Nat.mod_lt _ (by decide))
  have h2 : 1 &&& (m / 2 ^ k % 2) = m / 2 ^ k % 2 := by
    have : m / 2 ^ k % 2 = 0 ∨ m / 2 ^ k % 2 = 1 := by omega
    rcases this with h | h <;> rw [h] <;> rfl
  rw [h2, Nat.one_mul] at h1
  rw [h, e1, e2, h1]
theorem and_bit (a b k : Nat) : (a &&& b) / 2 ^ k % 2 = (a / 2 ^ k % 2) * (b / 2 ^ k % 2) := by
  rw [Nat.and_div_two_pow]
  have h := @Nat.and_mod_two_pow (a / 2 ^ k) (b / 2 ^ k) 1
  rw [Nat.pow_one] at h
  rw [h]
  have h1 : a / 2 ^ k % 2 = 0 ∨ a / 2 ^ k % 2 = 1 := by omega
  have h2 : b / 2 ^ k % 2 = 0 ∨ b / 2 ^ k % 2 = 1 := by omega
  rcases h1 with h1 | h1 <;> rcases h2 with h2 | h2 <;> rw [h1, h2] <;> rfl
theorem cntY_odd (x z : Nat) (hx : x < 64) : ∀ k, k ≤ 6 → cntY x z k % 2 = odd ((x &&& z) % 2 ^ k)
  | 0, _ => by rw [Nat.pow_zero, Nat.mod_one]; unfold cntY odd; rfl
  | k + 1, hk => by
    have h64 : x &&& z < 64 := Nat.lt_of_le_of_lt Nat.and_le_left hx
    rw [odd_step _ h64 k (by omega), ← cntY_odd x z hx k (by omega), and_bit]
    show (cntY x z k + if letK x z k = 2 then 1 else 0) % 2 = _
    have hb := (letK_bits x z k).1
    have h1 : x / 2 ^ k % 2 = 0 ∨ x / 2 ^ k % 2 = 1 := by omega
    have h2 : z / 2 ^ k % 2 = 0 ∨ z / 2 ^ k % 2 = 1 := by omega
    rcases h1 with h1 | h1 <;> rcases h2 with h2 | h2 <;> rw [h1, h2] at hb ⊢
    · rw [if_neg (fun h => by have := hb.1 h; omega)]; omega
    · rw [if_neg (fun h => by have := hb.1 h; omega)]; omega
    · rw [if_neg (fun h => by have := hb.1 h; omega)]; omega
    · rw [if_pos (hb.2 ⟨rfl, rfl⟩)]; omega
theorem pauE_eq (x z p : Nat) : ∀ k, k ≤ 6 → ∀ j, j < 2 ^ k → pauE x z p k j = (2 * p + 2 * cntY x z k + 4 * odd ((j &&& z) % 2 ^ k)) % 8
  | 0, _, j, _ => by
    rw [Nat.pow_zero, Nat.mod_one]
    have h0 : odd 0 = 0 := by unfold odd; rfl
    rw [h0]
    unfold pauE cntY
    omega
  | k + 1, hk, j, hj => by
    have hp2 := Nat.two_pow_pos k
    have hj64 : j < 64 := Nat.lt_of_lt_of_le hj (Nat.pow_le_pow_right (n := 2) (by decide) hk)
    have h64 : j &&& z < 64 := Nat.lt_of_le_of_lt Nat.and_le_left hj64
    have ih := pauE_eq x z p k (by omega) (j % 2 ^ k) (Nat.mod_lt _ hp2)
    have e : ((j % 2 ^ k) &&& z) % 2 ^ k = (j &&& z) % 2 ^ k := by
      rw [Nat.and_mod_two_pow, Nat.mod_mod, ← Nat.and_mod_two_pow]
    rw [e] at ih
    rw [odd_step _ h64 k (by omega), and_bit]
    have hdj : j / 2 ^ k < 2 := Nat.div_lt_of_lt_mul (by rw [Nat.pow_succ] at hj; exact hj)
    have hdm : j / 2 ^ k % 2 = j / 2 ^ k := Nat.mod_eq_of_lt hdj
    rw [hdm]
    show (phL (letK x z k) (j / 2 ^ k) % 8 + pauE x z p k (j % 2 ^ k)) % 8 = (2 * p + 2 * (cntY x z k + if letK x z k = 2 then 1 else 0) + 4 * ((j / 2 ^ k * (z / 2 ^ k % 2) + odd ((j &&& z) % 2 ^ k)) % 2)) % 8
    rw [ih]
    obtain ⟨hb, hph⟩ := letK_bits x z k
    have hv := hph (j / 2 ^ k)
    generalize phL (letK x z k) (j / 2 ^ k) = ph at hv ⊢
    generalize odd ((j &&& z) % 2 ^ k) = o
    generalize cntY x z k = c
    generalize j / 2 ^ k = b at hdj hv ⊢
    have hb2 : b = 0 ∨ b = 1 := by omega
    have h1 : x / 2 ^ k % 2 = 0 ∨ x / 2 ^ k % 2 = 1 := by omega
    have h2 : z / 2 ^ k % 2 = 0 ∨ z / 2 ^ k % 2 = 1 := by omega
    rcases h1 with h1 | h1 <;> rcases h2 with h2 | h2 <;> rw [h1, h2] at hb <;> rw [h1, h2] at hv <;> rw [h2]
    · rw [if_neg (fun h => by have := hb.1 h; omega)]; have hv : ph = 0 := by simpa using hv
      omega
    · rw [if_neg (fun h => by have := hb.1 h; omega)]; have hv : ph = 4 * b := by simpa using hv
      omega
    · rw [if_neg (fun h => by have := hb.1 h; omega)]; have hv : ph = 0 := by simpa using hv
      omega
    · rw [if_pos (hb.2 ⟨rfl, rfl⟩)]; have hv : ph = 2 + 4 * b := by simpa using hv
      omega
theorem and_lt64 {a b : Nat} (ha : a < 64) : a &&& b < 64 := Nat.lt_of_le_of_lt Nat.and_le_left ha
theorem odd_bil {a b c : Nat} (ha : a < 64) (hb : b < 64) : odd ((a ^^^ b) &&& c) = (odd (a &&& c) + odd (b &&& c)) % 2 := by
  rw [Nat.and_xor_distrib_right]
  exact odd_xor _ (and_lt64 ha) _ (and_lt64 hb)
section
variable {n N : Nat}
/-- H on all wires, times a string's operator -/
theorem wav_pau (hn : n ≤ 6) (hN : 2 ^ n = N) (x z p i j : Nat) (hx : x < N) (hj : j < N) :
    DotOk (fun l => wavE n i l) (fun l => pauN x z p n l j) N ∧ prodN (wavE n) (pauN x z p n) N i j = un n (4 * odd ((j ^^^ x) &&& i) + pauE x z p n j) := by
  have hxm : x % 2 ^ n = x := by rw [hN]; exact Nat.mod_eq_of_lt hx
  have hjx : j ^^^ x < N := by rw [← hN] at hx hj ⊢; exact Nat.xor_lt_two_pow hj hx
  have hmul : ∀ l, l < N → mulN (wavE n i l) (pauN x z p n l j) = (if l = j ^^^ x then un n (4 * odd (l &&& i) + pauE x z p n j) else Num.zero, 0) := fun l _ => by
    unfold pauN
    rw [hxm]
    split
    · rw [wav_un]; exact (un_w (by omega) _ _ (pauE_lt _ _ _ _ _)).1
    · exact mulN_zero_r _
  have hu : ∀ a b, a < N → b < N → a = j ^^^ x → b = j ^^^ x → a = b := fun a b _ _ h1 h2 => h1.trans h2.symm
  refine ⟨dotOk_sel hmul hu (fun l _ => un_Lf (by omega) _) (fun l _ => wav_sm (by omega) _ _) (fun l _ => pauN_sm _ _ _ _ _ _) (fun l _ => un_sm (by omega) _), ?_⟩
  unfold prodN
  rw [(dots_sel hmul hu (fun l _ => un_Lf (by omega) _) N (Nat.le_refl _)).1]
  exact selN_yes (P := fun l => l = j ^^^ x) (a := j ^^^ x) rfl N hjx (fun b _ h => h)
/-- the other way round -/
theorem pau_wav (hn : n ≤ 6) (hN : 2 ^ n = N) (x z p i j : Nat) (hx : x < N) (hi : i < N) :
    DotOk (fun l => pauN x z p n i l) (fun l => wavE n l j) N ∧ prodN (pauN x z p n) (wavE n) N i j = un n (pauE x z p n (i ^^^ x) + 4 * odd (j &&& (i ^^^ x))) := by
  have hxm : x % 2 ^ n = x := by rw [hN]; exact Nat.mod_eq_of_lt hx
  have hjx : i ^^^ x < N := by rw [← hN] at hx hi ⊢; exact Nat.xor_lt_two_pow hi hx
  have hmul : ∀ l, l < N → mulN (pauN x z p n i l) (wavE n l j) = (if i = l ^^^ x then un n (pauE x z p n l + 4 * odd (j &&& l)) else Num.zero, 0) := fun l _ => by
    unfold pauN
    rw [hxm]
    split
    · rw [wav_un]; exact (un_w (by omega) _ _ (pauE_lt _ _ _ _ _)).2
    · exact mulN_zero_l _
  have hl : ∀ l, i = l ^^^ x → l = i ^^^ x := fun l h => by rw [h, Nat.xor_assoc, Nat.xor_self, Nat.xor_zero]
  have hu : ∀ a b, a < N → b < N → i = a ^^^ x → i = b ^^^ x → a = b := fun a b _ _ h1 h2 => (hl a h1).trans (hl b h2).symm
  refine ⟨dotOk_sel hmul hu (fun l _ => un_Lf (by omega) _) (fun l _ => pauN_sm _ _ _ _ _ _) (fun l _ => wav_sm (by omega) _ _) (fun l _ => un_sm (by omega) _), ?_⟩
  unfold prodN
  rw [(dots_sel hmul hu (fun l _ => un_Lf (by omega) _) N (Nat.le_refl _)).1]
  exact selN_yes (P := fun l => i = l ^^^ x) (a := i ^^^ x) (by rw [Nat.xor_assoc, Nat.xor_self, Nat.xor_zero]) N hjx (fun b _ h => hl b h)
/-- H on all wires around a string makes the string that has gone through -/
theorem wav_string (hn : n ≤ 6) (hN : 2 ^ n = N) (x z p i j : Nat) (hx : x < N) (hz : z < N) (hi : i < N) (hj : j < N) : prodN (wavE n) (pauN x z p n) N i j = prodN (pauN z x ((p + 2 * cntY x z n) % 4) n) (wavE n) N i j := by
  have h64 : N ≤ 64 := by rw [← hN]; exact Nat.pow_le_pow_right (n := 2) (by decide) hn
  rw [(wav_pau hn hN x z p i j hx hj).2, (pau_wav hn hN z x _ i j hz hi).2]
  have hiz : i ^^^ z < N := by rw [← hN] at hz hi ⊢; exact Nat.xor_lt_two_pow hi hz
  have hj' : j < 2 ^ n := by rw [hN]; exact hj
  have hiz' : i ^^^ z < 2 ^ n := by rw [hN]; exact hiz
  rw [pauE_eq x z p n hn j hj', pauE_eq z x _ n hn (i ^^^ z) hiz', cntY_comm z x]
  have m1 : (j &&& z) % 2 ^ n = j &&& z := Nat.mod_eq_of_lt (Nat.lt_of_le_of_lt Nat.and_le_left hj')
  have m2 : ((i ^^^ z) &&& x) % 2 ^ n = (i ^^^ z) &&& x := Nat.mod_eq_of_lt (Nat.lt_of_le_of_lt Nat.and_le_left hiz')
  have hc := cntY_odd x z (by omega) n hn
  have m3 : (x &&& z) % 2 ^ n = x &&& z := Nat.mod_eq_of_lt (Nat.lt_of_le_of_lt Nat.and_le_left (by rw [hN]; exact hx))
  rw [m3] at hc
  rw [m1, m2, odd_bil (by omega) (by omega), odd_bil (by omega) (by omega), Nat.and_comm j (i ^^^ z), odd_bil (by omega) (by omega), Nat.and_comm i j, Nat.and_comm z j, Nat.and_comm i x, Nat.and_comm z x]
  rw [un_mod, un_mod n (_ + 4 * _)]
  congr 1
  generalize odd (j &&& i) = a
  generalize odd (x &&& i) = b
  generalize odd (j &&& z) = c
  rw [← hc]
  generalize cntY x z n = d
  omega
end
/-- a number m/2^n -/
def nm (n : Nat) (c : Int) : Num := (leastN ⟨c, 0, 0, 0⟩ (2 * n)).1
theorem un_un : ∀ n, n < 6 → ∀ a, a < 2 → ∀ b, b < 2 → mulN (un n (4 * a)) (un n (4 * b)) = (nm n (1 - 2 * ((a + b) % 2 : Nat)), 0) := by decide +kernel
theorem nm_add : ∀ n, n < 6 → ∀ c : Nat, c < 65 → ∀ s : Nat, s < 2 → addN (nm n ((c : Int) - 32)) (nm n (1 - 2 * (s : Int))) = (nm n ((c : Int) - 32 + (1 - 2 * (s : Int))), 0) := by decide +kernel
theorem nm_facts : ∀ n, n < 6 → ∀ c : Nat, c < 65 → okN (nm n ((c : Int) - 32)).q (nm n ((c : Int) - 32)).k ∧ (nm n ((c : Int) - 32)).k ≤ 30 := by
  unfold okN
  decide +kernel
theorem nm_end : ∀ n, n < 6 → nm n 0 = Num.zero ∧ nm n (2 ^ n : Nat) = Num.w 0 := by decide +kernel
/-- the sum of the signs -/
def sgS (d : Nat) : Nat → Int
  | 0 => 0
  | k + 1 => sgS d k + (1 - 2 * (odd (k &&& d) : Nat))
theorem sgS_end : ∀ n, n < 6 → ∀ d, d < 2 ^ n → sgS d (2 ^ n) = if d = 0 then ((2 ^ n : Nat) : Int) else 0 := by decide +kernel
theorem sgS_le (d : Nat) : ∀ k : Nat, k ≤ 32 → -(k : Int) ≤ sgS d k ∧ sgS d k ≤ k
  | 0, _ => by unfold sgS; omega
  | k + 1, hk => by
    have ih := sgS_le d k (by omega)
    have ho := odd_lt2 (k &&& d) (and_lt64 (by omega))
    unfold sgS
    omega
/-- H on all wires, twice -/
theorem wav_wav {n N : Nat} (hn : n ≤ 5) (hN : 2 ^ n = N) (i j : Nat) (hi : i < N) (hj : j < N) :
    DotOk (fun l => wavE n i l) (fun l => wavE n l j) N ∧ prodN (wavE n) (wavE n) N i j = movN (fun k => k) N i j := by
  have h32 : N ≤ 32 := by rw [← hN]; exact Nat.pow_le_pow_right (n := 2) (by decide) hn
  have hij : i ^^^ j < N := by rw [← hN] at hi hj ⊢; exact Nat.xor_lt_two_pow hi hj
  have hmul : ∀ l, l < N → mulN (wavE n i l) (wavE n l j) = (nm n (1 - 2 * (odd (l &&& (i ^^^ j)) : Nat)), 0) := fun l hl => by
    rw [wav_un, wav_un, un_un n (by omega) _ (odd_lt2 _ (and_lt64 (by omega))) _ (odd_lt2 _ (and_lt64 (by omega)))]
    rw [Nat.and_comm l (i ^^^ j), odd_bil (by omega) (by omega), Nat.and_comm l i]
  have hnm : ∀ c : Int, -32 ≤ c → c ≤ 32 → ∀ s : Nat, s < 2 → addN (nm n c) (nm n (1 - 2 * (s : Int))) = (nm n (c + (1 - 2 * (s : Int))), 0) := fun c h1 h2 s hs => by
    have h := nm_add n (by omega) (c + 32).toNat (by omega) s hs
    rw [show (((c + 32).toNat : Nat) : Int) - 32 = c from by omega] at h
    exact h
  have hmd : ∀ c : Int, -32 ≤ c → c ≤ 32 → (nm n c).md := fun c h1 h2 => by
    have h := nm_facts n (by omega) (c + 32).toNat (by omega)
    rw [show (((c + 32).toNat : Nat) : Int) - 32 = c from by omega] at h
    exact h
  have hd : ∀ k, k ≤ N → dots (fun l => wavE n i l) (fun l => wavE n l j) k = nm n (sgS (i ^^^ j) k) := by
    intro k
    induction k with
    | zero => intro _; exact (nm_end n (by omega)).1.symm
    | succ k ih =>
      intro hk
      have h := sgS_le (i ^^^ j) k (by omega)
      unfold dots
      by_cases e : k = 0
      · subst e
        rw [if_pos rfl, hmul 0 (by omega)]
        unfold sgS sgS
        rw [Int.zero_add]
      · rw [if_neg e, ih (by omega), hmul k (by omega), hnm _ (by omega) (by omega) _ (odd_lt2 _ (and_lt64 (by omega)))]
        rfl
  refine ⟨⟨fun l _ => wav_sm (by omega) _ _, fun l _ => wav_sm (by omega) _ _, fun l hl => ?_, fun k h0 hk => ?_, fun k hk => ?_⟩, ?_⟩
  · rw [hmul l hl]
    have ho := odd_lt2 (l &&& (i ^^^ j)) (and_lt64 (by omega))
    exact ⟨rfl, hmd _ (by omega) (by omega)⟩
  · have h := sgS_le (i ^^^ j) k (by omega)
    rw [hd k (by omega), hmul k hk, hnm _ (by omega) (by omega) _ (odd_lt2 _ (and_lt64 (by omega)))]
  · have h := sgS_le (i ^^^ j) (k + 1) (by omega)
    rw [hd (k + 1) (by omega)]
    exact hmd _ (by omega) (by omega)
  · unfold prodN
    rw [hd N (Nat.le_refl _)]
    have h := sgS_end n (by omega) (i ^^^ j) (by rw [hN]; exact hij)
    have hE := nm_end n (by omega)
    rw [hN] at h hE
    rw [h]
    unfold movN
    by_cases e : i = j
    · subst e
      rw [Nat.xor_self, if_pos rfl, if_pos ⟨hi, rfl⟩]
      exact hE.2
    · have e2 : i ^^^ j ≠ 0 := fun h => e (by rw [show i = (i ^^^ j) ^^^ j from by rw [Nat.xor_assoc, Nat.xor_self, Nat.xor_zero], h, Nat.zero_xor])
      rw [if_neg e2, if_neg (fun h => e h.2)]
      exact hE.1
end
end Go.Proofs.YtdfgmmjcamhdjaaGreatDoor
