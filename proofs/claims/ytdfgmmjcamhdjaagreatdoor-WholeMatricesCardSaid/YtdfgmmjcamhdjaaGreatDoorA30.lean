/- Steps to WholeMatrices' card; what each asks stands in it. -/
import Derived.Deep.RegionWith
import Derived.Test.YtdfgmmjcamhdjaaGreatDoorA05
import Derived.Test.YtdfgmmjcamhdjaaGreatDoorA29
set_option linter.unusedVariables false
set_option linter.unusedSimpArgs false
namespace Go.Proofs.YtdfgmmjcamhdjaaGreatDoor
section
open Go.RowKit
theorem run_eqL (a b c d : Int) (w : World) : (Op.equalIn 10000 178 (.agg #[.int .i64 a, .int .i64 b]) (.agg #[.int .i64 c, .int .i64 d])).run Tryz.prog w = .ok (a == c && b == d) w := by
  have h0 : ∀ (x y : Int) (w : World), (Op.equalIn 9999 3 (.int .i64 x) (.int .i64 y)).run Tryz.prog w = .ok (x == y) w := fun x y w => run_equalIn_int w 9998 3 .i64 .i64 x y Tryz.underlying3
  rw [show (10000 : Nat) = 9999 + 1 from rfl, Op.equalIn]
  simp [go_sem, Tryz.underlying178, h0]
  cases h1 : a == c <;> cases h2 : b == d <;> simp [go_sem, h0, h1, h2, show List.range' 0 2 = [0, 1] from rfl, isAgg, und3, sizeOf] <;> simp_all
attribute [local go_sem ↓] Go.wp_at_zero Go.wp_at_succ run_eqL
def prodK (a b : Nat) : Nat × Nat := if a = b then (0, 0) else if a = 0 then (b, 0) else if b = 0 then (a, 0) else (2, 1)
set_option maxHeartbeats 4000000 in
set_option maxRecDepth 100000 in
theorem f141_0 (b : Nat) (w : World) (hb : b < 4) :
    Calls Tryz.prog 141 #[kv 0 b] w fun e w' => e = .returned (kv (prodK 0 b).1 (prodK 0 b).2) ∧ Below w.heap.size w w' := by
  unfold kv
  obtain rfl | rfl | rfl | rfl : b = 0 ∨ b = 1 ∨ b = 2 ∨ b = 3 := by omega
  all_goals
    go_enter Tryz.func141, Tryz.ntmps141
    go_wp2_with (fail)
    refine bodyPost_ret (v := .agg #[.int .i64 _, .int .i64 0]) (by simp [results, Tryz.results141, go_sem]; rfl) rfl ⟨by first | rfl | (unfold prodK; rfl), ?_⟩
    exact ((Below.refl _ _).alloc (Nat.le_refl _) _).alloc (by simp) _
set_option maxHeartbeats 4000000 in
set_option maxRecDepth 100000 in
theorem f141_l (a : Nat) (w : World) (ha : a < 4) :
    Calls Tryz.prog 141 #[kv a 0] w fun e w' => e = .returned (kv (prodK a 0).1 (prodK a 0).2) ∧ Below w.heap.size w w' := by
  unfold kv
  obtain rfl | rfl | rfl | rfl : a = 0 ∨ a = 1 ∨ a = 2 ∨ a = 3 := by omega
  all_goals
    go_enter Tryz.func141, Tryz.ntmps141
    go_wp2_with (fail)
    refine bodyPost_ret (v := .agg #[.int .i64 _, .int .i64 0]) (by simp [results, Tryz.results141, go_sem]; rfl) rfl ⟨by first | rfl | (unfold prodK; rfl), ?_⟩
    exact ((Below.refl _ _).alloc (Nat.le_refl _) _).alloc (by simp) _
set_option maxHeartbeats 4000000 in
set_option maxRecDepth 100000 in
theorem f141_zx (w : World) :
    Calls Tryz.prog 141 #[kv 3 1] w fun e w' => e = .returned (kv 2 1) ∧ Below w.heap.size w w' := by
  unfold kv
  have hb0 : Below w.heap.size w ((w.alloc (.cells #[.int .i64 3, .int .i64 1] 178)).alloc (.cells #[.int .i64 0, .int .i64 0] 176)) := ((Below.refl _ _).alloc (Nat.le_refl _) _).alloc (by simp) _
  have hL0 : Blk ((w.alloc (.cells #[.int .i64 3, .int .i64 1] 178)).alloc (.cells #[.int .i64 0, .int .i64 0] 176)) w.heap.size 178 #[.int .i64 3, .int .i64 1] := (Blk.new _ _ _).alloc _
  have hR0 : Blk ((w.alloc (.cells #[.int .i64 3, .int .i64 1] 178)).alloc (.cells #[.int .i64 0, .int .i64 0] 176)) (w.heap.size + 1) 176 #[.int .i64 0, .int .i64 0] := Blk.new' _ _ (by simp)
  go_enter Tryz.func141, Tryz.ntmps141
  go_wp2_with (fail)
  generalize hw0 : ((w.alloc (.cells #[.int .i64 3, .int .i64 1] 178)).alloc (.cells #[.int .i64 0, .int .i64 0] 176)) = w0 at hb0 hL0 hR0 ⊢
  clear hw0
  have cL := hL0.cells
  have hL1 := hL0.below ((Below.refl _ w0).drew)
  have cL1 := hL1.cells
  have hR1 := hR0.below ((Below.refl _ w0).drew)
  go_region_with (go_at_call 157; refine (f157_any _).mono ?_; rintro e w5 ⟨b, es, c, rfl, h1, h2, h3, hb⟩; have hlk : (Instr.lookup 184 (.map (some b)) (.agg #[.int .i64 3, .int .i64 1]) false).run Tryz.prog w5 = .ok (.agg #[.int .i64 2, .int .i64 1]) w5 := run_lookupK w5 b es c h1 h2 h3; have cL5 := (hL1.below hb).cells; have hR5 := hR1.below hb; have cR5 := hR5.cells; have fR5 := hR5.frozen; have hW5 := (hb0.drew.trans (hb.mono (by have := hb0.size; exact this))))
  all_goals
    have hF := (hR5.set 0 (.int .i64 2)).set 1 (.int .i64 1)
    have cF := hF.cells
    have hWF := (hW5.setCell (p := ⟨w.heap.size + 1, 0, none⟩) (by show _ ≤ w.heap.size + 1; omega) (.int .i64 2)).setCell (p := ⟨w.heap.size + 1, 1, none⟩) (by show _ ≤ w.heap.size + 1; omega) (.int .i64 1)
    generalize ((w5.setCell ⟨w.heap.size + 1, 0, none⟩ (.int .i64 2)).setCell ⟨w.heap.size + 1, 1, none⟩ (.int .i64 1)) = wF at hF cF hWF ⊢
    clear cL cL1 cL5 cR5 fR5 hlk h1 h2 h3 hb hW5 hR5 hL1 hR1 hb0 hL0 hR0
    go_wp2_with (fail)
    exact bodyPost_ret (v := .agg #[.int .i64 2, .int .i64 1]) (by simp [results, Tryz.results141, go_sem, cF]) rfl ⟨rfl, hWF⟩
end
section
/-- the product of two strings, of the first k wires -/
def timX (px pz qx qz : Nat) : Nat → Nat
  | 0 => 0
  | k + 1 => timX px pz qx qz k ||| oneX (prodK (letK px pz k) (letK qx qz k)).1 k
def timZ (px pz qx qz : Nat) : Nat → Nat
  | 0 => 0
  | k + 1 => timZ px pz qx qz k ||| oneZ (prodK (letK px pz k) (letK qx qz k)).1 k
def timP (px pz qx qz : Nat) : Nat → Nat
  | 0 => 0
  | k + 1 => timP px pz qx qz k + (prodK (letK px pz k) (letK qx qz k)).2
theorem letK_lt (x z i : Nat) : letK x z i < 4 := by
  unfold letK
  split <;> split <;> decide
theorem letK_tb (x z i : Nat) : letK x z i = if x.testBit i then (if z.testBit i then 2 else 1) else (if z.testBit i then 3 else 0) := by
  unfold letK
  rw [Nat.testBit_eq_decide_div_mod_eq, Nat.testBit_eq_decide_div_mod_eq]
  have h1 := Nat.mod_two_eq_zero_or_one (x / 2 ^ i)
  have h2 := Nat.mod_two_eq_zero_or_one (z / 2 ^ i)
  rcases h1 with h1 | h1 <;> rcases h2 with h2 | h2 <;> simp [h1, h2]
theorem letK_x (x z i : Nat) : x.testBit i = decide (letK x z i = 1 ∨ letK x z i = 2) := by
  rw [letK_tb]
  cases x.testBit i <;> cases z.testBit i <;> simp
theorem letK_z (x z i : Nat) : z.testBit i = decide (letK x z i = 3 ∨ letK x z i = 2) := by
  rw [letK_tb]
  cases x.testBit i <;> cases z.testBit i <;> simp
theorem letK_ext {n x z x' z' : Nat} (hx : x < 2 ^ n) (hz : z < 2 ^ n) (hx' : x' < 2 ^ n) (hz' : z' < 2 ^ n) (h : ∀ i, i < n → letK x z i = letK x' z' i) : x = x' ∧ z = z' := by
  have hb : ∀ {a : Nat}, a < 2 ^ n → ∀ i, n ≤ i → a.testBit i = false := fun {a} ha i hi => Nat.testBit_lt_two_pow (Nat.lt_of_lt_of_le ha (Nat.pow_le_pow_right (by decide) hi))
  constructor
  · apply Nat.eq_of_testBit_eq
    intro i
    by_cases hi : i < n
    · rw [letK_x x z, letK_x x' z', h i hi]
    · rw [hb hx i (by omega), hb hx' i (by omega)]
  · apply Nat.eq_of_testBit_eq
    intro i
    by_cases hi : i < n
    · rw [letK_z x z, letK_z x' z', h i hi]
    · rw [hb hz i (by omega), hb hz' i (by omega)]
theorem oneX_tb (l m i : Nat) : (oneX l m).testBit i = (decide (i = m) && decide (l = 1 ∨ l = 2)) := by
  unfold oneX
  by_cases h : l = 1 ∨ l = 2
  · rw [if_pos h, Nat.testBit_two_pow]
    simp [h, eq_comm]
  · rw [if_neg h]
    simp [h]
theorem oneZ_tb (l m i : Nat) : (oneZ l m).testBit i = (decide (i = m) && decide (l = 3 ∨ l = 2)) := by
  unfold oneZ
  by_cases h : l = 3 ∨ l = 2
  · rw [if_pos h, Nat.testBit_two_pow]
    simp [h, eq_comm]
  · rw [if_neg h]
    simp [h]
theorem letK_one (l m i : Nat) (hl : l < 4) : letK (oneX l m) (oneZ l m) i = if i = m then l else 0 := by
  rw [letK_tb, oneX_tb, oneZ_tb]
  by_cases h : i = m
  · have : l = 0 ∨ l = 1 ∨ l = 2 ∨ l = 3 := by omega
    rcases this with rfl | rfl | rfl | rfl <;> simp [h]
  · simp [h]
theorem timX_tb (px pz qx qz i : Nat) : ∀ n, (timX px pz qx qz n).testBit i = (decide (i < n) && decide ((prodK (letK px pz i) (letK qx qz i)).1 = 1 ∨ (prodK (letK px pz i) (letK qx qz i)).1 = 2))
  | 0 => by simp [timX]
  | k + 1 => by
    unfold timX
    rw [Nat.testBit_or, timX_tb px pz qx qz i k, oneX_tb]
    by_cases h : i = k
    · subst h; simp
    · by_cases h2 : i < k
      · simp [h, h2, show i < k + 1 from by omega]
      · simp [h, h2, show ¬ i < k + 1 from by omega]
theorem timZ_tb (px pz qx qz i : Nat) : ∀ n, (timZ px pz qx qz n).testBit i = (decide (i < n) && decide ((prodK (letK px pz i) (letK qx qz i)).1 = 3 ∨ (prodK (letK px pz i) (letK qx qz i)).1 = 2))
  | 0 => by simp [timZ]
  | k + 1 => by
    unfold timZ
    rw [Nat.testBit_or, timZ_tb px pz qx qz i k, oneZ_tb]
    by_cases h : i = k
    · subst h; simp
    · by_cases h2 : i < k
      · simp [h, h2, show i < k + 1 from by omega]
      · simp [h, h2, show ¬ i < k + 1 from by omega]
theorem prodK_lt (a b : Nat) (ha : a < 4) (hb : b < 4) : (prodK a b).1 < 4 := by
  unfold prodK
  split
  · decide
  · split
    · exact hb
    · split
      · exact ha
      · decide
theorem letK_tim (px pz qx qz n i : Nat) (hi : i < n) : letK (timX px pz qx qz n) (timZ px pz qx qz n) i = (prodK (letK px pz i) (letK qx qz i)).1 := by
  have hl := prodK_lt _ _ (letK_lt px pz i) (letK_lt qx qz i)
  rw [letK_tb, timX_tb, timZ_tb]
  generalize (prodK (letK px pz i) (letK qx qz i)).1 = l at hl ⊢
  have : l = 0 ∨ l = 1 ∨ l = 2 ∨ l = 3 := by omega
  rcases this with rfl | rfl | rfl | rfl <;> simp [hi]
theorem prodK_zero (a : Nat) : prodK a 0 = (a, 0) := by
  unfold prodK
  by_cases h : a = 0
  · subst h; rfl
  · rw [if_neg h, if_neg h, if_pos rfl]
/-- a string times one letter -/
theorem letK_times (px pz l m n i : Nat) (hl : l < 4) (hi : i < n) : letK (timX px pz (oneX l m) (oneZ l m) n) (timZ px pz (oneX l m) (oneZ l m) n) i = if i = m then (prodK (letK px pz m) l).1 else letK px pz i := by
  rw [letK_tim _ _ _ _ _ _ hi, letK_one l m i hl]
  by_cases h : i = m
  · subst h; rw [if_pos rfl, if_pos rfl]
  · rw [if_neg h, if_neg h, prodK_zero]
theorem timP_one (px pz l m : Nat) (hl : l < 4) : ∀ n, timP px pz (oneX l m) (oneZ l m) n = if m < n then (prodK (letK px pz m) l).2 else 0
  | 0 => rfl
  | k + 1 => by
    unfold timP
    rw [timP_one px pz l m hl k, letK_one l m k hl]
    by_cases h : k = m
    · subst h
      rw [if_pos rfl, if_neg (Nat.lt_irrefl _), if_pos (Nat.lt_succ_self _), Nat.zero_add]
    · rw [if_neg h, prodK_zero, Nat.add_zero]
      by_cases h2 : m < k
      · rw [if_pos h2, if_pos (by omega)]
      · rw [if_neg h2, if_neg (by omega)]
/-- a letter, and its phase, through H on a wire -/
def hL (kk i l : Nat) : Nat := if i = kk then (if l = 1 then 3 else if l = 3 then 1 else l) else l
def hP (kk i l : Nat) : Nat := if i = kk ∧ l = 2 then 2 else 0
theorem hL_lt (kk i l : Nat) (h : l < 4) : hL kk i l < 4 := by
  unfold hL
  split
  · split
    · decide
    · split
      · decide
      · exact h
  · exact h
/-- one round of through -/
def thrS (n kk x z : Nat) (s : Nat × Nat × Nat) (i : Nat) : Nat × Nat × Nat :=
  (timX s.1 s.2.1 (oneX (hL kk i (letK x z i)) i) (oneZ (hL kk i (letK x z i)) i) n,
   timZ s.1 s.2.1 (oneX (hL kk i (letK x z i)) i) (oneZ (hL kk i (letK x z i)) i) n,
   (s.2.2 + hP kk i (letK x z i) + timP s.1 s.2.1 (oneX (hL kk i (letK x z i)) i) (oneZ (hL kk i (letK x z i)) i) n) % 4)
theorem oneX_lt (l i n : Nat) (h : i < n) : oneX l i < 2 ^ n := by
  unfold oneX
  split
  · exact Nat.pow_lt_pow_right (by decide) h
  · exact Nat.two_pow_pos n
theorem oneZ_lt (l i n : Nat) (h : i < n) : oneZ l i < 2 ^ n := by
  unfold oneZ
  split
  · exact Nat.pow_lt_pow_right (by decide) h
  · exact Nat.two_pow_pos n
theorem timX_lt (px pz qx qz : Nat) : ∀ k n, k ≤ n → timX px pz qx qz k < 2 ^ n
  | 0, n, _ => Nat.two_pow_pos n
  | k + 1, n, h => Nat.or_lt_two_pow (timX_lt px pz qx qz k n (by omega)) (oneX_lt _ _ _ (by omega))
theorem timZ_lt (px pz qx qz : Nat) : ∀ k n, k ≤ n → timZ px pz qx qz k < 2 ^ n
  | 0, n, _ => Nat.two_pow_pos n
  | k + 1, n, h => Nat.or_lt_two_pow (timZ_lt px pz qx qz k n (by omega)) (oneZ_lt _ _ _ (by omega))
/-- what holds of the string at work -/
structure ThrOk (n kk x z : Nat) (s : Nat × Nat × Nat) : Prop where
  hx : s.1 < 2 ^ n
  hz : s.2.1 < 2 ^ n
  hp : s.2.2 < 4
  l : ∀ i, i < n → letK s.1 s.2.1 i = 0 ∨ letK s.1 s.2.1 i = hL kk i (letK x z i)
theorem ThrOk.step {n kk x z : Nat} {s : Nat × Nat × Nat} (H : ThrOk n kk x z s) (i : Nat) : ThrOk n kk x z (thrS n kk x z s i) := by
  refine ⟨timX_lt _ _ _ _ _ _ (Nat.le_refl _), timZ_lt _ _ _ _ _ _ (Nat.le_refl _), Nat.mod_lt _ (by decide), fun j hj => ?_⟩
  show letK (timX _ _ _ _ n) (timZ _ _ _ _ n) j = 0 ∨ letK (timX _ _ _ _ n) (timZ _ _ _ _ n) j = _
  rw [letK_times _ _ _ _ _ _ (hL_lt _ _ _ (letK_lt _ _ _)) hj]
  by_cases h : j = i
  · subst h
    rw [if_pos rfl]
    rcases H.l j hj with h | h
    · rw [h]
      unfold prodK
      split
      · exact .inl rfl
      · exact .inr rfl
    · rw [h]
      unfold prodK
      rw [if_pos rfl]
      exact .inl rfl
  · rw [if_neg h]
    exact H.l j hj
theorem ThrOk.pairs {n kk x z : Nat} {s : Nat × Nat × Nat} (H : ThrOk n kk x z s) (i k : Nat) (hk : k < n) : letK s.1 s.2.1 k = 0 ∨ letK (oneX (hL kk i (letK x z i)) i) (oneZ (hL kk i (letK x z i)) i) k = 0 ∨ letK s.1 s.2.1 k = letK (oneX (hL kk i (letK x z i)) i) (oneZ (hL kk i (letK x z i)) i) k := by
  rw [letK_one _ _ _ (hL_lt _ _ _ (letK_lt _ _ _))]
  by_cases h : k = i
  · subst h
    rw [if_pos rfl]
    rcases H.l k hk with h | h
    · exact .inl h
    · exact .inr (.inr h)
  · rw [if_neg h]
    exact .inr (.inl rfl)
theorem letK_zero (i : Nat) : letK 0 0 i = 0 := by simp [letK]
theorem ThrOk.start (n kk x z p : Nat) (hp : p < 4) : ThrOk n kk x z (0, 0, p) := ⟨Nat.two_pow_pos _, Nat.two_pow_pos _, hp, fun i _ => .inl (letK_zero i)⟩
def thrF (n kk x z : Nat) (s : Nat × Nat × Nat) (l : List Nat) : Nat × Nat × Nat := l.foldl (thrS n kk x z) s
theorem ThrOk.fold {n kk x z : Nat} : ∀ (l : List Nat) {s : Nat × Nat × Nat}, ThrOk n kk x z s → ThrOk n kk x z (thrF n kk x z s l)
  | [], _, H => H
  | i :: l, _, H => ThrOk.fold l (H.step i)
/-- the wires that have a letter, of the first k -/
def wiresK (x z k : Nat) : List Nat := (List.range k).filter fun i => letK x z i != 0
theorem wiresK_succ (x z k : Nat) : wiresK x z (k + 1) = if letK x z k = 0 then wiresK x z k else wiresK x z k ++ [k] := by
  unfold wiresK
  rw [List.range_succ, List.filter_append]
  by_cases h : letK x z k = 0
  · rw [if_pos h]; simp [h]
  · rw [if_neg h]; simp [h]
theorem thr_all (n kk x z p : Nat) (hp : p < 4) : ∀ k, k ≤ n → (∀ i, i < n → letK (thrF n kk x z (0, 0, p) (wiresK x z k)).1 (thrF n kk x z (0, 0, p) (wiresK x z k)).2.1 i = if i < k then hL kk i (letK x z i) else 0) ∧ (thrF n kk x z (0, 0, p) (wiresK x z k)).2.2 = (p + if kk < k ∧ letK x z kk = 2 then 2 else 0) % 4
  | 0, _ => ⟨fun i _ => by rw [if_neg (by omega)]; exact letK_zero i, by
      rw [if_neg (by omega)]
      show p = (p + 0) % 4
      omega⟩
  | k + 1, hk => by
    obtain ⟨h1, h2⟩ := thr_all n kk x z p hp k (by omega)
    rw [wiresK_succ]
    by_cases h : letK x z k = 0
    · rw [if_pos h]
      refine ⟨fun i hi => ?_, ?_⟩
      · rw [h1 i hi]
        by_cases e : i = k
        · subst e
          rw [if_neg (Nat.lt_irrefl _), if_pos (Nat.lt_succ_self _), h]
          unfold hL
          split <;> rfl
        · by_cases e2 : i < k
          · rw [if_pos e2, if_pos (by omega)]
          · rw [if_neg e2, if_neg (by omega)]
      · rw [h2]
        by_cases e : kk = k
        · subst e
          rw [if_neg (by omega), if_neg (by rw [h]; rintro ⟨_, h⟩; cases h)]
        · by_cases e2 : kk < k ∧ letK x z kk = 2
          · rw [if_pos e2, if_pos ⟨by omega, e2.2⟩]
          · rw [if_neg e2, if_neg (fun e3 => e2 ⟨by omega, e3.2⟩)]
    · rw [if_neg h]
      have hf : thrF n kk x z (0, 0, p) (wiresK x z k ++ [k]) = thrS n kk x z (thrF n kk x z (0, 0, p) (wiresK x z k)) k := by
        unfold thrF
        rw [List.foldl_append]; rfl
      rw [hf]
      generalize thrF n kk x z (0, 0, p) (wiresK x z k) = s at h1 h2 ⊢
      have hlt := hL_lt kk k _ (letK_lt x z k)
      have h0 := h1 k (by omega)
      rw [if_neg (Nat.lt_irrefl _)] at h0
      have hpr : prodK 0 (hL kk k (letK x z k)) = (hL kk k (letK x z k), 0) := by
        unfold prodK
        by_cases e : 0 = hL kk k (letK x z k)
        · rw [if_pos e, ← e]
        · rw [if_neg e, if_pos rfl]
      refine ⟨fun i hi => ?_, ?_⟩
      · show letK (timX _ _ _ _ n) (timZ _ _ _ _ n) i = _
        rw [letK_times _ _ _ _ _ _ hlt hi, h0, hpr]
        clear hpr h2
        by_cases e : i = k
        · subst e
          rw [if_pos rfl, if_pos (Nat.lt_succ_self _)]
        · rw [if_neg e, h1 i hi]
          by_cases e2 : i < k
          · rw [if_pos e2, if_pos (by omega)]
          · rw [if_neg e2, if_neg (by omega)]
      · show (s.2.2 + hP kk k (letK x z k) + timP _ _ _ _ n) % 4 = _
        have hz : (if k < n then (prodK (letK s.1 s.2.1 k) (hL kk k (letK x z k))).2 else 0) = 0 := by
          rw [h0, hpr]
          split <;> rfl
        rw [timP_one _ _ _ _ hlt, hz, h2]
        unfold hP
        by_cases e : kk = k
        · subst e
          rw [if_neg (by omega : ¬ (kk < kk ∧ letK x z kk = 2))]
          by_cases e2 : letK x z kk = 2
          · rw [if_pos ⟨rfl, e2⟩, if_pos ⟨by omega, e2⟩]
            omega
          · rw [if_neg (fun h => e2 h.2), if_neg (fun h => e2 h.2)]
            omega
        · rw [if_neg (fun h : k = kk ∧ _ => e h.1.symm)]
          by_cases e2 : kk < k ∧ letK x z kk = 2
          · rw [if_pos e2, if_pos ⟨by omega, e2.2⟩]
            omega
          · rw [if_neg e2, if_neg (fun e3 => e2 ⟨by omega, e3.2⟩)]
            omega
/-- how many of the first k wires have Y -/
def cntY (x z : Nat) : Nat → Nat
  | 0 => 0
  | k + 1 => cntY x z k + if letK x z k = 2 then 1 else 0
end
section
/-- the operator of a letter -/
def letM (l : Nat) : Nat → Nat → Num := if l = 0 then movN (fun k => k) 2 else opM l
def phL (l b : Nat) : Nat := if l = 2 then 2 + 4 * b else if l = 3 then 4 * b else 0
theorem letM_at : ∀ a, a < 2 → ∀ b, b < 2 → ∀ u, u < 2 → ∀ v, v < 2 →
    letM (if u = 0 then (if v = 0 then 0 else 3) else (if v = 0 then 1 else 2)) a b = if a = b ^^^ u then Num.w (phL (if u = 0 then (if v = 0 then 0 else 3) else (if v = 0 then 1 else 2)) b % 8) else Num.zero := by decide +kernel
/-- the power of w in column j of the operator of a string's first k letters -/
def pauE (x z p : Nat) : Nat → Nat → Nat
  | 0, _ => (2 * p) % 8
  | k + 1, j => (phL (letK x z k) (j / 2 ^ k) % 8 + pauE x z p k (j % 2 ^ k)) % 8
def pauN (x z p k i j : Nat) : Num := if i = j ^^^ (x % 2 ^ k) then Num.w (pauE x z p k j) else Num.zero
theorem pauE_lt (x z p : Nat) : ∀ k j, pauE x z p k j < 8
  | 0, _ => Nat.mod_lt _ (by decide)
  | _ + 1, _ => Nat.mod_lt _ (by decide)
theorem mulN_z : ∀ p : Nat, p < 8 → mulN Num.zero (Num.w p) = (Num.zero, 0) := by decide +kernel
theorem mulN_zz : mulN Num.zero Num.zero = (Num.zero, 0) := by decide +kernel
theorem mul_ite {A B : Prop} [Decidable A] [Decidable B] (a p : Nat) (ha : a < 8) (hp : p < 8) : mulN (if A then Num.w a else Num.zero) (if B then Num.w p else Num.zero) = (if A ∧ B then Num.w ((a + p) % 8) else Num.zero, 0) := by
  by_cases hA : A
  · by_cases hB : B
    · rw [if_pos hA, if_pos hB, if_pos ⟨hA, hB⟩]; exact (mulN_w a ha).2 p hp
    · rw [if_pos hA, if_neg hB, if_neg (fun h => hB h.2)]; exact (mulN_w a ha).1
  · by_cases hB : B
    · rw [if_neg hA, if_pos hB, if_neg (fun h => hA h.1)]; exact mulN_z p hp
    · rw [if_neg hA, if_neg hB, if_neg (fun h => hA h.1)]; exact mulN_zz
theorem split_xor (i j x k : Nat) : (i = j ^^^ (x % 2 ^ (k + 1))) ↔ (i / 2 ^ k = (j / 2 ^ k) ^^^ (x / 2 ^ k % 2) ∧ i % 2 ^ k = (j % 2 ^ k) ^^^ (x % 2 ^ k)) := by
  have e1 : (x % 2 ^ (k + 1)) / 2 ^ k = x / 2 ^ k % 2 := by
    rw [Nat.pow_succ, Nat.mod_mul_right_div_self]
  have e2 : (x % 2 ^ (k + 1)) % 2 ^ k = x % 2 ^ k := Nat.mod_mod_of_dvd _ (Nat.pow_dvd_pow 2 (Nat.le_succ k))
  have h1 : (j ^^^ (x % 2 ^ (k + 1))) / 2 ^ k = (j / 2 ^ k) ^^^ (x / 2 ^ k % 2) := by rw [Nat.xor_div_two_pow, e1]
  have h2 : (j ^^^ (x % 2 ^ (k + 1))) % 2 ^ k = (j % 2 ^ k) ^^^ (x % 2 ^ k) := by rw [Nat.xor_mod_two_pow, e2]
  constructor
  · intro h
    rw [← h1, ← h2, h]
    exact ⟨rfl, rfl⟩
  · rintro ⟨a, b⟩
    rw [← h1] at a
    rw [← h2] at b
    rw [← Nat.div_add_mod i (2 ^ k), a, b, Nat.div_add_mod]
theorem pau_step (x z p k i j : Nat) (hi : i < 2 * 2 ^ k) (hj : j < 2 * 2 ^ k) : mulN (letM (letK x z k) (i / 2 ^ k) (j / 2 ^ k)) (pauN x z p k (i % 2 ^ k) (j % 2 ^ k)) = (pauN x z p (k + 1) i j, 0) := by
  have d1 : i / 2 ^ k < 2 := Nat.div_lt_of_lt_mul (by rw [Nat.mul_comm]; exact hi)
  have d2 : j / 2 ^ k < 2 := Nat.div_lt_of_lt_mul (by rw [Nat.mul_comm]; exact hj)
  have h := letM_at _ d1 _ d2 (x / 2 ^ k % 2) (Nat.mod_lt _ (by decide)) (z / 2 ^ k % 2) (Nat.mod_lt _ (by decide))
  have hl : letK x z k = if x / 2 ^ k % 2 = 0 then (if z / 2 ^ k % 2 = 0 then 0 else 3) else (if z / 2 ^ k % 2 = 0 then 1 else 2) := rfl
  rw [← hl] at h
  rw [h]
  unfold pauN
  rw [mul_ite _ _ (Nat.mod_lt _ (by decide)) (pauE_lt _ _ _ _ _)]
  have hs := split_xor i j x k
  by_cases e : i = j ^^^ (x % 2 ^ (k + 1))
  · rw [if_pos (hs.1 e), if_pos e]; rfl
  · rw [if_neg (fun h => e (hs.2 h)), if_neg e]
theorem ite_sm {A : Prop} [Decidable A] : ∀ a : Nat, a < 8 → (if A then Num.w a else Num.zero).sm := by
  have h1 : ∀ a : Nat, a < 8 → (Num.w a).sm := by
    intro a ha
    have : ∀ a, a < 8 → okN (Num.w a).q (Num.w a).k ∧ (Num.w a).k ≤ 30 ∧ (Num.w a).q.Le 536870912 := by
      unfold okN Q.Le
      decide +kernel
    exact this a ha
  have h2 : Num.zero.sm := by
    have : okN Num.zero.q Num.zero.k ∧ Num.zero.k ≤ 30 ∧ Num.zero.q.Le 536870912 := by
      unfold okN Q.Le
      decide +kernel
    exact this
  intro a ha
  split
  · exact h1 a ha
  · exact h2
theorem pauN_sm (x z p k i j : Nat) : (pauN x z p k i j).sm := ite_sm _ (pauE_lt _ _ _ _ _)
theorem letM_sm (x z k i j : Nat) (hi : i < 2) (hj : j < 2) : (letM (letK x z k) i j).sm := by
  have h := letM_at _ hi _ hj (x / 2 ^ k % 2) (Nat.mod_lt _ (by decide)) (z / 2 ^ k % 2) (Nat.mod_lt _ (by decide))
  have hl : letK x z k = if x / 2 ^ k % 2 = 0 then (if z / 2 ^ k % 2 = 0 then 0 else 3) else (if z / 2 ^ k % 2 = 0 then 1 else 2) := rfl
  rw [← hl] at h
  rw [h]
  exact ite_sm _ (Nat.mod_lt _ (by decide))
end
section
/-- a number in least form -/
def Lf (x : Num) : Prop := leastN x.q x.k = (x, 0)
theorem raiseQ_zero : ∀ n, raiseQ n ⟨0, 0, 0, 0⟩ = ⟨0, 0, 0, 0⟩
  | 0 => rfl
  | n + 1 => by
    unfold raiseQ
    exact raiseQ_zero n
theorem least_zero (k : Nat) : leastN ⟨0, 0, 0, 0⟩ k = (Num.zero, 0) := rfl
theorem Lf.zero : Lf Num.zero := rfl
theorem addN_zero {s : Num} (h : Lf s) : addN s Num.zero = (s, 0) := by
  unfold addN withN
  have e1 : max s.k Num.zero.k = s.k := Nat.max_eq_left (Nat.zero_le _)
  rw [e1, Nat.sub_self]
  show leastN (mapQ (· + ·) s.q (raiseQ (s.k - 0) ⟨0, 0, 0, 0⟩)) s.k = _
  rw [raiseQ_zero]
  have e2 : mapQ (· + ·) s.q ⟨0, 0, 0, 0⟩ = s.q := by
    unfold mapQ
    simp
  rw [e2]
  exact h
theorem zero_addN {s : Num} (h : Lf s) : addN Num.zero s = (s, 0) := by
  unfold addN withN
  have e1 : max Num.zero.k s.k = s.k := Nat.max_eq_right (Nat.zero_le _)
  rw [e1, Nat.sub_self]
  show leastN (mapQ (· + ·) (raiseQ (s.k - 0) ⟨0, 0, 0, 0⟩) s.q) s.k = _
  rw [raiseQ_zero]
  have e2 : mapQ (· + ·) ⟨0, 0, 0, 0⟩ s.q = s.q := by
    unfold mapQ
    simp
  rw [e2]
  exact h
theorem mulN_zero_l (y : Num) : mulN Num.zero y = (Num.zero, 0) := by
  unfold mulN
  have e : Num.zero.q.mul y.q = ⟨0, 0, 0, 0⟩ := by
    show Q.mul ⟨0, 0, 0, 0⟩ y.q = _
    unfold Q.mul
    simp
  rw [e]
  exact least_zero _
theorem mulN_zero_r (y : Num) : mulN y Num.zero = (Num.zero, 0) := by
  unfold mulN
  have e : y.q.mul Num.zero.q = ⟨0, 0, 0, 0⟩ := by
    show Q.mul y.q ⟨0, 0, 0, 0⟩ = _
    unfold Q.mul
    simp
  rw [e]
  exact least_zero _
/-- the one term of a sum that is not 0 -/
def selN (P : Nat → Prop) [DecidablePred P] (T : Nat → Num) : Nat → Num
  | 0 => Num.zero
  | k + 1 => if P k then T k else selN P T k
theorem selN_no {P : Nat → Prop} [DecidablePred P] {T : Nat → Num} : ∀ k, (∀ l, l < k → ¬ P l) → selN P T k = Num.zero
  | 0, _ => rfl
  | k + 1, h => by
    unfold selN
    rw [if_neg (h k (Nat.lt_succ_self _))]
    exact selN_no k (fun l hl => h l (by omega))
theorem selN_yes {P : Nat → Prop} [DecidablePred P] {T : Nat → Num} {a : Nat} (hP : P a) : ∀ k, a < k → (∀ b, b < k → P b → b = a) → selN P T k = T a
  | 0, h, _ => absurd h (Nat.not_lt_zero _)
  | k + 1, h, hu => by
    unfold selN
    by_cases e : P k
    · rw [if_pos e, hu k (Nat.lt_succ_self _) e]
    · rw [if_neg e]
      have : a ≠ k := fun h => e (h ▸ hP)
      exact selN_yes hP k (by omega) (fun b hb => hu b (by omega))
theorem selN_cases {P : Nat → Prop} [DecidablePred P] {T : Nat → Num} {R : Num → Prop} (h0 : R Num.zero) : ∀ k, (∀ l, l < k → R (T l)) → R (selN P T k)
  | 0, _ => h0
  | k + 1, h => by
    unfold selN
    split
    · exact h k (Nat.lt_succ_self _)
    · exact selN_cases h0 k (fun l hl => h l (by omega))
theorem dots_sel {x y T : Nat → Num} {P : Nat → Prop} [DecidablePred P] {n : Nat} (hmul : ∀ l, l < n → mulN (x l) (y l) = (if P l then T l else Num.zero, 0)) (hu : ∀ a b, a < n → b < n → P a → P b → a = b) (hT : ∀ l, l < n → Lf (T l)) :
    ∀ k, k ≤ n → dots x y k = selN P T k ∧ (0 < k → k < n → (addN (dots x y k) (mulN (x k) (y k)).1) = (selN P T (k + 1), 0))
  | k, hk => by
    have hadd : ∀ k, dots x y k = selN P T k → k < n → addN (dots x y k) (mulN (x k) (y k)).1 = (selN P T (k + 1), 0) := by
      intro k hd hkn
      rw [hd, hmul k hkn]
      show addN (selN P T k) (if P k then T k else Num.zero) = (if P k then T k else selN P T k, 0)
      by_cases e : P k
      · rw [if_pos e, if_pos e, selN_no k (fun l hl hl2 => by have := hu l k (by omega) hkn hl2 e; omega)]
        exact zero_addN (hT k hkn)
      · rw [if_neg e, if_neg e]
        exact addN_zero (selN_cases Lf.zero k (fun l hl => hT l (by omega)))
    have hd : ∀ k, k ≤ n → dots x y k = selN P T k := by
      intro k
      induction k with
      | zero => intro _; rfl
      | succ k ih =>
        intro hk
        unfold dots
        by_cases e : k = 0
        · subst e
          rw [if_pos rfl, hmul 0 (by omega)]
          rfl
        · rw [if_neg e, hadd k (ih (by omega)) (by omega)]
    exact ⟨hd k hk, fun _ h => hadd k (hd k hk) h⟩
theorem sm_md {x : Num} (h : x.sm) : x.md := ⟨h.1, h.2.1⟩
theorem dotOk_sel {x y T : Nat → Num} {P : Nat → Prop} [DecidablePred P] {n : Nat} (hmul : ∀ l, l < n → mulN (x l) (y l) = (if P l then T l else Num.zero, 0)) (hu : ∀ a b, a < n → b < n → P a → P b → a = b) (hT : ∀ l, l < n → Lf (T l)) (hx : ∀ l, l < n → (x l).sm) (hy : ∀ l, l < n → (y l).sm) (hTs : ∀ l, l < n → (T l).sm) : DotOk x y n := by
  have hz : Num.zero.sm := by simpa using (ite_sm (A := False) 0 (by decide))
  have hs : ∀ k, k ≤ n → (selN P T k).sm := fun k hk => selN_cases (R := Num.sm) hz k (fun l hl => hTs l (by omega))
  refine ⟨hx, hy, fun k hk => ?_, fun k h0 hk => ?_, fun k hk => ?_⟩
  · rw [hmul k hk]
    refine ⟨rfl, sm_md ?_⟩
    dsimp only
    split
    · exact hTs k hk
    · exact hz
  · rw [(dots_sel hmul hu hT k (by omega)).2 h0 hk]
  · rw [(dots_sel hmul hu hT (k + 1) (by omega)).1]
    exact sm_md (hs _ (by omega))
/-- the operator of a table, some columns left out -/
def pM (tw pw : Nat → Nat) (ok : Nat → Bool) (i j : Nat) : Num := if i = tw j ∧ ok j = true then Num.w (pw j) else Num.zero
theorem w_facts : ∀ p : Nat, p < 8 → Lf (Num.w p) ∧ conjN (Num.w p) = (Num.w ((8 - p) % 8), 0) := by
  unfold Lf
  decide +kernel
theorem conj_zero : conjN Num.zero = (Num.zero, 0) := rfl
theorem w_inj : ∀ a : Nat, a < 8 → ∀ b : Nat, b < 8 → Num.w a = Num.w b → a = b := by decide +kernel
theorem w_ne_zero : ∀ a : Nat, a < 8 → Num.w a ≠ Num.zero := by decide +kernel
section
variable {tw pw : Nat → Nat} {ok : Nat → Bool} {N : Nat}
theorem pM_sm (hp : ∀ j, j < N → pw j < 8) (i j : Nat) (hj : j < N) : (pM tw pw ok i j).sm := ite_sm _ (hp j hj)
theorem pM_conj (hp : ∀ j, j < N → pw j < 8) (i j : Nat) (hj : j < N) : conjN (pM tw pw ok i j) = (if i = tw j ∧ ok j = true then Num.w ((8 - pw j) % 8) else Num.zero, 0) := by
  unfold pM
  split
  · exact (w_facts _ (hp j hj)).2
  · exact conj_zero
theorem pM_scale (hp : ∀ j, j < N → pw j < 8) (t : Nat) (ht : t < 8) (i j : Nat) (hj : j < N) : mulN (pM tw pw ok i j) (Num.w t) = (if i = tw j ∧ ok j = true then Num.w ((pw j + t) % 8) else Num.zero, 0) ∧ mulN (Num.w t) (pM tw pw ok i j) = (if i = tw j ∧ ok j = true then Num.w ((t + pw j) % 8) else Num.zero, 0) := by
  unfold pM
  split
  · exact ⟨(mulN_w _ (hp j hj)).2 t ht, (mulN_w t ht).2 _ (hp j hj)⟩
  · exact ⟨mulN_zero_l _, mulN_zero_r _⟩
/-- the operator turned round, times it -/
theorem pM_prod (hp : ∀ j, j < N → pw j < 8) (ht : ∀ j, j < N → tw j < N) (i j : Nat) (hi : i < N) (hj : j < N) :
    DotOk (fun l => dagN (pM tw pw ok) i l) (fun l => pM tw pw ok l j) N ∧ prodN (dagN (pM tw pw ok)) (pM tw pw ok) N i j = if tw i = tw j ∧ ok i = true ∧ ok j = true then Num.w (((8 - pw i) % 8 + pw j) % 8) else Num.zero := by
  have hdag : ∀ l, dagN (pM tw pw ok) i l = if l = tw i ∧ ok i = true then Num.w ((8 - pw i) % 8) else Num.zero := fun l => by
    unfold dagN
    rw [pM_conj hp l i hi]
  have hmul : ∀ l, l < N → mulN (dagN (pM tw pw ok) i l) (pM tw pw ok l j) = (if (l = tw i ∧ ok i = true) ∧ l = tw j ∧ ok j = true then Num.w (((8 - pw i) % 8 + pw j) % 8) else Num.zero, 0) := fun l _ => by
    rw [hdag]
    unfold pM
    exact mul_ite _ _ (Nat.mod_lt _ (by decide)) (hp j hj)
  have hu : ∀ a b, a < N → b < N → (a = tw i ∧ ok i = true) ∧ a = tw j ∧ ok j = true → (b = tw i ∧ ok i = true) ∧ b = tw j ∧ ok j = true → a = b := fun a b _ _ h1 h2 => h1.1.1.trans h2.1.1.symm
  have hL : ∀ l, l < N → Lf (Num.w (((8 - pw i) % 8 + pw j) % 8)) := fun _ _ => (w_facts _ (Nat.mod_lt _ (by decide))).1
  have hws : (Num.w (((8 - pw i) % 8 + pw j) % 8)).sm := by simpa using (ite_sm (A := True) (((8 - pw i) % 8 + pw j) % 8) (Nat.mod_lt _ (by decide)))
  refine ⟨dotOk_sel hmul hu hL (fun l _ => by rw [hdag]; exact ite_sm _ (Nat.mod_lt _ (by decide))) (fun l _ => pM_sm hp l j hj) (fun _ _ => hws), ?_⟩
  unfold prodN
  rw [(dots_sel hmul hu hL N (Nat.le_refl _)).1]
  by_cases e : tw i = tw j ∧ ok i = true ∧ ok j = true
  · rw [if_pos e]
    exact selN_yes (P := fun l => (l = tw i ∧ ok i = true) ∧ l = tw j ∧ ok j = true) (a := tw i) ⟨⟨rfl, e.2.1⟩, e.1, e.2.2⟩ N (ht i hi) (fun b hb h => h.1.1)
  · rw [if_neg e]
    exact selN_no N (fun l _ h => e ⟨h.1.1.symm.trans h.2.1, h.1.2, h.2.2⟩)
end
end
section
theorem beq_nat {a b : Nat} (h : a.beq b = true) : a = b := Nat.eq_of_beq_eq_true h
theorem stepG_inj (g : Gt) (n a b : Nat) (hg : Gt.ok g n) (hn : n ≤ 6) (ha : a < 64) (hb : b < 64) (h : stepG g a = stepG g b) : a = b := by
  have hl := lawG g n hg hn
  have hx : ∀ x, x < 64 → frG g.k g.ws (stepG g x) = x := fun x hx => by
    have := List.all_eq_true.1 hl x (List.mem_range.2 hx)
    simp only [Bool.and_eq_true] at this
    exact beq_nat this.1.1
  rw [← hx a ha, ← hx b hb, h]
theorem runG_inj (n : Nat) (hn : n ≤ 6) : ∀ (gs : List Gt) (s s' : Nat × Nat), (∀ g ∈ gs, Gt.ok g n) → s.1 < 2 ^ n → s'.1 < 2 ^ n → (runG gs s).1 = (runG gs s').1 → s.1 = s'.1
  | [], s, s', _, _, _, h => h
  | g :: gs, s, s', hg, h1, h2, h => by
    have h64 : 2 ^ n ≤ 64 := Nat.pow_le_pow_right (n := 2) (by decide) hn
    have ih := runG_inj n hn gs (stepG g s.1, stepP g s.1 s.2) (stepG g s'.1, stepP g s'.1 s'.2) (fun g' h' => hg g' (by simp [h'])) (step_lt g n s.1 (hg g (by simp)) h1) (step_lt g n s'.1 (hg g (by simp)) h2) h
    exact stepG_inj g n s.1 s'.1 (hg g (by simp)) hn (by omega) (by omega) ih
/-- what is known of a table -/
structure TabOk (tw pw : Nat → Nat) (N : Nat) : Prop where
  t : ∀ j, j < N → tw j < N
  p : ∀ j, j < N → pw j < 8
  inj : ∀ a b, a < N → b < N → tw a = tw b → a = b
theorem tabOk (n N : Nat) (hn : n ≤ 6) (hN : 2 ^ n = N) (gs : List Gt) (hg : ∀ g ∈ gs, Gt.ok g n) : TabOk (fun j => (runG gs (j, 0)).1) (fun j => (runG gs (j, 0)).2) N := by
  subst hN
  exact ⟨fun j hj => (runG_bd n gs (j, 0) hg hj (by show 0 < 8; decide)).1, fun j hj => (runG_bd n gs (j, 0) hg hj (by show 0 < 8; decide)).2, fun a b ha hb h => runG_inj n hn gs (a, 0) (b, 0) hg ha hb h⟩
theorem colM_pM (gs : List Gt) : colM gs = pM (fun j => (runG gs (j, 0)).1) (fun j => (runG gs (j, 0)).2) (fun _ => true) := by
  funext i j
  unfold colM stV pM
  by_cases h : i = (runG gs (j, 0)).1
  · rw [if_pos h, if_pos ⟨h, rfl⟩]
  · rw [if_neg h, if_neg (fun h2 => h h2.1)]
/-! sums of numbers without a root -/
theorem fits_of_le {q : Q} (h : q.Le 1000) : fits4 1073741824 q.a q.b q.c q.d = true := by
  obtain ⟨h1, h2, h3, h4, h5, h6, h7, h8⟩ := h
  simp only [fits4, inSz, List.all_cons, List.all_nil, Bool.and_true, Bool.and_eq_true, decide_eq_true_eq]
  omega
theorem least_k0 {q : Q} (h : q.Le 1000) : leastN q 0 = (⟨q, 0⟩, 0) := by
  have hf := fits_of_le h
  unfold leastN leastQ
  by_cases hz : q.zero = true
  · rw [if_pos hz]
    obtain ⟨a, b, c, d⟩ := q
    simp only [Q.zero, Bool.and_eq_true, beq_iff_eq] at hz
    obtain ⟨h1, h2, h3, h4⟩ := hz
    subst h1 h2 h3 h4
    rfl
  · rw [if_neg hz]
    show ((⟨(if 60 < (0 : Nat) then _ else _ : Q × Nat × Int).1, _⟩ : Num), _) = _
    simp [lower, hf]
theorem addN_k0 {x y : Num} (hx : x.k = 0) (hy : y.k = 0) (h : (mapQ (· + ·) x.q y.q).Le 1000) : addN x y = (⟨mapQ (· + ·) x.q y.q, 0⟩, 0) := by
  unfold addN withN
  rw [hx, hy]
  exact least_k0 h
theorem ok_k0 {q : Q} (h : q.Le 1000) : (⟨q, 0⟩ : Num).ok := ⟨Nat.zero_le _, fits_of_le h⟩
theorem sum_k0 (f : Nat → Num) (n : Nat) (hn : n ≤ 64) (hf : ∀ l, l < n → (f l).k = 0 ∧ (f l).q.Le 1) : ∀ k, k ≤ n → (sumF f k).k = 0 ∧ (sumF f k).q.Le k ∧ (k < n → addN (sumF f k) (f k) = (sumF f (k + 1), 0))
  | 0, _ => by
    refine ⟨rfl, by show Q.Le ⟨0, 0, 0, 0⟩ _; unfold Q.Le; simp, fun h => ?_⟩
    obtain ⟨h1, h2⟩ := hf 0 h
    have hle : (mapQ (· + ·) Num.zero.q (f 0).q).Le 1000 := by
      obtain ⟨a, b, c, d, e, g, i, j⟩ := h2
      show Q.Le ⟨0 + _, 0 + _, 0 + _, 0 + _⟩ _
      unfold Q.Le
      dsimp only
      omega
    have := addN_k0 (x := Num.zero) (y := f 0) rfl h1 hle
    show addN Num.zero (f 0) = ((addN Num.zero (f 0)).1, 0)
    rw [this]
  | k + 1, hk => by
    obtain ⟨h1, h2, h3⟩ := sum_k0 f n hn hf k (by omega)
    obtain ⟨g1, g2⟩ := hf k (by omega)
    have hle : (mapQ (· + ·) (sumF f k).q (f k).q).Le ((k + 1 : Nat) : Int) := by
      obtain ⟨a, b, c, d, e, g, i, j⟩ := h2
      obtain ⟨a', b', c', d', e', g', i', j'⟩ := g2
      unfold mapQ Q.Le
      dsimp only
      omega
    have hbig : ((k + 1 : Nat) : Int) ≤ 1000 := by omega
    have hs : sumF f (k + 1) = ⟨mapQ (· + ·) (sumF f k).q (f k).q, 0⟩ := by
      show (addN (sumF f k) (f k)).1 = _
      rw [addN_k0 h1 g1 (hle.mono hbig)]
    refine ⟨by rw [hs], by rw [hs]; exact hle, fun h => ?_⟩
    obtain ⟨f1, f2⟩ := hf (k + 1) h
    have hle2 : (mapQ (· + ·) (sumF f (k + 1)).q (f (k + 1)).q).Le 1000 := by
      rw [hs]
      obtain ⟨a, b, c, d, e, g, i, j⟩ := hle
      obtain ⟨a', b', c', d', e', g', i', j'⟩ := f2
      unfold mapQ Q.Le at *
      dsimp only at *
      omega
    have := addN_k0 (x := sumF f (k + 1)) (y := f (k + 1)) (by rw [hs]) f1 hle2
    show addN (sumF f (k + 1)) (f (k + 1)) = ((addN (sumF f (k + 1)) (f (k + 1))).1, 0)
    rw [this]
theorem w_k0 : ∀ p : Nat, p < 8 → (Num.w p).k = 0 ∧ (Num.w p).q.Le 1 := by
  unfold Q.Le
  decide +kernel
theorem diag_ok {tw pw : Nat → Nat} {N : Nat} (h : TabOk tw pw N) (hN : N ≤ 64) : SumOk (fun i => pM tw pw (fun _ => true) i i) N ∧ (∀ k, k < N → Lf (sumF (fun i => pM tw pw (fun _ => true) i i) k)) := by
  have hf : ∀ l, l < N → (pM tw pw (fun _ => true) l l).k = 0 ∧ (pM tw pw (fun _ => true) l l).q.Le 1 := by
    intro l hl
    unfold pM
    split
    · exact w_k0 _ (h.p l hl)
    · exact ⟨rfl, by show Q.Le ⟨0, 0, 0, 0⟩ 1; unfold Q.Le; decide⟩
  have hs := sum_k0 (fun i => pM tw pw (fun _ => true) i i) N hN hf
  have hL : ∀ k, k ≤ N → ∃ q : Q, sumF (fun i => pM tw pw (fun _ => true) i i) k = ⟨q, 0⟩ ∧ q.Le 1000 := by
    intro k hk
    obtain ⟨h1, h2, _⟩ := hs k hk
    generalize sumF (fun i => pM tw pw (fun _ => true) i i) k = s at h1 h2 ⊢
    obtain ⟨q, kk⟩ := s
    dsimp only at h1 h2
    subst h1
    exact ⟨q, rfl, h2.mono (by omega)⟩
  refine ⟨⟨fun k hk => ⟨(pM_sm h.p k k hk).1, (pM_sm h.p k k hk).2.1⟩, fun k hk => ?_, fun k hk => ?_⟩, fun k hk => ?_⟩
  · obtain ⟨q, e, hq⟩ := hL k hk
    rw [e]
    exact ⟨ok_k0 hq, Nat.zero_le _⟩
  · rw [(hs k (by omega)).2.2 hk]
  · obtain ⟨q, e, hq⟩ := hL k (by omega)
    rw [e]
    exact least_k0 hq
end
section
theorem least_odd {q : Q} {k : Nat} (hk : k ≤ 60) (hq : q.Le 1000) (he : ¬ ((q.a - q.c) % 2 = 0 ∧ (q.b - q.d) % 2 = 0)) : leastN q k = (⟨q, k⟩, 0) := by
  have hf := fits_of_le hq
  have hev : q.even = false := by
    unfold Q.even
    rw [decide_eq_false_iff_not]
    rintro ⟨h1, h2⟩
    have g1 := Int.dvd_of_tmod_eq_zero h1
    have g2 := Int.dvd_of_tmod_eq_zero h2
    exact he ⟨by omega, by omega⟩
  have hz : q.zero = false := by
    cases hzz : q.zero with
    | false => rfl
    | true =>
      exfalso
      simp only [Q.zero, Bool.and_eq_true, beq_iff_eq] at hzz
      obtain ⟨h1, h2, h3, h4⟩ := hzz
      exact he ⟨by omega, by omega⟩
  have hl : lower k q = (q, k) := by
    cases k with
    | zero => rfl
    | succ k =>
      unfold lower
      rw [hev]
      rfl
  unfold leastN leastQ
  rw [hz, hl]
  have h60 : ¬ 60 < k := by omega
  simp [h60, hf]
/-- a number of driftSome, turned -/
def turnN (p : Nat) (x : Num) : Num := ⟨turnQ p x.q, x.k⟩
theorem wq_mul (q : Q) : ∀ p, p < 8 → (wq p).mul q = turnQ p q := by
  intro p hp
  obtain ⟨a, b, c, d⟩ := q
  obtain rfl | rfl | rfl | rfl | rfl | rfl | rfl | rfl : p = 0 ∨ p = 1 ∨ p = 2 ∨ p = 3 ∨ p = 4 ∨ p = 5 ∨ p = 6 ∨ p = 7 := by omega
  all_goals simp [wq, Q.mul, turnQ, Q.turn]
theorem some_le {x : Num} (h : someN x) : x.q.Le 7 := by
  obtain ⟨⟨v, h1, h2, h3⟩, ⟨h4, h5⟩, ⟨u, h6, h7, h8⟩, ⟨h9, h10⟩, _⟩ := h
  unfold Q.Le
  omega
theorem turn_all {x : Num} (h : someN x) (p : Nat) (hp : p < 8) : (turnQ p x.q).Le 7 ∧ ¬ (((turnQ p x.q).a - (turnQ p x.q).c) % 2 = 0 ∧ ((turnQ p x.q).b - (turnQ p x.q).d) % 2 = 0) := by
  have hl := some_le h
  obtain ⟨⟨v, h1, h2, h3⟩, _, ⟨u, h6, h7, h8⟩, _⟩ := h
  obtain ⟨⟨a, b, c, d⟩, k⟩ := x
  unfold Q.Le at *
  dsimp only at *
  obtain rfl | rfl | rfl | rfl | rfl | rfl | rfl | rfl : p = 0 ∨ p = 1 ∨ p = 2 ∨ p = 3 ∨ p = 4 ∨ p = 5 ∨ p = 6 ∨ p = 7 := by omega
  all_goals
    simp only [turnQ, Q.turn]
    omega
theorem turn_Lf {x : Num} (h : someN x) (p : Nat) (hp : p < 8) : Lf (turnN p x) ∧ (turnN p x).sm ∧ mulN (Num.w p) x = (turnN p x, 0) := by
  obtain ⟨h1, h2⟩ := turn_all h p hp
  have hk : x.k < 5 := h.2.2.2.2
  have hb : (turnQ p x.q).Le 1000 := h1.mono (by decide)
  have hL := least_odd (k := x.k) (by omega) hb h2
  refine ⟨hL, ⟨⟨by show x.k ≤ 60; omega, fits_of_le hb⟩, by show x.k ≤ 30; omega, h1.mono (by decide)⟩, ?_⟩
  unfold mulN
  rw [show (Num.w p).q = wq p from rfl, wq_mul x.q p hp, show (Num.w p).k + x.k = x.k from Nat.zero_add _]
  exact hL
theorem some_sm {x : Num} (h : someN x) : x.sm := by
  have := (turn_Lf h 0 (by decide)).2.1
  exact this
section
variable {tw pw : Nat → Nat} {N : Nat} {v : Nat → Num}
/-- what the loop over the table makes of the state -/
def dueN (tw pw : Nat → Nat) (v : Nat → Num) (k i : Nat) : Num := selN (fun l => i = tw l) (fun l => turnN (pw l) (v l)) k
theorem dueN_succ (k i : Nat) : dueN tw pw v (k + 1) i = if i = tw k then turnN (pw k) (v k) else dueN tw pw v k i := rfl
theorem apply_ok (h : TabOk tw pw N) (hv : ∀ j, j < N → someN (v j)) (i : Nat) : DotOk (fun l => pM tw pw (fun _ => true) i l) v N ∧ dotV (pM tw pw (fun _ => true)) v N i = dueN tw pw v N i := by
  have hmul : ∀ l, l < N → mulN (pM tw pw (fun _ => true) i l) (v l) = (if i = tw l then turnN (pw l) (v l) else Num.zero, 0) := by
    intro l hl
    unfold pM
    by_cases e : i = tw l
    · rw [if_pos ⟨e, rfl⟩, if_pos e]
      exact (turn_Lf (hv l hl) _ (h.p l hl)).2.2
    · rw [if_neg (fun h => e h.1), if_neg e]
      exact mulN_zero_l _
  have hu : ∀ a b, a < N → b < N → i = tw a → i = tw b → a = b := fun a b ha hb h1 h2 => h.inj a b ha hb (h1.symm.trans h2)
  have hL : ∀ l, l < N → Lf (turnN (pw l) (v l)) := fun l hl => (turn_Lf (hv l hl) _ (h.p l hl)).1
  exact ⟨dotOk_sel hmul hu hL (fun l hl => pM_sm h.p i l hl) (fun l hl => some_sm (hv l hl)) (fun l hl => (turn_Lf (hv l hl) _ (h.p l hl)).2.1), (dots_sel hmul hu hL N (Nat.le_refl _)).1⟩
end
end
section
theorem Lf.leastOf {x : Num} (h : Lf x) : leastOf x = x := by
  unfold Go.Proofs.YtdfgmmjcamhdjaaGreatDoor.leastOf
  rw [show leastN x.q x.k = (x, 0) from h]
theorem ite_Lf {A : Prop} [Decidable A] (a : Nat) (ha : a < 8) : Lf (if A then Num.w a else Num.zero) := by
  split
  · exact (w_facts _ ha).1
  · exact Lf.zero
section
variable {tw pw : Nat → Nat} {N : Nat}
/-- the operator, turned t times -/
theorem scale_facts {ok : Nat → Bool} (h : TabOk tw pw N) (t : Nat) (ht : t < 8) : ∀ i j, i < N → j < N → (mulN (pM tw pw ok i j) (Num.w t)).2 = 0 ∧ (mulN (pM tw pw ok i j) (Num.w t)).1.ok ∧ leastOf (mulN (pM tw pw ok i j) (Num.w t)).1 = (mulN (Num.w t) (pM tw pw ok i j)).1 := by
  intro i j _ hj
  obtain ⟨h1, h2⟩ := pM_scale (ok := ok) h.p t ht i j hj
  rw [h1, h2]
  have h8 : (pw j + t) % 8 < 8 := Nat.mod_lt _ (by decide)
  refine ⟨rfl, (ite_sm _ h8).1, ?_⟩
  dsimp only
  rw [(ite_Lf _ h8).leastOf, Nat.add_comm (pw j) t]
theorem scale_no (h : TabOk tw pw N) (hN : 0 < N) (t : Nat) (ht : t < 8) : ∀ k, k < t → ∃ i j, i < N ∧ j < N ∧ leastOf (mulN (pM tw pw (fun _ => true) i j) (Num.w t)).1 ≠ (mulN (Num.w k) (pM tw pw (fun _ => true) i j)).1 := by
  intro k hk
  refine ⟨tw 0, 0, h.t 0 hN, hN, fun e => ?_⟩
  obtain ⟨h1, _⟩ := pM_scale (ok := fun _ => true) h.p t ht (tw 0) 0 hN
  obtain ⟨_, h2⟩ := pM_scale (ok := fun _ => true) h.p k (by omega) (tw 0) 0 hN
  rw [h1, h2, if_pos ⟨rfl, rfl⟩, if_pos ⟨rfl, rfl⟩] at e
  dsimp only at e
  rw [Lf.leastOf (w_facts _ (Nat.mod_lt _ (by decide))).1] at e
  have := w_inj _ (Nat.mod_lt _ (by decide)) _ (Nat.mod_lt _ (by decide)) e
  have := h.p 0 hN
  omega
theorem pM_tabM (h : TabOk tw pw N) (i j : Nat) (hj : j < N) : pM tw pw (fun _ => true) i j = tabM tw pw N i j := by
  unfold pM tabM
  rw [Nat.mod_eq_of_lt (h.p j hj)]
  by_cases e : i = tw j
  · rw [if_pos ⟨e, rfl⟩, if_pos ⟨hj, e⟩]
  · rw [if_neg (fun h => e h.1), if_neg (fun h => e h.2)]
theorem dag_tabB (h : TabOk tw pw N) (i j : Nat) (hi : i < N) : (conjN (pM tw pw (fun _ => true) j i)).1 = tabB tw pw N i j := by
  rw [pM_conj h.p j i hi]
  unfold tabB
  dsimp only
  by_cases e : j = tw i
  · rw [if_pos ⟨e, rfl⟩, if_pos ⟨hi, e⟩]
  · rw [if_neg (fun h => e h.1), if_neg (fun h => e h.2)]
theorem conj_ok {ok : Nat → Bool} (h : TabOk tw pw N) (i j : Nat) (hj : j < N) : (conjN (pM tw pw ok i j)).2 = 0 := by rw [pM_conj h.p i j hj]
theorem prod_ok {ok : Nat → Bool} (h : TabOk tw pw N) (i j : Nat) (hi : i < N) (hj : j < N) : (prodN (dagN (pM tw pw ok)) (pM tw pw ok) N i j).ok := by
  rw [(pM_prod h.p h.t i j hi hj).2]
  exact (ite_sm _ (Nat.mod_lt _ (by decide))).1
theorem prod_one (h : TabOk tw pw N) (i j : Nat) (hi : i < N) (hj : j < N) : leastOf (prodN (dagN (pM tw pw (fun _ => true))) (pM tw pw (fun _ => true)) N i j) = leastOf (movN (fun k => k) N i j) := by
  rw [(pM_prod h.p h.t i j hi hj).2]
  unfold movN
  by_cases e : i = j
  · subst e
    rw [if_pos ⟨rfl, rfl, rfl⟩, if_pos ⟨hj, rfl⟩, show ((8 - pw i) % 8 + pw i) % 8 = 0 from by have := h.p i hi; omega]
  · rw [if_neg (fun h2 => e (h.inj i j hi hj h2.1)), if_neg (fun h2 => e h2.2)]
/-- all columns but the first -/
def but0 (j : Nat) : Bool := j != 0
theorem put_but0 : put2 (pM tw pw (fun _ => true)) (tw 0) 0 Num.zero = pM tw pw but0 := by
  funext i j
  unfold put2 put1 pM but0
  by_cases h1 : i = tw 0
  · subst h1
    rw [if_pos rfl]
    by_cases h2 : j = 0
    · subst h2
      simp
    · simp [h2]
  · rw [if_neg h1]
    by_cases h2 : j = 0
    · subst h2
      rw [if_neg (fun h => h1 h.1), if_neg (fun h => h1 h.1)]
    · simp [h2]
theorem prod_not (h : TabOk tw pw N) (hN : 0 < N) : ¬ ∀ i j, i < N → j < N → leastOf (prodN (dagN (pM tw pw but0)) (pM tw pw but0) N i j) = leastOf (movN (fun k => k) N i j) := by
  intro hh
  have := hh 0 0 hN hN
  rw [(pM_prod h.p h.t 0 0 hN hN).2, if_neg (fun h => by simp [but0] at h)] at this
  unfold movN at this
  rw [if_pos ⟨hN, rfl⟩, Lf.zero.leastOf, Lf.leastOf (w_facts 0 (by decide)).1] at this
  exact w_ne_zero 0 (by decide) this.symm
end
end
section
open Go.RowKit Go.Shelf
attribute [local go_sem] Oper.semAt_some
/-- the wires of a string -/
abbrev Wi (n x z : Nat) := { i : Nat // i < n ∧ letK x z i ≠ 0 }
def encWi {n x z : Nat} (p : Wi n x z) : Array Value := #[.int .i64 (p.1 : Int)]
def WiAre {n x z : Nat} (k : Nat) (ys : List (Wi n x z)) : Prop := ys.map (fun i => i.1) = wiresK x z k
theorem wiresK_len (x z k : Nat) : (wiresK x z k).length ≤ k := by
  unfold wiresK
  exact Nat.le_trans (List.length_filter_le _ _) (by simp)
theorem WiAre.len {n x z k : Nat} {ys : List (Wi n x z)} (h : WiAre k ys) : ys.length ≤ k := by
  have := congrArg List.length h
  rw [List.length_map] at this
  have h2 := wiresK_len x z k
  omega
theorem WiAre.skip {n x z k : Nat} {ys : List (Wi n x z)} (h : WiAre k ys) (h0 : letK x z k = 0) : WiAre (k + 1) ys := by
  unfold WiAre
  rw [wiresK_succ, if_pos h0]
  exact h
theorem WiAre.snoc {n x z k : Nat} {ys : List (Wi n x z)} (h : WiAre k ys) (h0 : letK x z k ≠ 0) (hk : k < n) : WiAre (k + 1) (ys ++ [⟨k, hk, h0⟩]) := by
  unfold WiAre
  rw [wiresK_succ, if_neg h0, List.map_append, show ys.map (fun i => i.1) = wiresK x z k from h]
  rfl
theorem lt_of_cell {W : World} {p : Addr} {v : Value} (h : W.cell? p = some v) : p.block < W.heap.size := by
  obtain ⟨cs, T, f, hh⟩ := cells_of_cell h
  exact (Array.getElem?_eq_some_iff.1 hh).1
set_option maxRecDepth 100000 in
set_option maxHeartbeats 2000000 in
theorem f142_in {n x z : Nat} (m : Nat) (hm : 1 ≤ m) (l Bs p : Nat) (dv : Value) (hn : n ≤ 6) (hx : x < 64) (hz : z < 64) (J Jx : List (Wi n x z) → World → Prop)
    (hJ : ∀ pre W W', J pre W → Below W.heap.size W W' → J pre W')
    (hY : ∀ (pre : List (Wi n x z)) (i : Wi n x z) W, J pre W → pre.length < n → YieldAt Fence.wide (m - 1) Tryz.prog l (encWi i) W fun e W' =>
      (e = .returned (.bool true) ∧ J (pre ++ [i]) W' ∧ KeepsBlk Bs W W') ∨ (e = .returned (.bool false) ∧ Jx (pre ++ [i]) W'))
    (W : World) (hlt : Bs < W.heap.size) (hBs : ∀ i, W.cell? ⟨Bs, i, none⟩ = (#[.int .i64 n, .int .i64 x, .int .i64 z, .int .i64 p, dv] : Array Value)[i]?) (h0 : J [] W) :
    CallsIn Fence.wide m Tryz.prog 142 #[.func (.yield l) #[] #[], .pointer (some ⟨Bs, 0, none⟩)] W fun e W' => (∃ v, e = .returned v) ∧
      ((∃ ys : List (Wi n x z), WiAre n ys ∧ J ys W') ∨ (∃ pre, Jx pre W')) := by
  have b0 := hBs 0
  refine callsIn_of_wp Tryz.func142 rfl trivial ?_ rfl
  simp only [Tryz.ntmps142, List.size_toArray, List.length_cons, List.length_nil, Nat.reduceAdd, Nat.reduceSub, Array.replicate_succ, Array.replicate_zero, List.push_toArray, List.append_toArray, List.nil_append, List.cons_append]
  gi_wp2
  gi_loopw [7] (fun i wr => ∃ k : Nat, k ≤ n ∧ i = .int .i64 k ∧ KeepsBlk Bs W wr ∧ Bs < wr.heap.size ∧ ∃ pre : List (Wi n x z), WiAre k pre ∧ J pre wr)
    (fun i _ => n - (intOf i).toNat)
  case atStart => exact ⟨0, Nat.zero_le _, rfl, KeepsBlk.refl _ _, hlt, [], rfl, h0⟩
  case round =>
    obtain ⟨k, hk, rfl, hkeep, hltr, pre, hall, hJr⟩ := hrel
    have c0 := hkeep _ _ (hBs 0)
    have c1 := hkeep _ _ (hBs 1)
    have c2 := hkeep _ _ (hBs 2)
    have c3 := hkeep _ _ (hBs 3)
    have c4 := hkeep _ _ (hBs 4)
    by_cases hltk : k < n
    · have hltz : (k : Int) < (n : Int) := by omega
      have H60 := fun W => f60_any n x z p k dv W hx hz (by omega)
      by_cases hl : letK x z k = 0
      · rw [hl] at H60
        have HL : Hid (letK x z k = 0) := hl
        clear hl b0
        gi_wp2_with (first | (refine ⟨trivial, ?_⟩; gi_at_call 60; refine (callsIn_wide.2 (H60 _)).mono ?_; clear H60; rintro e w1 ⟨rfl, hb1⟩))
        refine ⟨fun f hf => (by cases hf), ?_⟩
        gi_wp2
        go_roundw
        case rel => exact ⟨k + 1, by omega, by simp, hkeep.trans (KeepsBlk.of_below hb1 hltr), Nat.lt_of_lt_of_le hltr hb1.size, pre, hall.skip HL.out, hJ _ _ _ hJr hb1⟩
        case measure => simp [intOf]; omega
      · obtain ⟨la, hla⟩ : ∃ la, letK x z k = la := ⟨_, rfl⟩
        rw [hla] at H60
        have hl0 : ((la : Int) == 0) = false := by rw [hla] at hl; simp; omega
        have hl1 : ¬ ((la : Int) = 0) := by rw [hla] at hl; omega
        have hl2 : ((la : Int) != 0) = true := by simpa using hl1
        have HL : Hid (letK x z k ≠ 0) := hl
        have C0 := Lib.hid c0
        clear hl hla b0
        gi_wp2_with (refine ⟨trivial, ?_⟩; gi_at_call 60; refine (callsIn_wide.2 (H60 _)).mono ?_; clear H60; rintro e w1 ⟨rfl, hb1⟩; obtain ⟨fn, tmps, assign, body, hy, hR⟩ := hY pre ⟨k, hltk, HL.out⟩ _ (hJ _ _ _ hJr hb1) (by have := hall.len; omega); simp only [encWi] at hy hR)
        refine hR.mono ?_
        rintro e W3 (⟨rfl, hJ3, hk3⟩ | ⟨rfl, hJx3⟩)
        · gi_wp2
          go_roundw
          case rel => exact ⟨k + 1, by omega, by simp, (hkeep.trans (KeepsBlk.of_below hb1 hltr)).trans hk3, lt_of_cell (p := ⟨Bs, 0, none⟩) (hk3 _ _ (KeepsBlk.of_below hb1 hltr _ _ C0.out)), _, hall.snoc HL.out hltk, hJ3⟩
          case measure => simp [intOf]; omega
        · gi_wp2
          refine bodyPost_ret (results_none rfl _ _ _) rfl ?_
          exact ⟨⟨_, rfl⟩, .inr ⟨_, hJx3⟩⟩
    · obtain rfl : k = n := by omega
      have hltz : ¬ (k : Int) < (k : Int) := by omega
      clear hltk
      gi_wp2
      go_end0
      exact ⟨⟨_, rfl⟩, .inl ⟨pre, hall, hJr⟩⟩
theorem grown_below {w w' : World} (h : Below w.heap.size w w') (row : Option Nat) : w.grownBy w' row := ⟨h.os, h.tape, h.output, h.size, fun k hk _ => h.block k hk⟩
theorem f142_stops {n : Nat} (m : Nat) (hm : 1 ≤ m) (Bs x z p : Nat) (dv : Value) (hn : n ≤ 6) (hx : x < 64) (hz : z < 64) (w : World) (hB : Blk w Bs 108 #[.int .i64 n, .int .i64 x, .int .i64 z, .int .i64 p, dv]) :
    SeqStopsK Fence.wide m Tryz.prog 142 #[.pointer (some ⟨Bs, 0, none⟩)] (encWi (n := n) (x := x) (z := z)) (KeepsBlk Bs) (WiAre (x := x) (z := z) n) (fun _ => True) n w := fun l J Jx W hW hJ _ hY h0 => by
  refine (f142_in m hm l Bs p dv hn hx hz J Jx (fun pre W W' hj hb => hJ pre W W' none hj (grown_below hb none) (fun r e => by cases e)) hY W (Nat.lt_of_lt_of_le hB.lt hW.size) (hB.below hW).cells h0).mono ?_
  rintro e W' ⟨he, h | ⟨pre, h⟩⟩
  · exact ⟨he, .inl h⟩
  · exact ⟨he, .inr ⟨pre, trivial, h⟩⟩
theorem f113_in (F : Fence) (m : Nat) (h113 : F.fn 113) (hro : F.round = none) (a0 a1 a2 a3 a4 : Value) (w : World) :
    CallsIn F m Tryz.prog 113 #[.agg #[a0, a1, a2, a3, a4]] w fun e w' => e = .returned (.func (.func 142) #[] #[.pointer (some ⟨w.heap.size, 0, none⟩)]) ∧ w' = w.alloc (.cells #[a0, a1, a2, a3, a4] 108) := by
  refine callsIn_of_wp Tryz.func113 rfl h113 ?_ hro
  simp only [Tryz.ntmps113, List.size_toArray, List.length_cons, List.length_nil, Nat.reduceAdd, Nat.reduceSub, Array.replicate_succ, Array.replicate_zero, List.push_toArray, List.append_toArray, List.nil_append, List.cons_append]
  gi_wp2
  go_ret
  exact ⟨rfl, rfl⟩
end
section
open Go.RowKit
attribute [local go_sem ↓] Go.wp_at_zero Go.wp_at_succ
set_option maxHeartbeats 1000000 in
theorem f95_one (b c kk i : Nat) (w : World) (hW : WiresAt w b [kk]) (hkk : kk < 6) (hi : i < 6) :
    Calls Tryz.prog 95 #[.slice (some ⟨b, 0, none⟩) 1 c, .int .i64 i] w fun e w' => e = .returned (.int .i64 (if i = kk then 0 else -1)) ∧ Below w.heap.size w w' := by
  by_cases h : i = kk
  · subst h
    rw [if_pos rfl]
    have c0 : w.cell? ⟨b, 0, none⟩ = some (.int .i64 (i : Int)) := hW.2 0 i rfl
    clear hW
    go_enter Tryz.func95, Tryz.ntmps95
    go_wp2
    go_loopg [5, 8] 1 (fun gg _ s8 wr => s8 = .int .i64 0 ∧ Aside (wr = w))
    case atStart => exact ⟨rfl, rfl⟩
    case round =>
      obtain ⟨rfl, AW⟩ := hrel
      obtain rfl := AW.out
      go_wp2
      go_ret
      exact ⟨rfl, Below.refl _ _⟩
  · rw [if_neg h]
    exact f95_any (some ⟨b, 0, none⟩) 1 c [(kk : Int)] (i : Int) w rfl (sl_of_cells hW.1 (by simp) (fun j z hj => by
      match j, hj with
      | 0, hj => cases hj; exact hW.2 0 kk rfl)) (fun z hz => by
      have : z = (kk : Int) := by simpa using hz
      omega)
set_option maxHeartbeats 2000000 in
set_option maxRecDepth 100000 in
/-- images, of the gate H -/
theorem f111_4 (n kk b c : Nat) (w : World) (hW : WiresAt w b [kk]) (hkk : kk < 6) (hc : 1 ≤ c) :
    Calls Tryz.prog 111 #[.int .i64 n, .agg #[.int .i64 4, .slice (some ⟨b, 0, none⟩) 1 c, .int .i64 0, .int .i64 0], .int .i64 0] w fun e w' => e = .returned (.tuple #[pauV n (oneX 3 kk) (oneZ 3 kk) 0, pauV n (oneX 1 kk) (oneZ 1 kk) 0]) ∧ Below w.heap.size w w' := by
  have H1 : ∀ W, Calls Tryz.prog 110 #[.int .i64 n, .int .i64 kk, .int .i64 1] W fun e w' => e = .returned (.agg #[.int .i64 n, .int .i64 (oneX 1 kk), .int .i64 (oneZ 1 kk), .int .i64 0]) ∧ Below W.heap.size W w' := fun W => f110_any n kk 1 W hkk (by decide)
  have H2 : ∀ W, Calls Tryz.prog 110 #[.int .i64 n, .int .i64 kk, .int .i64 2] W fun e w' => e = .returned (.agg #[.int .i64 n, .int .i64 (oneX 2 kk), .int .i64 (oneZ 2 kk), .int .i64 0]) ∧ Below W.heap.size W w' := fun W => f110_any n kk 2 W hkk (by decide)
  have H3 : ∀ W, Calls Tryz.prog 110 #[.int .i64 n, .int .i64 kk, .int .i64 3] W fun e w' => e = .returned (.agg #[.int .i64 n, .int .i64 (oneX 3 kk), .int .i64 (oneZ 3 kk), .int .i64 0]) ∧ Below W.heap.size W w' := fun W => f110_any n kk 3 W hkk (by decide)
  unfold pauV
  obtain ⟨x1, hx1⟩ : ∃ x, oneX 1 kk = x := ⟨_, rfl⟩
  obtain ⟨x2, hx2⟩ : ∃ x, oneX 2 kk = x := ⟨_, rfl⟩
  obtain ⟨x3, hx3⟩ : ∃ x, oneX 3 kk = x := ⟨_, rfl⟩
  obtain ⟨z1, hz1⟩ : ∃ x, oneZ 1 kk = x := ⟨_, rfl⟩
  obtain ⟨z2, hz2⟩ : ∃ x, oneZ 2 kk = x := ⟨_, rfl⟩
  obtain ⟨z3, hz3⟩ : ∃ x, oneZ 3 kk = x := ⟨_, rfl⟩
  rw [hx1, hz1] at H1
  rw [hx2, hz2] at H2
  rw [hx3, hz3] at H3
  rw [hx1, hx3, hz1, hz3]
  clear hx1 hx2 hx3 hz1 hz2 hz3
  have hb0 : Below w.heap.size w (((w.alloc (.cells #[.int .i64 4, .slice (some ⟨b, 0, none⟩) 1 c, .int .i64 0, .int .i64 0] 45)).alloc (.cells #[.int .i64 0, .int .i64 0, .int .i64 0, .int .i64 0] 49)).alloc (.cells #[.int .i64 0, .int .i64 0, .int .i64 0, .int .i64 0] 49)) := (((Below.refl _ _).alloc (Nat.le_refl _) _).alloc (by simp) _).alloc (by simp; omega) _
  have hG0 : Blk (((w.alloc (.cells #[.int .i64 4, .slice (some ⟨b, 0, none⟩) 1 c, .int .i64 0, .int .i64 0] 45)).alloc (.cells #[.int .i64 0, .int .i64 0, .int .i64 0, .int .i64 0] 49)).alloc (.cells #[.int .i64 0, .int .i64 0, .int .i64 0, .int .i64 0] 49)) w.heap.size 45 #[.int .i64 4, .slice (some ⟨b, 0, none⟩) 1 c, .int .i64 0, .int .i64 0] := ((Blk.new _ _ _).alloc _).alloc _
  have hR0 : Blk (((w.alloc (.cells #[.int .i64 4, .slice (some ⟨b, 0, none⟩) 1 c, .int .i64 0, .int .i64 0] 45)).alloc (.cells #[.int .i64 0, .int .i64 0, .int .i64 0, .int .i64 0] 49)).alloc (.cells #[.int .i64 0, .int .i64 0, .int .i64 0, .int .i64 0] 49)) (w.heap.size + 1) 49 #[.int .i64 0, .int .i64 0, .int .i64 0, .int .i64 0] := (Blk.new' _ _ (by simp)).alloc _
  have hS0 : Blk (((w.alloc (.cells #[.int .i64 4, .slice (some ⟨b, 0, none⟩) 1 c, .int .i64 0, .int .i64 0] 45)).alloc (.cells #[.int .i64 0, .int .i64 0, .int .i64 0, .int .i64 0] 49)).alloc (.cells #[.int .i64 0, .int .i64 0, .int .i64 0, .int .i64 0] 49)) (w.heap.size + 1 + 1) 49 #[.int .i64 0, .int .i64 0, .int .i64 0, .int .i64 0] := Blk.new' _ _ (by simp)
  obtain ⟨w0, hw0⟩ : ∃ w0, (((w.alloc (.cells #[.int .i64 4, .slice (some ⟨b, 0, none⟩) 1 c, .int .i64 0, .int .i64 0] 45)).alloc (.cells #[.int .i64 0, .int .i64 0, .int .i64 0, .int .i64 0] 49)).alloc (.cells #[.int .i64 0, .int .i64 0, .int .i64 0, .int .i64 0] 49)) = w0 := ⟨_, rfl⟩
  rw [hw0] at hb0 hG0 hR0 hS0
  have hW0 : WiresAt w0 b [kk] := hW.below hb0 hW.1
  have c0 : w0.cell? ⟨b, 0, none⟩ = some (.int .i64 (kk : Int)) := hW0.2 0 kk rfl
  have cG := hG0.cells
  clear hW
  go_enter Tryz.func111, Tryz.ntmps111
  go_wp2_with (first
    | (go_at_call 110; refine (H1 _).mono ?_; clear H1; rintro e w1 ⟨rfl, hb1⟩)
    | (go_at_call 110; refine (H2 _).mono ?_; clear H2; rintro e w2 ⟨rfl, hb2⟩; have hb12 := bt hb1 hb2)
    | (go_at_call 110; refine (H3 _).mono ?_; clear H3; rintro e w3 ⟨rfl, hb3⟩; have hb13 := bt hb12 hb3; have hz3 := hb13.size; have hG3 := hG0.below hb13; have hR3 := hR0.below hb13; have hS3 := hS0.below hb13; have hW3 := hW0.below hb13 hW0.1; have hB3 := bt hb0 hb13; have hK3 : Below w3.heap.size w3 (((w3.alloc (.cells #[.int .i64 n, .int .i64 x1, .int .i64 z1, .int .i64 0] 49)).alloc (.cells #[.int .i64 n, .int .i64 x2, .int .i64 z2, .int .i64 0] 49)).alloc (.cells #[.int .i64 n, .int .i64 x3, .int .i64 z3, .int .i64 0] 49)) := (((Below.refl _ _).alloc (Nat.le_refl _) _).alloc (by simp) _).alloc (by simp; omega) _; have cG3 := (hG3.below hK3).cells; have c3 : (((w3.alloc (.cells #[.int .i64 n, .int .i64 x1, .int .i64 z1, .int .i64 0] 49)).alloc (.cells #[.int .i64 n, .int .i64 x2, .int .i64 z2, .int .i64 0] 49)).alloc (.cells #[.int .i64 n, .int .i64 x3, .int .i64 z3, .int .i64 0] 49)).cell? ⟨b, 0, none⟩ = some (.int .i64 (kk : Int)) := (hW3.below hK3 hW3.1).2 0 kk rfl))
  have hA4 : Blk (((w3.alloc (.cells #[.int .i64 n, .int .i64 x1, .int .i64 z1, .int .i64 0] 49)).alloc (.cells #[.int .i64 n, .int .i64 x2, .int .i64 z2, .int .i64 0] 49)).alloc (.cells #[.int .i64 n, .int .i64 x3, .int .i64 z3, .int .i64 0] 49)) w3.heap.size 49 #[.int .i64 n, .int .i64 x1, .int .i64 z1, .int .i64 0] := ((Blk.new _ _ _).alloc _).alloc _
  have hC4 : Blk (((w3.alloc (.cells #[.int .i64 n, .int .i64 x1, .int .i64 z1, .int .i64 0] 49)).alloc (.cells #[.int .i64 n, .int .i64 x2, .int .i64 z2, .int .i64 0] 49)).alloc (.cells #[.int .i64 n, .int .i64 x3, .int .i64 z3, .int .i64 0] 49)) (w3.heap.size + 1 + 1) 49 #[.int .i64 n, .int .i64 x3, .int .i64 z3, .int .i64 0] := Blk.new' _ _ (by simp)
  have hR4 := hR3.below hK3
  have hS4 := hS3.below hK3
  have hB4 := bt hB3 hK3
  clear c3 cG3 hW3 hG3 hb13 hb12 hb1 hb2 hb3 c0 hG0 cG hS0 hR0 hb0 hw0 hW0 hz3
  have n1 := hR3.lt
  have n2 := hS3.lt
  generalize (((w3.alloc (.cells #[.int .i64 n, .int .i64 x1, .int .i64 z1, .int .i64 0] 49)).alloc (.cells #[.int .i64 n, .int .i64 x2, .int .i64 z2, .int .i64 0] 49)).alloc (.cells #[.int .i64 n, .int .i64 x3, .int .i64 z3, .int .i64 0] 49)) = w4 at hA4 hC4 hR4 hS4 hB4 ⊢
  obtain ⟨b1, hb1⟩ : ∃ b1, w3.heap.size = b1 := ⟨_, rfl⟩
  rw [hb1] at hA4 hC4 n1 n2 ⊢
  clear hb1 hK3 hB3 hR3 hS3
  have cA := hA4.cells
  have cC := hC4.cells
  have cR := hR4.cells
  have fR := hR4.frozen
  have cS := hS4.cells
  have fS := hS4.frozen
  have m1 : w.heap.size + 1 ≠ b1 := by omega
  have m2 : w.heap.size + 1 + 1 ≠ b1 := by omega
  have m3 : w.heap.size + 1 ≠ b1 + 1 + 1 := by omega
  have m4 : w.heap.size + 1 + 1 ≠ b1 + 1 + 1 := by omega
  go_region
  all_goals go_wp2_with (fail)
  have hRf := ((hR4.set4 (.int .i64 n) (.int .i64 x3) (.int .i64 z3) (.int .i64 0)).far4 (p := w.heap.size + 1 + 1) (by omega) (.int .i64 n) (.int .i64 x1) (.int .i64 z1) (.int .i64 0)).drew
  have hSf := ((hS4.far4 (p := w.heap.size + 1) (by omega) (.int .i64 n) (.int .i64 x3) (.int .i64 z3) (.int .i64 0)).set4 (.int .i64 n) (.int .i64 x1) (.int .i64 z1) (.int .i64 0)).drew
  have hWf := (below_set4 (below_set4 hB4 (p := w.heap.size + 1) (by omega) (.int .i64 n) (.int .i64 x3) (.int .i64 z3) (.int .i64 0)) (p := w.heap.size + 1 + 1) (by omega) (.int .i64 n) (.int .i64 x1) (.int .i64 z1) (.int .i64 0)).drew
  have cRf := hRf.cells
  have cSf := hSf.cells
  generalize ((((((((w4.setCell ⟨w.heap.size + 1, 0, none⟩ (.int .i64 n)).setCell ⟨w.heap.size + 1, 1, none⟩ (.int .i64 x3)).setCell ⟨w.heap.size + 1, 2, none⟩ (.int .i64 z3)).setCell ⟨w.heap.size + 1, 3, none⟩ (.int .i64 0)).setCell ⟨w.heap.size + 1 + 1, 0, none⟩ (.int .i64 n)).setCell ⟨w.heap.size + 1 + 1, 1, none⟩ (.int .i64 x1)).setCell ⟨w.heap.size + 1 + 1, 2, none⟩ (.int .i64 z1)).setCell ⟨w.heap.size + 1 + 1, 3, none⟩ (.int .i64 0)).drew = wf at cRf cSf hWf ⊢
  exact bodyPost_ret (v := .tuple #[.agg #[.int .i64 n, .int .i64 x3, .int .i64 z3, .int .i64 0], .agg #[.int .i64 n, .int .i64 x1, .int .i64 z1, .int .i64 0]]) (by simp [results, Tryz.results111, go_sem, cRf, cSf]) rfl ⟨rfl, hWf⟩
end
section
open Go.RowKit
attribute [local go_sem ↓] Go.wp_at_zero Go.wp_at_succ run_eqL
theorem prodK_bd (a b : Nat) (ha : a < 4) (hb : b < 4) : (prodK a b).1 < 4 ∧ (prodK a b).2 < 4 := by
  unfold prodK
  split
  · decide
  · split
    · exact ⟨hb, by show 0 < 4; decide⟩
    · split
      · exact ⟨ha, by show 0 < 4; decide⟩
      · decide
theorem timP_le (px pz qx qz : Nat) : ∀ k, timP px pz qx qz k ≤ 4 * k
  | 0 => Nat.le_refl _
  | k + 1 => by
    have h1 := timP_le px pz qx qz k
    have h2 := (prodK_bd _ _ (letK_lt px pz k) (letK_lt qx qz k)).2
    show timP px pz qx qz k + _ ≤ _
    omega
set_option maxHeartbeats 4000000 in
set_option maxRecDepth 100000 in
theorem f141_eq (a : Nat) (w : World) (ha : a < 4) :
    Calls Tryz.prog 141 #[kv a a] w fun e w' => e = .returned (kv (prodK a a).1 (prodK a a).2) ∧ Below w.heap.size w w' := by
  unfold kv
  obtain rfl | rfl | rfl | rfl : a = 0 ∨ a = 1 ∨ a = 2 ∨ a = 3 := by omega
  all_goals
    go_enter Tryz.func141, Tryz.ntmps141
    go_wp2_with (fail)
    refine bodyPost_ret (v := .agg #[.int .i64 _, .int .i64 0]) (by simp [results, Tryz.results141, go_sem]; rfl) rfl ⟨by first | rfl | (unfold prodK; rfl), ?_⟩
    exact ((Below.refl _ _).alloc (Nat.le_refl _) _).alloc (by simp) _
theorem f141_all (a b : Nat) (w : World) (ha : a < 4) (hb : b < 4) (h : a = 0 ∨ b = 0 ∨ a = b ∨ (a = 3 ∧ b = 1)) :
    Calls Tryz.prog 141 #[kv a b] w fun e w' => e = .returned (kv (prodK a b).1 (prodK a b).2) ∧ Below w.heap.size w w' := by
  rcases h with rfl | rfl | rfl | ⟨rfl, rfl⟩
  · exact f141_0 b w hb
  · exact f141_l a w ha
  · exact f141_eq a w ha
  · exact f141_zx w
end
section
/-- a string behind H on the first k wires -/
def alS (n x z p : Nat) : Nat → Nat × Nat × Nat
  | 0 => (x, z, p)
  | k + 1 => thrF n k (alS n x z p k).1 (alS n x z p k).2.1 (0, 0, (alS n x z p k).2.2) (wiresK (alS n x z p k).1 (alS n x z p k).2.1 n)
structure AlOk (n x z p k : Nat) (s : Nat × Nat × Nat) : Prop where
  hx : s.1 < 2 ^ n
  hz : s.2.1 < 2 ^ n
  hp : s.2.2 < 4
  l : ∀ i, i < n → letK s.1 s.2.1 i = if i < k then hL i i (letK x z i) else letK x z i
  ph : s.2.2 = (p + 2 * cntY x z k) % 4
theorem al_all (n x z p : Nat) (hx : x < 2 ^ n) (hz : z < 2 ^ n) (hp : p < 4) : ∀ k, k ≤ n → AlOk n x z p k (alS n x z p k)
  | 0, _ => ⟨hx, hz, hp, fun i hi => by rw [if_neg (Nat.not_lt_zero _)]; rfl, by show p = (p + 2 * 0) % 4; omega⟩
  | k + 1, hk => by
    have ih := al_all n x z p hx hz hp k (by omega)
    unfold alS
    generalize alS n x z p k = s at ih ⊢
    have hO := ThrOk.fold (wiresK s.1 s.2.1 n) (ThrOk.start n k s.1 s.2.1 s.2.2 ih.hp)
    obtain ⟨h1, h2⟩ := thr_all n k s.1 s.2.1 s.2.2 ih.hp n (Nat.le_refl _)
    refine ⟨hO.hx, hO.hz, hO.hp, fun i hi => ?_, ?_⟩
    · rw [h1 i hi, if_pos hi, ih.l i hi]
      by_cases e : i = k
      · subst e
        rw [if_neg (Nat.lt_irrefl _), if_pos (Nat.lt_succ_self _)]
      · have e2 : ∀ l, hL k i l = l := fun l => by unfold hL; rw [if_neg e]
        rw [e2]
        by_cases e3 : i < k
        · rw [if_pos e3, if_pos (by omega)]
        · rw [if_neg e3, if_neg (by omega)]
    · rw [h2, ih.ph, ih.l k (by omega), if_neg (Nat.lt_irrefl _)]
      show _ = (p + 2 * (cntY x z k + if letK x z k = 2 then 1 else 0)) % 4
      by_cases e : letK x z k = 2
      · rw [if_pos ⟨by omega, e⟩, if_pos e]; omega
      · rw [if_neg (fun h => e h.2), if_neg e]; omega
theorem letK_swap (x z i : Nat) : letK z x i = hL i i (letK x z i) := by
  unfold hL
  rw [if_pos rfl, letK_tb z x, letK_tb x z]
  cases x.testBit i <;> cases z.testBit i <;> rfl
theorem al_end (n x z p : Nat) (hx : x < 2 ^ n) (hz : z < 2 ^ n) (hp : p < 4) : alS n x z p n = (z, x, (p + 2 * cntY x z n) % 4) := by
  have h := al_all n x z p hx hz hp n (Nat.le_refl _)
  generalize alS n x z p n = s at h
  obtain ⟨h1, h2⟩ := letK_ext h.hx h.hz hz hx (fun i hi => by rw [h.l i hi, if_pos hi]; exact (letK_swap x z i).symm)
  obtain ⟨s1, s2, s3⟩ := s
  have h3 := h.ph
  dsimp only at h1 h2 h3
  rw [h1, h2, h3]
end
end Go.Proofs.YtdfgmmjcamhdjaaGreatDoor
