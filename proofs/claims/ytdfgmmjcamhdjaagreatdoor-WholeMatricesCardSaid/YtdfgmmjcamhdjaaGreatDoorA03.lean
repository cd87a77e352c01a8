/- Steps to WholeMatrices' card; what each asks stands in it. -/
import Derived.Test.YtdfgmmjcamhdjaaGreatDoorA01
set_option linter.unusedVariables false
set_option linter.unusedSimpArgs false
namespace Go.Proofs.YtdfgmmjcamhdjaaGreatDoor
section
open Go.RowKit
attribute [local go_sem ↓] Go.wp_at_zero Go.wp_at_succ
theorem flat_at {α : Type} (sz : Nat) : ∀ (xs : List (List α)), (∀ x ∈ xs, x.length = sz) → ∀ (i : Nat) (x : List α) (j : Nat) (v : α), xs[i]? = some x → x[j]? = some v → xs.flatten[i * sz + j]? = some v
  | [], _, i, x, j, v, hi, _ => by simp at hi
  | y :: xs, h, 0, x, j, v, hi, hj => by
    have : y = x := by simpa using hi
    subst this
    rw [List.flatten_cons, Nat.zero_mul, Nat.zero_add]
    have hlt : j < y.length := (List.getElem?_eq_some_iff.1 hj).1
    rw [List.getElem?_append_left hlt]
    exact hj
  | y :: xs, h, i + 1, x, j, v, hi, hj => by
    rw [List.flatten_cons]
    have hy := h y (by simp)
    have e : (i + 1) * sz + j = y.length + (i * sz + j) := by rw [hy, Nat.succ_mul]; omega
    rw [e, List.getElem?_append_right (by omega)]
    have := flat_at sz xs (fun z hz => h z (by simp [hz])) i x j v (by simpa using hi) hj
    rw [show y.length + (i * sz + j) - y.length = i * sz + j from by omega]
    exact this
theorem Lies.of_blk {w : World} {b : Nat} {T : TypeId} {cs : Array Value} {sz : Nat} {xs : List (List Value)} (h : Blk w b T cs) (hcs : cs.toList = xs.flatten) (hsz : ∀ x ∈ xs, x.length = sz) (hn : xs.length ≤ 1000000) : Lies w (some ⟨b, 0, none⟩) sz xs := by
  refine ⟨hn, fun _ => ⟨b, 0, rfl, h.lt, fun i x hx => ⟨hsz x (List.mem_of_getElem? hx), fun j v hv => ?_⟩⟩⟩
  rw [h.cells, Nat.zero_add, ← Array.getElem?_toList, hcs]
  exact flat_at sz xs hsz i x j v hx hv
theorem SlN.of_blk {w : World} {b : Nat} {T : TypeId} {cs : Array Value} {xs : List Num} (h : Blk w b T cs) (hcs : cs.toList = (xs.map Num.cells).flatten) (hn : xs.length ≤ 1000000) : SlN w (some ⟨b, 0, none⟩) xs :=
  Lies.of_blk h hcs (fun x hx => by obtain ⟨y, _, rfl⟩ := List.mem_map.1 hx; rfl) (by simpa using hn)
/-- the least form, and the error's number -/
def leastN (q : Q) (k : Nat) : Num × Int := (⟨(leastQ q k).1, (leastQ q k).2.1⟩, (leastQ q k).2.2)
def withN (op : Int → Int → Int) (x y : Num) : Num × Int := leastN (mapQ op (raiseQ (max x.k y.k - x.k) x.q) (raiseQ (max x.k y.k - y.k) y.q)) (max x.k y.k)
def addN (x y : Num) : Num × Int := withN (· + ·) x y
def subN (x y : Num) : Num × Int := withN (· - ·) x y
def mulN (x y : Num) : Num × Int := leastN (x.q.mul y.q) (x.k + y.k)
theorem withQ_le {s : Bool} {p q : Q} (hp : p.Le 1152921504606846976) (hq : q.Le 1152921504606846976) : (mapQ (fun a b => if s then a + b else a - b) p q).Le 4000000000000000000 := by
  obtain ⟨h1, h2, h3, h4, h5, h6, h7, h8⟩ := hp
  obtain ⟨g1, g2, g3, g4, g5, g6, g7, g8⟩ := hq
  cases s
  · exact ⟨by simp [mapQ]; omega, by simp [mapQ]; omega, by simp [mapQ]; omega, by simp [mapQ]; omega, by simp [mapQ]; omega, by simp [mapQ]; omega, by simp [mapQ]; omega, by simp [mapQ]; omega⟩
  · exact ⟨by simp [mapQ]; omega, by simp [mapQ]; omega, by simp [mapQ]; omega, by simp [mapQ]; omega, by simp [mapQ]; omega, by simp [mapQ]; omega, by simp [mapQ]; omega, by simp [mapQ]; omega⟩
theorem raise_le {q : Q} {n : Nat} (h : q.Le 1073741824) (hn : n ≤ 30) : (raiseQ n q).Le 1152921504606846976 := (raiseQ_le n 0 (q := q) h).mono (bound_le (by omega))
set_option maxHeartbeats 4000000 in
set_option maxRecDepth 100000 in
theorem f105_any (x y : Num) (w : World) (hx : x.q.Le 1073741824) (hy : y.q.Le 1073741824) (hk : x.k ≤ 60) (hj : y.k ≤ 60) :
    Calls Tryz.prog 105 #[.agg #[.int .i64 x.q.a, .int .i64 x.q.b, .int .i64 x.q.c, .int .i64 x.q.d, .int .i64 x.k, .func (.func 126) #[] #[]], .agg #[.int .i64 y.q.a, .int .i64 y.q.b, .int .i64 y.q.c, .int .i64 y.q.d, .int .i64 y.k]] w fun e w' => e = .returned (.agg #[.int .i64 (x.q.mul y.q).a, .int .i64 (x.q.mul y.q).b, .int .i64 (x.q.mul y.q).c, .int .i64 (x.q.mul y.q).d, .int .i64 ((x.k + y.k : Nat) : Int), .func (.func 126) #[] #[]]) ∧ Below w.heap.size w w' := by
  go_enter Tryz.func105, Tryz.ntmps105
  go_wp2
  refine Calm.wp_region_calm 14 [] (by kernel_rfl) (by kernel_rfl) (by decide) (fun w' => Blk w' w.heap.size 125 #[.int .i64 x.q.a, .int .i64 x.q.b, .int .i64 x.q.c, .int .i64 x.q.d, .int .i64 x.k, .func (.func 126) #[] #[]] ∧ Blk w' (w.heap.size + 1) 38 #[.int .i64 y.q.a, .int .i64 y.q.b, .int .i64 y.q.c, .int .i64 y.q.d, .int .i64 y.k] ∧ Blk w' (w.heap.size + 2) 125 #[.int .i64 0, .int .i64 0, .int .i64 0, .int .i64 0, .int .i64 0, .nilFunc] ∧ Below w.heap.size w w') (0) (fun _ _ => Nat.zero_le _) ⟨(((Blk.new' 125 #[.int .i64 x.q.a, .int .i64 x.q.b, .int .i64 x.q.c, .int .i64 x.q.d, .int .i64 x.k, .func (.func 126) #[] #[]] (by simp)).alloc _).alloc _).drew, ((Blk.new' 38 #[.int .i64 y.q.a, .int .i64 y.q.b, .int .i64 y.q.c, .int .i64 y.q.d, .int .i64 y.k] (by simp)).alloc _).drew, (Blk.new' 125 #[.int .i64 0, .int .i64 0, .int .i64 0, .int .i64 0, .int .i64 0, .nilFunc] (by simp)).drew, ((((Below.refl _ _).alloc (Nat.le_refl _) _).alloc (by first | (simp; done) | (simp; omega) | omega) _).alloc (by first | (simp; done) | (simp; omega) | omega) _).drew⟩ ?_
  show Calm.WalkI _ _ _ _ _ _ [0, 1, 2, 3, 4, 5, 6, 7, 8, 9, 10, 11, 12, 13] _ _
  refine Calm.calm_step rfl rfl rfl ?_; apply Exists.intro; refine ⟨fun w' hw' => ?_, ?_⟩
  · obtain ⟨hA, hB, hR, hW⟩ := hw'
    have cA := hA.cells
    have cB := hB.cells
    apply Calm.calm_value
    go_simp
    exact rfl
  intro K hK; go_simp; refine hK _ ?_; clear hK K
  refine Calm.calm_step rfl rfl rfl ?_; apply Exists.intro; refine ⟨fun w' hw' => ?_, ?_⟩
  · obtain ⟨hA, hB, hR, hW⟩ := hw'
    have cA := hA.cells
    have cB := hB.cells
    apply Calm.calm_call
    · go_simp
      exact ⟨rfl, rfl⟩
    refine (f121_any x.q.a x.q.b x.q.c x.q.d _ _ _).mono ?_
    rintro e w'' ⟨rfl, hb⟩
    exact ⟨rfl, hb, hA.below hb, hB.below hb, hR.below hb, bt hW hb⟩
  intro K hK; go_simp; refine hK _ ?_; clear hK K
  refine Calm.calm_step rfl rfl rfl ?_; apply Exists.intro; refine ⟨fun w' hw' => ?_, ?_⟩
  · obtain ⟨hA, hB, hR, hW⟩ := hw'
    have cA := hA.cells
    have cB := hB.cells
    apply Calm.calm_value
    go_simp
    exact rfl
  intro K hK; go_simp; refine hK _ ?_; clear hK K
  refine Calm.calm_step rfl rfl rfl ?_; apply Exists.intro; refine ⟨fun w' hw' => ?_, ?_⟩
  · obtain ⟨hA, hB, hR, hW⟩ := hw'
    have cA := hA.cells
    have cB := hB.cells
    apply Calm.calm_call
    · go_simp
      exact ⟨rfl, rfl⟩
    refine (f78_any y.q _ _).mono ?_
    rintro e w'' ⟨rfl, hb⟩
    exact ⟨rfl, hb, hA.below hb, hB.below hb, hR.below hb, bt hW hb⟩
  intro K hK; go_simp; refine hK _ ?_; clear hK K
  refine Calm.calm_step rfl rfl rfl ?_; apply Exists.intro; refine ⟨fun w' hw' => ?_, ?_⟩
  · obtain ⟨hA, hB, hR, hW⟩ := hw'
    have cA := hA.cells
    have cB := hB.cells
    apply Calm.calm_call
    · go_simp
      exact ⟨rfl, rfl⟩
    refine (f121_any y.q.a y.q.b y.q.c y.q.d _ _ _).mono ?_
    rintro e w'' ⟨rfl, hb⟩
    exact ⟨rfl, hb, hA.below hb, hB.below hb, hR.below hb, bt hW hb⟩
  intro K hK; go_simp; refine hK _ ?_; clear hK K
  refine Calm.calm_step rfl rfl rfl ?_; apply Exists.intro; refine ⟨fun w' hw' => ?_, ?_⟩
  · obtain ⟨hA, hB, hR, hW⟩ := hw'
    have cA := hA.cells
    have cB := hB.cells
    apply Calm.calm_call
    · go_simp
      exact ⟨rfl, rfl⟩
    refine (f136_any x.q y.q _ hx hy).mono ?_
    rintro e w'' ⟨rfl, hb⟩
    exact ⟨rfl, hb, hA.below hb, hB.below hb, hR.below hb, bt hW hb⟩
  intro K hK; go_simp; refine hK _ ?_; clear hK K
  refine Calm.calm_step rfl rfl rfl ?_; apply Exists.intro; refine ⟨fun w' hw' => ?_, ?_⟩
  · obtain ⟨hA, hB, hR, hW⟩ := hw'
    have cA := hA.cells
    have cB := hB.cells
    apply Calm.calm_value
    go_simp
    exact rfl
  intro K hK; go_simp; refine hK _ ?_; clear hK K
  refine Calm.calm_step rfl rfl rfl ?_; apply Exists.intro; refine ⟨fun w' hw' => ?_, ?_⟩
  · obtain ⟨hA, hB, hR, hW⟩ := hw'
    have cA := hA.cells
    have cB := hB.cells
    apply Calm.calm_value
    go_simp
    exact rfl
  intro K hK; go_simp; refine hK _ ?_; clear hK K
  refine Calm.calm_step rfl rfl rfl ?_; apply Exists.intro; refine ⟨fun w' hw' => ?_, ?_⟩
  · obtain ⟨hA, hB, hR, hW⟩ := hw'
    have cA := hA.cells
    have cB := hB.cells
    apply Calm.calm_value
    go_simp
    exact rfl
  intro K hK; go_simp; refine hK _ ?_; clear hK K
  refine Calm.calm_step rfl rfl rfl ?_; apply Exists.intro; refine ⟨fun w' hw' => ?_, ?_⟩
  · obtain ⟨hA, hB, hR, hW⟩ := hw'
    have cA := hA.cells
    have cB := hB.cells
    apply Calm.calm_value
    go_simp
    exact rfl
  intro K hK; go_simp; refine hK _ ?_; clear hK K
  refine Calm.calm_step rfl rfl rfl ?_; apply Exists.intro; refine ⟨fun w' hw' => ?_, ?_⟩
  · obtain ⟨hA, hB, hR, hW⟩ := hw'
    have cA := hA.cells
    have cB := hB.cells
    apply Calm.calm_value
    go_simp
    exact rfl
  intro K hK; go_simp; refine hK _ ?_; clear hK K
  refine Calm.calm_step rfl rfl rfl ?_; apply Exists.intro; refine ⟨fun w' hw' => ?_, ?_⟩
  · obtain ⟨hA, hB, hR, hW⟩ := hw'
    have cA := hA.cells
    have cB := hB.cells
    apply Calm.calm_value
    go_simp
    exact rfl
  intro K hK; go_simp; refine hK _ ?_; clear hK K
  refine Calm.calm_step rfl rfl rfl ?_; apply Exists.intro; refine ⟨fun w' hw' => ?_, ?_⟩
  · obtain ⟨hA, hB, hR, hW⟩ := hw'
    have cA := hA.cells
    have cB := hB.cells
    apply Calm.calm_call
    · go_simp
      exact ⟨rfl, rfl⟩
    refine (f124_any (x.q.mul y.q) _ _).mono ?_
    rintro e w'' ⟨rfl, hb⟩
    exact ⟨rfl, hb, hA.below hb, hB.below hb, hR.below hb, bt hW hb⟩
  intro K hK; go_simp; refine hK _ ?_; clear hK K
  refine Calm.calm_step rfl rfl rfl ?_; apply Exists.intro; refine ⟨fun w' hw' => ?_, ?_⟩
  · obtain ⟨hA, hB, hR, hW⟩ := hw'
    have cA := hA.cells
    have cB := hB.cells
    apply Calm.calm_call
    · go_simp
      exact ⟨rfl, rfl⟩
    refine (f78_any (x.q.mul y.q) _ _).mono ?_
    rintro e w'' ⟨rfl, hb⟩
    exact ⟨rfl, hb, hA.below hb, hB.below hb, hR.below hb, bt hW hb⟩
  intro K hK; go_simp; refine hK _ ?_; clear hK K
  refine Calm.calm_end_lit (fun wk hk => ?_)
  simp only [List.drop_succ_cons, List.drop_zero]
  obtain ⟨⟨hA, hB, hR, hW⟩, _, _⟩ := hk
  have cR := hR.cells
  have fR := hR.frozen
  go_wp2
  have hF := ((((((hR.set 0 (.int .i64 (x.q.mul y.q).a)).set 1 (.int .i64 (x.q.mul y.q).b)).set 2 (.int .i64 (x.q.mul y.q).c)).set 3 (.int .i64 (x.q.mul y.q).d)).set 4 (.int .i64 ((x.k : Int) + y.k))).set 5 (.func (.func 126) #[] #[]))
  have cF := hF.cells
  refine bodyPost_ret (v := .agg #[.int .i64 (x.q.mul y.q).a, .int .i64 (x.q.mul y.q).b, .int .i64 (x.q.mul y.q).c, .int .i64 (x.q.mul y.q).d, .int .i64 ((x.k : Int) + y.k), .func (.func 126) #[] #[]]) (by simp [results, Tryz.results105, go_sem, cF]) rfl ⟨rfl, ?_⟩
  exact ((((((hW.setCell (by first | (simp; done) | (simp; omega) | omega) _).setCell (by first | (simp; done) | (simp; omega) | omega) _).setCell (by first | (simp; done) | (simp; omega) | omega) _).setCell (by first | (simp; done) | (simp; omega) | omega) _).setCell (by first | (simp; done) | (simp; omega) | omega) _).setCell (by first | (simp; done) | (simp; omega) | omega) _)
theorem f97_r (q : Q) (k : Nat) (g : Nat) (lb : Array Value) (w : World) (r : Num) (e0 : Int) (hr : Hid (leastN q k = (r, e0))) (hq : q.Le 4000000000000000000) (hk : k ≤ 1000) :
    Calls Tryz.prog 97 #[.agg #[.int .i64 q.a, .int .i64 q.b, .int .i64 q.c, .int .i64 q.d, .int .i64 k, .func (.func g) #[] lb]] w fun e w' => e = .returned (.tuple #[.agg #[.int .i64 r.q.a, .int .i64 r.q.b, .int .i64 r.q.c, .int .i64 r.q.d, .int .i64 r.k], .int .i64 e0]) ∧ Below w.heap.size w w' := by
  have := hr.out
  unfold leastN at this
  simp only [Prod.mk.injEq] at this
  obtain ⟨rfl, rfl⟩ := this
  exact f97_any q k g lb w hq hk
theorem f79_r (op : Int → Int → Int) (p q M : Q) (k j m : Nat) (g : Nat) (w : World) (r : Num) (e0 : Int) (hr : Hid (leastN M m = (r, e0))) (hp : p.Le 1073741824) (hq : q.Le 1073741824) (hk : k ≤ 30) (hj : j ≤ 30)
    (eg : ∀ args w, (callFunc g args).run Tryz.prog w = .ok (.enter g args) w)
    (hop : ∀ (a b : Int) (w : World), -1152921504606846976 ≤ a → a ≤ 1152921504606846976 → -1152921504606846976 ≤ b → b ≤ 1152921504606846976 → Calls Tryz.prog g #[.int .i64 a, .int .i64 b] w fun e w' => e = .returned (.int .i64 (op a b)) ∧ Below w.heap.size w w')
    (HM : Hid (m = max k j)) (HMM : Hid (M = mapQ op (raiseQ (m - k) p) (raiseQ (m - j) q))) (hML : M.Le 4000000000000000000) :
    Calls Tryz.prog 79 #[.agg #[.int .i64 p.a, .int .i64 p.b, .int .i64 p.c, .int .i64 p.d, .int .i64 k, .func (.func g) #[] #[]], .agg #[.int .i64 q.a, .int .i64 q.b, .int .i64 q.c, .int .i64 q.d, .int .i64 j]] w fun e w' => e = .returned (.tuple #[.agg #[.int .i64 r.q.a, .int .i64 r.q.b, .int .i64 r.q.c, .int .i64 r.q.d, .int .i64 r.k], .int .i64 e0]) ∧ Below w.heap.size w w' := by
  have := hr.out
  unfold leastN at this
  simp only [Prod.mk.injEq] at this
  obtain ⟨rfl, rfl⟩ := this
  exact f79_any op p q M k j m g w hp hq hk hj eg hop HM HMM hML
end
section
open Go.RowKit
attribute [local go_sem ↓] Go.wp_at_zero Go.wp_at_succ
theorem mulQ_le {p q : Q} (hp : p.Le 536870912) (hq : q.Le 536870912) : (p.mul q).Le 4000000000000000000 := by
  obtain ⟨ha1, ha2, hb1, hb2, hc1, hc2, hd1, hd2⟩ := hp
  obtain ⟨he1, he2, hf1, hf2, hg1, hg2, hh1, hh2⟩ := hq
  obtain ⟨m1, n1⟩ := mul_bd (C := 288230376151711744) ha1 ha2 he1 he2 (by decide)
  obtain ⟨m2, n2⟩ := mul_bd (C := 288230376151711744) ha1 ha2 hf1 hf2 (by decide)
  obtain ⟨m3, n3⟩ := mul_bd (C := 288230376151711744) ha1 ha2 hg1 hg2 (by decide)
  obtain ⟨m4, n4⟩ := mul_bd (C := 288230376151711744) ha1 ha2 hh1 hh2 (by decide)
  obtain ⟨m5, n5⟩ := mul_bd (C := 288230376151711744) hb1 hb2 he1 he2 (by decide)
  obtain ⟨m6, n6⟩ := mul_bd (C := 288230376151711744) hb1 hb2 hf1 hf2 (by decide)
  obtain ⟨m7, n7⟩ := mul_bd (C := 288230376151711744) hb1 hb2 hg1 hg2 (by decide)
  obtain ⟨m8, n8⟩ := mul_bd (C := 288230376151711744) hb1 hb2 hh1 hh2 (by decide)
  obtain ⟨m9, n9⟩ := mul_bd (C := 288230376151711744) hc1 hc2 he1 he2 (by decide)
  obtain ⟨m10, n10⟩ := mul_bd (C := 288230376151711744) hc1 hc2 hf1 hf2 (by decide)
  obtain ⟨m11, n11⟩ := mul_bd (C := 288230376151711744) hc1 hc2 hg1 hg2 (by decide)
  obtain ⟨m12, n12⟩ := mul_bd (C := 288230376151711744) hc1 hc2 hh1 hh2 (by decide)
  obtain ⟨m13, n13⟩ := mul_bd (C := 288230376151711744) hd1 hd2 he1 he2 (by decide)
  obtain ⟨m14, n14⟩ := mul_bd (C := 288230376151711744) hd1 hd2 hf1 hf2 (by decide)
  obtain ⟨m15, n15⟩ := mul_bd (C := 288230376151711744) hd1 hd2 hg1 hg2 (by decide)
  obtain ⟨m16, n16⟩ := mul_bd (C := 288230376151711744) hd1 hd2 hh1 hh2 (by decide)
  unfold Q.mul Q.Le
  dsimp only
  omega
set_option maxHeartbeats 4000000 in
set_option maxRecDepth 100000 in
theorem f31_any (x y : Num) (w : World) (hx : x.ok) (hy : y.ok) (hkx : x.k ≤ 30) (hky : y.k ≤ 30) (r : Num) (e0 : Int) (hr : Hid (addN x y = (r, e0))) :
    Calls Tryz.prog 31 #[.agg #[.int .i64 x.q.a, .int .i64 x.q.b, .int .i64 x.q.c, .int .i64 x.q.d, .int .i64 x.k], .agg #[.int .i64 y.q.a, .int .i64 y.q.b, .int .i64 y.q.c, .int .i64 y.q.d, .int .i64 y.k]] w fun e w' => e = .returned (.tuple #[.agg #[.int .i64 r.q.a, .int .i64 r.q.b, .int .i64 r.q.c, .int .i64 r.q.d, .int .i64 r.k], .int .i64 e0]) ∧ Below w.heap.size w w' := by
  have hxl := hx.le
  have hyl := hy.le
  go_enter Tryz.func31, Tryz.ntmps31
  go_wp2_with fail
  refine (f77_any (some ⟨w.heap.size + 3, 0, none⟩) 2 2 [x, y] _ rfl ?_ ?_).mono ?_
  · exact SlN.of_blk (T := 38) (cs := #[.int .i64 x.q.a, .int .i64 x.q.b, .int .i64 x.q.c, .int .i64 x.q.d, .int .i64 x.k, .int .i64 y.q.a, .int .i64 y.q.b, .int .i64 y.q.c, .int .i64 y.q.d, .int .i64 y.k]) (Blk.new' _ _ (by simp)) rfl (by simp)
  · intro z hz
    simp only [List.mem_cons, List.not_mem_nil, or_false] at hz
    rcases hz with rfl | rfl
    · exact hx
    · exact hy
  rintro e w1 ⟨rfl, hb1⟩
  have hA1 := (Blk.below (b := w.heap.size) (T := 38) (cs := #[.int .i64 x.q.a, .int .i64 x.q.b, .int .i64 x.q.c, .int .i64 x.q.d, .int .i64 x.k]) (((((Blk.new' 38 #[.int .i64 x.q.a, .int .i64 x.q.b, .int .i64 x.q.c, .int .i64 x.q.d, .int .i64 x.k] (by simp)).alloc _).alloc _).alloc _)) hb1)
  have hB1 := (Blk.below (b := (w.heap.size + 1)) (T := 38) (cs := #[.int .i64 y.q.a, .int .i64 y.q.b, .int .i64 y.q.c, .int .i64 y.q.d, .int .i64 y.k]) ((((Blk.new' 38 #[.int .i64 y.q.a, .int .i64 y.q.b, .int .i64 y.q.c, .int .i64 y.q.d, .int .i64 y.k] (by simp)).alloc _).alloc _)) hb1)
  have hR1 := (Blk.below (b := (w.heap.size + 2)) (T := 38) (cs := #[.int .i64 0, .int .i64 0, .int .i64 0, .int .i64 0, .int .i64 0]) (((Blk.new' 38 #[.int .i64 0, .int .i64 0, .int .i64 0, .int .i64 0, .int .i64 0] (by simp)).alloc _)) hb1)
  have cA1 := hA1.cells
  have fA1 := hA1.frozen
  have lA1 := hA1.lt
  have cB1 := hB1.cells
  have fB1 := hB1.frozen
  have lB1 := hB1.lt
  have cR1 := hR1.cells
  have fR1 := hR1.frozen
  have lR1 := hR1.lt
  have hW1 := bt (((((Below.refl _ _).alloc (Nat.le_refl _) _).alloc (by first | (simp; done) | (simp; omega) | omega) _).alloc (by first | (simp; done) | (simp; omega) | omega) _).alloc (by first | (simp; done) | (simp; omega) | omega) _) hb1
  go_wp2
  refine Calm.wp_region_calm 6 [] (by kernel_rfl) (by kernel_rfl) (by decide) (fun w' => Blk w' w.heap.size 38 #[.int .i64 x.q.a, .int .i64 x.q.b, .int .i64 x.q.c, .int .i64 x.q.d, .int .i64 x.k] ∧ Blk w' (w.heap.size + 1) 38 #[.int .i64 y.q.a, .int .i64 y.q.b, .int .i64 y.q.c, .int .i64 y.q.d, .int .i64 y.k] ∧ Blk w' (w.heap.size + 2) 38 #[.int .i64 0, .int .i64 0, .int .i64 0, .int .i64 0, .int .i64 0] ∧ Below w.heap.size w w') (0) (fun _ _ => Nat.zero_le _) ⟨hA1.drew, hB1.drew, hR1.drew, hW1.drew⟩ ?_
  show Calm.WalkI _ _ _ _ _ _ [0, 1, 2, 3, 4, 5] _ _
  refine Calm.calm_step rfl rfl rfl ?_; apply Exists.intro; refine ⟨fun w' hw' => ?_, ?_⟩
  · obtain ⟨hA, hB, hR, hW⟩ := hw'
    have cA := hA.cells
    have cB := hB.cells
    apply Calm.calm_value
    go_simp
    exact rfl
  intro K hK; go_simp; refine hK _ ?_; clear hK K
  refine Calm.calm_step rfl rfl rfl ?_; apply Exists.intro; refine ⟨fun w' hw' => ?_, ?_⟩
  · obtain ⟨hA, hB, hR, hW⟩ := hw'
    have cA := hA.cells
    have cB := hB.cells
    apply Calm.calm_call
    · go_simp
      exact ⟨rfl, rfl⟩
    refine (f78_any x.q _ _).mono ?_
    rintro e w'' ⟨rfl, hb⟩
    exact ⟨rfl, hb, hA.below hb, hB.below hb, hR.below hb, bt hW hb⟩
  intro K hK; go_simp; refine hK _ ?_; clear hK K
  refine Calm.calm_step rfl rfl rfl ?_; apply Exists.intro; refine ⟨fun w' hw' => ?_, ?_⟩
  · obtain ⟨hA, hB, hR, hW⟩ := hw'
    have cA := hA.cells
    have cB := hB.cells
    apply Calm.calm_value
    go_simp
    exact rfl
  intro K hK; go_simp; refine hK _ ?_; clear hK K
  refine Calm.calm_step rfl rfl rfl ?_; apply Exists.intro; refine ⟨fun w' hw' => ?_, ?_⟩
  · obtain ⟨hA, hB, hR, hW⟩ := hw'
    have cA := hA.cells
    have cB := hB.cells
    apply Calm.calm_call
    · go_simp
      exact ⟨rfl, rfl⟩
    refine (f79_r (fun a b => a + b) x.q y.q _ x.k y.k _ 126 _ r e0 hr hxl hyl hkx hky (enters_of Tryz.func126 (by kernel_rfl) rfl) (fun a b w h1 h2 h3 h4 => f126_any a b w (by omega) (by omega) (by omega) (by omega)) rfl rfl (withQ_le (s := true) (raise_le hxl (by omega)) (raise_le hyl (by omega)))).mono ?_
    rintro e w'' ⟨rfl, hb⟩
    exact ⟨rfl, hb, hA.below hb, hB.below hb, hR.below hb, bt hW hb⟩
  intro K hK; go_simp; refine hK _ ?_; clear hK K
  refine Calm.calm_step rfl rfl rfl ?_; apply Exists.intro; refine ⟨fun w' hw' => ?_, ?_⟩
  · obtain ⟨hA, hB, hR, hW⟩ := hw'
    have cA := hA.cells
    have cB := hB.cells
    apply Calm.calm_value
    go_simp
    exact rfl
  intro K hK; go_simp; refine hK _ ?_; clear hK K
  refine Calm.calm_step rfl rfl rfl ?_; apply Exists.intro; refine ⟨fun w' hw' => ?_, ?_⟩
  · obtain ⟨hA, hB, hR, hW⟩ := hw'
    have cA := hA.cells
    have cB := hB.cells
    apply Calm.calm_value
    go_simp
    exact rfl
  intro K hK; go_simp; refine hK _ ?_; clear hK K
  refine Calm.calm_end_lit (fun wk hk => ?_)
  simp only [List.drop_succ_cons, List.drop_zero]
  obtain ⟨⟨hA, hB, hR, hW⟩, _, _⟩ := hk
  have cR := hR.cells
  have fR := hR.frozen
  clear cR1 fR1 lR1
  go_wp2
  have hF := (((((hR.set 0 (.int .i64 r.q.a)).set 1 (.int .i64 r.q.b)).set 2 (.int .i64 r.q.c)).set 3 (.int .i64 r.q.d)).set 4 (.int .i64 r.k))
  have cF := hF.cells
  refine bodyPost_ret (v := .tuple #[.agg #[.int .i64 r.q.a, .int .i64 r.q.b, .int .i64 r.q.c, .int .i64 r.q.d, .int .i64 r.k], .int .i64 e0]) (by simp [results, Tryz.results31, go_sem, cF]) rfl ⟨rfl, ?_⟩
  exact (((((hW.setCell (by first | (simp; done) | (simp; omega) | omega) _).setCell (by first | (simp; done) | (simp; omega) | omega) _).setCell (by first | (simp; done) | (simp; omega) | omega) _).setCell (by first | (simp; done) | (simp; omega) | omega) _).setCell (by first | (simp; done) | (simp; omega) | omega) _)
set_option maxHeartbeats 4000000 in
set_option maxRecDepth 100000 in
theorem f56_any (x y : Num) (w : World) (hx : x.ok) (hy : y.ok) (hx2 : x.q.Le 536870912) (hy2 : y.q.Le 536870912) (r : Num) (e0 : Int) (hr : Hid (mulN x y = (r, e0))) :
    Calls Tryz.prog 56 #[.agg #[.int .i64 x.q.a, .int .i64 x.q.b, .int .i64 x.q.c, .int .i64 x.q.d, .int .i64 x.k], .agg #[.int .i64 y.q.a, .int .i64 y.q.b, .int .i64 y.q.c, .int .i64 y.q.d, .int .i64 y.k]] w fun e w' => e = .returned (.tuple #[.agg #[.int .i64 r.q.a, .int .i64 r.q.b, .int .i64 r.q.c, .int .i64 r.q.d, .int .i64 r.k], .int .i64 e0]) ∧ Below w.heap.size w w' := by
  have hxl := hx.le
  have hyl := hy.le
  have hkx := hx.1
  have hky := hy.1
  have hml : (x.q.mul y.q).Le 4000000000000000000 → True := fun _ => trivial
  go_enter Tryz.func56, Tryz.ntmps56
  go_wp2_with fail
  refine (f77_any (some ⟨w.heap.size + 3, 0, none⟩) 2 2 [x, y] _ rfl ?_ ?_).mono ?_
  · exact SlN.of_blk (T := 38) (cs := #[.int .i64 x.q.a, .int .i64 x.q.b, .int .i64 x.q.c, .int .i64 x.q.d, .int .i64 x.k, .int .i64 y.q.a, .int .i64 y.q.b, .int .i64 y.q.c, .int .i64 y.q.d, .int .i64 y.k]) (Blk.new' _ _ (by simp)) rfl (by simp)
  · intro z hz
    simp only [List.mem_cons, List.not_mem_nil, or_false] at hz
    rcases hz with rfl | rfl
    · exact hx
    · exact hy
  rintro e w1 ⟨rfl, hb1⟩
  have hA1 := (Blk.below (b := w.heap.size) (T := 38) (cs := #[.int .i64 x.q.a, .int .i64 x.q.b, .int .i64 x.q.c, .int .i64 x.q.d, .int .i64 x.k]) (((((Blk.new' 38 #[.int .i64 x.q.a, .int .i64 x.q.b, .int .i64 x.q.c, .int .i64 x.q.d, .int .i64 x.k] (by simp)).alloc _).alloc _).alloc _)) hb1)
  have hB1 := (Blk.below (b := (w.heap.size + 1)) (T := 38) (cs := #[.int .i64 y.q.a, .int .i64 y.q.b, .int .i64 y.q.c, .int .i64 y.q.d, .int .i64 y.k]) ((((Blk.new' 38 #[.int .i64 y.q.a, .int .i64 y.q.b, .int .i64 y.q.c, .int .i64 y.q.d, .int .i64 y.k] (by simp)).alloc _).alloc _)) hb1)
  have hR1 := (Blk.below (b := (w.heap.size + 2)) (T := 38) (cs := #[.int .i64 0, .int .i64 0, .int .i64 0, .int .i64 0, .int .i64 0]) (((Blk.new' 38 #[.int .i64 0, .int .i64 0, .int .i64 0, .int .i64 0, .int .i64 0] (by simp)).alloc _)) hb1)
  have cA1 := hA1.cells
  have fA1 := hA1.frozen
  have lA1 := hA1.lt
  have cB1 := hB1.cells
  have fB1 := hB1.frozen
  have lB1 := hB1.lt
  have cR1 := hR1.cells
  have fR1 := hR1.frozen
  have lR1 := hR1.lt
  have hW1 := bt (((((Below.refl _ _).alloc (Nat.le_refl _) _).alloc (by first | (simp; done) | (simp; omega) | omega) _).alloc (by first | (simp; done) | (simp; omega) | omega) _).alloc (by first | (simp; done) | (simp; omega) | omega) _) hb1
  go_wp2
  refine Calm.wp_region_calm 7 [] (by kernel_rfl) (by kernel_rfl) (by decide) (fun w' => Blk w' w.heap.size 38 #[.int .i64 x.q.a, .int .i64 x.q.b, .int .i64 x.q.c, .int .i64 x.q.d, .int .i64 x.k] ∧ Blk w' (w.heap.size + 1) 38 #[.int .i64 y.q.a, .int .i64 y.q.b, .int .i64 y.q.c, .int .i64 y.q.d, .int .i64 y.k] ∧ Blk w' (w.heap.size + 2) 38 #[.int .i64 0, .int .i64 0, .int .i64 0, .int .i64 0, .int .i64 0] ∧ Below w.heap.size w w') (0) (fun _ _ => Nat.zero_le _) ⟨hA1.drew, hB1.drew, hR1.drew, hW1.drew⟩ ?_
  show Calm.WalkI _ _ _ _ _ _ [0, 1, 2, 3, 4, 5, 6] _ _
  refine Calm.calm_step rfl rfl rfl ?_; apply Exists.intro; refine ⟨fun w' hw' => ?_, ?_⟩
  · obtain ⟨hA, hB, hR, hW⟩ := hw'
    have cA := hA.cells
    have cB := hB.cells
    apply Calm.calm_value
    go_simp
    exact rfl
  intro K hK; go_simp; refine hK _ ?_; clear hK K
  refine Calm.calm_step rfl rfl rfl ?_; apply Exists.intro; refine ⟨fun w' hw' => ?_, ?_⟩
  · obtain ⟨hA, hB, hR, hW⟩ := hw'
    have cA := hA.cells
    have cB := hB.cells
    apply Calm.calm_call
    · go_simp
      exact ⟨rfl, rfl⟩
    refine (f78_any x.q _ _).mono ?_
    rintro e w'' ⟨rfl, hb⟩
    exact ⟨rfl, hb, hA.below hb, hB.below hb, hR.below hb, bt hW hb⟩
  intro K hK; go_simp; refine hK _ ?_; clear hK K
  refine Calm.calm_step rfl rfl rfl ?_; apply Exists.intro; refine ⟨fun w' hw' => ?_, ?_⟩
  · obtain ⟨hA, hB, hR, hW⟩ := hw'
    have cA := hA.cells
    have cB := hB.cells
    apply Calm.calm_value
    go_simp
    exact rfl
  intro K hK; go_simp; refine hK _ ?_; clear hK K
  refine Calm.calm_step rfl rfl rfl ?_; apply Exists.intro; refine ⟨fun w' hw' => ?_, ?_⟩
  · obtain ⟨hA, hB, hR, hW⟩ := hw'
    have cA := hA.cells
    have cB := hB.cells
    apply Calm.calm_call
    · go_simp
      exact ⟨rfl, rfl⟩
    refine (f105_any x y _ hxl hyl hkx hky).mono ?_
    rintro e w'' ⟨rfl, hb⟩
    exact ⟨rfl, hb, hA.below hb, hB.below hb, hR.below hb, bt hW hb⟩
  intro K hK; go_simp; refine hK _ ?_; clear hK K
  refine Calm.calm_step rfl rfl rfl ?_; apply Exists.intro; refine ⟨fun w' hw' => ?_, ?_⟩
  · obtain ⟨hA, hB, hR, hW⟩ := hw'
    have cA := hA.cells
    have cB := hB.cells
    apply Calm.calm_call
    · go_simp
      exact ⟨rfl, rfl⟩
    refine (f97_r (x.q.mul y.q) (x.k + y.k) 126 #[] _ r e0 hr (mulQ_le hx2 hy2) (by omega)).mono ?_
    rintro e w'' ⟨rfl, hb⟩
    exact ⟨rfl, hb, hA.below hb, hB.below hb, hR.below hb, bt hW hb⟩
  intro K hK; go_simp; refine hK _ ?_; clear hK K
  refine Calm.calm_step rfl rfl rfl ?_; apply Exists.intro; refine ⟨fun w' hw' => ?_, ?_⟩
  · obtain ⟨hA, hB, hR, hW⟩ := hw'
    have cA := hA.cells
    have cB := hB.cells
    apply Calm.calm_value
    go_simp
    exact rfl
  intro K hK; go_simp; refine hK _ ?_; clear hK K
  refine Calm.calm_step rfl rfl rfl ?_; apply Exists.intro; refine ⟨fun w' hw' => ?_, ?_⟩
  · obtain ⟨hA, hB, hR, hW⟩ := hw'
    have cA := hA.cells
    have cB := hB.cells
    apply Calm.calm_value
    go_simp
    exact rfl
  intro K hK; go_simp; refine hK _ ?_; clear hK K
  refine Calm.calm_end_lit (fun wk hk => ?_)
  simp only [List.drop_succ_cons, List.drop_zero]
  obtain ⟨⟨hA, hB, hR, hW⟩, _, _⟩ := hk
  have cR := hR.cells
  have fR := hR.frozen
  clear cR1 fR1 lR1
  go_wp2
  have hF := (((((hR.set 0 (.int .i64 r.q.a)).set 1 (.int .i64 r.q.b)).set 2 (.int .i64 r.q.c)).set 3 (.int .i64 r.q.d)).set 4 (.int .i64 r.k))
  have cF := hF.cells
  refine bodyPost_ret (v := .tuple #[.agg #[.int .i64 r.q.a, .int .i64 r.q.b, .int .i64 r.q.c, .int .i64 r.q.d, .int .i64 r.k], .int .i64 e0]) (by simp [results, Tryz.results56, go_sem, cF]) rfl ⟨rfl, ?_⟩
  exact (((((hW.setCell (by first | (simp; done) | (simp; omega) | omega) _).setCell (by first | (simp; done) | (simp; omega) | omega) _).setCell (by first | (simp; done) | (simp; omega) | omega) _).setCell (by first | (simp; done) | (simp; omega) | omega) _).setCell (by first | (simp; done) | (simp; omega) | omega) _)
end
section
open Go.RowKit
attribute [local go_sem ↓] Go.wp_at_zero Go.wp_at_succ
set_option maxHeartbeats 4000000 in
set_option maxRecDepth 100000 in
theorem f135_any (x y : Num) (w : World) (hx : x.ok) (hy : y.ok) (hkx : x.k ≤ 30) (hky : y.k ≤ 30) (r : Num) (e0 : Int) (hr : Hid (subN x y = (r, e0))) :
    Calls Tryz.prog 135 #[.agg #[.int .i64 x.q.a, .int .i64 x.q.b, .int .i64 x.q.c, .int .i64 x.q.d, .int .i64 x.k], .agg #[.int .i64 y.q.a, .int .i64 y.q.b, .int .i64 y.q.c, .int .i64 y.q.d, .int .i64 y.k]] w fun e w' => e = .returned (.tuple #[.agg #[.int .i64 r.q.a, .int .i64 r.q.b, .int .i64 r.q.c, .int .i64 r.q.d, .int .i64 r.k], .int .i64 e0]) ∧ Below w.heap.size w w' := by
  have hxl := hx.le
  have hyl := hy.le
  go_enter Tryz.func135, Tryz.ntmps135
  go_wp2_with fail
  refine (f77_any (some ⟨w.heap.size + 3, 0, none⟩) 2 2 [x, y] _ rfl ?_ ?_).mono ?_
  · exact SlN.of_blk (T := 38) (cs := #[.int .i64 x.q.a, .int .i64 x.q.b, .int .i64 x.q.c, .int .i64 x.q.d, .int .i64 x.k, .int .i64 y.q.a, .int .i64 y.q.b, .int .i64 y.q.c, .int .i64 y.q.d, .int .i64 y.k]) (Blk.new' _ _ (by simp)) rfl (by simp)
  · intro z hz
    simp only [List.mem_cons, List.not_mem_nil, or_false] at hz
    rcases hz with rfl | rfl
    · exact hx
    · exact hy
  rintro e w1 ⟨rfl, hb1⟩
  have hA1 := (Blk.below (b := w.heap.size) (T := 38) (cs := #[.int .i64 x.q.a, .int .i64 x.q.b, .int .i64 x.q.c, .int .i64 x.q.d, .int .i64 x.k]) (((((Blk.new' 38 #[.int .i64 x.q.a, .int .i64 x.q.b, .int .i64 x.q.c, .int .i64 x.q.d, .int .i64 x.k] (by simp)).alloc _).alloc _).alloc _)) hb1)
  have hB1 := (Blk.below (b := (w.heap.size + 1)) (T := 38) (cs := #[.int .i64 y.q.a, .int .i64 y.q.b, .int .i64 y.q.c, .int .i64 y.q.d, .int .i64 y.k]) ((((Blk.new' 38 #[.int .i64 y.q.a, .int .i64 y.q.b, .int .i64 y.q.c, .int .i64 y.q.d, .int .i64 y.k] (by simp)).alloc _).alloc _)) hb1)
  have hR1 := (Blk.below (b := (w.heap.size + 2)) (T := 38) (cs := #[.int .i64 0, .int .i64 0, .int .i64 0, .int .i64 0, .int .i64 0]) (((Blk.new' 38 #[.int .i64 0, .int .i64 0, .int .i64 0, .int .i64 0, .int .i64 0] (by simp)).alloc _)) hb1)
  have cA1 := hA1.cells
  have fA1 := hA1.frozen
  have lA1 := hA1.lt
  have cB1 := hB1.cells
  have fB1 := hB1.frozen
  have lB1 := hB1.lt
  have cR1 := hR1.cells
  have fR1 := hR1.frozen
  have lR1 := hR1.lt
  have hW1 := bt (((((Below.refl _ _).alloc (Nat.le_refl _) _).alloc (by first | (simp; done) | (simp; omega) | omega) _).alloc (by first | (simp; done) | (simp; omega) | omega) _).alloc (by first | (simp; done) | (simp; omega) | omega) _) hb1
  go_wp2_with (first
    | (go_at_call 79; refine (f79_r (fun a b => a - b) x.q y.q _ x.k y.k _ 152 _ r e0 hr hxl hyl hkx hky (enters_of Tryz.func152 (by kernel_rfl) rfl) (fun a b w h1 h2 h3 h4 => f152_any a b w (by omega) (by omega) (by omega) (by omega)) rfl rfl (withQ_le (s := false) (raise_le hxl (by omega)) (raise_le hyl (by omega)))).mono ?_; rintro e w9 ⟨rfl, hb9⟩; have hR := hR1.below hb9; have hW := bt hW1 hb9; clear cA1 cB1 fA1 fB1 lA1 lB1 cR1 fR1 lR1; have cR := hR.cells; have fR := hR.frozen))
  have hF := (((((hR.set 0 (.int .i64 r.q.a)).set 1 (.int .i64 r.q.b)).set 2 (.int .i64 r.q.c)).set 3 (.int .i64 r.q.d)).set 4 (.int .i64 r.k))
  have cF := hF.cells
  refine bodyPost_ret (v := .tuple #[.agg #[.int .i64 r.q.a, .int .i64 r.q.b, .int .i64 r.q.c, .int .i64 r.q.d, .int .i64 r.k], .int .i64 e0]) (by simp [results, Tryz.results135, go_sem, cF]) rfl ⟨rfl, ?_⟩
  exact (((((hW.setCell (by first | (simp; done) | (simp; omega) | omega) _).setCell (by first | (simp; done) | (simp; omega) | omega) _).setCell (by first | (simp; done) | (simp; omega) | omega) _).setCell (by first | (simp; done) | (simp; omega) | omega) _).setCell (by first | (simp; done) | (simp; omega) | omega) _)
set_option maxHeartbeats 1000000 in
set_option maxRecDepth 100000 in
theorem f99_any (x : Num) (w : World) (hx : x.ok) (hkx : x.k ≤ 30) (r : Num) (e0 : Int) (hr : Hid (subN Num.zero x = (r, e0))) :
    Calls Tryz.prog 99 #[.agg #[.int .i64 x.q.a, .int .i64 x.q.b, .int .i64 x.q.c, .int .i64 x.q.d, .int .i64 x.k]] w fun e w' => e = .returned (.tuple #[.agg #[.int .i64 r.q.a, .int .i64 r.q.b, .int .i64 r.q.c, .int .i64 r.q.d, .int .i64 r.k], .int .i64 e0]) ∧ Below w.heap.size w w' := by
  have H := fun w => f135_any Num.zero x w (show okN _ _ from ⟨by decide, by decide⟩) hx (by decide) hkx r e0 hr
  have H2 : ∀ w, Calls Tryz.prog 135 #[.agg #[.int .i64 0, .int .i64 0, .int .i64 0, .int .i64 0, .int .i64 0], .agg #[.int .i64 x.q.a, .int .i64 x.q.b, .int .i64 x.q.c, .int .i64 x.q.d, .int .i64 x.k]] w fun e w' => e = .returned (.tuple #[.agg #[.int .i64 r.q.a, .int .i64 r.q.b, .int .i64 r.q.c, .int .i64 r.q.d, .int .i64 r.k], .int .i64 e0]) ∧ Below w.heap.size w w' := H
  clear H
  go_enter Tryz.func99, Tryz.ntmps99
  go_wp2_with (first
    | (go_at_call 135; refine (H2 _).mono ?_; rintro e w1 ⟨rfl, hb1⟩; have hA1 := (Blk.below (b := w.heap.size) (T := 38) (cs := #[.int .i64 x.q.a, .int .i64 x.q.b, .int .i64 x.q.c, .int .i64 x.q.d, .int .i64 x.k]) (((Blk.new' 38 #[.int .i64 x.q.a, .int .i64 x.q.b, .int .i64 x.q.c, .int .i64 x.q.d, .int .i64 x.k] (by simp)).alloc _)) hb1); have hR1 := (Blk.below (b := (w.heap.size + 1)) (T := 38) (cs := #[.int .i64 0, .int .i64 0, .int .i64 0, .int .i64 0, .int .i64 0]) ((Blk.new' 38 #[.int .i64 0, .int .i64 0, .int .i64 0, .int .i64 0, .int .i64 0] (by simp))) hb1); have cA1 := hA1.cells; have fA1 := hA1.frozen; have lA1 := hA1.lt; have cR1 := hR1.cells; have fR1 := hR1.frozen; have lR1 := hR1.lt))
  have hF := (((((hR1.set 0 (.int .i64 r.q.a)).set 1 (.int .i64 r.q.b)).set 2 (.int .i64 r.q.c)).set 3 (.int .i64 r.q.d)).set 4 (.int .i64 r.k))
  have cF := hF.cells
  have hb := bt (((Below.refl _ _).alloc (Nat.le_refl _) _).alloc (by first | (simp; done) | (simp; omega) | omega) _) hb1
  refine bodyPost_ret (v := .tuple #[.agg #[.int .i64 r.q.a, .int .i64 r.q.b, .int .i64 r.q.c, .int .i64 r.q.d, .int .i64 r.k], .int .i64 e0]) (by simp [results, Tryz.results99, go_sem, cF]) rfl ⟨rfl, ?_⟩
  exact (((((hb.setCell (by first | (simp; done) | (simp; omega) | omega) _).setCell (by first | (simp; done) | (simp; omega) | omega) _).setCell (by first | (simp; done) | (simp; omega) | omega) _).setCell (by first | (simp; done) | (simp; omega) | omega) _).setCell (by first | (simp; done) | (simp; omega) | omega) _)
def Q.conj (q : Q) : Q := ⟨q.a, -q.d, -q.c, -q.b⟩
theorem Q.conj_le {q : Q} {m : Int} (h : q.Le m) : q.conj.Le m := by
  obtain ⟨h1, h2, h3, h4, h5, h6, h7, h8⟩ := h
  unfold Q.conj Q.Le
  dsimp only
  omega
def conjN (x : Num) : Num × Int := leastN x.q.conj x.k
set_option maxHeartbeats 1000000 in
set_option maxRecDepth 100000 in
theorem f125_any (q : Q) (w : World) (hq : q.Le 1073741824) :
    Calls Tryz.prog 125 #[.agg #[.int .i64 q.a, .int .i64 q.b, .int .i64 q.c, .int .i64 q.d]] w fun e w' => e = .returned (.agg #[.int .i64 q.conj.a, .int .i64 q.conj.b, .int .i64 q.conj.c, .int .i64 q.conj.d]) ∧ Below w.heap.size w w' := by
  obtain ⟨a, b, c, d⟩ := q
  obtain ⟨ha1, ha2, hb1, hb2, hc1, hc2, hd1, hd2⟩ := hq
  dsimp only [Q.conj] at *
  go_enter Tryz.func125, Tryz.ntmps125
  go_wp2
  refine bodyPost_ret (v := .agg #[.int .i64 a, .int .i64 (-d), .int .i64 (-c), .int .i64 (-b)]) (by simp [results, Tryz.results125, go_sem]) rfl ⟨rfl, ?_⟩
  exact (((Below.refl _ _).alloc (Nat.le_refl _) _).alloc (by first | (simp; done) | (simp; omega) | omega) _)
set_option maxHeartbeats 4000000 in
set_option maxRecDepth 100000 in
theorem f76_any (x : Num) (w : World) (hx : x.ok) (r : Num) (e0 : Int) (hr : Hid (conjN x = (r, e0))) :
    Calls Tryz.prog 76 #[.agg #[.int .i64 x.q.a, .int .i64 x.q.b, .int .i64 x.q.c, .int .i64 x.q.d, .int .i64 x.k]] w fun e w' => e = .returned (.tuple #[.agg #[.int .i64 r.q.a, .int .i64 r.q.b, .int .i64 r.q.c, .int .i64 r.q.d, .int .i64 r.k], .int .i64 e0]) ∧ Below w.heap.size w w' := by
  have hkx := hx.1
  go_enter Tryz.func76, Tryz.ntmps76
  go_wp2_with (first
    | (go_at_call 71; refine (f71_any x.q x.k _ hx).mono ?_; rintro e w1 ⟨rfl, hb1⟩; have hA1 := (Blk.below (b := w.heap.size) (T := 38) (cs := #[.int .i64 x.q.a, .int .i64 x.q.b, .int .i64 x.q.c, .int .i64 x.q.d, .int .i64 x.k]) (((Blk.new' 38 #[.int .i64 x.q.a, .int .i64 x.q.b, .int .i64 x.q.c, .int .i64 x.q.d, .int .i64 x.k] (by simp)).alloc _)) hb1); have hR1 := (Blk.below (b := (w.heap.size + 1)) (T := 38) (cs := #[.int .i64 0, .int .i64 0, .int .i64 0, .int .i64 0, .int .i64 0]) ((Blk.new' 38 #[.int .i64 0, .int .i64 0, .int .i64 0, .int .i64 0, .int .i64 0] (by simp))) hb1); have cA1 := hA1.cells; have fA1 := hA1.frozen; have lA1 := hA1.lt; have cR1 := hR1.cells; have fR1 := hR1.frozen; have lR1 := hR1.lt))
  have hW1 := bt (((Below.refl _ _).alloc (Nat.le_refl _) _).alloc (by first | (simp; done) | (simp; omega) | omega) _) hb1
  refine Calm.wp_region_calm 11 [] (by kernel_rfl) (by kernel_rfl) (by decide) (fun w' => Blk w' w.heap.size 38 #[.int .i64 x.q.a, .int .i64 x.q.b, .int .i64 x.q.c, .int .i64 x.q.d, .int .i64 x.k] ∧ Blk w' (w.heap.size + 1) 38 #[.int .i64 0, .int .i64 0, .int .i64 0, .int .i64 0, .int .i64 0] ∧ Below w.heap.size w w') (0) (fun _ _ => Nat.zero_le _) ⟨hA1.drew, hR1.drew, hW1.drew⟩ ?_
  show Calm.WalkI _ _ _ _ _ _ [0, 1, 2, 3, 4, 5, 6, 7, 8, 9, 10] _ _
  refine Calm.calm_step rfl rfl rfl ?_; apply Exists.intro; refine ⟨fun w' hw' => ?_, ?_⟩
  · obtain ⟨hA, hR, hW⟩ := hw'
    have cA := hA.cells
    apply Calm.calm_value
    go_simp
    exact rfl
  intro K hK; go_simp; refine hK _ ?_; clear hK K
  refine Calm.calm_step rfl rfl rfl ?_; apply Exists.intro; refine ⟨fun w' hw' => ?_, ?_⟩
  · obtain ⟨hA, hR, hW⟩ := hw'
    have cA := hA.cells
    apply Calm.calm_call
    · go_simp
      exact ⟨rfl, rfl⟩
    refine (f78_any x.q _ _).mono ?_
    rintro e w'' ⟨rfl, hb⟩
    exact ⟨rfl, hb, hA.below hb, hR.below hb, bt hW hb⟩
  intro K hK; go_simp; refine hK _ ?_; clear hK K
  refine Calm.calm_step rfl rfl rfl ?_; apply Exists.intro; refine ⟨fun w' hw' => ?_, ?_⟩
  · obtain ⟨hA, hR, hW⟩ := hw'
    have cA := hA.cells
    apply Calm.calm_call
    · go_simp
      exact ⟨rfl, rfl⟩
    refine (f121_any x.q.a x.q.b x.q.c x.q.d _ _ _).mono ?_
    rintro e w'' ⟨rfl, hb⟩
    exact ⟨rfl, hb, hA.below hb, hR.below hb, bt hW hb⟩
  intro K hK; go_simp; refine hK _ ?_; clear hK K
  refine Calm.calm_step rfl rfl rfl ?_; apply Exists.intro; refine ⟨fun w' hw' => ?_, ?_⟩
  · obtain ⟨hA, hR, hW⟩ := hw'
    have cA := hA.cells
    apply Calm.calm_call
    · go_simp
      exact ⟨rfl, rfl⟩
    refine (f125_any x.q _ hx.le).mono ?_
    rintro e w'' ⟨rfl, hb⟩
    exact ⟨rfl, hb, hA.below hb, hR.below hb, bt hW hb⟩
  intro K hK; go_simp; refine hK _ ?_; clear hK K
  refine Calm.calm_step rfl rfl rfl ?_; apply Exists.intro; refine ⟨fun w' hw' => ?_, ?_⟩
  · obtain ⟨hA, hR, hW⟩ := hw'
    have cA := hA.cells
    apply Calm.calm_value
    go_simp
    exact rfl
  intro K hK; go_simp; refine hK _ ?_; clear hK K
  refine Calm.calm_step rfl rfl rfl ?_; apply Exists.intro; refine ⟨fun w' hw' => ?_, ?_⟩
  · obtain ⟨hA, hR, hW⟩ := hw'
    have cA := hA.cells
    apply Calm.calm_value
    go_simp
    exact rfl
  intro K hK; go_simp; refine hK _ ?_; clear hK K
  refine Calm.calm_step rfl rfl rfl ?_; apply Exists.intro; refine ⟨fun w' hw' => ?_, ?_⟩
  · obtain ⟨hA, hR, hW⟩ := hw'
    have cA := hA.cells
    apply Calm.calm_call
    · go_simp
      exact ⟨rfl, rfl⟩
    refine (f124_any x.q.conj _ _).mono ?_
    rintro e w'' ⟨rfl, hb⟩
    exact ⟨rfl, hb, hA.below hb, hR.below hb, bt hW hb⟩
  intro K hK; go_simp; refine hK _ ?_; clear hK K
  refine Calm.calm_step rfl rfl rfl ?_; apply Exists.intro; refine ⟨fun w' hw' => ?_, ?_⟩
  · obtain ⟨hA, hR, hW⟩ := hw'
    have cA := hA.cells
    apply Calm.calm_call
    · go_simp
      exact ⟨rfl, rfl⟩
    refine (f78_any x.q.conj _ _).mono ?_
    rintro e w'' ⟨rfl, hb⟩
    exact ⟨rfl, hb, hA.below hb, hR.below hb, bt hW hb⟩
  intro K hK; go_simp; refine hK _ ?_; clear hK K
  refine Calm.calm_step rfl rfl rfl ?_; apply Exists.intro; refine ⟨fun w' hw' => ?_, ?_⟩
  · obtain ⟨hA, hR, hW⟩ := hw'
    have cA := hA.cells
    apply Calm.calm_call
    · go_simp
      exact ⟨rfl, rfl⟩
    refine (f97_r x.q.conj x.k 126 #[] _ r e0 hr ((Q.conj_le hx.le).mono (by omega)) (by omega)).mono ?_
    rintro e w'' ⟨rfl, hb⟩
    exact ⟨rfl, hb, hA.below hb, hR.below hb, bt hW hb⟩
  intro K hK; go_simp; refine hK _ ?_; clear hK K
  refine Calm.calm_step rfl rfl rfl ?_; apply Exists.intro; refine ⟨fun w' hw' => ?_, ?_⟩
  · obtain ⟨hA, hR, hW⟩ := hw'
    have cA := hA.cells
    apply Calm.calm_value
    go_simp
    exact rfl
  intro K hK; go_simp; refine hK _ ?_; clear hK K
  refine Calm.calm_step rfl rfl rfl ?_; apply Exists.intro; refine ⟨fun w' hw' => ?_, ?_⟩
  · obtain ⟨hA, hR, hW⟩ := hw'
    have cA := hA.cells
    apply Calm.calm_value
    go_simp
    exact rfl
  intro K hK; go_simp; refine hK _ ?_; clear hK K
  refine Calm.calm_end_lit (fun wk hk => ?_)
  simp only [List.drop_succ_cons, List.drop_zero]
  obtain ⟨⟨hA, hR, hW⟩, _, _⟩ := hk
  have cR := hR.cells
  have fR := hR.frozen
  go_wp2
  have hF := (((((hR.set 0 (.int .i64 r.q.a)).set 1 (.int .i64 r.q.b)).set 2 (.int .i64 r.q.c)).set 3 (.int .i64 r.q.d)).set 4 (.int .i64 r.k))
  have cF := hF.cells
  refine bodyPost_ret (v := .tuple #[.agg #[.int .i64 r.q.a, .int .i64 r.q.b, .int .i64 r.q.c, .int .i64 r.q.d, .int .i64 r.k], .int .i64 e0]) (by simp [results, Tryz.results76, go_sem, cF]) rfl ⟨rfl, ?_⟩
  exact (((((hW.setCell (by first | (simp; done) | (simp; omega) | omega) _).setCell (by first | (simp; done) | (simp; omega) | omega) _).setCell (by first | (simp; done) | (simp; omega) | omega) _).setCell (by first | (simp; done) | (simp; omega) | omega) _).setCell (by first | (simp; done) | (simp; omega) | omega) _)
set_option maxHeartbeats 1000000 in
set_option maxRecDepth 100000 in
theorem f98_any (k : Nat) (w : World) (hk : k ≤ 60) :
    Calls Tryz.prog 98 #[.int .i64 k] w fun e w' => e = .returned (.tuple #[.agg #[.int .i64 1, .int .i64 0, .int .i64 0, .int .i64 0, .int .i64 k], .int .i64 0]) ∧ Below w.heap.size w w' := by
  have hk1 : ¬ ((k : Int) < 0) := by omega
  have hk2 : (k : Int) ≤ 60 := by omega
  go_enter Tryz.func98, Tryz.ntmps98
  go_wp2
  refine bodyPost_ret (v := .tuple #[.agg #[.int .i64 1, .int .i64 0, .int .i64 0, .int .i64 0, .int .i64 k], .int .i64 0]) (by simp [results, Tryz.results98, go_sem]) rfl ⟨rfl, ?_⟩
  exact ((Below.refl _ _).alloc (Nat.le_refl _) _)
end
end Go.Proofs.YtdfgmmjcamhdjaaGreatDoor
