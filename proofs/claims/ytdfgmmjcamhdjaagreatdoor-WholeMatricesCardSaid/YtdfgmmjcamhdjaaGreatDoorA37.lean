/- Steps to WholeMatrices' card; what each asks stands in it. -/
import Derived.Test.YtdfgmmjcamhdjaaGreatDoorA28
import Derived.Test.YtdfgmmjcamhdjaaGreatDoorA36
set_option linter.unusedVariables false
set_option linter.unusedSimpArgs false
namespace Go.Proofs.YtdfgmmjcamhdjaaGreatDoor
section
open Go.RowKit
theorem own_rowG {w : World} {base n g cap : Nat} {x : Nat → Num} (hO : w.ownsRow base 38 5 (.slice (some ⟨g, 0, none⟩) n cap) n (numsFlat x n)) (hn : 1 ≤ n) : RowG w g n x := by
  rcases hO.2 with ⟨h, h0⟩ | ⟨g', cap', cur, e, hb, hc, _⟩
  · omega
  · cases e
    refine ⟨cur, hc, fun j hj => ?_⟩
    have hN := own_nums hO j hj
    have hcell : ∀ q, w.cell? ⟨g, q, none⟩ = cur[q]? := fun q => (show Blk w g 38 cur from hc).cells q
    obtain ⟨a0, a1, a2, a3, a4⟩ := hN
    rw [hcell] at a0 a1 a2 a3 a4
    rw [Nat.zero_add] at a0 a1 a2 a3 a4
    exact ⟨a0, a1, a2, a3, a4⟩
theorem numsFlat_congr {x y : Nat → Num} : ∀ {n}, (∀ j, j < n → x j = y j) → numsFlat x n = numsFlat y n
  | 0, _ => rfl
  | n + 1, h => by rw [numsFlat_succ, numsFlat_succ, numsFlat_congr (fun j hj => h j (by omega)), h n (Nat.lt_succ_self n)]
/-- what told asks of its operator -/
structure ToldF (tw pw : Nat → Nat) (N : Nat) (M : Nat → Nat → Num) : Prop where
  sm : ∀ i j, i < N → j < N → (M i j).sm
  sc : ∀ t, t < 8 → ∀ i j, i < N → j < N → (mulN (M i j) (Num.w t)).2 = 0 ∧ (mulN (M i j) (Num.w t)).1.ok ∧ leastOf (mulN (M i j) (Num.w t)).1 = (mulN (Num.w t) (M i j)).1
  no : ∀ t, t < 8 → ∀ k, k < t → ∃ i j, i < N ∧ j < N ∧ leastOf (mulN (M i j) (Num.w t)).1 ≠ (mulN (Num.w k) (M i j)).1
  tm : ∀ i j, i < N → j < N → M i j = tabM tw pw N i j
  tb : ∀ i j, i < N → j < N → (conjN (M j i)).1 = tabB tw pw N i j
  cj : ∀ i j, i < N → j < N → (conjN (M i j)).2 = 0
  dot : ∀ i j, i < N → j < N → DotOk (fun l => dagN M i l) (fun l => M l j) N
  pok : ∀ i j, i < N → j < N → (prodN (dagN M) M N i j).ok
  one : ∀ i j, i < N → j < N → leastOf (prodN (dagN M) M N i j) = leastOf (movN (fun k => k) N i j)
  dg : SumOk (fun i => M i i) N
  dl : ∀ k, k < N → Lf (sumF (fun i => M i i) k)
  di : ∀ k, k < N → M k k = if k = tw k then Num.w (pw k) else Num.zero
  ap : ∀ v : Nat → Num, (∀ j, j < N → someN (v j)) → ∀ i, DotOk (fun l => M i l) v N ∧ dotV M v N i = dueN tw pw v N i
theorem toldF {tw pw : Nat → Nat} {N : Nat} (h : TabOk tw pw N) (h0 : 0 < N) (h64 : N ≤ 64) : ToldF tw pw N (pM tw pw (fun _ => true)) where
  sm := fun i j _ hj => pM_sm h.p i j hj
  sc := fun t ht => scale_facts h t ht
  no := fun t ht => scale_no h h0 t ht
  tm := fun i j _ hj => pM_tabM h i j hj
  tb := fun i j hi _ => dag_tabB h i j hi
  cj := fun i j _ hj => conj_ok h i j hj
  dot := fun i j hi hj => (pM_prod h.p h.t i j hi hj).1
  pok := fun i j hi hj => prod_ok h i j hi hj
  one := fun i j hi hj => prod_one h i j hi hj
  dg := (diag_ok h h64).1
  dl := (diag_ok h h64).2
  di := fun k _ => by
    unfold pM
    by_cases e : k = tw k
    · rw [if_pos ⟨e, rfl⟩, if_pos e]
    · rw [if_neg (fun h => e h.1), if_neg e]
  ap := fun v hv i => apply_ok h hv i
theorem ToldF.turn {tw pw : Nat → Nat} {N : Nat} {M : Nat → Nat → Num} (h : ToldF tw pw N M) (t : Nat) (ht : t < 8) : ∃ x, Hid (Num.w (t % 8) = x) ∧ x.sm ∧ (∀ i j, i < N → j < N → (mulN (M i j) x).2 = 0) ∧ (∀ i j, i < N → j < N → (mulN (M i j) x).1.ok) ∧ (∀ i j, i < N → j < N → leastOf (mulN (M i j) x).1 = (mulN (Num.w t) (M i j)).1) ∧ ∀ k, k < t → ∃ i j, i < N ∧ j < N ∧ leastOf (mulN (M i j) x).1 ≠ (mulN (Num.w k) (M i j)).1 := by
  have hw : (Num.w t).sm := by simpa using (ite_sm (A := True) t ht)
  exact ⟨Num.w t, Lib.hid (by rw [Nat.mod_eq_of_lt ht]), hw, fun i j hi hj => (h.sc t ht i j hi hj).1, fun i j hi hj => (h.sc t ht i j hi hj).2.1, fun i j hi hj => (h.sc t ht i j hi hj).2.2, h.no t ht⟩
/-- what it asks of the operator with a zero put in -/
structure ToldZ (N : Nat) (M : Nat → Nat → Num) : Prop where
  sm : ∀ i j, i < N → j < N → (M i j).sm
  cj : ∀ i j, i < N → j < N → (conjN (M i j)).2 = 0
  dot : ∀ i j, i < N → j < N → DotOk (fun l => dagN M i l) (fun l => M l j) N
  pok : ∀ i j, i < N → j < N → (prodN (dagN M) M N i j).ok
  not : ¬ ∀ i j, i < N → j < N → leastOf (prodN (dagN M) M N i j) = leastOf (movN (fun k => k) N i j)
theorem toldZ {tw pw : Nat → Nat} {N : Nat} (h : TabOk tw pw N) (h0 : 0 < N) : ToldZ N (put2 (pM tw pw (fun _ => true)) (tw 0) 0 Num.zero) := by
  rw [put_but0]
  exact ⟨fun i j _ hj => pM_sm h.p i j hj, fun i j _ hj => conj_ok h i j hj, fun i j hi hj => (pM_prod h.p h.t i j hi hj).1, fun i j hi hj => prod_ok h i j hi hj, prod_not h h0⟩
/-- the first loop of told: k numbers are drawn -/
structure ToldL (w0 W : World) (B S nx k : Nat) (z : Num) (x : Nat → Num) (vv uu : Value) : Prop where
  somes : ∀ j, j < k → someN (x j)
  s : StoreAt W B (nx + 5 * k)
  o : Blk W S 38 #[.int .i64 z.q.a, .int .i64 z.q.b, .int .i64 z.q.c, .int .i64 z.q.d, .int .i64 z.k]
  v : W.ownsRow (S + 1) 38 5 vv k (numsFlat x k)
  u : W.ownsRow (S + 1) 38 5 uu k (numsFlat (fun _ => Num.zero) k)
  sep : ∀ b, vv.ownBlock = some b → uu.ownBlock ≠ some b
  k : KeepX B w0 W
def ToldA (w0 W : World) (B S nx k : Nat) (z : Num) (v u : Value) : Prop := ∃ x, ToldL w0 W B S nx k z x v u
theorem ToldA.zero {w0 W : World} {B S nx : Nat} (hs : StoreAt W B nx) (ho : Blk W S 38 #[.int .i64 0, .int .i64 0, .int .i64 0, .int .i64 0, .int .i64 0]) (hk : KeepX B w0 W) : ToldA w0 W B S nx 0 Num.zero (.slice none 0 0) (.slice none 0 0) :=
  ⟨fun _ => Num.zero, ⟨fun j hj => absurd hj (Nat.not_lt_zero _), hs, ho, World.ownsRow_nil _ _ _ _, World.ownsRow_nil _ _ _ _, fun b h => (by cases h), hk⟩⟩
section
variable {w0 W : World} {B S nx k : Nat} {z : Num} {x : Nat → Num} {v u : Value}
/-- the sum is put -/
theorem ToldL.put (h : ToldL w0 W B S nx k z x v u) (hB : B < S) (hS : w0.heap.size = S) (y : Num) : ToldL w0 (((((W.setCell ⟨S, 0, none⟩ (.int .i64 y.q.a)).setCell ⟨S, 1, none⟩ (.int .i64 y.q.b)).setCell ⟨S, 2, none⟩ (.int .i64 y.q.c)).setCell ⟨S, 3, none⟩ (.int .i64 y.q.d)).setCell ⟨S, 4, none⟩ (.int .i64 y.k)) B S nx k y x v u := by
  have hk : ∀ b, b ≠ S → (((((W.setCell ⟨S, 0, none⟩ (.int .i64 y.q.a)).setCell ⟨S, 1, none⟩ (.int .i64 y.q.b)).setCell ⟨S, 2, none⟩ (.int .i64 y.q.c)).setCell ⟨S, 3, none⟩ (.int .i64 y.q.d)).setCell ⟨S, 4, none⟩ (.int .i64 y.k)).heap[b]? = W.heap[b]? := fun b hb => by
    rw [Below.heap_setCell _ _ _ _ hb, Below.heap_setCell _ _ _ _ hb, Below.heap_setCell _ _ _ _ hb, Below.heap_setCell _ _ _ _ hb, Below.heap_setCell _ _ _ _ hb]
  have hp : w0.heap.size ≤ S := Nat.le_of_eq hS
  exact ⟨h.somes, ((((h.s.far (p := ⟨S, 0, none⟩) hB _).far (p := ⟨S, 1, none⟩) hB _).far (p := ⟨S, 2, none⟩) hB _).far (p := ⟨S, 3, none⟩) hB _).far (p := ⟨S, 4, none⟩) hB _, h.o.set5 _ _ _ _ _,
    ownsRow_keep h.v (fun b hb => hk b (by have := (ownsRow_block h.v b hb).1; omega)), ownsRow_keep h.u (fun b hb => hk b (by have := (ownsRow_block h.u b hb).1; omega)), h.sep,
    ((((h.k.setOwn (p := ⟨S, 0, none⟩) hp _).setOwn (p := ⟨S, 1, none⟩) hp _).setOwn (p := ⟨S, 2, none⟩) hp _).setOwn (p := ⟨S, 3, none⟩) hp _).setOwn (p := ⟨S, 4, none⟩) hp _⟩
theorem ToldL.below {W1 : World} (h : ToldL w0 W B S nx k z x v u) (hb : Below W.heap.size W W1) : ToldL w0 W1 B S nx k z x v u :=
  ⟨h.somes, h.s.below hb, h.o.below hb, ownsRow_below h.v hb, ownsRow_below h.u hb, h.sep, h.k.below hb⟩
theorem ToldL.vAt {W1 : World} (h : ToldL w0 W B S nx k z x v u) (hB : B < S) (hk : KeepX B W W1) (o : Obj) : (W1.alloc o).ownsRow (S + 1) 38 5 v k (numsFlat x k) := ownsRow_alloc (ownsRow_keepX h.v hk (by omega)) o
theorem ToldL.uAt {W1 W2 : World} (h : ToldL w0 W B S nx k z x v u) (hB : B < S) (hk : KeepX B W W1) (o o' : Obj) (hg : (W1.alloc o).grownBy W2 v.ownBlock) : (W2.alloc o').ownsRow (S + 1) 38 5 u k (numsFlat (fun _ => Num.zero) k) := by
  have h1 := ownsRow_alloc (ownsRow_keepX h.u hk (by omega)) o
  refine ownsRow_alloc (ownsRow_keep h1 (fun b hb => hg.block b (ownsRow_block h1 b hb).2 (fun e => h.sep b e.symm hb))) o'
/-- a number is drawn -/
theorem ToldL.step {W1 W2 W3 : World} {y : Num} {g cap H g' cap' H' : Nat} {o o' : Obj} (h : ToldL w0 W B S nx k z x v u) (hB : B < S) (hS : w0.heap.size = S) (hk : KeepX B W W1) (hs : StoreAt W1 B (nx + 5 * k + 5)) (hy : someN y)
    (hO : W2.ownsRow (S + 1) 38 5 (.slice (some ⟨g, 0, none⟩) (k + 1 : Nat) cap) (k + 1) (numsFlat x k ++ y.cells)) (hg : (W1.alloc o).grownBy W2 v.ownBlock) (hat : v.ownBlock = some g ∨ g = H) (hH : (W1.alloc o).heap.size = H)
    (hO2 : W3.ownsRow (S + 1) 38 5 (.slice (some ⟨g', 0, none⟩) (k + 1 : Nat) cap') (k + 1) (numsFlat (fun _ => Num.zero) k ++ Num.zero.cells)) (hg2 : (W2.alloc o').grownBy W3 u.ownBlock) (hat2 : u.ownBlock = some g' ∨ g' = H') (hH2 : (W2.alloc o').heap.size = H') (hlt : g < W2.heap.size) :
    ToldL w0 W3 B S nx (k + 1) z (put1 x k y) (.slice (some ⟨g, 0, none⟩) (k + 1 : Nat) cap) (.slice (some ⟨g', 0, none⟩) (k + 1 : Nat) cap') := by
  have hv : ∀ b, v.ownBlock = some b → S + 1 ≤ b ∧ b < W.heap.size := fun b hb => ownsRow_block h.v b hb
  have hu : ∀ b, u.ownBlock = some b → S + 1 ≤ b ∧ b < W.heap.size := fun b hb => ownsRow_block h.u b hb
  have s1 := hk.size
  have s2 : (W1.alloc o).heap.size = W1.heap.size + 1 := by simp
  have s3 : (W2.alloc o').heap.size = W2.heap.size + 1 := by simp
  have s4 := hg.size
  have hb1 : Below W1.heap.size W1 (W1.alloc o) := (Below.refl _ _).alloc (Nat.le_refl _) _
  have hb2 : Below W2.heap.size W2 (W2.alloc o') := (Below.refl _ _).alloc (Nat.le_refl _) _
  have hflat : numsFlat (put1 x k y) (k + 1) = numsFlat x k ++ y.cells := by
    rw [numsFlat_succ, numsFlat_congr (x := put1 x k y) (y := x) (fun j hj => by unfold put1; rw [if_neg (by omega)])]
    unfold put1
    rw [if_pos rfl]
  have hO3 : W3.ownsRow (S + 1) 38 5 (.slice (some ⟨g, 0, none⟩) (k + 1 : Nat) cap) (k + 1) (numsFlat x k ++ y.cells) := by
    refine ownsRow_keep (ownsRow_alloc hO o') (fun b hb => ?_)
    obtain rfl : g = b := Option.some.inj hb
    refine hg2.block g (by omega) (fun e => ?_)
    have h2 := hu g e.symm
    rcases hat with h3 | h3
    · exact h.sep g h3 e.symm
    · omega
  refine ⟨fun j hj => ?_, ?_, ?_, by rw [hflat]; exact hO3, by rw [numsFlat_succ]; exact hO2, fun b hb hb2 => ?_, ?_⟩
  · unfold put1
    by_cases e : j = k
    · rw [if_pos e]; exact hy
    · rw [if_neg e]; exact h.somes j (by omega)
  · have := ((hs.below hb1).grown hg (fun b hb => by have := hv b hb; omega)).below hb2
    exact (this.grown hg2 (fun b hb => by have := hu b hb; omega)).mono (by omega)
  · have := (((h.o.keepX hk (by omega)).below hb1).grown hg (fun e => by have := hv S e; omega)).below hb2
    exact this.grown hg2 (fun e => by have := hu S e; omega)
  · obtain rfl : g = b := Option.some.inj hb
    have e : g' = g := Option.some.inj hb2
    rcases hat with h3 | h3
    · rcases hat2 with h4 | h4
      · exact h.sep g h3 (by rw [h4, e])
      · omega
    · rcases hat2 with h4 | h4
      · have := hu g' h4
        omega
      · omega
  · have k1 := (((h.k.trans hk).below hb1).grown hg (fun b hb => .inl (by have := hv b hb; omega))).below hb2
    exact k1.grown hg2 (fun b hb => .inl (by have := hu b hb; omega))
end
/-- the second loop of told -/
structure ToldD (w0 W : World) (B S nx N k g d : Nat) (D x y : Nat → Num) : Prop where
  s : StoreAt W B nx
  o : Blk W S 38 #[.int .i64 (sumF D N).q.a, .int .i64 (sumF D N).q.b, .int .i64 (sumF D N).q.c, .int .i64 (sumF D N).q.d, .int .i64 (sumF D N).k]
  v : RowG W g N x
  u : RowG W d N y
  k : KeepX B w0 W
def ToldPost (B N nx : Nat) (w : World) (e : Ending) (w' : World) : Prop := e = .returned (.bool true) ∧ StoreAt w' B (nx + 1 + 5 * N) ∧ KeepX B w w'
end
section
open Go.RowKit
attribute [local go_sem ↓] Go.wp_at_zero Go.wp_at_succ
section
variable {w0 W : World} {B S nx N k g d : Nat} {D x y : Nat → Num}
theorem ToldD.below {W1 : World} (h : ToldD w0 W B S nx N k g d D x y) (hb : Below W.heap.size W W1) : ToldD w0 W1 B S nx N k g d D x y :=
  ⟨h.s.below hb, h.o.below hb, h.v.keep (hb.block _ h.v.lt), h.u.keep (hb.block _ h.u.lt), h.k.below hb⟩
theorem ToldD.put (h : ToldD w0 W B S nx N k g d D x y) (hB : B < S) (hS : w0.heap.size = S) (hgd : g ≠ d) (hd : S + 1 ≤ d) (k' j : Nat) (r : Num) : ToldD w0 (setNum W d j r) B S nx N k' g d D x (put1 y j r) := by
  have hf : ∀ b, b ≠ d → (setNum W d j r).heap[b]? = W.heap[b]? := fun b hb => setNum_far W r hb
  exact ⟨((((h.s.far (p := ⟨d, _, none⟩) (by show B < d; omega) _).far (p := ⟨d, _, none⟩) (by show B < d; omega) _).far (p := ⟨d, _, none⟩) (by show B < d; omega) _).far (p := ⟨d, _, none⟩) (by show B < d; omega) _).far (p := ⟨d, _, none⟩) (by show B < d; omega) _,
    (hf S (by omega)).trans h.o, h.v.keep (hf g hgd), h.u.put j r, h.k.setNum (by omega) j r⟩
end
set_option maxHeartbeats 4000000 in
set_option maxRecDepth 100000 in
theorem f7_any (lo B T n N nx : Nat) (tw pw : Nat → Nat) (gs : List Gt) (w : World) (h1 : 1 ≤ n) (h2 : n ≤ 6) (hN : Hid (2 ^ n = N)) (hT : TableAt w lo T n N tw pw gs) (hok : TabOk tw pw N) (hcol : Hid (colM gs = pM tw pw (fun _ => true)))
    (hg : ∀ g ∈ gs, Gt.ok g n) (hgl : gs.length ≤ 120) (hS : StoreAt w B nx) (hx : nx ≤ 999990000) (hB : B < lo) :
    Calls Tryz.prog 7 #[.pointer (some ⟨T, 0, none⟩), .pointer (some ⟨B, 0, none⟩)] w (ToldPost B N nx w) := by
  have hNb := pow6 n h1 h2
  rw [hN.out] at hNb
  obtain ⟨hN2, hN6⟩ := hNb
  have hd : 1 ≤ N ∧ N ≤ 64 ∧ 1 ≤ N ∧ N ≤ 64 := by omega
  have hto : ∀ i, i < N → tw i < N ∧ pw i < 8 := fun i hi => ⟨hok.t i hi, hok.p i hi⟩
  have hT0 := hT
  obtain ⟨⟨ta, tc, pa, pc, gv, hTl, hal, hpl, hta, hpa, hTB, hc1, hc2, hR⟩⟩ := hT
  have cT := hTB.cells
  have hBw := hS.lt
  have H26 := f26_any lo n N gv gs w h1 h2 hN hg hgl hR
  rw [hcol.out] at H26
  have hF := toldF hok (by omega) hN6
  have hZ := toldZ hok (by omega)
  generalize hMM : pM tw pw (fun _ => true) = M at H26 hF hZ
  have H10 : ∀ W, TableAt W lo T n N tw pw gs → Calls Tryz.prog 10 #[.pointer (some ⟨T, 0, none⟩), .bool false] W (RowsPost N (tabM tw pw N) W) := fun W h => f10_any lo T n N tw pw gs false W h1 h2 hN h hto
  have H10b : ∀ W, TableAt W lo T n N tw pw gs → Calls Tryz.prog 10 #[.pointer (some ⟨T, 0, none⟩), .bool true] W (RowsPost N (tabB tw pw N) W) := fun W h => f10_any lo T n N tw pw gs true W h1 h2 hN h hto
  have H5 := fun W h => f5_any B nx 8 W h (by omega) (by omega) (by omega)
  have H32 := fun W k (hk : k < N) (h : StoreAt W B (nx + 1 + 5 * k)) => f32_any B (nx + 1 + 5 * k) W h (by omega)
  clear hcol hR hMM hg hgl hx
  go_enter Tryz.func7, Tryz.ntmps7
  go_wp2_with (first
    | (go_at_call 26; refine H26.mono ?_; clear H26; rintro e w1 ⟨b, rb, rc, rfl, hG1, hb1⟩; have hS1 := hS.below hb1)
    | (go_at_call 5; refine (H5 _ hS1).mono ?_; clear H5; rintro e w2 ⟨t, ht, rfl, hS2, hK2⟩; have hK02 := (KeepX.of_below (B := B) hb1).trans hK2; have hG2 := hG1.keepX hK2 (by omega); obtain ⟨tx, htx, hsm, hs1, hs2, hs3, hs4⟩ := hF.turn t ht)
    | (go_at_call 28; refine (f28_w t tx (by omega) htx.out _).mono ?_; rintro e w3 ⟨rfl, hb3⟩; have hK03 := hK02.below hb3; have hG3 := hG2.below hb3; have hS3 := hS2.below hb3)
    | (go_at_call 27; refine (f27_any N tx _ (hG3.mat hd) hF.sm hsm hs1).mono ?_; rintro e w4 ⟨b4, hb4l, rfl, hF4, hb4⟩; have hK04 := hK03.below hb4; have hG4 := hG3.below hb4; have hS4 := hS3.below hb4)
    | (go_at_call 29; refine (f29_any N N t _ ht (hF4.mat hd) (hG4.mat hd) hs2 hF.sm hs3 hs4).mono ?_; rintro e w5 ⟨rfl, hb5⟩; have hK05 := hK04.below hb5; have hG5 := hG4.below hb5; have hS5 := hS4.below hb5)
    | (go_at_call 30; refine (f30_any N _ (hG5.mat hd) hF.sm hF.cj).mono ?_; rintro e w6 ⟨b6, hb6l, rfl, hF6, hb6⟩; have hK06 := hK05.below hb6; have hG6 := hG5.below hb6; have hS6 := hS5.below hb6; have hT6 := hT0.keepX hK06 hB; have H10f := H10 _ hT6)
    | (go_at_call 10; refine H10f.mono ?_; clear H10f; rintro e w7 ⟨b7, c7, rb7, rc7, rfl, hG7, hb7⟩; have hK07 := hK06.below hb7; have hGx7 := hG6.below hb7; have hS7 := hS6.below hb7; have hT7 := hT6.below hb7; have H11f := f11_same N c7 _ (hGx7.mat hd) (hG7.mat hd) hF.tm)
    | (go_at_call 11; refine H11f.mono ?_; clear H11f; rintro e w8 ⟨rfl, hb8⟩; have hK08 := hK07.below hb8; have hG8 := hGx7.below hb8; have hS8 := hS7.below hb8; have hT8 := hT7.below hb8; have H10t := H10b _ hT8)
    | (go_at_call 10; refine H10t.mono ?_; clear H10t; rintro e w9 ⟨b9, c9, rb9, rc9, rfl, hG9, hb9⟩; have hK09 := hK08.below hb9; have hGx9 := hG8.below hb9; have hS9 := hS8.below hb9; have hT9 := hT8.below hb9; have hF9 := ((hF6.below hb7).below hb8).below hb9; have H11t := f11_same N c9 _ (hF9.mat hd) (hG9.mat hd) hF.tb)
    | (go_at_call 11; refine H11t.mono ?_; clear H11t; rintro e w10 ⟨rfl, hb10⟩; have hK10 := hK09.below hb10; have hG10 := hGx9.below hb10; have hS10 := hS9.below hb10; have hT10 := hT9.below hb10; have cT10 := (hTB.keepX hK10 (by omega)).cells; have lT10 := (hTB.keepX hK10 (by omega)).lt; have hB10 := hS10.lt))
  obtain ⟨S, hSe⟩ : ∃ S, w10.heap.size = S := ⟨_, rfl⟩
  have hT0L : ToldA w10 _ B S (nx + 1) 0 Num.zero _ _ := ToldA.zero (W := w10.alloc (.cells #[.int .i64 0, .int .i64 0, .int .i64 0, .int .i64 0, .int .i64 0] 38)) (hS10.below ((Below.refl _ _).alloc (Nat.le_refl _) _)) (Blk.new' _ _ hSe.symm) ((KeepX.refl _ _).alloc _)
  rw [hSe]
  generalize w10.alloc (.cells #[.int .i64 0, .int .i64 0, .int .i64 0, .int .i64 0, .int .i64 0] 38) = w11 at hT0L ⊢
  have hSH := Lib.hid hSe
  have lT : T < S := by omega
  have lB : B < S := by omega
  have hTx := hTB.keepX hK10 (by omega)
  have hgx := hG10
  clear hSe cT10 cT lT10 hT0 hG1 hb1 hS1 hS2 hK2 hK02 hG2 hs1 hs2 hs3 hs4 hsm htx hb3 hK03 hG3 hS3 hF4 hb4 hK04 hG4 hS4 hb5 hK05 hG5 hS5 hF6 hb6 hK06 hG6 hS6 hT6 hG7 hb7 hK07 hGx7 hS7 hT7 hb8 hK08 hG8 hS8 hT8 hG9 hb9 hK09 hGx9 hS9 hT9 hF9 hb10 hS10 hG10 H10 H10b hb4l hb6l
  go_loopg [15, 16, 92] N (fun gg s15 s16 s92 wr => ∃ k : Nat, k ≤ N ∧ N - k ≤ gg ∧ s92 = .int .i64 k ∧ Aside (ToldA w10 wr B S (nx + 1) k (sumF (fun i => M i i) k) s15 s16))
  case atStart => exact ⟨0, Nat.zero_le _, by omega, rfl, (show Aside _ from hT0L)⟩
  case round =>
    obtain ⟨k, hk, hgg, rfl, AL⟩ := hrel
    obtain ⟨x, hL⟩ := AL.out
    clear AL hT0L
    have hTr := (hTx.keepX hL.k (by omega)).cells
    by_cases hlt : k < N
    · have hltz : (k : Int) < (N : Int) := by omega
      obtain ⟨hy1, hy2⟩ := hto k hlt
      obtain ⟨y, hy⟩ : ∃ y, tw k = y := ⟨_, rfl⟩
      have e1 : wr.cell? ⟨ta, k, none⟩ = some (.int .i64 (y : Int)) := by
        rw [← hy]
        exact ((hK10.trans hL.k).cell (p := ⟨ta, k, none⟩) hta (by show ta ≠ B; omega)).trans (hc1 k hlt)
      have hdi := hF.di k hlt
      have hdl := hF.dl k hlt
      have hdg := hF.dg
      have hsk := hdg.sum k hk
      have had : (addN (sumF (fun i => M i i) k) (M k k)).2 = 0 := hdg.add k hlt
      have hnk : (M k k).ok ∧ (M k k).k ≤ 30 := hdg.num k hlt
      have hz1 : sumF (fun i => M i i) (k + 1) = (addN (sumF (fun i => M i i) k) (M k k)).1 := rfl
      rw [hdi] at hz1 hnk had
      generalize sumF (fun i => M i i) k = z at hz1 hL hdl hsk had
      clear hdi
      have lTr := (hTx.keepX hL.k (by omega)).lt
      rw [hy] at hz1 hnk had
      by_cases hyk : k = y
      · skip
        subst hyk
        obtain ⟨pk, hpk⟩ : ∃ pk, pw k = pk := ⟨_, rfl⟩
        have e2 : wr.cell? ⟨pa, k, none⟩ = some (.int .i64 (pk : Int)) := by
          rw [← hpk]
          exact ((hK10.trans hL.k).cell (p := ⟨pa, k, none⟩) hpa (by show pa ≠ B; omega)).trans (hc2 k hlt)
        rw [hpk] at hy2
        rw [if_pos rfl, hpk] at hz1 hnk had
        obtain ⟨xw, hxw⟩ : ∃ xw, Num.w pk = xw := ⟨_, rfl⟩
        rw [hxw] at hz1 hnk had
        have H28 := f28_w pk xw (by omega) (by rw [Nat.mod_eq_of_lt hy2]; exact hxw)
        obtain ⟨r, hr⟩ : ∃ r, (addN z xw).1 = r := ⟨_, rfl⟩
        have H31 := fun W => f31_any z xw W hsk.1 hnk.1 hsk.2 hnk.2 r 0 (Lib.hid (Prod.ext hr had))
        rw [hr] at hz1
        have hz1 := Lib.hid hz1
        have cS := hL.o.cells
        have lS := hL.o.lt
        have lpa : pa < wr.heap.size := Nat.lt_of_lt_of_le hpa (hK10.trans hL.k).size
        clear hr hxw had hnk hsk hdl hdg hy hpk hy1 hy2 hc1 hc2 hto
        go_wp2_with (fail)
        refine Calm.wp_region_late 13 12 (by kernel_rfl) 13 [] (by kernel_rfl) (by kernel_rfl) (by decide) (fun w' => Below wr.heap.size wr w') (0) (fun _ _ => Nat.zero_le _) (Below.refl _ _).drew ?_
        show Calm.WalkI _ _ _ _ _ _ [0, 1, 2, 3, 4, 5, 6, 7, 8, 9, 10, 11, 12] _ _
        iterate 8
          refine Calm.calm_step rfl rfl rfl ?_; apply Exists.intro; refine ⟨fun w' hw' => ?_, ?_⟩
          · have z0' := keep_cell (p := ⟨S, 0, none⟩) hw' lS (cS 0)
            have z1' := keep_cell (p := ⟨S, 1, none⟩) hw' lS (cS 1)
            have z2' := keep_cell (p := ⟨S, 2, none⟩) hw' lS (cS 2)
            have z3' := keep_cell (p := ⟨S, 3, none⟩) hw' lS (cS 3)
            have z4' := keep_cell (p := ⟨S, 4, none⟩) hw' lS (cS 4)
            have c2' := keep_cell (p := ⟨T, 2, none⟩) hw' lTr (hTr 2)
            have d2' := keep_cell (p := ⟨pa, k, none⟩) hw' lpa e2
            apply Calm.calm_value
            go_simp
            exact rfl
          intro K hK; go_simp; refine hK _ ?_; clear hK K
        refine Calm.calm_step rfl rfl rfl ?_; apply Exists.intro; refine ⟨fun w' hw' => ?_, ?_⟩
        · have z0' := keep_cell (p := ⟨S, 0, none⟩) hw' lS (cS 0)
          have z1' := keep_cell (p := ⟨S, 1, none⟩) hw' lS (cS 1)
          have z2' := keep_cell (p := ⟨S, 2, none⟩) hw' lS (cS 2)
          have z3' := keep_cell (p := ⟨S, 3, none⟩) hw' lS (cS 3)
          have z4' := keep_cell (p := ⟨S, 4, none⟩) hw' lS (cS 4)
          have c2' := keep_cell (p := ⟨T, 2, none⟩) hw' lTr (hTr 2)
          have d2' := keep_cell (p := ⟨pa, k, none⟩) hw' lpa e2
          apply Calm.calm_call
          · go_simp
            exact ⟨rfl, rfl⟩
          refine (H28 w').mono ?_
          rintro e w'' ⟨rfl, hb⟩
          exact ⟨rfl, hb, bt hw' hb⟩
        intro K hK; go_simp; refine hK _ ?_; clear hK K
        refine Calm.calm_step rfl rfl rfl ?_; apply Exists.intro; refine ⟨fun w' hw' => ?_, ?_⟩
        · have z0' := keep_cell (p := ⟨S, 0, none⟩) hw' lS (cS 0)
          have z1' := keep_cell (p := ⟨S, 1, none⟩) hw' lS (cS 1)
          have z2' := keep_cell (p := ⟨S, 2, none⟩) hw' lS (cS 2)
          have z3' := keep_cell (p := ⟨S, 3, none⟩) hw' lS (cS 3)
          have z4' := keep_cell (p := ⟨S, 4, none⟩) hw' lS (cS 4)
          have c2' := keep_cell (p := ⟨T, 2, none⟩) hw' lTr (hTr 2)
          have d2' := keep_cell (p := ⟨pa, k, none⟩) hw' lpa e2
          apply Calm.calm_call
          · go_simp
            exact ⟨rfl, rfl⟩
          refine (H31 w').mono ?_
          rintro e w'' ⟨rfl, hb⟩
          exact ⟨rfl, hb, bt hw' hb⟩
        intro K hK; go_simp; refine hK _ ?_; clear hK K
        iterate 3
          refine Calm.calm_step rfl rfl rfl ?_; apply Exists.intro; refine ⟨fun w' hw' => ?_, ?_⟩
          · have z0' := keep_cell (p := ⟨S, 0, none⟩) hw' lS (cS 0)
            have z1' := keep_cell (p := ⟨S, 1, none⟩) hw' lS (cS 1)
            have z2' := keep_cell (p := ⟨S, 2, none⟩) hw' lS (cS 2)
            have z3' := keep_cell (p := ⟨S, 3, none⟩) hw' lS (cS 3)
            have z4' := keep_cell (p := ⟨S, 4, none⟩) hw' lS (cS 4)
            have c2' := keep_cell (p := ⟨T, 2, none⟩) hw' lTr (hTr 2)
            have d2' := keep_cell (p := ⟨pa, k, none⟩) hw' lpa e2
            apply Calm.calm_value
            go_simp
            exact rfl
          intro K hK; go_simp; refine hK _ ?_; clear hK K
        refine Calm.calm_end_lit (fun wk hk => ?_)
        simp only [List.drop_succ_cons, List.drop_zero]
        obtain ⟨hBk, _, _⟩ := hk
        have hLk := hL.below hBk
        have cSk := hLk.o.cells
        have fSk := hLk.o.frozen
        have lSk := hLk.o.lt
        go_wp2_with (fail)
        refine NoPanic.normal ?_
        have hLp := hLk.put lB hSH.out r
        clear hL hLk cSk fSk lSk cS lS
        go_wp2_with (fail)
        refine (H32 _ k hlt hLp.s).mono ?_
        rintro e w12 ⟨y', rfl, hsy, hS12, hK12⟩
        have hO12 := hLp.vAt lB hK12 (.cells #[.int .i64 y'.q.a, .int .i64 y'.q.b, .int .i64 y'.q.c, .int .i64 y'.q.d, .int .i64 y'.k] 38)
        have hN12 := Blk.new w12 38 #[.int .i64 y'.q.a, .int .i64 y'.q.b, .int .i64 y'.q.c, .int .i64 y'.q.d, .int .i64 y'.k]
        have hs12 : S + 1 ≤ (w12.alloc (.cells #[.int .i64 y'.q.a, .int .i64 y'.q.b, .int .i64 y'.q.c, .int .i64 y'.q.d, .int .i64 y'.k] 38)).heap.size := by have a1 := hK12.size; have a2 := hLp.o.lt; simp; omega
        go_wp2_with (first
          | (at_builtin; refine wl_app rfl _ _ 72 rfl (S + 1) 38 _ 5 40 und72 info38 rfl (by decide) (by decide) _ _ _ rfl hO12 w12.heap.size 38 #[.int .i64 y'.q.a, .int .i64 y'.q.b, .int .i64 y'.q.c, .int .i64 y'.q.d, .int .i64 y'.k] rfl hN12 rfl (by simp [Value.oneCell']) (by omega) hs12 (w12.heap.size + 1) (by simp) ?_; clear hO12; intro g cap w14 hO14 hgr14 hat14 hlt14; have hO15 := hLp.uAt lB hK12 _ (.cells #[.int .i64 0, .int .i64 0, .int .i64 0, .int .i64 0, .int .i64 0] 38) hgr14; have hN15 := Blk.new w14 38 #[.int .i64 0, .int .i64 0, .int .i64 0, .int .i64 0, .int .i64 0]; have hs15 : S + 1 ≤ (w14.alloc (.cells #[.int .i64 0, .int .i64 0, .int .i64 0, .int .i64 0, .int .i64 0] 38)).heap.size := Nat.le_trans hs12 (Nat.le_trans hgr14.size (by simp)); clear hs12)
          | (at_builtin; refine wl_app rfl _ _ 72 rfl (S + 1) 38 _ 5 40 und72 info38 rfl (by decide) (by decide) _ _ _ rfl hO15 w14.heap.size 38 #[.int .i64 0, .int .i64 0, .int .i64 0, .int .i64 0, .int .i64 0] rfl hN15 rfl (by simp [Value.oneCell']) (by omega) hs15 (w14.heap.size + 1) (by simp) ?_; clear hO15; intro g' cap' w16 hO16 hgr16 hat16 hlt16))
        have hst := hLp.step lB hSH.out hK12 hS12 hsy hO14 hgr14 hat14 (by simp) hO16 hgr16 hat16 (by simp) hlt14
        clear hs15 hO14 hO16 hgr14 hgr16 hat14 hat16 hlt14 hN12 hN15
        go_roundg (N - (k + 1))
        case measure => omega
        case rel => exact ⟨k + 1, by omega, by omega, by go_num, (show Aside _ from ⟨_, by rw [hz1.out]; exact hst⟩)⟩
      · skip
        have hykz : ¬ (k : Int) = (y : Int) := by omega
        rw [if_neg hyk, addN_zero hdl] at hz1
        have hz1 := Lib.hid hz1
        clear had hnk hsk hdl hdg hy hy1 hy2 hc1 hc2 hto
        go_wp2_with (fail)
        refine (H32 _ k hlt hL.s).mono ?_
        rintro e w12 ⟨y', rfl, hsy, hS12, hK12⟩
        have hO12 := hL.vAt lB hK12 (.cells #[.int .i64 y'.q.a, .int .i64 y'.q.b, .int .i64 y'.q.c, .int .i64 y'.q.d, .int .i64 y'.k] 38)
        have hN12 := Blk.new w12 38 #[.int .i64 y'.q.a, .int .i64 y'.q.b, .int .i64 y'.q.c, .int .i64 y'.q.d, .int .i64 y'.k]
        have hs12 : S + 1 ≤ (w12.alloc (.cells #[.int .i64 y'.q.a, .int .i64 y'.q.b, .int .i64 y'.q.c, .int .i64 y'.q.d, .int .i64 y'.k] 38)).heap.size := by have a1 := hK12.size; have a2 := hL.o.lt; simp; omega
        go_wp2_with (first
          | (at_builtin; refine wl_app rfl _ _ 72 rfl (S + 1) 38 _ 5 40 und72 info38 rfl (by decide) (by decide) _ _ _ rfl hO12 w12.heap.size 38 #[.int .i64 y'.q.a, .int .i64 y'.q.b, .int .i64 y'.q.c, .int .i64 y'.q.d, .int .i64 y'.k] rfl hN12 rfl (by simp [Value.oneCell']) (by omega) hs12 (w12.heap.size + 1) (by simp) ?_; clear hO12; intro g cap w14 hO14 hgr14 hat14 hlt14; have hO15 := hL.uAt lB hK12 _ (.cells #[.int .i64 0, .int .i64 0, .int .i64 0, .int .i64 0, .int .i64 0] 38) hgr14; have hN15 := Blk.new w14 38 #[.int .i64 0, .int .i64 0, .int .i64 0, .int .i64 0, .int .i64 0]; have hs15 : S + 1 ≤ (w14.alloc (.cells #[.int .i64 0, .int .i64 0, .int .i64 0, .int .i64 0, .int .i64 0] 38)).heap.size := Nat.le_trans hs12 (Nat.le_trans hgr14.size (by simp)); clear hs12)
          | (at_builtin; refine wl_app rfl _ _ 72 rfl (S + 1) 38 _ 5 40 und72 info38 rfl (by decide) (by decide) _ _ _ rfl hO15 w14.heap.size 38 #[.int .i64 0, .int .i64 0, .int .i64 0, .int .i64 0, .int .i64 0] rfl hN15 rfl (by simp [Value.oneCell']) (by omega) hs15 (w14.heap.size + 1) (by simp) ?_; clear hO15; intro g' cap' w16 hO16 hgr16 hat16 hlt16))
        have hst := hL.step lB hSH.out hK12 hS12 hsy hO14 hgr14 hat14 (by simp) hO16 hgr16 hat16 (by simp) hlt14
        clear hs15 hO14 hO16 hgr14 hgr16 hat14 hat16 hlt14 hN12 hN15
        go_roundg (N - (k + 1))
        case measure => omega
        case rel => exact ⟨k + 1, by omega, by omega, by go_num, (show Aside _ from ⟨_, by rw [hz1.out]; exact hst⟩)⟩
    · have hltz : ¬ (k : Int) < (N : Int) := by omega
      have hkN : N = k := by omega
      subst hkN
      clear hlt
      obtain ⟨g, cap, rfl, hgS, hgl⟩ := World.ownsRow.form hL.v (by omega)
      obtain ⟨d, dcap, rfl, hdS, hdl⟩ := World.ownsRow.form hL.u (by omega)
      have hsm := hL.somes
      have hV := own_rowG hL.v (by omega)
      have hU := own_rowG hL.u (by omega)
      have hgd : g ≠ d := fun e => hL.sep g rfl (by rw [e]; rfl)
      have hS0 := hL.s
      have hO0 := hL.o
      have hK0 := hL.k
      clear hL
      go_wp2_with (fail)
      have hD0 : ToldD w10 wr B S (nx + 1 + 5 * N) N 0 g d (fun i => M i i) x (dueN tw pw x 0) := ⟨hS0, hO0, hV, hU, hK0⟩
      go_loopg [128] N (fun gg s128 wr => ∃ k : Nat, k ≤ N ∧ N - k ≤ gg ∧ s128 = .int .i64 k ∧ Aside (ToldD w10 wr B S (nx + 1 + 5 * N) N k g d (fun i => M i i) x (dueN tw pw x k)))
      case atStart => exact ⟨0, Nat.zero_le _, by omega, rfl, (show Aside _ from hD0)⟩
      case round =>
        obtain ⟨k, hk, hgg, rfl, AD⟩ := hrel
        have hD := AD.out
        clear AD hD0 hS0 hO0 hV hU hK0
        have hTr := (hTx.keepX hD.k (by omega)).cells
        have lTr := (hTx.keepX hD.k (by omega)).lt
        by_cases hlt : k < N
        · have hltz : (k : Int) < (N : Int) := by omega
          obtain ⟨hy1, hy2⟩ := hto k hlt
          obtain ⟨y, hy⟩ : ∃ y, tw k = y := ⟨_, rfl⟩
          obtain ⟨pk, hpk⟩ : ∃ pk, pw k = pk := ⟨_, rfl⟩
          have e1 : wr.cell? ⟨ta, k, none⟩ = some (.int .i64 (y : Int)) := by
            rw [← hy]
            exact ((hK10.trans hD.k).cell (p := ⟨ta, k, none⟩) hta (by show ta ≠ B; omega)).trans (hc1 k hlt)
          have e2 : wr.cell? ⟨pa, k, none⟩ = some (.int .i64 (pk : Int)) := by
            rw [← hpk]
            exact ((hK10.trans hD.k).cell (p := ⟨pa, k, none⟩) hpa (by show pa ≠ B; omega)).trans (hc2 k hlt)
          have hdu : (fun i => dueN tw pw x (k + 1) i) = put1 (dueN tw pw x k) y (turnN pk (x k)) := by
            funext i
            rw [dueN_succ, hy, hpk]
            rfl
          have hle := some_le (hsm k hlt)
          have hn := hD.v.numAt hlt
          rw [hpk] at hy2
          rw [hy] at hy1
          obtain ⟨xk, hxk⟩ : ∃ xk, x k = xk := ⟨_, rfl⟩
          rw [hxk] at hdu hle hn
          have H33 := fun W => f33_any xk.q (turnN pk xk).q xk.k pk pk W (hle.mono (by decide)) (by omega) (Lib.hid (Nat.mod_eq_of_lt hy2).symm) (Lib.hid rfl)
          have hrk : (turnN pk xk).k = xk.k := rfl
          generalize turnN pk xk = r at H33 hdu hrk
          obtain ⟨y0, y1, y2, y3, y4⟩ := hn
          have lg := hD.v.lt
          have lpa : pa < wr.heap.size := Nat.lt_of_lt_of_le hpa (hK10.trans hD.k).size
          have hyz : (y : Int) < (N : Int) := by omega
          have lu := hD.u.lt
          clear hxk hle hpk hy hc1 hc2 hto
          go_wp2_with (fail)
          refine Calm.wp_region_calm 15 [] (by kernel_rfl) (by kernel_rfl) (by decide) (fun w' => Below wr.heap.size wr w') (0) (fun _ _ => Nat.zero_le _) (Below.refl _ _).drew ?_
          show Calm.WalkI _ _ _ _ _ _ [0, 1, 2, 3, 4, 5, 6, 7, 8, 9, 10, 11, 12, 13, 14] _ _
          iterate 13
            refine Calm.calm_step rfl rfl rfl ?_; apply Exists.intro; refine ⟨fun w' hw' => ?_, ?_⟩
            · have z0' := keep_cell (p := ⟨g, k * 5, none⟩) hw' lg y0
              have z1' := keep_cell (p := ⟨g, k * 5 + 1, none⟩) hw' lg y1
              have z2' := keep_cell (p := ⟨g, k * 5 + 2, none⟩) hw' lg y2
              have z3' := keep_cell (p := ⟨g, k * 5 + 3, none⟩) hw' lg y3
              have z4' := keep_cell (p := ⟨g, k * 5 + 4, none⟩) hw' lg y4
              have c2' := keep_cell (p := ⟨T, 2, none⟩) hw' lTr (hTr 2)
              have d2' := keep_cell (p := ⟨pa, k, none⟩) hw' lpa e2
              apply Calm.calm_value
              go_simp
              exact rfl
            intro K hK; go_simp; refine hK _ ?_; clear hK K
          refine Calm.calm_step rfl rfl rfl ?_; apply Exists.intro; refine ⟨fun w' hw' => ?_, ?_⟩
          · have z0' := keep_cell (p := ⟨g, k * 5, none⟩) hw' lg y0
            have z1' := keep_cell (p := ⟨g, k * 5 + 1, none⟩) hw' lg y1
            have z2' := keep_cell (p := ⟨g, k * 5 + 2, none⟩) hw' lg y2
            have z3' := keep_cell (p := ⟨g, k * 5 + 3, none⟩) hw' lg y3
            have z4' := keep_cell (p := ⟨g, k * 5 + 4, none⟩) hw' lg y4
            have c2' := keep_cell (p := ⟨T, 2, none⟩) hw' lTr (hTr 2)
            have d2' := keep_cell (p := ⟨pa, k, none⟩) hw' lpa e2
            apply Calm.calm_call
            · go_simp
              exact ⟨rfl, rfl⟩
            refine (H33 w').mono ?_
            rintro e w'' ⟨rfl, hb⟩
            exact ⟨rfl, hb, bt hw' hb⟩
          intro K hK; go_simp; refine hK _ ?_; clear hK K
          iterate 1
            refine Calm.calm_step rfl rfl rfl ?_; apply Exists.intro; refine ⟨fun w' hw' => ?_, ?_⟩
            · have z0' := keep_cell (p := ⟨g, k * 5, none⟩) hw' lg y0
              have z1' := keep_cell (p := ⟨g, k * 5 + 1, none⟩) hw' lg y1
              have z2' := keep_cell (p := ⟨g, k * 5 + 2, none⟩) hw' lg y2
              have z3' := keep_cell (p := ⟨g, k * 5 + 3, none⟩) hw' lg y3
              have z4' := keep_cell (p := ⟨g, k * 5 + 4, none⟩) hw' lg y4
              have c2' := keep_cell (p := ⟨T, 2, none⟩) hw' lTr (hTr 2)
              have d2' := keep_cell (p := ⟨pa, k, none⟩) hw' lpa e2
              apply Calm.calm_value
              go_simp
              exact rfl
            intro K hK; go_simp; refine hK _ ?_; clear hK K
          refine Calm.calm_end_lit (fun wk hk => ?_)
          simp only [List.drop_succ_cons, List.drop_zero]
          obtain ⟨hBk, _, _⟩ := hk
          have hDk := hD.below hBk
          have fU := hDk.u.frozen
          have lU := hDk.u.lt
          have hnU := hDk.u.numAt hy1
          obtain ⟨u0, u1, u2, u3, u4⟩ := hnU
          go_wp2_with (fail)
          have hE := hDk.put lB hSH.out hgd hdS (k + 1) y r
          rw [← hdu] at hE
          unfold setNum at hE
          rw [hrk] at hE
          clear fU lU u0 u1 u2 u3 u4 hDk hD
          go_roundg (N - (k + 1))
          case measure => omega
          case rel => exact ⟨k + 1, by omega, by omega, by go_num, (show Aside _ from hE)⟩
        · have hltz : ¬ (k : Int) < (N : Int) := by omega
          have hkN : N = k := by omega
          subst hkN
          clear hlt hTr lTr hgg
          have hap := hF.ap x hsm
          obtain ⟨r0, hr0⟩ : ∃ r0, sumF (fun i => M i i) N = r0 := ⟨_, rfl⟩
          have hok2 : ∀ i j, i < N → j < N → (M i j).ok := fun i j hi hj => (hF.sm i j hi hj).1
          have hG0 := hgx.keepX hD.k (by omega)
          have H34 := fun c => f34_any c r0 wr (hG0.mat hd) hok2 hF.dg (Lib.hid hr0)
          have H35 := fun c vc W (hG : Mat W (some ⟨b, 0, none⟩) N N M) (lg : g < W.heap.size) (hx : ∀ j, j < N → NumAt W g (0 + j * 5) (x j)) => f35_any c g 0 vc x W hG hok2 lg hx (fun j hj => ((hap 0).1.right j hj).1) (fun i hi => (hap i).1)
          have H36 := fun c W (hG : Mat W (some ⟨b, 0, none⟩) N N M) => f36_any c W hG hF.sm hF.cj hF.dot hF.pok
          have H36z := fun c W (hG : Mat W (some ⟨b, 0, none⟩) N N (put2 M (tw 0) 0 Num.zero)) => f36_any c W hG hZ.sm hZ.cj hZ.dot hZ.pok
          have hone := hF.one
          have hnot := hZ.not
          have hO0 := hD.o
          have hS0 := hD.s
          have hK0 := hD.k
          have hV0 := hD.v
          have hU0 := hD.u
          rw [hr0] at hO0
          go_wp2_with (go_at_call 34; refine (H34 _).mono ?_; clear H34; rintro e v1 ⟨rfl, hb1⟩)
          clear hF hZ hD
          have ha2 : Below v1.heap.size v1 (v1.alloc (.cells #[.int .i64 r0.q.a, .int .i64 r0.q.b, .int .i64 r0.q.c, .int .i64 r0.q.d, .int .i64 r0.k] 38)) := (Below.refl _ _).alloc (Nat.le_refl _) _
          have hN2 := Blk.new v1 38 #[.int .i64 r0.q.a, .int .i64 r0.q.b, .int .i64 r0.q.c, .int .i64 r0.q.d, .int .i64 r0.k]
          obtain ⟨S2, hS2e⟩ : ∃ S2, v1.heap.size = S2 := ⟨_, rfl⟩
          rw [hS2e] at hN2
          have hb2 := bt hb1 ha2
          have hV2 := hV0.keep (hb2.block g hV0.lt)
          have hG2 := (hG0.below hb2).mat hd
          refine (H35 _ _ _ hG2 hV2.lt (fun j hj => by rw [Nat.zero_add]; exact hV2.numAt hj)).mono ?_
          rintro e v3 ⟨q, qc, rfl, lq2, lq3, hq, hb3⟩
          have hq' : ∀ i, i < N → NumAt v3 q (0 + i * 5) (dueN tw pw x N i) := fun i hi => by rw [← (hap i).2]; exact hq i hi
          have hb3' := bt hb2 hb3
          clear hq H35 hap hG2 hV2
          go_wp2_with (fail)
          refine (H36 _ _ ((hG0.below hb3').mat hd)).mono ?_
          rintro e v4 ⟨⟨r, rfl, hr⟩, hb4⟩
          obtain rfl : r = true := hr.2 hone
          have hb4' := bt hb3' hb4
          have hG4 := hG0.below hb4'
          have ht0 := hto 0 (by omega)
          obtain ⟨y, hy⟩ : ∃ y, tw 0 = y := ⟨_, rfl⟩
          have c0 := hc1 0 (by omega)
          rw [hy] at ht0 c0 H36z hnot
          have hy1 := ht0.1
          have hKv : KeepX B w10 v4 := hK0.below hb4'
          have cT4 := (hTx.keepX hKv (by omega)).cells
          have lT4 := (hTx.keepX hKv (by omega)).lt
          have e1 : v4.cell? ⟨ta, 0, none⟩ = some (.int .i64 (y : Int)) := ((hK10.trans hKv).cell (p := ⟨ta, 0, none⟩) hta (by show ta ≠ B; omega)).trans c0
          have hyz : (y : Int) < (N : Int) := by omega
          have d3 := hG4.head_at hy1
          have hR4 := (hG4.row y hy1).2
          have hn4 := hR4.numAt (show 0 < N by omega)
          have hf4 := hR4.frozen
          have hl4 := hR4.lt
          obtain ⟨y0, y1, y2, y3, y4⟩ := hn4
          clear H36 hr hc1 hc2 hto ht0 c0
          go_wp2_with (fail)
          have hG5 : Grid (setNum v4 (rb y) 0 Num.zero) w.heap.size b N N rb rc (put2 M y 0 Num.zero) := hG4.put hy1 0 Num.zero
          have hry := (hG4.row y hy1).1
          have hryS : rb y < S := by rw [← hSH.out]; exact (hgx.row y hy1).2.lt
          have lS := hO0.lt
          have hS2g : S < S2 := by have := hb1.size; omega
          have hq2 : S2 < q := by
            have h := lq2
            simp at h
            omega
          have hK5 : KeepX B w (setNum v4 (rb y) 0 Num.zero) := (hK10.trans hKv).setNum hry 0 Num.zero
          have hS4 := hS0.below hb4'
          have hS5 : StoreAt (setNum v4 (rb y) 0 Num.zero) B (nx + 1 + 5 * N) := ((((hS4.far (p := ⟨rb y, _, none⟩) (by show B < rb y; omega) _).far (p := ⟨rb y, _, none⟩) (by show B < rb y; omega) _).far (p := ⟨rb y, _, none⟩) (by show B < rb y; omega) _).far (p := ⟨rb y, _, none⟩) (by show B < rb y; omega) _).far (p := ⟨rb y, _, none⟩) (by show B < rb y; omega) _
          have hfar : ∀ k, k ≠ rb y → (setNum v4 (rb y) 0 Num.zero).heap[k]? = v4.heap[k]? := fun k hk => setNum_far v4 Num.zero hk
          have lq5 : q < (setNum v4 (rb y) 0 Num.zero).heap.size := by rw [size_setNum]; exact Nat.lt_of_lt_of_le lq3 hb4.size
          change Calls Tryz.prog 36 _ (setNum v4 (rb y) 0 Num.zero) _
          generalize setNum v4 (rb y) 0 Num.zero = v5 at hG5 hK5 hS5 hfar lq5 ⊢
          have hO5 : Blk v5 S 38 #[.int .i64 r0.q.a, .int .i64 r0.q.b, .int .i64 r0.q.c, .int .i64 r0.q.d, .int .i64 r0.k] := (hfar S (by omega)).trans (hO0.below hb4')
          have hN5 : Blk v5 S2 38 #[.int .i64 r0.q.a, .int .i64 r0.q.b, .int .i64 r0.q.c, .int .i64 r0.q.d, .int .i64 r0.k] := (hfar S2 (by omega)).trans ((hN2.below hb3).below hb4)
          have hU5 := (hU0.keep (hb4'.block d hU0.lt)).keep (hfar d (by omega))
          have hq5 : ∀ i, i < N → NumAt v5 q (0 + i * 5) (dueN tw pw x N i) := fun i hi => by
            obtain ⟨a0, a1, a2, a3, a4⟩ := (hq' i hi).below hb4 lq3
            have hh := hfar q (by omega)
            exact ⟨(cell_keep hh).trans a0, (cell_keep hh).trans a1, (cell_keep hh).trans a2, (cell_keep hh).trans a3, (cell_keep hh).trans a4⟩
          clear hq' hfar hS4 hG4 hb4' hf4 y0 y1 y2 y3 y4 d3 e1 cT4 lT4 hKv hb4 hb3 hb3' hb2 hb1 hO0 hN2 hU0 hV0 hS0 hK0 hG0 lq2
          refine (H36z _ _ (hG5.mat hd)).mono ?_
          rintro e v6 ⟨⟨r, rfl, hr⟩, hb6⟩
          obtain rfl : r = false := by
            cases r with
            | true => exact absurd (hr.1 rfl) hnot
            | false => rfl
          have cO6 := (hO5.below hb6).cells
          have cN6 := (hN5.below hb6).cells
          have hU6 := hU5.keep (hb6.block d hU5.lt)
          have H37 := f37_same q 0 d 0 N qc dcap (dueN tw pw x N) v6 hN6 (Nat.lt_of_lt_of_le lq5 hb6.size) hU6.lt (fun j hj => (hq5 j hj).below hb6 lq5) (fun j hj => by rw [Nat.zero_add]; exact hU6.numAt hj)
          have hS6 := hS5.below hb6
          have hK6 := hK5.below hb6
          clear H36z hr hnot
          go_wp2_with (go_at_call 37; refine H37.mono ?_; clear H37; rintro e v7 ⟨rfl, hb7⟩)
          exact bodyPost_ret (v := .bool true) (by simp [results, Tryz.results7, go_sem]) rfl (show ToldPost B N nx w _ v7 from ⟨rfl, hS6.below hb7, hK6.below hb7⟩)
end
end Go.Proofs.YtdfgmmjcamhdjaaGreatDoor
