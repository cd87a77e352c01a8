/- Steps to WholeMatrices' card; what each asks stands in it. -/
import Derived.Laws.CopyOwn
import Derived.Test.YtdfgmmjcamhdjaaGreatDoorA04
import Derived.Test.YtdfgmmjcamhdjaaGreatDoorA22
set_option linter.unusedVariables false
set_option linter.unusedSimpArgs false
namespace Go.Proofs.YtdfgmmjcamhdjaaGreatDoor
section
open Go.RowKit
attribute [local go_sem ↓] Go.wp_at_zero Go.wp_at_succ
theorem run_copy_nums (w : World) (ty : TypeId) (g n c1 c2 : Nat) (a : Addr) (cur : Array Value) (cs : List Value)
    (hg : w.heap[g]? = some (.cells cur 38 (0, 0))) (hn : cs.length = n * 5)
    (hsrc : ∀ j v, cs[j]? = some v → w.cell? (a.add j) = some v) (hfit : cur.size = n * 5) (h1 : ∀ v ∈ cs, v.oneCell' = true) :
    (Builtin.copy_ #[72, 72] ty #[.slice (some ⟨g, 0, none⟩) n c1, .slice (some a) n c2]).run Tryz.prog w = .ok (goInt n) (w.setRow g cs.toArray) := by
  have hl := run_loadCells_list (P := Tryz.prog) w a cs hsrc
  have hst := run_storeCells_at Tryz.prog g 0 38 cs 0 cur w hg (by omega) h1
  obtain ⟨i, hi, hz0, hz1, hz2⟩ := info_parts info38
  rw [hn] at hl
  have e : (cur.toList.take (0 + 0) ++ cs ++ cur.toList.drop (0 + 0 + cs.length)) = cs := by
    rw [List.drop_of_length_le (by simp; omega)]
    simp
  rw [e] at hst
  simp [Builtin.copy_, run_underlying und72, Builtin.lenOf, Builtin.firstCells, sizeOf, typeInfo, hi, hz1, hl, hst]
/-- sums from the left to the right -/
def sumF (x : Nat → Num) : Nat → Num
  | 0 => Num.zero
  | k + 1 => (addN (sumF x k) (x k)).1
structure SumOk (x : Nat → Num) (n : Nat) : Prop where
  num : ∀ k, k < n → (x k).ok ∧ (x k).k ≤ 30
  sum : ∀ k, k ≤ n → (sumF x k).ok ∧ (sumF x k).k ≤ 30
  add : ∀ k, k < n → (addN (sumF x k) (x k)).2 = 0
def numsFlat (x : Nat → Num) (n : Nat) : List Value := ((List.range n).map fun k => (x k).cells).flatten
theorem numsFlat_len (x : Nat → Num) : ∀ n, (numsFlat x n).length = n * 5
  | 0 => rfl
  | n + 1 => by
    have := numsFlat_len x n
    unfold numsFlat at this ⊢
    rw [List.range_succ, List.map_append, List.flatten_append, List.length_append, this]
    simp [Num.cells]
    omega
theorem numsFlat_at (x : Nat → Num) (n k r : Nat) (v : Value) (hk : k < n) (hv : (x k).cells[r]? = some v) : (numsFlat x n)[k * 5 + r]? = some v :=
  flat_at 5 _ (fun y hy => by obtain ⟨z, _, rfl⟩ := List.mem_map.1 hy; rfl) k (x k).cells r v (by simp [hk]) hv
theorem num_cells_at {w : World} {b o : Nat} {x : Num} (h : NumAt w b o x) : ∀ r v, x.cells[r]? = some v → w.cell? ⟨b, o + r, none⟩ = some v := by
  intro r v hv
  obtain ⟨h0, h1, h2, h3, h4⟩ := h
  match r, hv with
  | 0, hv => cases hv; exact h0
  | 1, hv => cases hv; exact h1
  | 2, hv => cases hv; exact h2
  | 3, hv => cases hv; exact h3
  | 4, hv => cases hv; exact h4
theorem numsFlat_src {w : World} {b off n : Nat} {x : Nat → Num} (h : ∀ k, k < n → NumAt w b (off + k * 5) (x k)) : ∀ j v, (numsFlat x n)[j]? = some v → w.cell? ((⟨b, off, none⟩ : Addr).add j) = some v := by
  intro j v hj
  rw [Addr.add_lit]
  have hl := (List.getElem?_eq_some_iff.1 hj).1
  rw [numsFlat_len] at hl
  have hk : j / 5 < n := by omega
  have hr : j % 5 < 5 := Nat.mod_lt _ (by decide)
  obtain ⟨u, hu⟩ : ∃ u, (x (j / 5)).cells[j % 5]? = some u := by
    have : j % 5 < (x (j / 5)).cells.length := by simpa [Num.cells] using hr
    exact ⟨_, List.getElem?_eq_getElem this⟩
  have h1 := numsFlat_at x n (j / 5) (j % 5) u hk hu
  rw [show j / 5 * 5 + j % 5 = j from by omega, hj] at h1
  cases h1
  have := num_cells_at (h (j / 5) hk) (j % 5) v hu
  rwa [show off + j / 5 * 5 + j % 5 = off + j from by omega] at this
theorem numsFlat_row {w : World} {g n : Nat} {x : Nat → Num} (h : Blk w g 38 (numsFlat x n).toArray) : RowG w g n x :=
  ⟨_, h, fun j hj => ⟨by simpa using numsFlat_at x n j 0 _ hj rfl, by simpa using numsFlat_at x n j 1 _ hj rfl, by simpa using numsFlat_at x n j 2 _ hj rfl, by simpa using numsFlat_at x n j 3 _ hj rfl, by simpa using numsFlat_at x n j 4 _ hj rfl⟩⟩
theorem numsFlat_one (x : Nat → Num) (n : Nat) : ∀ v ∈ numsFlat x n, v.oneCell' = true := by
  intro v hv
  obtain ⟨l, hl, hv⟩ := List.mem_flatten.1 hv
  obtain ⟨k, _, rfl⟩ := List.mem_map.1 hl
  simp only [Num.cells, List.mem_cons, List.not_mem_nil, or_false] at hv
  rcases hv with rfl | rfl | rfl | rfl | rfl <;> rfl
theorem sln_row {w : World} {g n : Nat} {x : Nat → Num} (h : RowG w g n x) (hn : n ≤ 64) : SlN w (some ⟨g, 0, none⟩) ((List.range n).map x) := by
  refine ⟨by simp; omega, fun _ => ⟨g, 0, rfl, h.lt, fun i y hi => ?_⟩⟩
  rw [List.getElem?_map] at hi
  have hin : i < n := by
    cases hq : ((List.range n).map x)[i]? with
    | none => rw [hq] at hi; cases hi
    | some z => have := (List.getElem?_eq_some_iff.1 hq).1; simpa using this
  have e : ((List.range n).map x)[i]? = some (x i) := by simp [hin]
  rw [e] at hi
  cases hi
  refine ⟨rfl, fun j v hv => ?_⟩
  have := num_cells_at (h.numAt hin) j v hv
  rwa [Nat.zero_add]
set_option maxHeartbeats 2000000 in
set_option maxRecDepth 100000 in
theorem f81_any (b off n c : Nat) (x : Nat → Num) (r0 : Num) (w : World) (hn1 : 1 ≤ n) (hn : n ≤ 64) (lb : b < w.heap.size) (h1 : ∀ j, j < n → NumAt w b (off + j * 5) (x j)) (HS : SumOk x n) (hr0 : Hid (sumF x n = r0)) :
    Calls Tryz.prog 81 #[.slice (some ⟨b, off, none⟩) n c] w fun e w' => e = .returned (.tuple #[.agg #[.int .i64 r0.q.a, .int .i64 r0.q.b, .int .i64 r0.q.c, .int .i64 r0.q.d, .int .i64 r0.k], .int .i64 0]) ∧ Below w.heap.size w w' := by
  have hm := fun w => mk72 n w (by omega)
  have hnz : (n : Int) ≤ 64 := by omega
  have hR0 : Blk ((w.alloc (.cells #[.int .i64 0, .int .i64 0, .int .i64 0, .int .i64 0, .int .i64 0] 38)).alloc (.cells (zrow n) 38)) w.heap.size 38 #[.int .i64 0, .int .i64 0, .int .i64 0, .int .i64 0, .int .i64 0] := (Blk.new _ _ _).alloc _
  have hC0 : Blk ((w.alloc (.cells #[.int .i64 0, .int .i64 0, .int .i64 0, .int .i64 0, .int .i64 0] 38)).alloc (.cells (zrow n) 38)) (w.heap.size + 1) 38 (zrow n) := Blk.new' _ _ (by simp)
  have hb0 : Below w.heap.size w ((w.alloc (.cells #[.int .i64 0, .int .i64 0, .int .i64 0, .int .i64 0, .int .i64 0] 38)).alloc (.cells (zrow n) 38)) := ((Below.refl _ _).alloc (Nat.le_refl _) _).alloc (by simp) _
  have hsrc := numsFlat_src (fun j hj => (h1 j hj).below hb0 lb)
  have hcp := run_copy_nums _ 3 (w.heap.size + 1) n n c ⟨b, off, none⟩ (zrow n) (numsFlat x n) hC0 (numsFlat_len x n) hsrc (by simp [zrow]) (numsFlat_one x n)
  have hb1 := below_setRow (Below.refl (w.heap.size + 1) ((w.alloc (.cells #[.int .i64 0, .int .i64 0, .int .i64 0, .int .i64 0, .int .i64 0] 38)).alloc (.cells (zrow n) 38))) (Nat.le_refl _) (numsFlat x n).toArray
  have hb1' := below_setRow hb0 (Nat.le_succ _) (numsFlat x n).toArray
  have hC1 : Blk (((w.alloc (.cells #[.int .i64 0, .int .i64 0, .int .i64 0, .int .i64 0, .int .i64 0] 38)).alloc (.cells (zrow n) 38)).setRow (w.heap.size + 1) (numsFlat x n).toArray) (w.heap.size + 1) 38 _ := setRow_heap _ _ _ _ 38 _ hC0
  obtain ⟨w1, hw1⟩ : ∃ w1, ((w.alloc (.cells #[.int .i64 0, .int .i64 0, .int .i64 0, .int .i64 0, .int .i64 0] 38)).alloc (.cells (zrow n) 38)).setRow (w.heap.size + 1) (numsFlat x n).toArray = w1 := ⟨_, rfl⟩
  rw [hw1] at hcp hb1 hb1' hC1
  have hR1 : Blk w1 w.heap.size 38 #[.int .i64 0, .int .i64 0, .int .i64 0, .int .i64 0, .int .i64 0] := (hb1.block _ (Nat.lt_succ_self _)).trans hR0
  have hC1r := numsFlat_row hC1
  clear hw1 hsrc hC1 h1
  have H77 : Calls Tryz.prog 77 #[.slice (some ⟨w.heap.size + 1, 0, none⟩) n n] w1 fun e w' => e = .returned (.int .i64 0) ∧ Below w1.heap.size w1 w' :=
    f77_any (some ⟨w.heap.size + 1, 0, none⟩) n n ((List.range n).map x) w1 (by show _ = _; simp) (sln_row hC1r hn) (fun z hz => by obtain ⟨k, hk, rfl⟩ := List.mem_map.1 hz; exact (HS.num k (by simpa using hk)).1)
  go_enter Tryz.func81, Tryz.ntmps81
  go_wp2_with (go_at_call 77; refine H77.mono ?_; rintro e w2 ⟨rfl, hb2⟩)
  have hW2 := bt hb1' hb2
  have hR2 := hR1.below hb2
  have hC2 := hC1r.keep (hb2.block _ hC1r.lt)
  have hO2 : Blk (w2.alloc (.cells #[.int .i64 0, .int .i64 0, .int .i64 0, .int .i64 0, .int .i64 0] 38)) w2.heap.size 38 #[.int .i64 0, .int .i64 0, .int .i64 0, .int .i64 0, .int .i64 0] := Blk.new _ _ _
  have lw2 := hb2.size
  have lR2 := hR2.lt
  have lC2 := hC2.lt
  clear hcp H77 hm
  obtain ⟨W3, hW3⟩ : ∃ W3, w2.alloc (.cells #[.int .i64 0, .int .i64 0, .int .i64 0, .int .i64 0, .int .i64 0] 38) = W3 := ⟨_, rfl⟩
  have hW3b : Below w2.heap.size w2 (w2.alloc (.cells #[.int .i64 0, .int .i64 0, .int .i64 0, .int .i64 0, .int .i64 0] 38)) := (Below.refl _ _).alloc (Nat.le_refl _) _
  have hs3 : (w2.alloc (.cells #[.int .i64 0, .int .i64 0, .int .i64 0, .int .i64 0, .int .i64 0] 38)).heap.size = w2.heap.size + 1 := by simp
  rw [hW3] at hO2 hW3b hs3 ⊢
  have hR3 := hR2.below hW3b
  have hC3 := hC2.keep (hW3b.block _ hC2.lt)
  have hW03 := bt hW2 hW3b
  obtain ⟨Bo, hBo⟩ : ∃ Bo, w2.heap.size = Bo := ⟨_, rfl⟩
  rw [hBo] at hO2 hs3 lR2 lC2 ⊢
  clear hW3 hW3b hR2 hC2 hBo lw2
  go_loopg [26] n (fun gg s26 wr => ∃ kk : Nat, kk ≤ n ∧ n - kk ≤ gg ∧ s26 = .int .i64 kk ∧ Aside (w.heap.size + 1 < Bo ∧ ∃ o, sumF x kk = o ∧ Blk wr Bo 38 #[.int .i64 o.q.a, .int .i64 o.q.b, .int .i64 o.q.c, .int .i64 o.q.d, .int .i64 o.k]) ∧ Aside (Blk wr w.heap.size 38 #[.int .i64 0, .int .i64 0, .int .i64 0, .int .i64 0, .int .i64 0]) ∧ Aside (RowG wr (w.heap.size + 1) n x) ∧ Aside (Below w.heap.size w wr))
  case atStart => exact ⟨0, Nat.zero_le _, by omega, rfl, (show Aside _ from ⟨by omega, Num.zero, rfl, hO2⟩), (show Aside _ from hR3), (show Aside _ from hC3), (show Aside _ from hW03)⟩
  case round =>
    obtain ⟨kk, hkk, hg, rfl, AO, AR, AC, AW⟩ := hrel
    obtain ⟨hBw, o, ho, hO⟩ := AO.out
    have hR := AR.out
    have hC := AC.out
    have hW := AW.out
    clear AO AR AC AW hO2 hR3 hC3 hW03
    by_cases hlt : kk < n
    · have hltz : (kk : Int) < (n : Int) := by omega
      obtain ⟨v, hv⟩ : ∃ v, x kk = v := ⟨_, rfl⟩
      have hvo := HS.num kk hlt
      have hoo := HS.sum kk hkk
      have hadd := HS.add kk hlt
      have hnx := HS.sum (kk + 1) (by omega)
      obtain ⟨r, hre⟩ : ∃ r, sumF x (kk + 1) = r := ⟨_, rfl⟩
      have hr0' : (addN (sumF x kk) (x kk)).1 = r := hre
      have hn3 := hC.numAt hlt
      rw [hv] at hvo hadd hr0' hn3
      rw [ho] at hoo hadd hr0'
      have hr : Hid (leastN (mapQ (fun a b => a + b) (raiseQ (max o.k v.k - o.k) o.q) (raiseQ (max o.k v.k - v.k) v.q)) (max o.k v.k) = (r, 0)) := show _ = _ from Prod.ext hr0' hadd
      have hreH : Hid (sumF x (kk + 1) = r) := hre
      obtain ⟨y0, y1, y2, y3, y4⟩ := hn3
      have cC := hC.frozen
      clear hv ho hadd hr0' hre
      have hlO := hO.lt
      have hlR := hR.lt
      have hlC := hC.lt
      have hbX := (Below.refl _ wr).alloc (Nat.le_refl _) (.cells #[.int .i64 v.q.a, .int .i64 v.q.b, .int .i64 v.q.c, .int .i64 v.q.d, .int .i64 v.k] 38)
      have hOx := hO.alloc (.cells #[.int .i64 v.q.a, .int .i64 v.q.b, .int .i64 v.q.c, .int .i64 v.q.d, .int .i64 v.k] 38)
      have hRx := hR.alloc (.cells #[.int .i64 v.q.a, .int .i64 v.q.b, .int .i64 v.q.c, .int .i64 v.q.d, .int .i64 v.k] 38)
      have hCx := hC.keep (hbX.block _ hlC)
      have hXx := Blk.new wr 38 #[.int .i64 v.q.a, .int .i64 v.q.b, .int .i64 v.q.c, .int .i64 v.q.d, .int .i64 v.k]
      have hWx := bt hW hbX
      go_wp2_with (fail)
      obtain ⟨wx, hwx⟩ : ∃ wx, wr.alloc (.cells #[.int .i64 v.q.a, .int .i64 v.q.b, .int .i64 v.q.c, .int .i64 v.q.d, .int .i64 v.k] 38) = wx := ⟨_, rfl⟩
      rw [hwx] at hOx hRx hCx hXx hWx ⊢
      obtain ⟨Bx, hBx⟩ : ∃ Bx, wr.heap.size = Bx := ⟨_, rfl⟩
      rw [hBx] at hXx hlO hlR hlC ⊢
      have lO := hOx.lt
      have cO := hOx.cells
      have lX := hXx.lt
      have cX := hXx.cells
      clear hwx hBx hbX hO hR hC hW y0 y1 y2 y3 y4 cC
      refine Calm.wp_region_late 8 6 (by kernel_rfl) 8 [(7, 38, #[.int .i64 0, .int .i64 0, .int .i64 0, .int .i64 0, .int .i64 0])] (by kernel_rfl) (by kernel_rfl) (by decide) (fun w' => Below wx.heap.size wx w') (wx.heap.size) (fun _ h => h.size) (Below.refl _ _).drew ?_
      show Calm.WalkI _ _ _ _ _ _ [0, 1, 2, 3, 4, 5, 6, 7] _ _
      iterate 1
        refine Calm.calm_step rfl rfl rfl ?_; apply Exists.intro; refine ⟨fun w' hw' => ?_, ?_⟩
        · have z0' := keep_cell (p := ⟨Bo, 0, none⟩) hw' lO (cO 0)
          have z1' := keep_cell (p := ⟨Bo, 1, none⟩) hw' lO (cO 1)
          have z2' := keep_cell (p := ⟨Bo, 2, none⟩) hw' lO (cO 2)
          have z3' := keep_cell (p := ⟨Bo, 3, none⟩) hw' lO (cO 3)
          have z4' := keep_cell (p := ⟨Bo, 4, none⟩) hw' lO (cO 4)
          have y0' := keep_cell (p := ⟨Bx, 0, none⟩) hw' lX (cX 0)
          have y1' := keep_cell (p := ⟨Bx, 1, none⟩) hw' lX (cX 1)
          have y2' := keep_cell (p := ⟨Bx, 2, none⟩) hw' lX (cX 2)
          have y3' := keep_cell (p := ⟨Bx, 3, none⟩) hw' lX (cX 3)
          have y4' := keep_cell (p := ⟨Bx, 4, none⟩) hw' lX (cX 4)
          apply Calm.calm_value
          go_simp
          exact rfl
        intro K hK; go_simp; refine hK _ ?_; clear hK K
      refine Calm.calm_step rfl rfl rfl ?_; apply Exists.intro; refine ⟨fun w' hw' => ?_, ?_⟩
      · have z0' := keep_cell (p := ⟨Bo, 0, none⟩) hw' lO (cO 0)
        have z1' := keep_cell (p := ⟨Bo, 1, none⟩) hw' lO (cO 1)
        have z2' := keep_cell (p := ⟨Bo, 2, none⟩) hw' lO (cO 2)
        have z3' := keep_cell (p := ⟨Bo, 3, none⟩) hw' lO (cO 3)
        have z4' := keep_cell (p := ⟨Bo, 4, none⟩) hw' lO (cO 4)
        have y0' := keep_cell (p := ⟨Bx, 0, none⟩) hw' lX (cX 0)
        have y1' := keep_cell (p := ⟨Bx, 1, none⟩) hw' lX (cX 1)
        have y2' := keep_cell (p := ⟨Bx, 2, none⟩) hw' lX (cX 2)
        have y3' := keep_cell (p := ⟨Bx, 3, none⟩) hw' lX (cX 3)
        have y4' := keep_cell (p := ⟨Bx, 4, none⟩) hw' lX (cX 4)
        apply Calm.calm_call
        · go_simp
          exact ⟨rfl, rfl⟩
        refine (f78_any o.q o.k w').mono ?_
        rintro e w'' ⟨rfl, hb⟩
        exact ⟨rfl, hb, bt hw' hb⟩
      intro K hK; go_simp; refine hK _ ?_; clear hK K
      iterate 1
        refine Calm.calm_step rfl rfl rfl ?_; apply Exists.intro; refine ⟨fun w' hw' => ?_, ?_⟩
        · have z0' := keep_cell (p := ⟨Bo, 0, none⟩) hw' lO (cO 0)
          have z1' := keep_cell (p := ⟨Bo, 1, none⟩) hw' lO (cO 1)
          have z2' := keep_cell (p := ⟨Bo, 2, none⟩) hw' lO (cO 2)
          have z3' := keep_cell (p := ⟨Bo, 3, none⟩) hw' lO (cO 3)
          have z4' := keep_cell (p := ⟨Bo, 4, none⟩) hw' lO (cO 4)
          have y0' := keep_cell (p := ⟨Bx, 0, none⟩) hw' lX (cX 0)
          have y1' := keep_cell (p := ⟨Bx, 1, none⟩) hw' lX (cX 1)
          have y2' := keep_cell (p := ⟨Bx, 2, none⟩) hw' lX (cX 2)
          have y3' := keep_cell (p := ⟨Bx, 3, none⟩) hw' lX (cX 3)
          have y4' := keep_cell (p := ⟨Bx, 4, none⟩) hw' lX (cX 4)
          apply Calm.calm_value
          go_simp
          exact rfl
        intro K hK; go_simp; refine hK _ ?_; clear hK K
      refine Calm.calm_step rfl rfl rfl ?_; apply Exists.intro; refine ⟨fun w' hw' => ?_, ?_⟩
      · have z0' := keep_cell (p := ⟨Bo, 0, none⟩) hw' lO (cO 0)
        have z1' := keep_cell (p := ⟨Bo, 1, none⟩) hw' lO (cO 1)
        have z2' := keep_cell (p := ⟨Bo, 2, none⟩) hw' lO (cO 2)
        have z3' := keep_cell (p := ⟨Bo, 3, none⟩) hw' lO (cO 3)
        have z4' := keep_cell (p := ⟨Bo, 4, none⟩) hw' lO (cO 4)
        have y0' := keep_cell (p := ⟨Bx, 0, none⟩) hw' lX (cX 0)
        have y1' := keep_cell (p := ⟨Bx, 1, none⟩) hw' lX (cX 1)
        have y2' := keep_cell (p := ⟨Bx, 2, none⟩) hw' lX (cX 2)
        have y3' := keep_cell (p := ⟨Bx, 3, none⟩) hw' lX (cX 3)
        have y4' := keep_cell (p := ⟨Bx, 4, none⟩) hw' lX (cX 4)
        apply Calm.calm_call
        · go_simp
          exact ⟨rfl, rfl⟩
        refine (f79_r (fun a b => a + b) o.q v.q _ o.k v.k _ 126 w' r 0 hr hoo.1.le hvo.1.le hoo.2 hvo.2 (enters_of Tryz.func126 (by kernel_rfl) rfl) (fun a b w h1 h2 h3 h4 => f126_any a b w (by omega) (by omega) (by omega) (by omega)) rfl rfl (withQ_le (s := true) (raise_le hoo.1.le (by have := hoo.2; have := hvo.2; omega)) (raise_le hvo.1.le (by have := hoo.2; have := hvo.2; omega)))).mono ?_
        rintro e w'' ⟨rfl, hb⟩
        exact ⟨rfl, hb, bt hw' hb⟩
      intro K hK; go_simp; refine hK _ ?_; clear hK K
      iterate 3
        refine Calm.calm_step rfl rfl rfl ?_; apply Exists.intro; refine ⟨fun w' hw' => ?_, ?_⟩
        · have z0' := keep_cell (p := ⟨Bo, 0, none⟩) hw' lO (cO 0)
          have z1' := keep_cell (p := ⟨Bo, 1, none⟩) hw' lO (cO 1)
          have z2' := keep_cell (p := ⟨Bo, 2, none⟩) hw' lO (cO 2)
          have z3' := keep_cell (p := ⟨Bo, 3, none⟩) hw' lO (cO 3)
          have z4' := keep_cell (p := ⟨Bo, 4, none⟩) hw' lO (cO 4)
          have y0' := keep_cell (p := ⟨Bx, 0, none⟩) hw' lX (cX 0)
          have y1' := keep_cell (p := ⟨Bx, 1, none⟩) hw' lX (cX 1)
          have y2' := keep_cell (p := ⟨Bx, 2, none⟩) hw' lX (cX 2)
          have y3' := keep_cell (p := ⟨Bx, 3, none⟩) hw' lX (cX 3)
          have y4' := keep_cell (p := ⟨Bx, 4, none⟩) hw' lX (cX 4)
          apply Calm.calm_value
          go_simp
          exact rfl
        intro K hK; go_simp; refine hK _ ?_; clear hK K
      refine Calm.calm_alloc rfl rfl rfl (fun w' hw' => ?_) (fun B7 hB7 => ?_)
      · have z0' := keep_cell (p := ⟨Bo, 0, none⟩) hw' lO (cO 0)
        have z1' := keep_cell (p := ⟨Bo, 1, none⟩) hw' lO (cO 1)
        have z2' := keep_cell (p := ⟨Bo, 2, none⟩) hw' lO (cO 2)
        have z3' := keep_cell (p := ⟨Bo, 3, none⟩) hw' lO (cO 3)
        have z4' := keep_cell (p := ⟨Bo, 4, none⟩) hw' lO (cO 4)
        have y0' := keep_cell (p := ⟨Bx, 0, none⟩) hw' lX (cX 0)
        have y1' := keep_cell (p := ⟨Bx, 1, none⟩) hw' lX (cX 1)
        have y2' := keep_cell (p := ⟨Bx, 2, none⟩) hw' lX (cX 2)
        have y3' := keep_cell (p := ⟨Bx, 3, none⟩) hw' lX (cX 3)
        have y4' := keep_cell (p := ⟨Bx, 4, none⟩) hw' lX (cX 4)
        refine ⟨by go_simp, hw'.alloc hw'.size _⟩
      intro K hK; go_simp; refine hK _ ?_; clear hK K
      refine Calm.calm_end_lit (fun wk hk => ?_)
      simp only [List.drop_succ_cons, List.drop_zero]
      obtain ⟨hBk, hfacts, _⟩ := hk
      obtain ⟨h71, h72⟩ := hfacts 7 _ _ (by decide) rfl
      change wx.heap.size ≤ B7 at h71
      change Blk wk B7 _ _ at h72
      clear hfacts
      have c7 := h72.cells
      have f7 := h72.frozen
      have hO9 := hOx.below hBk
      have hR9 := hRx.below hBk
      have hC9 := hCx.keep (hBk.block _ hCx.lt)
      have hW9 := bt hWx hBk
      have lRz := hRx.lt
      have lCz := hCx.lt
      have n1 : Bo ≠ B7 := by omega
      have n2 : ¬ (B7 = Bo) := by omega
      have cO9 := hO9.cells
      have fO9 := hO9.frozen
      have lO9 := hO9.lt
      have l79 := h72.lt
      clear hOx hRx hCx hWx hXx cX lX cO lO hB7
      have lRx := hR9.lt
      have lCx := hC9.lt
      go_wp2_with (fail)
      refine NoPanic.normal ?_
      have hF7 := (((((h72.set 0 (.int .i64 r.q.a)).set 1 (.int .i64 r.q.b)).set 2 (.int .i64 r.q.c)).set 3 (.int .i64 r.q.d)).set 4 (.int .i64 r.k))
      have hOF := (((((hO9.far (p := ⟨B7, 0, none⟩) (by first | (simp; done) | (simp; omega)) (.int .i64 r.q.a)).far (p := ⟨B7, 1, none⟩) (by first | (simp; done) | (simp; omega)) (.int .i64 r.q.b)).far (p := ⟨B7, 2, none⟩) (by first | (simp; done) | (simp; omega)) (.int .i64 r.q.c)).far (p := ⟨B7, 3, none⟩) (by first | (simp; done) | (simp; omega)) (.int .i64 r.q.d)).far (p := ⟨B7, 4, none⟩) (by first | (simp; done) | (simp; omega)) (.int .i64 r.k))
      have hRF := (((((hR9.far (p := ⟨B7, 0, none⟩) (by first | (simp; done) | (simp; omega)) (.int .i64 r.q.a)).far (p := ⟨B7, 1, none⟩) (by first | (simp; done) | (simp; omega)) (.int .i64 r.q.b)).far (p := ⟨B7, 2, none⟩) (by first | (simp; done) | (simp; omega)) (.int .i64 r.q.c)).far (p := ⟨B7, 3, none⟩) (by first | (simp; done) | (simp; omega)) (.int .i64 r.q.d)).far (p := ⟨B7, 4, none⟩) (by first | (simp; done) | (simp; omega)) (.int .i64 r.k))
      have hWF := (((((hW9.setCell (p := ⟨B7, 0, none⟩) (by first | (simp; done) | (simp; omega)) (.int .i64 r.q.a)).setCell (p := ⟨B7, 1, none⟩) (by first | (simp; done) | (simp; omega)) (.int .i64 r.q.b)).setCell (p := ⟨B7, 2, none⟩) (by first | (simp; done) | (simp; omega)) (.int .i64 r.q.c)).setCell (p := ⟨B7, 3, none⟩) (by first | (simp; done) | (simp; omega)) (.int .i64 r.q.d)).setCell (p := ⟨B7, 4, none⟩) (by first | (simp; done) | (simp; omega)) (.int .i64 r.k))
      have hCF : RowG (setNum wk B7 0 r) (w.heap.size + 1) n x := hC9.keep (setNum_far wk r (by omega))
      obtain ⟨W7, hW7⟩ : ∃ W7, setNum wk B7 0 r = W7 := ⟨_, rfl⟩
      have hW7' : ((((wk.setCell ⟨B7, 0, none⟩ (.int .i64 r.q.a)).setCell ⟨B7, 1, none⟩ (.int .i64 r.q.b)).setCell ⟨B7, 2, none⟩ (.int .i64 r.q.c)).setCell ⟨B7, 3, none⟩ (.int .i64 r.q.d)).setCell ⟨B7, 4, none⟩ (.int .i64 r.k) = W7 := by rw [← hW7]; simp [setNum]
      rw [hW7] at hCF
      rw [hW7'] at hF7 hOF hRF hWF ⊢
      clear hW7 hW7' h72 hO9 hR9 hC9 hW9 c7 f7 cO9 fO9 hBk l79 lO9
      have c7 := hF7.cells
      have cO9 := hOF.cells
      have fO9 := hOF.frozen
      have lO9 := hOF.lt
      go_wp2_with (fail)
      go_roundg (n - (kk + 1))
      case measure => omega
      case rel => exact ⟨kk + 1, by omega, by omega, by go_num, (show Aside _ from ⟨hBw, r, hreH.out, (((((hOF.set 0 (.int .i64 r.q.a)).set 1 (.int .i64 r.q.b)).set 2 (.int .i64 r.q.c)).set 3 (.int .i64 r.q.d)).set 4 (.int .i64 r.k))⟩), (show Aside _ from (((((hRF.far (p := ⟨Bo, 0, none⟩) (by first | (simp; done) | (simp; omega)) (.int .i64 r.q.a)).far (p := ⟨Bo, 1, none⟩) (by first | (simp; done) | (simp; omega)) (.int .i64 r.q.b)).far (p := ⟨Bo, 2, none⟩) (by first | (simp; done) | (simp; omega)) (.int .i64 r.q.c)).far (p := ⟨Bo, 3, none⟩) (by first | (simp; done) | (simp; omega)) (.int .i64 r.q.d)).far (p := ⟨Bo, 4, none⟩) (by first | (simp; done) | (simp; omega)) (.int .i64 r.k))), (show Aside _ from hCF.keep (by have h := setNum_far W7 (b := Bo) (j := 0) r (k := w.heap.size + 1) (by omega); simpa [setNum] using h)), (show Aside _ from (((((hWF.setCell (p := ⟨Bo, 0, none⟩) (by first | (simp; done) | (simp; omega)) (.int .i64 r.q.a)).setCell (p := ⟨Bo, 1, none⟩) (by first | (simp; done) | (simp; omega)) (.int .i64 r.q.b)).setCell (p := ⟨Bo, 2, none⟩) (by first | (simp; done) | (simp; omega)) (.int .i64 r.q.c)).setCell (p := ⟨Bo, 3, none⟩) (by first | (simp; done) | (simp; omega)) (.int .i64 r.q.d)).setCell (p := ⟨Bo, 4, none⟩) (by first | (simp; done) | (simp; omega)) (.int .i64 r.k)))⟩
    · have hltz : ¬ (kk : Int) < (n : Int) := by omega
      obtain rfl : kk = n := by omega
      obtain rfl : r0 = o := hr0.out.symm.trans ho
      clear hlt
      have cO9 := hO.cells
      have cR := hR.cells
      have fR := hR.frozen
      have lR := hR.lt
      go_wp2_with (fail)
      have hF := (((((hR.set 0 (.int .i64 r0.q.a)).set 1 (.int .i64 r0.q.b)).set 2 (.int .i64 r0.q.c)).set 3 (.int .i64 r0.q.d)).set 4 (.int .i64 r0.k))
      have cF := hF.cells
      refine bodyPost_ret (v := .tuple #[.agg #[.int .i64 r0.q.a, .int .i64 r0.q.b, .int .i64 r0.q.c, .int .i64 r0.q.d, .int .i64 r0.k], .int .i64 0]) (by simp [results, Tryz.results81, go_sem, cF]) rfl ⟨rfl, (((((hW.setCell (p := ⟨w.heap.size, 0, none⟩) (by first | (simp; done) | (simp; omega)) (.int .i64 r0.q.a)).setCell (p := ⟨w.heap.size, 1, none⟩) (by first | (simp; done) | (simp; omega)) (.int .i64 r0.q.b)).setCell (p := ⟨w.heap.size, 2, none⟩) (by first | (simp; done) | (simp; omega)) (.int .i64 r0.q.c)).setCell (p := ⟨w.heap.size, 3, none⟩) (by first | (simp; done) | (simp; omega)) (.int .i64 r0.q.d)).setCell (p := ⟨w.heap.size, 4, none⟩) (by first | (simp; done) | (simp; omega)) (.int .i64 r0.k))⟩
end
section
open Go.RowKit
attribute [local go_sem ↓] Go.wp_at_zero Go.wp_at_succ
theorem numsFlat_succ (x : Nat → Num) (n : Nat) : numsFlat x (n + 1) = numsFlat x n ++ (x n).cells := by
  unfold numsFlat
  rw [List.range_succ, List.map_append, List.flatten_append]
  simp
theorem own_nums {w : World} {base n g cap : Nat} {x : Nat → Num} (h : w.ownsRow base 38 5 (.slice (some ⟨g, 0, none⟩) n cap) n (numsFlat x n)) : ∀ j, j < n → NumAt w g (0 + j * 5) (x j) := by
  intro j hj
  have hc := fun q u hu => World.ownsRow.cells h (g := g) rfl q u hu
  have e := fun r v (hv : (x j).cells[r]? = some v) => hc _ v (numsFlat_at x n j r v hj hv)
  have f : ∀ r v, (x j).cells[r]? = some v → w.cell? ⟨g, 0 + j * 5 + r, none⟩ = some v := fun r v hv => by
    have := e r v hv
    rw [Addr.add_lit] at this
    rwa [Nat.add_assoc]
  exact ⟨f 0 _ rfl, f 1 _ rfl, f 2 _ rfl, f 3 _ rfl, f 4 _ rfl⟩
set_option maxHeartbeats 1000000 in
set_option maxRecDepth 100000 in
theorem f34_any {A : Option Addr} {n : Nat} {M : Nat → Nat → Num} (c : Nat) (r0 : Num) (w : World) (HM : Mat w A n n M) (hM : ∀ i j, i < n → j < n → (M i j).ok) (HS : SumOk (fun i => M i i) n) (hr0 : Hid (sumF (fun i => M i i) n = r0)) :
    Calls Tryz.prog 34 #[.slice A n c] w fun e w' => e = .returned (.tuple #[.agg #[.int .i64 r0.q.a, .int .i64 r0.q.b, .int .i64 r0.q.c, .int .i64 r0.q.d, .int .i64 r0.k], .int .i64 0]) ∧ Below w.heap.size w w' := by
  have HM0 := HM
  obtain ⟨b, off, rb, ro, rc, rfl, HM⟩ := HM
  have hd := HM.dims
  have hR0 := Blk.new w 38 #[.int .i64 0, .int .i64 0, .int .i64 0, .int .i64 0, .int .i64 0]
  have hb0 : Below w.heap.size w (w.alloc (.cells #[.int .i64 0, .int .i64 0, .int .i64 0, .int .i64 0, .int .i64 0] 38)) := (Below.refl _ _).alloc (Nat.le_refl _) _
  go_enter Tryz.func34, Tryz.ntmps34
  go_wp2_with (first
    | (go_at_call 39; refine (f39_mat c (HM0.below hb0) hM).mono ?_; rintro e w1 ⟨rfl, hb1⟩; have hW1 := bt hb0 hb1; have hR1 := hR0.below hb1)
    | (go_at_call 43; refine (f43_mat c (HM0.below hW1) rfl).mono ?_; rintro e w2 ⟨rfl, hb2⟩; have hW2 := bt hW1 hb2; have hR2 := hR1.below hb2))
  go_loopg [5, 20] n (fun gg s5 s20 wr => ∃ kk : Nat, kk ≤ n ∧ n - kk ≤ gg ∧ s20 = .int .i64 kk ∧ Aside (wr.ownsRow (w.heap.size + 1) 38 5 s5 kk (numsFlat (fun i => M i i) kk)) ∧ Aside (Blk wr w.heap.size 38 #[.int .i64 0, .int .i64 0, .int .i64 0, .int .i64 0, .int .i64 0]) ∧ Aside (Below w.heap.size w wr))
  case atStart => exact ⟨0, Nat.zero_le _, by omega, rfl, (show Aside _ from World.ownsRow_nil _ _ _ _), (show Aside _ from hR2), (show Aside _ from hW2)⟩
  case round =>
    obtain ⟨kk, hkk, hg, rfl, AO, AR, AW⟩ := hrel
    have hO := AO.out
    have hR := AR.out
    have hW := AW.out
    clear AO AR AW
    by_cases hlt : kk < n
    · have hltz : (kk : Int) < (n : Int) := by omega
      have G := HM.below hW
      obtain ⟨g1, g2⟩ := G.row kk hlt
      have gn := G.num kk kk hlt hlt
      obtain ⟨v, hv⟩ : ∃ v, M kk kk = v := ⟨_, rfl⟩
      rw [hv] at gn
      obtain ⟨y0, y1, y2, y3, y4⟩ := gn
      have hlR := hR.lt
      have hbN := (Below.refl _ wr).alloc (Nat.le_refl _) (.cells #[.int .i64 v.q.a, .int .i64 v.q.b, .int .i64 v.q.c, .int .i64 v.q.d, .int .i64 v.k] 38)
      have hN := Blk.new wr 38 #[.int .i64 v.q.a, .int .i64 v.q.b, .int .i64 v.q.c, .int .i64 v.q.d, .int .i64 v.k]
      have hO1 := ownsRow_alloc hO (.cells #[.int .i64 v.q.a, .int .i64 v.q.b, .int .i64 v.q.c, .int .i64 v.q.d, .int .i64 v.k] 38)
      have hvH : Hid (M kk kk = v) := hv
      clear hv G
      go_wp2_with (at_builtin; refine wl_app rfl _ _ 72 rfl (w.heap.size + 1) 38 _ 5 40 und72 info38 rfl (by decide) (by decide) _ _ _ rfl hO1 wr.heap.size 38 #[.int .i64 v.q.a, .int .i64 v.q.b, .int .i64 v.q.c, .int .i64 v.q.d, .int .i64 v.k] rfl hN rfl (by simp [Value.oneCell']) (by omega) (by simp; omega) (wr.heap.size + 1) (by simp) ?_; intro g cap w2 hO2 hgr hat hlt2)
      have hrow := ownsRow_block hO
      go_roundg (n - (kk + 1))
      case measure => omega
      case rel =>
        refine ⟨kk + 1, by omega, by omega, by go_num, (show Aside _ from ?_), (show Aside _ from (hR.alloc (.cells #[.int .i64 v.q.a, .int .i64 v.q.b, .int .i64 v.q.c, .int .i64 v.q.d, .int .i64 v.k] 38)).grown hgr (fun e => by have := (hrow _ e).1; omega)), (show Aside _ from below_app (bt hW hbN) hgr (fun k hk => by have := (hrow k hk).1; omega))⟩
        rw [numsFlat_succ]
        show World.ownsRow _ _ _ _ _ _ (numsFlat (fun i => M i i) kk ++ (M kk kk).cells)
        rw [hvH.out]
        exact hO2
    · have hltz : ¬ (kk : Int) < (n : Int) := by omega
      obtain rfl : kk = n := by omega
      clear hlt
      obtain ⟨g, cap, rfl, hlo, hgl⟩ := World.ownsRow.form hO (by omega)
      have H81 := f81_any g 0 kk cap (fun i => M i i) r0 wr (by omega) (by omega) hgl (own_nums hO) HS hr0
      go_wp2_with (go_at_call 81; refine H81.mono ?_; rintro e w3 ⟨rfl, hb3⟩; have hR3 := hR.below hb3; have cR := hR3.cells; have fR := hR3.frozen; have lR := hR3.lt)
      have hW3 := bt hW hb3
      have hF := (((((hR3.set 0 (.int .i64 r0.q.a)).set 1 (.int .i64 r0.q.b)).set 2 (.int .i64 r0.q.c)).set 3 (.int .i64 r0.q.d)).set 4 (.int .i64 r0.k))
      have cF := hF.cells
      refine bodyPost_ret (v := .tuple #[.agg #[.int .i64 r0.q.a, .int .i64 r0.q.b, .int .i64 r0.q.c, .int .i64 r0.q.d, .int .i64 r0.k], .int .i64 0]) (by simp [results, Tryz.results34, go_sem, cF]) rfl ⟨rfl, (((((hW3.setCell (p := ⟨w.heap.size, 0, none⟩) (by first | (simp; done) | (simp; omega)) (.int .i64 r0.q.a)).setCell (p := ⟨w.heap.size, 1, none⟩) (by first | (simp; done) | (simp; omega)) (.int .i64 r0.q.b)).setCell (p := ⟨w.heap.size, 2, none⟩) (by first | (simp; done) | (simp; omega)) (.int .i64 r0.q.c)).setCell (p := ⟨w.heap.size, 3, none⟩) (by first | (simp; done) | (simp; omega)) (.int .i64 r0.q.d)).setCell (p := ⟨w.heap.size, 4, none⟩) (by first | (simp; done) | (simp; omega)) (.int .i64 r0.k))⟩
end
section
open Go.RowKit
attribute [local go_sem ↓] Go.wp_at_zero Go.wp_at_succ
set_option maxHeartbeats 1000000 in
set_option maxRecDepth 100000 in
theorem f82_one (B T b off n c : Nat) (x : Nat → Num) (w : World) (hB : Blk w B T #[.slice (some ⟨b, off, none⟩) n c]) (h1 : 1 ≤ n) (h2 : n ≤ 64) (lb : b < w.heap.size) (hx : ∀ j, j < n → NumAt w b (off + j * 5) (x j)) (hok : ∀ j, j < n → (x j).ok) :
    Calls Tryz.prog 82 #[.slice (some ⟨B, 0, none⟩) 1 1] w fun e w' => e = .returned (.int .i64 0) ∧ Below w.heap.size w w' := by
  go_enter Tryz.func82, Tryz.ntmps82
  go_wp2
  go_loopg [10] 1 (fun gg s10 wr => ∃ kk : Nat, kk ≤ 1 ∧ 1 - kk ≤ gg ∧ s10 = .int .i64 kk ∧ Aside (Below w.heap.size w wr))
  case atStart => exact ⟨0, Nat.zero_le _, by omega, rfl, (show Aside _ from Below.refl _ _)⟩
  case round =>
    obtain ⟨kk, hkk, hg, rfl, AW⟩ := hrel
    have hW := AW.out
    clear AW
    by_cases hlt : kk < 1
    · obtain rfl : kk = 0 := by omega
      have cB := (hB.below hW).cells
      go_wp2_with (go_at_call 54; refine (f54_any n _ h1 h2).mono ?_; rintro e w1 ⟨rfl, hb1⟩)
      have hW1 := bt hW hb1
      go_loopg [20] n (fun gg s20 wq => ∃ jj : Nat, jj ≤ n ∧ n - jj ≤ gg ∧ s20 = .int .i64 jj ∧ Aside (Below w.heap.size w wq))
      case atStart => exact ⟨0, Nat.zero_le _, by omega, rfl, (show Aside _ from hW1)⟩
      case round =>
        obtain ⟨jj, hjj, hg', rfl, AW⟩ := hrel
        have hWq := AW.out
        clear AW
        by_cases hlt' : jj < n
        · have hltz : (jj : Int) < (n : Int) := by omega
          have gn := (hx jj hlt').below hWq lb
          have go := hok jj hlt'
          obtain ⟨v, hv⟩ : ∃ v, x jj = v := ⟨_, rfl⟩
          rw [hv] at gn go
          obtain ⟨y0, y1, y2, y3, y4⟩ := gn
          clear hv hx hok
          go_wp2_with (go_at_call 71; refine (f71_any v.q v.k _ go).mono ?_; rintro e w2 ⟨rfl, hb2⟩)
          go_roundg (n - (jj + 1))
          case measure => omega
          case rel => exact ⟨jj + 1, by omega, by omega, by go_num, (show Aside _ from bt (hWq.alloc hWq.size _) hb2)⟩
        · have hltz : ¬ (jj : Int) < (n : Int) := by omega
          obtain rfl : jj = n := by omega
          clear hx hok
          go_wp2_with (fail)
          go_roundg (1 - (0 + 1))
          case measure => omega
          case rel => exact ⟨1, by omega, by omega, by go_num, (show Aside _ from hWq)⟩
    · obtain rfl : kk = 1 := by omega
      clear hx hok
      go_wp2
      go_ret
      exact ⟨rfl, hW⟩
def dotV (M : Nat → Nat → Num) (x : Nat → Num) (n i : Nat) : Num := dots (fun l => M i l) x n
def ApplyPost (h : Nat) (y : Nat → Num) (w : World) (e : Ending) (w' : World) : Prop := ∃ g cap, e = .returned (.tuple #[.slice (some ⟨g, 0, none⟩) h cap, .int .i64 0]) ∧ w.heap.size < g ∧ g < w'.heap.size ∧ (∀ i, i < h → NumAt w' g (0 + i * 5) (y i)) ∧ Below w.heap.size w w'
set_option maxHeartbeats 2000000 in
set_option maxRecDepth 100000 in
theorem f35_any {A : Option Addr} {h n : Nat} {M : Nat → Nat → Num} (c b off vc : Nat) (x : Nat → Num) (w : World) (HM : Mat w A h n M) (hM : ∀ i j, i < h → j < n → (M i j).ok) (lb : b < w.heap.size) (hx : ∀ j, j < n → NumAt w b (off + j * 5) (x j)) (hxo : ∀ j, j < n → (x j).ok)
    (HD : ∀ i, i < h → DotOk (fun l => M i l) x n) :
    Calls Tryz.prog 35 #[.slice A h c, .slice (some ⟨b, off, none⟩) n vc] w (ApplyPost h (dotV M x n) w) := by
  have HM0 := HM
  obtain ⟨b1, off1, rb, ro, rc, rfl, HM⟩ := HM
  have hd := HM.dims
  have hV0 := Blk.new w 72 #[.slice (some ⟨b, off, none⟩) n vc]
  have hb0 : Below w.heap.size w (w.alloc (.cells #[.slice (some ⟨b, off, none⟩) n vc] 72)) := (Below.refl _ _).alloc (Nat.le_refl _) _
  go_enter Tryz.func35, Tryz.ntmps35
  go_wp2_with (first
    | (go_at_call 39; refine (f39_mat c (HM0.below hb0) hM).mono ?_; rintro e w1 ⟨rfl, hbx1⟩; have hW1 := bt hb0 hbx1; have hV1 := hV0.below hbx1; have cV1 := hV1.cells; have hbN := (Below.refl _ w1).alloc (Nat.le_refl _) (.cells #[.slice (some ⟨b, off, none⟩) n vc] 72); have hN1 := Blk.new w1 72 #[.slice (some ⟨b, off, none⟩) n vc]; have hWN := bt hW1 hbN)
    | (go_at_call 82; refine (f82_one w1.heap.size 72 b off n vc x _ hN1 hd.2.2.1 hd.2.2.2 (Nat.lt_of_lt_of_le lb hWN.size) (fun j hj => (hx j hj).below hWN lb) hxo).mono ?_; rintro e w2 ⟨rfl, hbx2⟩; have hW2 := bt hWN hbx2; have hV2 := (hV1.below hbN).below hbx2; have cV2 := hV2.cells))
  have lV2 := hV2.lt
  refine Calm.wp_region_calm 5 [] (by kernel_rfl) (by kernel_rfl) (by decide) (fun w' => Below w2.heap.size w2 w') (0) (fun _ _ => Nat.zero_le _) (Below.refl _ _).drew ?_
  show Calm.WalkI _ _ _ _ _ _ [0, 1, 2, 3, 4] _ _
  iterate 1
    refine Calm.calm_step rfl rfl rfl ?_; apply Exists.intro; refine ⟨fun w' hw' => ?_, ?_⟩
    · have v0 := keep_cell (p := ⟨w.heap.size, 0, none⟩) hw' lV2 (cV2 0)
      apply Calm.calm_value
      go_simp
      exact rfl
    intro K hK; go_simp; refine hK _ ?_; clear hK K
  refine Calm.calm_step rfl rfl rfl ?_; apply Exists.intro; refine ⟨fun w' hw' => ?_, ?_⟩
  · have v0 := keep_cell (p := ⟨w.heap.size, 0, none⟩) hw' lV2 (cV2 0)
    apply Calm.calm_call
    · go_simp
      exact ⟨rfl, rfl⟩
    refine (f62_mat c ((HM0.below hW2).below hw')).mono ?_
    rintro e w'' ⟨rfl, hb⟩
    exact ⟨rfl, hb, bt hw' hb⟩
  intro K hK; go_simp; refine hK _ ?_; clear hK K
  iterate 3
    refine Calm.calm_step rfl rfl rfl ?_; apply Exists.intro; refine ⟨fun w' hw' => ?_, ?_⟩
    · have v0 := keep_cell (p := ⟨w.heap.size, 0, none⟩) hw' lV2 (cV2 0)
      apply Calm.calm_value
      go_simp
      exact rfl
    intro K hK; go_simp; refine hK _ ?_; clear hK K
  refine Calm.calm_end_lit (fun wk hk => ?_)
  simp only [List.drop_succ_cons, List.drop_zero]
  obtain ⟨hb3, _, _⟩ := hk
  have hW3 := bt hW2 hb3
  have hV3 := hV2.below hb3
  clear cV1 cV2 hb3 hV1 hbx1 hbx2 hN1 hbN hWN hW1 hW2 hV2 lV2
  go_wp2_with (fail)
  go_loopg [8, 31] h (fun gg s8 s31 wr => ∃ kk : Nat, kk ≤ h ∧ h - kk ≤ gg ∧ s31 = .int .i64 kk ∧ Aside (wr.ownsRow (w.heap.size + 1) 38 5 s8 kk (numsFlat (dotV M x n) kk)) ∧ Aside (Blk wr w.heap.size 72 #[.slice (some ⟨b, off, none⟩) n vc]) ∧ Aside (Below w.heap.size w wr))
  case atStart => exact ⟨0, Nat.zero_le _, by omega, rfl, (show Aside _ from World.ownsRow_nil _ _ _ _), (show Aside _ from hV3), (show Aside _ from hW3)⟩
  case round =>
    obtain ⟨kk, hkk, hg, rfl, AO, AR, AW⟩ := hrel
    have hO := AO.out
    have hV := AR.out
    have hW := AW.out
    clear AO AR AW
    by_cases hlt : kk < h
    · have hltz : (kk : Int) < (h : Int) := by omega
      have G := HM.below hW
      obtain ⟨g1, g2⟩ := G.row kk hlt
      have hbN := (Below.refl _ wr).alloc (Nat.le_refl _) (.cells #[.slice (some ⟨rb kk, ro kk, none⟩) n (rc kk)] 72)
      have hN := Blk.new wr 72 #[.slice (some ⟨rb kk, ro kk, none⟩) n (rc kk)]
      have hVN := hV.below hbN
      have cVN := hVN.cells
      have hWN := bt hW hbN
      have hO1 := ownsRow_alloc hO (.cells #[.slice (some ⟨rb kk, ro kk, none⟩) n (rc kk)] 72)
      have hnx : NumFn 84 #[.pointer (some ⟨wr.heap.size, 0, none⟩)] n (fun l => M kk l) (wr.alloc (.cells #[.slice (some ⟨rb kk, ro kk, none⟩) n (rc kk)] 72)) := fun W i hi hb =>
        f84_any i n (rb kk) (ro kk) (rc kk) wr.heap.size (M kk i) W hi hd.2.2.2 (Nat.lt_of_lt_of_le hN.lt hb.size) ((hN.below hb).cells 0) (Nat.lt_of_lt_of_le (Nat.lt_of_lt_of_le g2 hbN.size) hb.size) (((G.num kk i hlt hi).below hbN g2).below hb (Nat.lt_of_lt_of_le g2 hbN.size))
      have hny : NumFn 85 #[.pointer (some ⟨w.heap.size, 0, none⟩)] n x (wr.alloc (.cells #[.slice (some ⟨rb kk, ro kk, none⟩) n (rc kk)] 72)) := fun W i hi hb =>
        f85_any i n b off vc w.heap.size (x i) W hi hd.2.2.2 (Nat.lt_of_lt_of_le hVN.lt hb.size) ((hVN.below hb).cells 0) (Nat.lt_of_lt_of_le lb (bt hWN hb).size) ((hx i hi).below (bt hWN hb) lb)
      obtain ⟨d, hdd⟩ : ∃ d, dots (fun l => M kk l) x n = d := ⟨_, rfl⟩
      have H83 := f83_any 84 85 _ _ (enters_of Tryz.func84 (by kernel_rfl) rfl) (enters_of Tryz.func85 (by kernel_rfl) rfl) n _ _ _ hd.2.2.2 hnx hny (HD kk hlt)
      rw [hdd] at H83
      have hdH : Hid (dotV M x n kk = d) := hdd
      have hlV := hV.lt
      clear hnx hny G hdd
      go_wp2_with (first
        | (go_at_call 83; refine H83.mono ?_; clear H83; rintro e w4 ⟨rfl, hb4⟩; have hO4 := ownsRow_below hO1 hb4; have hD4 := Blk.new w4 38 #[.int .i64 d.q.a, .int .i64 d.q.b, .int .i64 d.q.c, .int .i64 d.q.d, .int .i64 d.k]; have hbD := (Below.refl _ w4).alloc (Nat.le_refl _) (.cells #[.int .i64 d.q.a, .int .i64 d.q.b, .int .i64 d.q.c, .int .i64 d.q.d, .int .i64 d.k] 38); have hN5 := Blk.new (w4.alloc (.cells #[.int .i64 d.q.a, .int .i64 d.q.b, .int .i64 d.q.c, .int .i64 d.q.d, .int .i64 d.k] 38)) 38 #[.int .i64 d.q.a, .int .i64 d.q.b, .int .i64 d.q.c, .int .i64 d.q.d, .int .i64 d.k]; have hO5 := ownsRow_alloc (ownsRow_alloc hO4 (.cells #[.int .i64 d.q.a, .int .i64 d.q.b, .int .i64 d.q.c, .int .i64 d.q.d, .int .i64 d.k] 38)) (.cells #[.int .i64 d.q.a, .int .i64 d.q.b, .int .i64 d.q.c, .int .i64 d.q.d, .int .i64 d.k] 38); have hs5 : w.heap.size + 1 ≤ ((w4.alloc (.cells #[.int .i64 d.q.a, .int .i64 d.q.b, .int .i64 d.q.c, .int .i64 d.q.d, .int .i64 d.k] 38)).alloc (.cells #[.int .i64 d.q.a, .int .i64 d.q.b, .int .i64 d.q.c, .int .i64 d.q.d, .int .i64 d.k] 38)).heap.size := (by have h1 := hWN.size; have h2 := hb4.size; simp at *; omega); have cD4 := hD4.cells; have e5 : (w4.alloc (.cells #[.int .i64 d.q.a, .int .i64 d.q.b, .int .i64 d.q.c, .int .i64 d.q.d, .int .i64 d.k] 38)).heap.size = w4.heap.size + 1 := (by simp); rw [e5] at hN5; clear e5)
        | (at_builtin; refine wl_app rfl _ _ 72 rfl (w.heap.size + 1) 38 _ 5 40 und72 info38 rfl (by decide) (by decide) _ _ _ rfl hO5 (w4.heap.size + 1) 38 #[.int .i64 d.q.a, .int .i64 d.q.b, .int .i64 d.q.c, .int .i64 d.q.d, .int .i64 d.k] rfl hN5 rfl (by simp [Value.oneCell']) (by omega) hs5 (w4.heap.size + 2) (by simp) ?_; intro g cap w6 hO6 hgr hat hlt6))
      have hrow := ownsRow_block hO
      have hW5 := ((bt hWN hb4).alloc (bt hWN hb4).size (.cells #[.int .i64 d.q.a, .int .i64 d.q.b, .int .i64 d.q.c, .int .i64 d.q.d, .int .i64 d.k] 38))
      have hW5' := hW5.alloc hW5.size (.cells #[.int .i64 d.q.a, .int .i64 d.q.b, .int .i64 d.q.c, .int .i64 d.q.d, .int .i64 d.k] 38)
      go_roundg (h - (kk + 1))
      case measure => omega
      case rel =>
        refine ⟨kk + 1, by omega, by omega, by go_num, (show Aside _ from ?_), (show Aside _ from (((hVN.below hb4).alloc (.cells #[.int .i64 d.q.a, .int .i64 d.q.b, .int .i64 d.q.c, .int .i64 d.q.d, .int .i64 d.k] 38)).alloc (.cells #[.int .i64 d.q.a, .int .i64 d.q.b, .int .i64 d.q.c, .int .i64 d.q.d, .int .i64 d.k] 38)).grown hgr (fun e => by have := (hrow _ e).1; omega)), (show Aside _ from below_app hW5' hgr (fun k hk => by have := (hrow k hk).1; omega))⟩
        rw [numsFlat_succ, hdH.out]
        exact hO6
    · have hltz : ¬ (kk : Int) < (h : Int) := by omega
      obtain rfl : kk = h := by omega
      clear hlt hx hxo hM HD
      obtain ⟨g, cap, rfl, hlo, hgl⟩ := World.ownsRow.form hO (by omega)
      go_wp2_with (fail)
      exact bodyPost_ret (v := .tuple #[.slice (some ⟨g, 0, none⟩) kk cap, .int .i64 0]) (by simp [results, Tryz.results35, go_sem]) rfl ⟨g, cap, rfl, hlo, hgl, own_nums hO, hW⟩
end
section
open Go.RowKit
attribute [local go_sem ↓] Go.wp_at_zero Go.wp_at_succ
theorem f41_any (i n B : Nat) (w : World) (hi : i < n) (hn : n ≤ 6) (hB : w.cell? ⟨B, 0, none⟩ = some (.int .i64 n)) :
    Calls Tryz.prog 41 #[.int .i64 i, .pointer (some ⟨B, 0, none⟩)] w fun e w' => e = .returned (.bool true) ∧ Below w.heap.size w w' := by
  have h1 : (0 : Int) ≤ (i : Int) := by omega
  have h2 : (i : Int) < (n : Int) := by omega
  go_enter Tryz.func41, Tryz.ntmps41
  go_wp2
  go_ret
  exact ⟨rfl, Below.refl _ _⟩
/-- the values of the first m wires of a list, and the rest -/
def spI (ls : List Nat) : Nat → Nat → Nat × Nat
  | 0, k => (0, k)
  | m + 1, k => ((spI ls m (andNot k (2 ^ ls.getD m 0))).1 ||| (k / 2 ^ ls.getD m 0 % 2) * 2 ^ m, (spI ls m (andNot k (2 ^ ls.getD m 0))).2)
theorem spI_le (ls : List Nat) : ∀ m k, (spI ls m k).2 ≤ k
  | 0, k => Nat.le_refl _
  | m + 1, k => Nat.le_trans (spI_le ls m _) Nat.and_le_left
theorem spI_lt (ls : List Nat) : ∀ m k, (spI ls m k).1 < 2 ^ m
  | 0, k => by simp [spI]
  | m + 1, k => by
    have h := spI_lt ls m (andNot k (2 ^ ls.getD m 0))
    refine Nat.or_lt_two_pow (Nat.lt_of_lt_of_le h (Nat.pow_le_pow_right (by decide) (by omega))) ?_
    have h2 : k / 2 ^ ls.getD m 0 % 2 < 2 := Nat.mod_lt _ (by decide)
    rw [Nat.pow_succ]
    have hp := Nat.two_pow_pos m
    obtain h3 | h3 : k / 2 ^ ls.getD m 0 % 2 = 0 ∨ k / 2 ^ ls.getD m 0 % 2 = 1 := by omega
    · rw [h3]; omega
    · rw [h3]; omega
set_option maxHeartbeats 2000000 in
set_option maxRecDepth 100000 in
theorem f44_any (ls : List Nat) (lb lc Bf N : Nat) (w0 : World) (hl : ∀ j, j < N → ls.getD j 0 < 6) (hN : N ≤ 6) (hNc : N ≤ lc) (hlb0 : lb < w0.heap.size) (hBf0 : Bf < w0.heap.size)
    (hls0 : ∀ j, j < N → w0.cell? ⟨lb, j, none⟩ = some (.int .i64 (ls.getD j 0))) (hcf0 : w0.cell? ⟨Bf, 0, none⟩ = some (.func (.func 44) #[] #[.pointer (some ⟨Bf, 0, none⟩)])) :
    ∀ m, m ≤ N → ∀ (w : World) (k : Nat), k < 64 → Below w0.heap.size w0 w → Calls Tryz.prog 44 #[.int .i64 k, .slice (some ⟨lb, 0, none⟩) m lc, .pointer (some ⟨Bf, 0, none⟩)] w fun e w' => e = .returned (.tuple #[.int .i64 (spI ls m k).1, .int .i64 (spI ls m k).2]) ∧ Below w.heap.size w w' := by
  have e44 : ∀ args w, (callFunc 44 args).run Tryz.prog w = .ok (.enter 44 args) w := enters_of Tryz.func44 (by kernel_rfl) rfl
  intro m
  induction m with
  | zero =>
    intro _ w k hk hb
    go_enter Tryz.func44, Tryz.ntmps44
    go_wp2_with (fail)
    exact bodyPost_ret (v := .tuple #[.int .i64 0, .int .i64 k]) (by simp [results, Tryz.results44, go_sem]) rfl ⟨rfl, Below.refl _ _⟩
  | succ m ih0 =>
    intro hm w k hk hb
    have hlm := keep_cell (p := ⟨lb, m, none⟩) hb hlb0 (hls0 m (by omega))
    have hcf := keep_cell (p := ⟨Bf, 0, none⟩) hb hBf0 hcf0
    have hlb := Nat.lt_of_lt_of_le hlb0 hb.size
    have hBf := Nat.lt_of_lt_of_le hBf0 hb.size
    have hq := hl m (by omega)
    have hS1 : (spI ls (m + 1) k).1 = (spI ls m (andNot k (2 ^ ls.getD m 0))).1 ||| (k / 2 ^ ls.getD m 0 % 2) * 2 ^ m := rfl
    have hS2 : (spI ls (m + 1) k).2 = (spI ls m (andNot k (2 ^ ls.getD m 0))).2 := rfl
    obtain ⟨q, hqe⟩ : ∃ q, ls.getD m 0 = q := ⟨_, rfl⟩
    rw [hqe] at hlm hq hS1 hS2
    have hk' : andNot k (2 ^ q) ≤ k := Nat.and_le_left
    have e5 := i64_andNot k (2 ^ q) (by omega) (by have := pw6 q (by omega); omega)
    obtain ⟨k', hke⟩ : ∃ k', andNot k (2 ^ q) = k' := ⟨_, rfl⟩
    rw [hke] at hk' e5 hS1 hS2
    have ih := fun W => ih0 (by omega) W k' (by omega)
    clear ih0
    obtain ⟨r1, hr1⟩ : ∃ r1, (spI ls m k').1 = r1 := ⟨_, rfl⟩
    obtain ⟨r2, hr2⟩ : ∃ r2, (spI ls m k').2 = r2 := ⟨_, rfl⟩
    have hr1l := spI_lt ls m k'
    rw [hr1] at ih hS1 hr1l
    rw [hr2] at ih hS2
    obtain ⟨a, ha⟩ : ∃ a, k / 2 ^ q % 2 = a := ⟨_, rfl⟩
    rw [ha] at hS1
    have ha2 : a < 2 := by omega
    have hx2 : k / 2 ^ q ≤ k := Nat.div_le_self _ _
    have hp2 : 2 ^ m ≤ 32 := pw6 m (by omega)
    have e1 : bits BinOp.and IntKind.i64 ((k : Int) / 2 ^ q) 1 = (a : Int) := by
      rw [show ((k : Int) / 2 ^ q) = ((k / 2 ^ q : Nat) : Int) from by simp]
      have := i64_and (k / 2 ^ q) 1 (by omega) (by omega)
      rw [Nat.and_one_is_mod, ha] at this
      exact this
    have e2 := w64m a m ha2 (by omega)
    have e3 := i64_or r1 (a * 2 ^ m) (by omega) (w64b a m ha2 (by omega))
    have e4 := w64p q (by omega)
    have e4' : IntKind.i64.wrap (2 ^ q) = ((2 ^ q : Nat) : Int) := by rw [IntKind.wrap_i64]; have h := e4; unfold wrap64 at h; exact h
    have e6 : IntKind.i64.wrap ((m : Int) + 1 - 1) = (m : Int) := by rw [IntKind.wrap_i64]; omega
    rw [← hS1] at e3
    obtain ⟨o1, ho1⟩ : ∃ o1, (spI ls (m + 1) k).1 = o1 := ⟨_, rfl⟩
    obtain ⟨o2, ho2⟩ : ∃ o2, (spI ls (m + 1) k).2 = o2 := ⟨_, rfl⟩
    rw [ho1] at e3
    obtain ⟨m1, hm1⟩ : ∃ m1, a * 2 ^ m = m1 := ⟨_, rfl⟩
    obtain ⟨m2, hm2⟩ : ∃ m2, 2 ^ q = m2 := ⟨_, rfl⟩
    rw [hm1] at e2 e3
    rw [hm2] at e4 e4' e5
    obtain rfl : o2 = r2 := ho2.symm.trans hS2
    rw [ho1, ho2]
    have hmc : ¬ (lc : Int) < (m : Int) := by omega
    have hmz : (0 : Int) ≤ (m : Int) := by omega
    have hmz2 : (m : Int) < (m : Int) + 1 := by omega
    clear hS1 hS2 hqe hke hr1 hr2 ha ho1 ho2 hm1 hm2 hx2 hls0 hcf0
    go_enter Tryz.func44, Tryz.ntmps44
    go_wp2_with (fail)
    refine Calm.wp_region_calm 17 [] (by kernel_rfl) (by kernel_rfl) (by decide) (fun w' => Below w.heap.size w w') (0) (fun _ _ => Nat.zero_le _) (Below.refl _ _).drew ?_
    show Calm.WalkI _ _ _ _ _ _ [0, 1, 2, 3, 4, 5, 6, 7, 8, 9, 10, 11, 12, 13, 14, 15, 16] _ _
    iterate 11
      refine Calm.calm_step rfl rfl rfl ?_; apply Exists.intro; refine ⟨fun w' hw' => ?_, ?_⟩
      · have cf := keep_cell (p := ⟨Bf, 0, none⟩) hw' hBf hcf
        have cl := keep_cell (p := ⟨lb, m, none⟩) hw' hlb hlm
        apply Calm.calm_value
        go_simp
        exact rfl
      intro K hK; go_simp; refine hK _ ?_; clear hK K
    refine Calm.calm_step rfl rfl rfl ?_; apply Exists.intro; refine ⟨fun w' hw' => ?_, ?_⟩
    · have cf := keep_cell (p := ⟨Bf, 0, none⟩) hw' hBf hcf
      have cl := keep_cell (p := ⟨lb, m, none⟩) hw' hlb hlm
      apply Calm.calm_call
      · go_simp
        exact ⟨rfl, rfl⟩
      refine (ih w' (bt hb hw')).mono ?_
      rintro e w'' ⟨rfl, hb⟩
      exact ⟨rfl, hb, bt hw' hb⟩
    intro K hK; go_simp; refine hK _ ?_; clear hK K
    iterate 5
      refine Calm.calm_step rfl rfl rfl ?_; apply Exists.intro; refine ⟨fun w' hw' => ?_, ?_⟩
      · have cf := keep_cell (p := ⟨Bf, 0, none⟩) hw' hBf hcf
        have cl := keep_cell (p := ⟨lb, m, none⟩) hw' hlb hlm
        apply Calm.calm_value
        go_simp
        exact rfl
      intro K hK; go_simp; refine hK _ ?_; clear hK K
    refine Calm.calm_end_lit (fun wk hk2 => ?_)
    simp only [List.drop_succ_cons, List.drop_zero]
    obtain ⟨hBk, _, _⟩ := hk2
    have cl := keep_cell (p := ⟨lb, m, none⟩) hBk hlb hlm
    go_wp2_with (fail)
    exact bodyPost_ret (v := .tuple #[.int .i64 o1, .int .i64 o2]) (by simp [results, Tryz.results44, go_sem]) rfl ⟨rfl, hBk⟩
end
section
open Go.RowKit
attribute [local go_sem ↓] Go.wp_at_zero Go.wp_at_succ
/-- an operator on some wires of more -/
def onM (M : Nat → Nat → Num) (ls : List Nat) (n i j : Nat) : Num := if (spI ls n i).2 = (spI ls n j).2 then leastOf (M (spI ls n i).1 (spI ls n j).1) else Num.zero
set_option maxHeartbeats 2000000 in
set_option maxRecDepth 100000 in
theorem f46_any {A : Option Addr} {N : Nat} {M : Nat → Nat → Num} (ls : List Nat) (lb lc Bs Bo Bm n cap i j : Nat) (y : Num) (w : World) (hi : i < 64) (hj : j < 64) (hn6 : n ≤ 6) (hN : Hid (2 ^ n = N)) (hl : ∀ j, j < n → ls.getD j 0 < 6) (hnc : n ≤ lc) (hlb : lb < w.heap.size) (hBs : Bs < w.heap.size) (hBo : Bo < w.heap.size) (hBm : Bm < w.heap.size)
    (hls : ∀ j, j < n → w.cell? ⟨lb, j, none⟩ = some (.int .i64 (ls.getD j 0))) (hcs : w.cell? ⟨Bs, 0, none⟩ = some (.func (.func 44) #[] #[.pointer (some ⟨Bs, 0, none⟩)])) (hco : w.cell? ⟨Bo, 0, none⟩ = some (.slice (some ⟨lb, 0, none⟩) n lc)) (hcm : w.cell? ⟨Bm, 0, none⟩ = some (.slice A N cap))
    (HM : Mat w A N N M) (hM : ∀ i j, i < N → j < N → (M i j).ok ∧ (leastN (M i j).q (M i j).k).2 = 0) (hy : Hid (onM M ls n i j = y)) :
    Calls Tryz.prog 46 #[.agg #[.int .i64 i, .int .i64 j], .pointer (some ⟨Bs, 0, none⟩), .pointer (some ⟨Bo, 0, none⟩), .pointer (some ⟨Bm, 0, none⟩)] w fun e w' => e = .returned (.tuple #[.agg #[.int .i64 y.q.a, .int .i64 y.q.b, .int .i64 y.q.c, .int .i64 y.q.d, .int .i64 y.k], .int .i64 0]) ∧ Below w.heap.size w w' := by
  have e44 : ∀ args w, (callFunc 44 args).run Tryz.prog w = .ok (.enter 44 args) w := enters_of Tryz.func44 (by kernel_rfl) rfl
  have H44 := fun k (hk : k < 64) W hb => f44_any ls lb lc Bs n w hl hn6 hnc hlb hBs hls hcs n (Nat.le_refl _) W k hk hb
  have H1 := H44 i hi
  have H2 := H44 j hj
  clear H44
  have hyo := hy.out
  unfold onM at hyo
  have ha := spI_lt ls n i
  have hb := spI_lt ls n j
  rw [hN.out] at ha hb
  obtain ⟨a, hae⟩ : ∃ a, (spI ls n i).1 = a := ⟨_, rfl⟩
  obtain ⟨c, hce⟩ : ∃ c, (spI ls n i).2 = c := ⟨_, rfl⟩
  obtain ⟨b, hbe⟩ : ∃ b, (spI ls n j).1 = b := ⟨_, rfl⟩
  obtain ⟨d, hde⟩ : ∃ d, (spI ls n j).2 = d := ⟨_, rfl⟩
  rw [hae, hce] at H1
  rw [hbe, hde] at H2
  rw [hae] at ha
  rw [hbe] at hb
  rw [hae, hce, hbe, hde] at hyo
  clear hae hce hbe hde hy
  have hb0 : Below w.heap.size w ((w.alloc (.cells #[.int .i64 i, .int .i64 j] 94)).alloc (.cells #[.int .i64 0, .int .i64 0, .int .i64 0, .int .i64 0, .int .i64 0] 38)) := ((Below.refl _ _).alloc (Nat.le_refl _) _).alloc (by simp) _
  have hP0 : Blk ((w.alloc (.cells #[.int .i64 i, .int .i64 j] 94)).alloc (.cells #[.int .i64 0, .int .i64 0, .int .i64 0, .int .i64 0, .int .i64 0] 38)) w.heap.size 94 #[.int .i64 i, .int .i64 j] := (Blk.new _ _ _).alloc _
  have hR0 : Blk ((w.alloc (.cells #[.int .i64 i, .int .i64 j] 94)).alloc (.cells #[.int .i64 0, .int .i64 0, .int .i64 0, .int .i64 0, .int .i64 0] 38)) (w.heap.size + 1) 38 #[.int .i64 0, .int .i64 0, .int .i64 0, .int .i64 0, .int .i64 0] := Blk.new' _ _ (by simp)
  have hBs1 : Bs < w.heap.size + 1 := by omega
  have hBo1 : Bo < w.heap.size + 1 := by omega
  have hBm1 : Bm < w.heap.size + 1 := by omega
  by_cases hcd : c = d
  · subst hcd
    rw [if_pos rfl] at hyo
    have hMo := hM a b ha hb
    obtain ⟨x, hx⟩ : ∃ x, M a b = x := ⟨_, rfl⟩
    rw [hx] at hMo hyo
    have hxH : Hid (M a b = x) := hx
    have hyH : Hid (leastOf x = y) := hyo
    clear hx hyo hM hls
    go_enter Tryz.func46, Tryz.ntmps46
    go_wp2_with (first
      | (go_at_fn 44; refine (H1 _ hb0).mono ?_; clear H1; rintro e w1 ⟨rfl, hb1⟩; have hW1 := bt hb0 hb1; have s1 := keep_cell (p := ⟨Bs, 0, none⟩) hW1 hBs hcs; have o1 := keep_cell (p := ⟨Bo, 0, none⟩) hW1 hBo hco; have cP1 := (hP0.below hb1).cells; have hR1 := hR0.below hb1)
      | (go_at_fn 44; refine (H2 _ hW1).mono ?_; clear H2; rintro e w2 ⟨rfl, hb2⟩; have hW2 := bt hW1 hb2; have hR2 := hR1.below hb2; have m2 := keep_cell (p := ⟨Bm, 0, none⟩) hW2 hBm hcm)
      | (go_at_call 48; refine (f48_mat cap a b x (HM.below hW2) ha hb hxH).mono ?_; rintro e w3 ⟨rfl, hb3⟩; have hW3 := bt hW2 hb3; have hR3 := hR2.below hb3)
      | (go_at_call 47; refine (f47_r x y _ hMo.1 hyH).mono ?_; rintro e w4 ⟨rfl, hb4⟩; have hW4 := bt hW3 hb4; have hR4 := hR3.below hb4; have cR4 := hR4.cells; have fR4 := hR4.frozen; have lR4 := hR4.lt))
    have hF := (((((hR4.set 0 (.int .i64 y.q.a)).set 1 (.int .i64 y.q.b)).set 2 (.int .i64 y.q.c)).set 3 (.int .i64 y.q.d)).set 4 (.int .i64 y.k))
    have cF := hF.cells
    refine bodyPost_ret (v := .tuple #[.agg #[.int .i64 y.q.a, .int .i64 y.q.b, .int .i64 y.q.c, .int .i64 y.q.d, .int .i64 y.k], .int .i64 0]) (by simp [results, Tryz.results46, go_sem, cF, hMo.2]) rfl ⟨rfl, (((((hW4.setCell (p := ⟨w.heap.size + 1, 0, none⟩) (by first | (simp; done) | (simp; omega)) (.int .i64 y.q.a)).setCell (p := ⟨w.heap.size + 1, 1, none⟩) (by first | (simp; done) | (simp; omega)) (.int .i64 y.q.b)).setCell (p := ⟨w.heap.size + 1, 2, none⟩) (by first | (simp; done) | (simp; omega)) (.int .i64 y.q.c)).setCell (p := ⟨w.heap.size + 1, 3, none⟩) (by first | (simp; done) | (simp; omega)) (.int .i64 y.q.d)).setCell (p := ⟨w.heap.size + 1, 4, none⟩) (by first | (simp; done) | (simp; omega)) (.int .i64 y.k))⟩
  · rw [if_neg hcd] at hyo
    have hcdz : ((c : Int) == (d : Int)) = false := by simp; omega
    have hcdn : ¬ (c = d) := hcd
    clear hM hls
    subst hyo
    go_enter Tryz.func46, Tryz.ntmps46
    go_wp2_with (first
      | (go_at_fn 44; refine (H1 _ hb0).mono ?_; clear H1; rintro e w1 ⟨rfl, hb1⟩; have hW1 := bt hb0 hb1; have s1 := keep_cell (p := ⟨Bs, 0, none⟩) hW1 hBs hcs; have o1 := keep_cell (p := ⟨Bo, 0, none⟩) hW1 hBo hco; have cP1 := (hP0.below hb1).cells; have hR1 := hR0.below hb1)
      | (go_at_fn 44; refine (H2 _ hW1).mono ?_; clear H2; rintro e w2 ⟨rfl, hb2⟩; have hW2 := bt hW1 hb2; have hR2 := hR1.below hb2; have m2 := keep_cell (p := ⟨Bm, 0, none⟩) hW2 hBm hcm; have cR2 := hR2.cells; have fR2 := hR2.frozen; have lR2 := hR2.lt))
    have hF := (((((hR2.set 0 (.int .i64 0)).set 1 (.int .i64 0)).set 2 (.int .i64 0)).set 3 (.int .i64 0)).set 4 (.int .i64 0))
    have cF := hF.cells
    refine bodyPost_ret (v := .tuple #[.agg #[.int .i64 0, .int .i64 0, .int .i64 0, .int .i64 0, .int .i64 0], .int .i64 0]) (by simp [results, Tryz.results46, go_sem, cF]) rfl ⟨rfl, (((((hW2.setCell (p := ⟨w.heap.size + 1, 0, none⟩) (by first | (simp; done) | (simp; omega)) (.int .i64 0)).setCell (p := ⟨w.heap.size + 1, 1, none⟩) (by first | (simp; done) | (simp; omega)) (.int .i64 0)).setCell (p := ⟨w.heap.size + 1, 2, none⟩) (by first | (simp; done) | (simp; omega)) (.int .i64 0)).setCell (p := ⟨w.heap.size + 1, 3, none⟩) (by first | (simp; done) | (simp; omega)) (.int .i64 0)).setCell (p := ⟨w.heap.size + 1, 4, none⟩) (by first | (simp; done) | (simp; omega)) (.int .i64 0))⟩
end
end Go.Proofs.YtdfgmmjcamhdjaaGreatDoor
