/- Steps to WholeMatrices' card; what each asks stands in it. -/
import Derived.Test.YtdfgmmjcamhdjaaGreatDoorA23
set_option linter.unusedVariables false
set_option linter.unusedSimpArgs false
namespace Go.Proofs.YtdfgmmjcamhdjaaGreatDoor
section
open Go.RowKit
attribute [local go_sem ↓] Go.wp_at_zero Go.wp_at_succ
theorem mk25 (n : Nat) (w : World) (hn : n ≤ 1000000) : (Instr.makeSlice 25 (.int .i64 n) (.int .i64 n)).run Tryz.prog w = .ok (.slice (some ⟨w.heap.size, 0, none⟩) n n) (w.alloc (.cells (Array.replicate n (.int .i64 0)) 3)) := by
  obtain ⟨i0, hi, hz0, hz1, hz2⟩ := info_parts info3
  rw [run_make w 25 3 i0 _ und25 hi hz0 .i64 .i64 n n (by omega) (Int.le_refl _) (by rw [hz2]; omega) (by omega), hz1]
  rw [madeCells_const _ (.int .i64 0) _ (by simp [Value.cells]) (by intro i hi; simp [Value.cells] at hi; subst hi; rfl)]
  simp [Value.cells]
theorem sl_of_cells {w : World} {b : Nat} {zs : List Int} (hb : b < w.heap.size) (hl : zs.length ≤ 1000000) (h : ∀ j z, zs[j]? = some z → w.cell? ⟨b, j, none⟩ = some (iv z)) : SlI w (some ⟨b, 0, none⟩) zs := by
  refine ⟨by simpa using hl, fun _ => ⟨b, 0, rfl, hb, fun i x hx => ?_⟩⟩
  rw [List.getElem?_map] at hx
  cases hz : zs[i]? with
  | none => rw [hz] at hx; cases hx
  | some z =>
    rw [hz] at hx
    cases hx
    refine ⟨rfl, fun j v hv => ?_⟩
    match j, hv with
    | 0, hv =>
      cases hv
      have := h i z hz
      rwa [Nat.zero_add, Nat.mul_one, Nat.add_zero]
theorem zInts_get (ls : List Nat) {j : Nat} {z : Int} (h : (zInts ls)[j]? = some z) : z = ((ls.getD j 0 : Nat) : Int) ∧ j < ls.length := by
  unfold zInts at h
  rw [List.getElem?_map] at h
  cases hz : ls[j]? with
  | none => rw [hz] at h; cases h
  | some x =>
    rw [hz] at h
    cases h
    exact ⟨by simp [List.getD_eq_getElem?_getD, hz], (List.getElem?_eq_some_iff.1 hz).1⟩
theorem copy25 (w2 : World) (lb n lc : Nat) (zs : List Int) (hzl : zs.length = n) (hc : ∀ j z, zs[j]? = some z → w2.cell? ⟨lb, j, none⟩ = some (iv z)) (hlb : lb < w2.heap.size) :
    ∃ w3, (Builtin.copy_ #[25, 25] 3 #[.slice (some ⟨w2.heap.size, 0, none⟩) n n, .slice (some ⟨lb, 0, none⟩) n lc]).run Tryz.prog ((w2.alloc (.cells (Array.replicate n (.int .i64 0)) 3)).alloc (.cells #[.slice (some ⟨w2.heap.size, 0, none⟩) n n] 25)) = .ok (goInt n) w3 ∧ Below w2.heap.size w2 w3 ∧ Blk w3 w2.heap.size 3 (zs.map iv).toArray ∧ Blk w3 (w2.heap.size + 1) 25 #[.slice (some ⟨w2.heap.size, 0, none⟩) n n] := by
  have hZ0 : Blk ((w2.alloc (.cells (Array.replicate n (.int .i64 0)) 3)).alloc (.cells #[.slice (some ⟨w2.heap.size, 0, none⟩) n n] 25)) w2.heap.size 3 (Array.replicate n (.int .i64 0)) := (Blk.new _ _ _).alloc _
  have hG0 : Blk ((w2.alloc (.cells (Array.replicate n (.int .i64 0)) 3)).alloc (.cells #[.slice (some ⟨w2.heap.size, 0, none⟩) n n] 25)) (w2.heap.size + 1) 25 #[.slice (some ⟨w2.heap.size, 0, none⟩) n n] := Blk.new' _ _ (by simp)
  have hb20 : Below w2.heap.size w2 ((w2.alloc (.cells (Array.replicate n (.int .i64 0)) 3)).alloc (.cells #[.slice (some ⟨w2.heap.size, 0, none⟩) n n] 25)) := ((Below.refl _ _).alloc (Nat.le_refl _) _).alloc (by simp) _
  have hcp := run_copy_row (P := Tryz.prog) ((w2.alloc (.cells (Array.replicate n (.int .i64 0)) 3)).alloc (.cells #[.slice (some ⟨w2.heap.size, 0, none⟩) n n] 25)) 25 25 3 3 w2.heap.size 0 n n ⟨lb, 0, none⟩ n lc (Array.replicate n (.int .i64 0)) 3 (zs.map iv) (by kernel_rfl) (by kernel_rfl) hZ0 (by rw [List.length_map, hzl]; simp [Nat.min_def]) (by
    intro j v hj
    rw [List.getElem?_map] at hj
    cases hz : zs[j]? with
    | none => rw [hz] at hj; cases hj
    | some z =>
      rw [hz] at hj
      cases hj
      have := keep_cell (p := ⟨lb, j, none⟩) hb20 hlb (hc j z hz)
      rw [show (Addr.add ⟨lb, 0, none⟩ j) = ⟨lb, j, none⟩ from by simp [Addr.add]; try (intro h; exact h.symm)]
      exact this) (by simp [hzl]) (by intro v hv; obtain ⟨z, _, rfl⟩ := List.mem_map.1 hv; rfl)
  rw [show ((Array.replicate n (Value.int .i64 0)).toList.take 0 ++ zs.map iv ++ (Array.replicate n (Value.int .i64 0)).toList.drop (0 + (zs.map iv).length)) = zs.map iv from by simp [hzl], show (zs.map iv).length = n from by simp [hzl]] at hcp
  exact ⟨_, hcp, below_setRow hb20 (Nat.le_refl _) _, setRow_heap _ _ _ _ 3 _ hZ0, (setRow_other _ _ _ _ (by omega)).trans hG0⟩
set_option maxHeartbeats 4000000 in
set_option maxRecDepth 100000 in
theorem f9_any {A : Option Addr} {N : Nat} {M : Nat → Nat → Num} (cap : Nat) (ls : List Nat) (lb lc n W NN : Nat) (w : World) (HM : Mat w A N N M) (hM : ∀ i j, i < N → j < N → (M i j).ok ∧ (leastN (M i j).q (M i j).k).2 = 0) (hN : Hid (2 ^ n = N)) (hNN : Hid (2 ^ W = NN)) (hn : ls.length = n) (hn1 : 1 ≤ n) (hnW : n ≤ W) (hW6 : W ≤ 6)
    (hl : ∀ x ∈ ls, x < W) (hnd : ls.Nodup) (hnc : n ≤ lc) (hlb : lb < w.heap.size) (hls : ∀ j, j < n → w.cell? ⟨lb, j, none⟩ = some (.int .i64 (ls.getD j 0))) :
    Calls Tryz.prog 9 #[.slice A N cap, .slice (some ⟨lb, 0, none⟩) n lc, .int .i64 W] w fun e w' => ∃ B, w.heap.size ≤ B ∧ e = .returned (.tuple #[.slice (some ⟨B, 0, none⟩) NN NN, .int .i64 0]) ∧ Filled w' B NN NN (onM M ls n) ∧ Below w.heap.size w w' := by
  have hNb := pow6 n hn1 (by omega)
  have hNNb := pow6 W (by omega) hW6
  have hwW := w64s W hW6
  have hwN := w64s n (by omega)
  rw [hN.out] at hNb hwN
  rw [hNN.out] at hNNb hwW
  have hwW2 : IntKind.i64.wrap (2 ^ W) = (NN : Int) := by rw [IntKind.wrap_i64]; have h := hwW; unfold wrap64 at h; exact h
  have hwN2 : IntKind.i64.wrap (2 ^ n) = (N : Int) := by rw [IntKind.wrap_i64]; have h := hwN; unfold wrap64 at h; exact h
  have hzl : (zInts ls).length = n := by simpa [zInts] using hn
  have hcz : ∀ j z, (zInts ls)[j]? = some z → w.cell? ⟨lb, j, none⟩ = some (iv z) := fun j z hj => by
    obtain ⟨rfl, hj2⟩ := zInts_get ls hj
    exact hls j (by omega)
  have hSl := sl_of_cells hlb (by omega) hcz
  have hb0 : Below w.heap.size w ((w.alloc (.cells #[.slice A N cap] 31)).alloc (.cells #[.int .i64 W] 3)) := ((Below.refl _ _).alloc (Nat.le_refl _) _).alloc (by simp) _
  have hM0 : Blk ((w.alloc (.cells #[.slice A N cap] 31)).alloc (.cells #[.int .i64 W] 3)) w.heap.size 31 #[.slice A N cap] := (Blk.new _ _ _).alloc _
  have hW0 : Blk ((w.alloc (.cells #[.slice A N cap] 31)).alloc (.cells #[.int .i64 W] 3)) (w.heap.size + 1) 3 #[.int .i64 W] := Blk.new' _ _ (by simp)
  have hwz1 : ¬ ((W : Int) < 0) := by omega
  have hwz2 : ¬ ((6 : Int) < (W : Int)) := by omega
  have H40 : ∀ (W1 : World), Below w.heap.size w W1 → W1.cell? ⟨w.heap.size + 1, 0, none⟩ = some (.int .i64 W) → w.heap.size + 1 < W1.heap.size → Calls Tryz.prog 40 #[.slice (some ⟨lb, 0, none⟩) n lc, .func (.func 41) #[] #[.pointer (some ⟨w.heap.size + 1, 0, none⟩)]] W1 fun e w' => e = .returned (.bool true) ∧ Below W1.heap.size W1 w' := by
    intro W1 hb1 hc1 hs1
    have := f40_any (fun _ => true) 41 #[.pointer (some ⟨w.heap.size + 1, 0, none⟩)] (enters_of Tryz.func41 (by kernel_rfl) rfl) (some ⟨lb, 0, none⟩) n lc (zInts ls) W1 hzl.symm (hSl.below hb1) (fun W2 x hx hb2 => by
      obtain ⟨q, hq, rfl⟩ := List.mem_map.1 hx
      exact f41_any q W (w.heap.size + 1) W2 (hl q hq) hW6 (keep_cell (p := ⟨w.heap.size + 1, 0, none⟩) hb2 hs1 hc1))
    rw [show ((zInts ls).all fun _ => true) = true from by simp] at this
    exact this
  go_enter Tryz.func9, Tryz.ntmps9
  go_wp2_with (first
    | (go_at_call 39; refine (f39_mat cap (HM.below hb0) (fun i j hi hj => (hM i j hi hj).1)).mono ?_; rintro e w1 ⟨rfl, hb1⟩; have hW1 := bt hb0 hb1; have hM1 := hM0.below hb1; have hX1 := hW0.below hb1; have cX1 := hX1.cells; have cM1 := hM1.cells)
    | (go_at_call 40; refine (H40 _ hW1 (hX1.cells 0) hX1.lt).mono ?_; clear H40; rintro e w2 ⟨rfl, hb2⟩; have hW2 := bt hW1 hb2; have hsz2 : w.heap.size + 2 ≤ w2.heap.size := (by have h1 := hb1.size; have h2 := hb2.size; simp at h1; omega); have hM2 := hM1.below hb2; have hX2 := hX1.below hb2; have hmk := mk25 n w2 (by omega); have hlM2 := hM2.lt; have hlX2 := hX2.lt; obtain ⟨w3, hcp, hb3, hC3, hG3⟩ := copy25 w2 lb n lc (zInts ls) hzl (fun j z hj => keep_cell (p := ⟨lb, j, none⟩) hW2 hlb (hcz j z hj)) (Nat.lt_of_lt_of_le hlb hW2.size); have hW3 := bt hW2 hb3; have hM3 := hM2.below hb3; have hX3 := hX2.below hb3; have cG3 := hG3.cells))
  clear hmk hcp hNN hb0 hM0 hW0 hb1 hW1 hM1 hX1 cX1 cM1 hb2 hM2 hX2 hlM2 hlX2
  obtain ⟨bo, hbo⟩ : ∃ bo, w2.heap.size = bo := ⟨_, rfl⟩
  have hbw : w.heap.size + 2 ≤ bo := by subst hbo; exact hsz2
  rw [hbo] at hC3 hG3 hb3 cG3 ⊢
  clear hbo hb3
  go_loopg [36] n (fun gg s36 wr => ∃ ii : Nat, ii ≤ n ∧ n - ii ≤ gg ∧ s36 = .int .i64 ii ∧ Aside (Below w3.heap.size w3 wr))
  case atStart => exact ⟨0, Nat.zero_le _, by omega, rfl, (show Aside _ from Below.refl _ _)⟩
  case round =>
    obtain ⟨ii, hii, hg, rfl, AW⟩ := hrel
    have hWq := AW.out
    clear AW
    have hWr := bt hW3 hWq
    have hCr := hC3.below hWq
    have hGr := hG3.below hWq
    have hMr := hM3.below hWq
    have hXr := hX3.below hWq
    by_cases hlt : ii < n
    · have hltz : (ii : Int) < (n : Int) := by omega
      have hgi : (zInts ls)[ii]? = some ((ls.getD ii 0 : Nat) : Int) := by
        unfold zInts
        rw [List.getElem?_map]
        rw [List.getElem?_eq_getElem (by omega : ii < ls.length)]
        simp [List.getD_eq_getElem?_getD, List.getElem?_eq_getElem (by omega : ii < ls.length)]
      have dC := hCr.cells ii
      rw [show ((zInts ls).map iv).toArray[ii]? = some (iv ((ls.getD ii 0 : Nat) : Int)) from by simp [hgi]] at dC
      have cGr := hGr.cells
      have H42 : Calls Tryz.prog 42 #[.slice (some ⟨bo, 0, none⟩) ii n, .int .i64 (ls.getD ii 0)] wr fun e w' => e = .returned (.bool false) ∧ Below wr.heap.size wr w' := by
        refine f42_any (some ⟨bo, 0, none⟩) ii n ((zInts ls).take ii) _ wr (by show _ = _; rw [List.length_take]; omega) ?_ ?_
        · refine sl_of_cells hCr.lt (by rw [List.length_take]; omega) fun j z hj => ?_
          rw [List.getElem?_take] at hj
          split at hj
          · have := hCr.cells j
            rw [show ((zInts ls).map iv).toArray[j]? = some (iv z) from by simp [hj]] at this
            exact this
          · cases hj
        · intro z hz he
          obtain ⟨k, hk1, hk2⟩ := List.mem_take_iff_getElem.1 hz
          have hkl : k < ls.length := by simp [zInts] at hk1; omega
          have hki : k < ii := by omega
          simp only [zInts, List.getElem_map] at hk2
          rw [List.getD_eq_getElem?_getD, List.getElem?_eq_getElem (by omega : ii < ls.length)] at he
          simp only [Option.getD_some] at he
          have he2 : ls[k] = ls[ii]'(by omega) := by omega
          have hpw := List.pairwise_iff_getElem.1 hnd k ii hkl (by omega) hki
          exact hpw he2
      obtain ⟨q, hq⟩ : ∃ q, ls.getD ii 0 = q := ⟨_, rfl⟩
      rw [hq] at dC H42
      unfold iv at dC
      clear hq hgi hl hls hcz hSl
      have hiz : (0 : Int) ≤ (ii : Int) := by omega
      have hic : ¬ (n : Int) < (ii : Int) := by omega
      go_wp2_with (go_at_call 42; refine H42.mono ?_; rintro e w5 ⟨rfl, hb5⟩)
      go_roundg (n - (ii + 1))
      case measure => omega
      case rel => exact ⟨ii + 1, by omega, by omega, by go_num, (show Aside _ from bt hWq hb5)⟩
    · have hltz : ¬ (ii : Int) < (n : Int) := by omega
      obtain rfl : ii = n := by omega
      clear hlt
      go_wp2_with (fail)
      refine Calm.wp_region_calm 11 [] (by kernel_rfl) (by kernel_rfl) (by decide) (fun w' => Below wr.heap.size wr w') (0) (fun _ _ => Nat.zero_le _) (Below.refl _ _).drew ?_
      show Calm.WalkI _ _ _ _ _ _ [0, 1, 2, 3, 4, 5, 6, 7, 8, 9, 10] _ _
      iterate 1
        refine Calm.calm_step rfl rfl rfl ?_; apply Exists.intro; refine ⟨fun w' hw' => ?_, ?_⟩
        · have cMa := (hMr.below hw').cells
          have cGa := (hGr.below hw').cells
          apply Calm.calm_value
          go_simp
          exact rfl
        intro K hK; go_simp; refine hK _ ?_; clear hK K
      refine Calm.calm_step rfl rfl rfl ?_; apply Exists.intro; refine ⟨fun w' hw' => ?_, ?_⟩
      · have cMa := (hMr.below hw').cells
        have cGa := (hGr.below hw').cells
        apply Calm.calm_call
        · go_simp
          exact ⟨rfl, rfl⟩
        refine (f43_mat cap (HM.below (bt hWr hw')) rfl).mono ?_
        rintro e w'' ⟨rfl, hb⟩
        exact ⟨rfl, hb, bt hw' hb⟩
      intro K hK; go_simp; refine hK _ ?_; clear hK K
      iterate 9
        refine Calm.calm_step rfl rfl rfl ?_; apply Exists.intro; refine ⟨fun w' hw' => ?_, ?_⟩
        · have cMa := (hMr.below hw').cells
          have cGa := (hGr.below hw').cells
          apply Calm.calm_value
          go_simp
          exact rfl
        intro K hK; go_simp; refine hK _ ?_; clear hK K
      refine Calm.calm_end_lit (fun wk hk => ?_)
      simp only [List.drop_succ_cons, List.drop_zero]
      go_wp2_with (fail)
      have hBk : Below wr.heap.size wr wk := hk.1
      have hWk0 := bt hWr hBk
      have hGk := hGr.below hBk
      have hMk := hMr.below hBk
      have hXk := hXr.below hBk
      have hlG := hGr.lt
      have hsk := hBk.size
      have hWF0 : Below w.heap.size w (wk.alloc (.cells #[.func (.func 44) #[] #[.pointer (some ⟨wk.heap.size, 0, none⟩)]] 90)) := hWk0.alloc hWk0.size _
      have hSF0 : Blk (wk.alloc (.cells #[.func (.func 44) #[] #[.pointer (some ⟨wk.heap.size, 0, none⟩)]] 90)) wk.heap.size 90 #[.func (.func 44) #[] #[.pointer (some ⟨wk.heap.size, 0, none⟩)]] := Blk.new _ _ _
      have hGF0 := hGk.alloc (.cells #[.func (.func 44) #[] #[.pointer (some ⟨wk.heap.size, 0, none⟩)]] 90)
      have hMF0 := hMk.alloc (.cells #[.func (.func 44) #[] #[.pointer (some ⟨wk.heap.size, 0, none⟩)]] 90)
      have hXF0 := hXk.alloc (.cells #[.func (.func 44) #[] #[.pointer (some ⟨wk.heap.size, 0, none⟩)]] 90)
      have hCF0 := (hCr.below hBk).alloc (.cells #[.func (.func 44) #[] #[.pointer (some ⟨wk.heap.size, 0, none⟩)]] 90)
      generalize hwF : wk.alloc (.cells #[.func (.func 44) #[] #[.pointer (some ⟨wk.heap.size, 0, none⟩)]] 90) = wF at hWF0 hSF0 hGF0 hMF0 hXF0 hCF0 ⊢
      generalize hbs : wk.heap.size = bs at hSF0 ⊢
      clear hwF hbs
      have hWF := hWF0
      have hXF := hXF0
      have hel : ∀ W0 : World, Below wF.heap.size wF W0 → ElemOn 46 #[.pointer (some ⟨bs, 0, none⟩), .pointer (some ⟨bo + 1, 0, none⟩), .pointer (some ⟨w.heap.size, 0, none⟩)] NN NN (onM M ls ii) W0.heap.size W0 := by
        intro W0 hb0 W i j y hi hj hy hbW _
        have hbF : Below wF.heap.size wF W := bt hb0 hbW
        have hS := hSF0.below hbF
        have hG := hGF0.below hbF
        have hMM := hMF0.below hbF
        have hC := hCF0.below hbF
        refine f46_any ls bo ii bs (bo + 1) w.heap.size ii cap i j y W (by omega) (by omega) (by omega) hN (fun j hj => ?_) (Nat.le_refl _) hC.lt hS.lt hG.lt hMM.lt (fun j hj => ?_) (hS.cells 0) (hG.cells 0) (hMM.cells 0) (HM.below (bt hWF0 hbF)) hM hy
        · have hj' : j < ls.length := by omega
          have := hl _ (List.getElem_mem hj')
          rw [List.getD_eq_getElem?_getD, List.getElem?_eq_getElem hj', Option.getD_some]
          omega
        · have hj' : j < ls.length := by omega
          have h := hC.cells j
          rw [show ((zInts ls).map iv).toArray[j]? = some (iv ((ls.getD j 0 : Nat) : Int)) from by simp [zInts, List.getD_eq_getElem?_getD, List.getElem?_eq_getElem hj']] at h
          exact h
      refine Calm.wp_region_seg (by kernel_rfl) ?_
      refine Calm.seg (C := (fun w' => Below wF.heap.size wF w')) 0 5 (by decide) (by kernel_rfl) ((Below.refl _ _).drew) ?_
      show Calm.WalkI _ _ _ _ _ _ [0, 1, 2, 3, 4] _ _
      iterate 5
        refine Calm.calm_step rfl rfl rfl ?_; apply Exists.intro; refine ⟨fun w' hw' => ?_, ?_⟩
        · have cXa := (hXF.below hw').cells
          apply Calm.calm_value
          go_simp
          exact rfl
        intro K hK; go_simp; refine hK _ ?_; clear hK K
      refine Calm.seg_end_lit (fun wk hk => ?_)
      have hbk2 : Below wF.heap.size wF wk := hk
      have hWk := bt hWF hbk2
      refine Calm.any_call 5 rfl (by kernel_rfl) rfl (by go_simp; exact ⟨rfl, rfl⟩) ?_
      refine (f45_any 46 _ (enters_of Tryz.func46 (by kernel_rfl) rfl) NN NN (onM M ls ii) wk ⟨by omega, by omega, by omega, by omega⟩ (hel wk hbk2)).mono ?_
      rintro e w6 ⟨rfl, hF6, hb6⟩
      refine ⟨_, rfl, fun K hK => ?_⟩
      go_simp
      refine hK _ ?_
      clear hK K
      refine Calm.seg (C := (fun w' => Below w6.heap.size w6 w')) 6 8 (by decide) (by kernel_rfl) (Below.refl _ _) ?_
      show Calm.WalkI _ _ _ _ _ _ [6, 7] _ _
      iterate 2
        refine Calm.calm_step rfl rfl rfl ?_; apply Exists.intro; refine ⟨fun w' hw' => ?_, ?_⟩
        · skip
          apply Calm.calm_value
          go_simp
          exact rfl
        intro K hK; go_simp; refine hK _ ?_; clear hK K
      refine Calm.seg_end_lit (fun wk2 hk2 => ?_)
      have hbk7 : Below w6.heap.size w6 wk2 := hk2
      refine Calm.any_tail 8 (by kernel_rfl) ?_
      simp only [List.drop_succ_cons, List.drop_zero]
      go_wp2_with (fail)
      exact bodyPost_ret (v := .tuple #[.slice (some ⟨wk.heap.size, 0, none⟩) NN NN, .int .i64 0]) (by simp [results, Tryz.results9, go_sem]) rfl ⟨wk.heap.size, hWk.size, rfl, hF6.below hbk7, bt (bt hWk hb6) hbk7⟩
end
section
open Go.RowKit
attribute [local go_sem ↓] Go.wp_at_zero Go.wp_at_succ
/-- a gate on right wires -/
structure Gt.okH (g : Gt) (n : Nat) : Prop where
  k1 : 1 ≤ g.k
  k2 : g.k ≤ 12
  len : g.ws.length = arK g.k
  lt : ∀ i ∈ g.ws, i < n
  nd : g.ws.Nodup
theorem Gt.ok.okH {g : Gt} {n : Nat} (h : Gt.ok g n) : Gt.okH g n := ⟨h.k1, h.k2, h.len, h.lt, h.nd⟩
def gtV (g : Gt) (b c : Nat) : Value := .agg #[.int .i64 g.k, .slice (some ⟨b, 0, none⟩) g.ws.length c, .int .i64 0, .int .i64 0]
/-- where the wires of a gate lie -/
def WiresAt (w : World) (b : Nat) (ws : List Nat) : Prop := b < w.heap.size ∧ ∀ (j x : Nat), ws[j]? = some x → w.cell? ⟨b, j, none⟩ = some (.int .i64 x)
theorem WiresAt.below {w w' : World} {b : Nat} {ws : List Nat} {n : Nat} (h : WiresAt w b ws) (hb : Below n w w') (hn : b < n) : WiresAt w' b ws :=
  ⟨Nat.lt_of_lt_of_le h.1 hb.size, fun j x hj => (cell_keep (hb.block b hn)).trans (h.2 j x hj)⟩
theorem WiresAt.sl {w : World} {b : Nat} {ws : List Nat} (h : WiresAt w b ws) (hl : ws.length ≤ 1000000) (i : Nat) : SlI w (some ⟨b, 0, none⟩) ((zInts ws).take i) := by
  refine sl_of_cells h.1 (by rw [List.length_take]; simp [zInts]; omega) fun j z hj => ?_
  rw [List.getElem?_take] at hj
  split at hj
  · unfold zInts at hj
    rw [List.getElem?_map] at hj
    cases hx : ws[j]? with
    | none => rw [hx] at hj; cases hj
    | some x => rw [hx] at hj; cases hj; exact h.2 j x hx
  · cases hj
theorem arK_bd (k : Nat) (h1 : 1 ≤ k) (h2 : k ≤ 12) : 1 ≤ arK k ∧ arK k ≤ 3 := by
  obtain rfl | rfl | rfl | rfl | rfl | rfl | rfl | rfl | rfl | rfl | rfl | rfl := kinds12 h1 h2 <;> decide
theorem f153_any (i n B : Nat) (v2 v3 : Value) (w : World) (hi : i < n) (hn : n ≤ 12) (hB : Blk w B 172 #[.int .i64 n, .int .i64 0, v2, v3]) :
    Calls Tryz.prog 153 #[.int .i64 i, .pointer (some ⟨B, 0, none⟩)] w fun e w' => e = .returned (.bool true) ∧ Below w.heap.size w w' := by
  have h1 : (0 : Int) ≤ (i : Int) := by omega
  have h2 : (i : Int) < (n : Int) := by omega
  have hc := hB.cells
  go_enter Tryz.func153, Tryz.ntmps153
  go_wp2
  go_ret
  exact ⟨rfl, Below.refl _ _⟩
theorem f160_any (p : Int → Bool) (g : Nat) (lb : Array Value) (eg : ∀ args w, (callFunc g args).run Tryz.prog w = .ok (.enter g args) w) (x : Int) (B : Nat) (w : World)
    (hB : w.cell? ⟨B, 0, none⟩ = some (.func (.func g) #[] lb))
    (hp : Calls Tryz.prog g (#[.int .i64 x] ++ lb) w fun e w' => e = .returned (.bool (p x)) ∧ Below w.heap.size w w') :
    Calls Tryz.prog 160 #[.int .i64 x, .pointer (some ⟨B, 0, none⟩)] w fun e w' => e = .returned (.bool (!p x)) ∧ Below w.heap.size w w' := by
  go_enter Tryz.func160, Tryz.ntmps160
  go_wp2_with (go_at_fn g; refine hp.mono ?_; rintro e w' ⟨rfl, hb'⟩)
  go_ret
  exact ⟨rfl, hb'⟩
theorem f155_any (p : Int → Bool) (g : Nat) (lb : Array Value) (eg : ∀ args w, (callFunc g args).run Tryz.prog w = .ok (.enter g args) w) (A : Option Addr) (n cap : Nat) (zs : List Int) (w : World) (hn : Hid (n = zs.length)) (hA : SlI w A zs)
    (hp : PredOn g lb (.int .i64) p zs w) :
    Calls Tryz.prog 155 #[.slice A n cap, .func (.func g) #[] lb] w fun e w' => e = .returned (.bool (zs.all p)) ∧ Below w.heap.size w w' := by
  have hb0 : Below w.heap.size w (w.alloc (.cells #[.func (.func g) #[] lb] 86)) := (Below.refl _ w).alloc (Nat.le_refl _) _
  have H := f93_any (fun x => !p x) 160 #[.pointer (some ⟨w.heap.size, 0, none⟩)] (enters_of Tryz.func160 (by kernel_rfl) rfl) A n cap zs (w.alloc (.cells #[.func (.func g) #[] lb] 86)) hn (hA.below hb0)
    (fun W x hx hb => f160_any p g lb eg x w.heap.size W ((hb.cell (p := ⟨w.heap.size, 0, none⟩) (by simp)).trans (by simp)) (hp W x hx (hb0.trans (hb.mono (by simp)))))
  clear hp hA
  go_enter Tryz.func155, Tryz.ntmps155
  go_wp2_with (go_at_call 93; refine H.mono ?_; rintro e w' ⟨rfl, hb'⟩)
  go_ret
  refine ⟨?_, hb0.trans (hb'.mono (by simp))⟩
  rw [← not_any_not]
  rfl
theorem nodup_take {ls : List Nat} (hnd : ls.Nodup) {ii q : Nat} (hq : ls[ii]? = some q) : ∀ z ∈ (zInts ls).take ii, z ≠ (q : Int) := by
  intro z hz he
  obtain ⟨k, hk1, hk2⟩ := List.mem_take_iff_getElem.1 hz
  obtain ⟨hil, hie⟩ := List.getElem?_eq_some_iff.1 hq
  have hkl : k < ls.length := by simp [zInts] at hk1; omega
  have hki : k < ii := by omega
  simp only [zInts, List.getElem_map] at hk2
  have he2 : ls[k] = ls[ii] := by omega
  exact List.pairwise_iff_getElem.1 hnd k ii hkl hil hki he2
set_option maxHeartbeats 4000000 in
set_option maxRecDepth 100000 in
theorem f137_any (g : Gt) (n b c : Nat) (gv nv : Value) (w : World) (hn : n ≤ 12) (hg : Gt.okH g n) (hW : WiresAt w b g.ws) (hc : g.ws.length ≤ c) :
    Calls Tryz.prog 137 #[.agg #[.int .i64 n, .int .i64 0, gv, nv], gtV g b c] w fun e w' => e = .returned (.int .i64 0) ∧ Below w.heap.size w w' := by
  obtain ⟨k1, k2, hlen, hlt, hnd⟩ := hg
  obtain ⟨k, ws⟩ := g
  dsimp only at k1 k2 hlen hlt hnd hW hc
  unfold gtV
  dsimp only
  obtain ⟨m, hm⟩ : ∃ m, ws.length = m := ⟨_, rfl⟩
  have hbd := arK_bd k k1 k2
  rw [hm] at hlen hc ⊢
  rw [← hlen] at hbd
  have h154 := fun w => f154_any k w k1 k2
  rw [← hlen] at h154
  clear hlen
  have hk13 : ¬ ((k : Int) = 13) := by omega
  have hk14 : ¬ ((k : Int) = 14) := by omega
  have hm0 : ¬ ((m : Int) = 0) := by omega
  have hb0 : Below w.heap.size w ((w.alloc (.cells #[.int .i64 n, .int .i64 0, gv, nv] 172)).alloc (.cells #[.int .i64 k, .slice (some ⟨b, 0, none⟩) m c, .int .i64 0, .int .i64 0] 45)) := ((Below.refl _ _).alloc (Nat.le_refl _) _).alloc (by simp) _
  have hC0 : Blk ((w.alloc (.cells #[.int .i64 n, .int .i64 0, gv, nv] 172)).alloc (.cells #[.int .i64 k, .slice (some ⟨b, 0, none⟩) m c, .int .i64 0, .int .i64 0] 45)) w.heap.size 172 #[.int .i64 n, .int .i64 0, gv, nv] := (Blk.new _ _ _).alloc _
  have hG0 : Blk ((w.alloc (.cells #[.int .i64 n, .int .i64 0, gv, nv] 172)).alloc (.cells #[.int .i64 k, .slice (some ⟨b, 0, none⟩) m c, .int .i64 0, .int .i64 0] 45)) (w.heap.size + 1) 45 #[.int .i64 k, .slice (some ⟨b, 0, none⟩) m c, .int .i64 0, .int .i64 0] := Blk.new' _ _ (by simp)
  obtain ⟨w0, hw0⟩ : ∃ w0, ((w.alloc (.cells #[.int .i64 n, .int .i64 0, gv, nv] 172)).alloc (.cells #[.int .i64 k, .slice (some ⟨b, 0, none⟩) m c, .int .i64 0, .int .i64 0] 45)) = w0 := ⟨_, rfl⟩
  have hW0 := (hW.below (by rw [← hw0] at *; exact hb0) hW.1 : WiresAt w0 b ws)
  have H155 : ∀ W1 : World, Below w0.heap.size w0 W1 → Calls Tryz.prog 155 #[.slice (some ⟨b, 0, none⟩) m c, .func (.func 153) #[] #[.pointer (some ⟨w.heap.size, 0, none⟩)]] W1 fun e w' => e = .returned (.bool true) ∧ Below W1.heap.size W1 w' := by
    intro W1 hb1
    have hC1 : Blk W1 w.heap.size 172 #[.int .i64 n, .int .i64 0, gv, nv] := by rw [hw0] at hC0; exact hC0.below hb1
    have hW1 := hW0.below hb1 hW0.1
    have := f155_any (fun _ => true) 153 #[.pointer (some ⟨w.heap.size, 0, none⟩)] (enters_of Tryz.func153 (by kernel_rfl) rfl) (some ⟨b, 0, none⟩) m c ((zInts ws).take m) W1 (by show _ = _; rw [List.length_take]; simp [zInts, hm]) (hW1.sl (by omega) m) (fun W2 x hx hb2 => by
      obtain ⟨q, hq, rfl⟩ := List.mem_map.1 (List.mem_of_mem_take hx)
      exact f153_any q n w.heap.size gv nv W2 (hlt q hq) hn (hC1.below hb2))
    rw [show (((zInts ws).take m).all fun _ => true) = true from by simp] at this
    exact this
  rw [hw0] at hb0 hC0 hG0
  have cG := hG0.cells
  have cC := hC0.cells
  go_enter Tryz.func137, Tryz.ntmps137
  go_wp2_with (first
    | (go_at_call 154; refine (h154 _).mono ?_; rintro e w1 ⟨rfl, rfl⟩))
  refine Calm.wp_region_calm 7 [] (by kernel_rfl) (by kernel_rfl) (by decide) (fun w' => Below w1.heap.size w1 w') (0) (fun _ _ => Nat.zero_le _) (Below.refl _ _).drew ?_
  show Calm.WalkI _ _ _ _ _ _ [0, 1, 2, 3, 4, 5, 6] _ _
  iterate 5
    refine Calm.calm_step rfl rfl rfl ?_; apply Exists.intro; refine ⟨fun w' hw' => ?_, ?_⟩
    · have cG := (hG0.below hw').cells
      apply Calm.calm_value
      go_simp
      exact rfl
    intro K hK; go_simp; refine hK _ ?_; clear hK K
  refine Calm.calm_step rfl rfl rfl ?_; apply Exists.intro; refine ⟨fun w' hw' => ?_, ?_⟩
  · have cG := (hG0.below hw').cells
    apply Calm.calm_call
    · go_simp
      exact ⟨rfl, rfl⟩
    refine (h154 w').mono ?_
    rintro e w'' ⟨rfl, rfl⟩
    exact ⟨rfl, (Below.refl _ _), hw'⟩
  intro K hK; go_simp; refine hK _ ?_; clear hK K
  iterate 1
    refine Calm.calm_step rfl rfl rfl ?_; apply Exists.intro; refine ⟨fun w' hw' => ?_, ?_⟩
    · have cG := (hG0.below hw').cells
      apply Calm.calm_value
      go_simp
      exact rfl
    intro K hK; go_simp; refine hK _ ?_; clear hK K
  refine Calm.calm_end_lit (fun wk hk => ?_)
  simp only [List.drop_succ_cons, List.drop_zero]
  obtain ⟨hBk, _, _⟩ := hk
  have hC4 := hC0.below hBk
  have hG4 := hG0.below hBk
  have hW4 := hW0.below hBk hW0.1
  have hbK := bt hb0 hBk
  have cG4 := hG4.cells
  have cC4 := hC4.cells
  clear hw0
  go_wp2_with (go_at_call 155; refine (H155 _ hBk).mono ?_; clear H155; rintro e w5 ⟨rfl, hb5⟩; have hW5 := hW4.below hb5 hW4.1; have hG5 := hG4.below hb5; have hC5 := hC4.below hb5; have hbW := bt hbK hb5; have cG5 := hG5.cells; have cC5 := hC5.cells)
  go_loopg [32] m (fun gg s32 wr => ∃ ii : Nat, ii ≤ m ∧ m - ii ≤ gg ∧ s32 = .int .i64 ii ∧ Aside (Below w5.heap.size w5 wr))
  case atStart => exact ⟨0, Nat.zero_le _, by omega, rfl, (show Aside _ from Below.refl _ _)⟩
  case round =>
    obtain ⟨ii, hii, hg, rfl, AW⟩ := hrel
    have hWq := AW.out
    clear AW
    have hGr := hG5.below hWq
    have hCr := hC5.below hWq
    have hWr := hW5.below hWq hW5.1
    have cGr := hGr.cells
    have cCr := hCr.cells
    have hbR := bt hbW hWq
    by_cases hlt' : ii < m
    · have hltz : (ii : Int) < (m : Int) := by omega
      obtain ⟨q, hq⟩ : ∃ q, ws[ii]? = some q := ⟨_, List.getElem?_eq_getElem (by omega)⟩
      have dq := hWr.2 ii q hq
      have H42 : Calls Tryz.prog 42 #[.slice (some ⟨b, 0, none⟩) ii c, .int .i64 q] wr fun e w' => e = .returned (.bool false) ∧ Below wr.heap.size wr w' := by
        refine f42_any (some ⟨b, 0, none⟩) ii c ((zInts ws).take ii) _ wr (by show _ = _; rw [List.length_take]; simp [zInts]; omega) (hWr.sl (by omega) ii) ?_
        exact nodup_take hnd hq
      have hiz : (0 : Int) ≤ (ii : Int) := by omega
      have hic : ¬ (c : Int) < (ii : Int) := by omega
      clear hq
      go_wp2_with (go_at_call 42; refine H42.mono ?_; rintro e w6 ⟨rfl, hb6⟩)
      go_roundg (m - (ii + 1))
      case measure => omega
      case rel => exact ⟨ii + 1, by omega, by omega, by go_num, (show Aside _ from bt hWq hb6)⟩
    · have hltz : ¬ (ii : Int) < (m : Int) := by omega
      obtain rfl : ii = m := by omega
      clear hlt'
      go_wp2_with (fail)
      go_ret
      exact ⟨rfl, hbR⟩
end
section
open Go.RowKit
attribute [local go_sem ↓] Go.wp_at_zero Go.wp_at_succ
/-- a gate of a list -/
theorem GatesR.at_ {w : World} {lo : Nat} {gv : Value} {gs : List Gt} (h : GatesR w lo gv gs) : ∃ A c, gv = .slice A gs.length c ∧ ∀ i gt, gs[i]? = some gt → ∃ g b cc, A = some ⟨g, 0, none⟩ ∧ lo ≤ g ∧ g < w.heap.size ∧ w.cell? ⟨g, i * 4, none⟩ = some (.int .i64 gt.k) ∧ w.cell? ⟨g, i * 4 + 1, none⟩ = some (.slice (some ⟨b, 0, none⟩) gt.ws.length cc) ∧ w.cell? ⟨g, i * 4 + 2, none⟩ = some (.int .i64 0) ∧ w.cell? ⟨g, i * 4 + 3, none⟩ = some (.int .i64 0) ∧
    lo ≤ b ∧ gt.ws.length ≤ cc ∧ WiresAt w b gt.ws := by
  obtain ⟨A, c, h1, h2⟩ := h
  refine ⟨A, c, h1, fun i gt hi => ?_⟩
  have h0 : 0 < gs.length := Nat.lt_of_le_of_lt (Nat.zero_le _) (List.getElem?_eq_some_iff.1 hi).1
  obtain ⟨g, h3, h4, h5, h6⟩ := h2 h0
  obtain ⟨b, cc, g1, g2, g3, g4, g5, g6, g8, g7⟩ := h6 i gt hi
  exact ⟨g, b, cc, h3, h4, h5, g1, g2, g3, g4, g5, g8, g6, g7⟩
theorem GatesR.below {w w' : World} {lo : Nat} {gv : Value} {gs : List Gt} (h : GatesR w lo gv gs) (hb : Below w.heap.size w w') : GatesR w' lo gv gs := h.keep hb.size fun k _ hk => hb.block k hk
set_option maxHeartbeats 2000000 in
set_option maxRecDepth 100000 in
theorem f106_any (n lo : Nat) (gv : Value) (gs : List Gt) (w : World) (hn1 : 1 ≤ n) (hn : n ≤ 12) (hg : ∀ gt ∈ gs, Gt.okH gt n) (hL : gs.length ≤ 120) (hR : GatesR w lo gv gs) :
    Calls Tryz.prog 106 #[.agg #[.int .i64 n, .int .i64 0, gv]] w fun e w' => e = .returned (.int .i64 0) ∧ Below w.heap.size w w' := by
  have e137 : ∀ args w, (callFunc 137 args).run Tryz.prog w = .ok (.enter 137 args) w := enters_of Tryz.func137 (by kernel_rfl) rfl
  obtain ⟨A, c, hgv, hat⟩ := (hR.below ((Below.refl _ w).alloc (Nat.le_refl _) (.cells #[.int .i64 n, .int .i64 0, gv] 43))).at_
  subst hgv
  obtain ⟨L, hLe⟩ : ∃ L, gs.length = L := ⟨_, rfl⟩
  rw [hLe] at hL hat ⊢
  have hLb : ¬ ((120 : Int) < (L : Int)) := by omega
  have hn1z : ¬ ((n : Int) < 1) := by omega
  have hnz : ¬ ((12 : Int) < (n : Int)) := by omega
  clear hR
  go_enter Tryz.func106, Tryz.ntmps106
  go_wp2_with (fail)
  have hb0 : Below w.heap.size w (w.alloc (.cells #[.int .i64 n, .int .i64 0, .slice A L c] 43)) := (Below.refl _ w).alloc (Nat.le_refl _) _
  have hC0 : Blk (w.alloc (.cells #[.int .i64 n, .int .i64 0, .slice A L c] 43)) w.heap.size 43 #[.int .i64 n, .int .i64 0, .slice A L c] := Blk.new _ _ _
  go_loopg [37] L (fun gg s37 wr => ∃ ii : Nat, ii ≤ L ∧ L - ii ≤ gg ∧ s37 = .int .i64 ii ∧ Aside (Below (w.alloc (.cells #[.int .i64 n, .int .i64 0, .slice A L c] 43)).heap.size (w.alloc (.cells #[.int .i64 n, .int .i64 0, .slice A L c] 43)) wr))
  case atStart => exact ⟨0, Nat.zero_le _, by omega, rfl, (show Aside _ from Below.refl _ _)⟩
  case round =>
    obtain ⟨ii, hii, hg', rfl, AW⟩ := hrel
    have hWq := AW.out
    clear AW
    have hCr := hC0.below hWq
    have cCr := hCr.cells
    have hbR := bt hb0 hWq
    by_cases hlt : ii < L
    · have hltz : (ii : Int) < (L : Int) := by omega
      obtain ⟨gt, hgt⟩ : ∃ gt, gs[ii]? = some gt := ⟨_, List.getElem?_eq_getElem (by omega)⟩
      obtain ⟨g, b, cc, rfl, _, a5, a1, a2, a3, a4, _, a6, a7⟩ := hat ii gt hgt
      have hok := hg gt (List.mem_of_getElem? hgt)
      have d1 := keep_cell (p := ⟨g, ii * 4, none⟩) hWq a5 a1
      have d2 := keep_cell (p := ⟨g, ii * 4 + 1, none⟩) hWq a5 a2
      have d3 := keep_cell (p := ⟨g, ii * 4 + 2, none⟩) hWq a5 a3
      have d4 := keep_cell (p := ⟨g, ii * 4 + 3, none⟩) hWq a5 a4
      have a7r := a7.below hWq a7.1
      have H137 : ∀ W nv, Below wr.heap.size wr W → Calls Tryz.prog 137 #[.agg #[.int .i64 n, .int .i64 0, .slice (some ⟨g, 0, none⟩) L c, nv], .agg #[.int .i64 gt.k, .slice (some ⟨b, 0, none⟩) gt.ws.length cc, .int .i64 0, .int .i64 0]] W fun e w' => e = .returned (.int .i64 0) ∧ Below W.heap.size W w' :=
        fun W nv hb => f137_any gt n b cc _ nv W hn hok (a7r.below hb a7r.1) a6
      obtain ⟨gl, hgl⟩ : ∃ gl, gt.ws.length = gl := ⟨_, rfl⟩
      obtain ⟨gk', hgk⟩ : ∃ gk', gt.k = gk' := ⟨_, rfl⟩
      rw [hgl] at d2 H137
      rw [hgk] at d1 H137
      have hbA : Below wr.heap.size wr (wr.alloc (.cells #[.int .i64 gk', .slice (some ⟨b, 0, none⟩) gl cc, .int .i64 0, .int .i64 0] 45)) := (Below.refl _ _).alloc (Nat.le_refl _) _
      clear hgl hgk hat hg hok a7 a7r a1 a2 a3 a4 hgt a6 a5
      go_wp2_with (go_at_fn 137; refine (H137 _ _ hbA).mono ?_; clear H137; rintro e w2 ⟨rfl, hb2⟩)
      go_roundg (L - (ii + 1))
      case measure => omega
      case rel => exact ⟨ii + 1, by omega, by omega, by go_num, (show Aside _ from bt hWq (bt hbA hb2))⟩
    · have hltz : ¬ (ii : Int) < (L : Int) := by omega
      obtain rfl : ii = L := by omega
      clear hlt hat
      go_wp2_with (fail)
      go_ret
      exact ⟨rfl, hbR⟩
theorem f145_any (g : Gt) (b c : Nat) (w : World) (h2 : g.k ≤ 12) :
    Calls Tryz.prog 145 #[gtV g b c] w fun e w' => e = .returned (.bool true) ∧ Below w.heap.size w w' := by
  obtain ⟨k, ws⟩ := g
  unfold gtV
  dsimp only at h2 ⊢
  have hk : (k : Int) ≤ 12 := by omega
  go_enter Tryz.func145, Tryz.ntmps145
  go_wp2_with (fail)
  go_ret
  exact ⟨rfl, (Below.refl _ _).alloc (Nat.le_refl _) _⟩
/-- what holds of each gate -/
def GateAll (g : Nat) (lb : Array Value) (gs : List Gt) (w : World) : Prop := ∀ W gt b c, gt ∈ gs → Below w.heap.size w W → Calls Tryz.prog g (#[gtV gt b c] ++ lb) W fun e w' => e = .returned (.bool true) ∧ Below W.heap.size W w'
set_option maxHeartbeats 400000 in
theorem f158_any (g : Nat) (lb : Array Value) (eg : ∀ args w, (callFunc g args).run Tryz.prog w = .ok (.enter g args) w) (gt : Gt) (b c : Nat) (B : Nat) (w : World) (hBl : B < w.heap.size)
    (hB : w.cell? ⟨B, 0, none⟩ = some (.func (.func g) #[] lb))
    (hp : ∀ W, Below w.heap.size w W → Calls Tryz.prog g (#[gtV gt b c] ++ lb) W fun e w' => e = .returned (.bool true) ∧ Below W.heap.size W w') :
    Calls Tryz.prog 158 #[gtV gt b c, .pointer (some ⟨B, 0, none⟩)] w fun e w' => e = .returned (.bool false) ∧ Below w.heap.size w w' := by
  have hbA : Below w.heap.size w (w.alloc (.cells #[.int .i64 gt.k, .slice (some ⟨b, 0, none⟩) gt.ws.length c, .int .i64 0, .int .i64 0] 45)) := (Below.refl _ _).alloc (Nat.le_refl _) _
  have hp' := hp _ hbA
  unfold gtV at hp' ⊢
  clear hp
  go_enter Tryz.func158, Tryz.ntmps158
  go_wp2_with (go_at_fn g; refine hp'.mono ?_; rintro e w' ⟨rfl, hb'⟩)
  go_ret
  exact ⟨rfl, bt hbA hb'⟩
set_option maxHeartbeats 1000000 in
set_option maxRecDepth 100000 in
theorem f156_any (g : Nat) (lb : Array Value) (eg : ∀ args w, (callFunc g args).run Tryz.prog w = .ok (.enter g args) w) (lo : Nat) (gv : Value) (gs : List Gt) (w : World) (hL : gs.length ≤ 120) (hR : GatesR w lo gv gs)
    (hp : ∀ W gt b c, gt ∈ gs → Below w.heap.size w W → Calls Tryz.prog g (#[gtV gt b c] ++ lb) W fun e w' => e = .returned (.bool false) ∧ Below W.heap.size W w') :
    Calls Tryz.prog 156 #[gv, .func (.func g) #[] lb] w fun e w' => e = .returned (.int .i64 (-1)) ∧ Below w.heap.size w w' := by
  obtain ⟨A, c, hgv, hat⟩ := hR.at_
  subst hgv
  obtain ⟨L, hLe⟩ : ∃ L, gs.length = L := ⟨_, rfl⟩
  rw [hLe] at hL ⊢
  clear hR
  go_enter Tryz.func156, Tryz.ntmps156
  go_wp2_with (fail)
  go_loopg [5, 8] L (fun gg _ s8 wr => ∃ ii : Nat, ii ≤ L ∧ L - ii ≤ gg ∧ s8 = .int .i64 ii ∧ Aside (Below w.heap.size w wr))
  case atStart => exact ⟨0, Nat.zero_le _, by omega, rfl, (show Aside _ from Below.refl _ _)⟩
  case round =>
    obtain ⟨ii, hii, hg', rfl, AW⟩ := hrel
    have hWq := AW.out
    clear AW
    by_cases hlt : ii < L
    · have hltz : (ii : Int) < (L : Int) := by omega
      obtain ⟨gt, hgt⟩ : ∃ gt, gs[ii]? = some gt := ⟨_, List.getElem?_eq_getElem (by omega)⟩
      obtain ⟨ga, b, cc, rfl, _, a5, a1, a2, a3, a4, _, a6, a7⟩ := hat ii gt hgt
      have d1 := keep_cell (p := ⟨ga, ii * 4, none⟩) hWq a5 a1
      have d2 := keep_cell (p := ⟨ga, ii * 4 + 1, none⟩) hWq a5 a2
      have d3 := keep_cell (p := ⟨ga, ii * 4 + 2, none⟩) hWq a5 a3
      have d4 := keep_cell (p := ⟨ga, ii * 4 + 3, none⟩) hWq a5 a4
      have H := hp wr gt b cc (List.mem_of_getElem? hgt) hWq
      unfold gtV at H
      obtain ⟨gl, hgl⟩ : ∃ gl, gt.ws.length = gl := ⟨_, rfl⟩
      obtain ⟨gk', hgk⟩ : ∃ gk', gt.k = gk' := ⟨_, rfl⟩
      rw [hgl] at d2 H
      rw [hgk] at d1 H
      clear hgl hgk hat hp a7 a1 a2 a3 a4 hgt a6 a5
      go_wp2_with (go_at_fn g; refine H.mono ?_; clear H; rintro e w2 ⟨rfl, hb2⟩)
      go_roundg (L - (ii + 1))
      case measure => omega
      case rel => exact ⟨ii + 1, by omega, by omega, by go_num, (show Aside _ from bt hWq hb2)⟩
    · have hltz : ¬ (ii : Int) < (L : Int) := by omega
      obtain rfl : ii = L := by omega
      clear hlt hat hp
      go_wp2_with (fail)
      go_ret
      exact ⟨rfl, hWq⟩
theorem f138_any (g : Nat) (lb : Array Value) (eg : ∀ args w, (callFunc g args).run Tryz.prog w = .ok (.enter g args) w) (lo : Nat) (gv : Value) (gs : List Gt) (w : World) (hL : gs.length ≤ 120) (hR : GatesR w lo gv gs)
    (hp : ∀ W gt b c, gt ∈ gs → Below w.heap.size w W → Calls Tryz.prog g (#[gtV gt b c] ++ lb) W fun e w' => e = .returned (.bool false) ∧ Below W.heap.size W w') :
    Calls Tryz.prog 138 #[gv, .func (.func g) #[] lb] w fun e w' => e = .returned (.bool false) ∧ Below w.heap.size w w' := by
  have H := f156_any g lb eg lo gv gs w hL hR hp
  clear hp hR
  go_enter Tryz.func138, Tryz.ntmps138
  go_wp2_with (go_at_call 156; refine H.mono ?_; rintro e w' ⟨rfl, hb'⟩)
  go_ret
  exact ⟨rfl, hb'⟩
theorem f144_any (g : Nat) (lb : Array Value) (eg : ∀ args w, (callFunc g args).run Tryz.prog w = .ok (.enter g args) w) (lo : Nat) (gv : Value) (gs : List Gt) (w : World) (hL : gs.length ≤ 120) (hR : GatesR w lo gv gs) (hp : GateAll g lb gs w) :
    Calls Tryz.prog 144 #[gv, .func (.func g) #[] lb] w fun e w' => e = .returned (.bool true) ∧ Below w.heap.size w w' := by
  have hb0 : Below w.heap.size w (w.alloc (.cells #[.func (.func g) #[] lb] 144)) := (Below.refl _ w).alloc (Nat.le_refl _) _
  have hP0 := Blk.new w 144 #[.func (.func g) #[] lb]
  have H := f138_any 158 #[.pointer (some ⟨w.heap.size, 0, none⟩)] (enters_of Tryz.func158 (by kernel_rfl) rfl) lo gv gs _ hL (hR.below hb0) (fun W gt b c hgt hb => f158_any g lb eg gt b c w.heap.size W (hP0.below hb).lt ((hP0.below hb).cells 0) (fun W2 hb2 => hp W2 gt b c hgt (bt (bt hb0 hb) hb2)))
  clear hp hR
  go_enter Tryz.func144, Tryz.ntmps144
  go_wp2_with (go_at_call 138; refine H.mono ?_; rintro e w' ⟨rfl, hb'⟩)
  go_ret
  exact ⟨rfl, bt hb0 hb'⟩
theorem f118_any (n lo : Nat) (gv : Value) (gs : List Gt) (w : World) (hn1 : 1 ≤ n) (hn : n ≤ 12) (hg : ∀ gt ∈ gs, Gt.okH gt n) (hL : gs.length ≤ 120) (hR : GatesR w lo gv gs) :
    Calls Tryz.prog 118 #[.agg #[.int .i64 n, .int .i64 0, gv]] w fun e w' => e = .returned (.tuple #[.bool true, .int .i64 0]) ∧ Below w.heap.size w w' := by
  have hb0 : Below w.heap.size w (w.alloc (.cells #[.int .i64 n, .int .i64 0, gv] 43)) := (Below.refl _ w).alloc (Nat.le_refl _) _
  have hC0 := Blk.new w 43 #[.int .i64 n, .int .i64 0, gv]
  have hR0 := hR.below hb0
  have H106 := f106_any n lo gv gs _ hn1 hn hg hL hR0
  have H144 : ∀ W, Below (w.alloc (.cells #[.int .i64 n, .int .i64 0, gv] 43)).heap.size (w.alloc (.cells #[.int .i64 n, .int .i64 0, gv] 43)) W → Calls Tryz.prog 144 #[gv, .func (.func 145) #[] #[]] W fun e w' => e = .returned (.bool true) ∧ Below W.heap.size W w' := fun W hb =>
    f144_any 145 #[] (enters_of Tryz.func145 (by kernel_rfl) rfl) lo gv gs W hL (hR0.below hb) (fun W2 gt b c hgt _ => f145_any gt b c W2 (hg gt hgt).k2)
  clear hg hR hR0
  go_enter Tryz.func118, Tryz.ntmps118
  go_wp2_with (first
    | (go_at_call 106; refine H106.mono ?_; clear H106; rintro e w1 ⟨rfl, hb1⟩; have cC := (hC0.below hb1).cells)
    | (go_at_call 144; refine (H144 _ hb1).mono ?_; clear H144; rintro e w2 ⟨rfl, hb2⟩))
  exact bodyPost_ret (v := .tuple #[.bool true, .int .i64 0]) (by simp [results, Tryz.results118, go_sem]) rfl ⟨rfl, bt (bt hb0 hb1) hb2⟩
end
section
open Go.RowKit
attribute [local go_sem ↓] Go.wp_at_zero Go.wp_at_succ
set_option maxHeartbeats 1000000 in
set_option maxRecDepth 100000 in
theorem f69_any (n lo : Nat) (gv : Value) (gs : List Gt) (w : World) (hn1 : 1 ≤ n) (hn : n ≤ 6) (hg : ∀ gt ∈ gs, Gt.okH gt n) (hL : gs.length ≤ 120) (hR : GatesR w lo gv gs) :
    Calls Tryz.prog 69 #[.agg #[.int .i64 n, .int .i64 0, gv]] w fun e w' => e = .returned (.int .i64 0) ∧ Below w.heap.size w w' := by
  have hb0 : Below w.heap.size w (w.alloc (.cells #[.int .i64 n, .int .i64 0, gv] 43)) := (Below.refl _ w).alloc (Nat.le_refl _) _
  have hC0 := Blk.new w 43 #[.int .i64 n, .int .i64 0, gv]
  have H118 := f118_any n lo gv gs _ hn1 (by omega) hg hL (hR.below hb0)
  have hnz : ¬ ((6 : Int) < (n : Int)) := by omega
  clear hg hR
  go_enter Tryz.func69, Tryz.ntmps69
  go_wp2_with (go_at_call 118; refine H118.mono ?_; clear H118; rintro e w1 ⟨rfl, hb1⟩; have cC := (hC0.below hb1).cells)
  go_ret
  exact ⟨rfl, bt hb0 hb1⟩
/-- a row of numbers of a call's own -/
def RowOwn (w : World) (lo b n : Nat) (x : Nat → Num) : Prop := lo ≤ b ∧ RowB w b n x
/-- a basis state with a power of w -/
def stV (t p j : Nat) : Num := if j = t then Num.w p else Num.zero
set_option maxHeartbeats 1000000 in
set_option maxRecDepth 100000 in
theorem f119_any (n k N : Nat) (w : World) (hn : n ≤ 6) (hN : Hid (2 ^ n = N)) (hk : k < N) :
    Calls Tryz.prog 119 #[.int .i64 n, .int .i64 k] w fun e w' => e = .returned (.tuple #[.slice (some ⟨w.heap.size, 0, none⟩) N N, .int .i64 0]) ∧ RowB w' w.heap.size N (stV k 0) ∧ Below w.heap.size w w' := by
  have hNb : 1 ≤ 2 ^ n ∧ 2 ^ n ≤ 64 := ⟨Nat.two_pow_pos n, Nat.pow_le_pow_right (n := 2) (by decide) hn⟩
  have hwN := w64s n hn
  rw [hN.out] at hNb hwN
  have hwN2 : IntKind.i64.wrap (2 ^ n) = (N : Int) := by rw [IntKind.wrap_i64]; have h := hwN; unfold wrap64 at h; exact h
  have h1 : ¬ ((n : Int) < 0) := by omega
  have h2 : ¬ ((6 : Int) < (n : Int)) := by omega
  have h3 : ¬ ((k : Int) < 0) := by omega
  have h4 : ¬ ((N : Int) ≤ (k : Int)) := by omega
  have h5 : (k : Int) < (N : Int) := by omega
  have hm := fun w => mk72 N w (by omega)
  go_enter Tryz.func119, Tryz.ntmps119
  go_wp2_with (go_at_call 61; refine (f61_any 0 _ (by decide)).mono ?_; rintro e w1 ⟨rfl, hb1⟩; have hR1 := (RowB.zero (n := N) (Blk.new w 38 (zrow N))).below hb1; have hf1 := hR1.frozen; have hl1 := hR1.lt; obtain ⟨y0, y1, y2, y3, y4⟩ := hR1.numAt hk)
  have hF := hR1.put hk (Num.w 0)
  rw [show put1 (fun _ => Num.zero) k (Num.w 0) = stV k 0 from by funext j; unfold put1 stV; rfl] at hF
  refine bodyPost_ret (v := .tuple #[.slice (some ⟨w.heap.size, 0, none⟩) N N, .int .i64 0]) (by simp [results, Tryz.results119, go_sem]) rfl ⟨rfl, hF, ?_⟩
  exact below_setNum (bt ((Below.refl _ w).alloc (Nat.le_refl _) _) hb1) (Nat.le_refl _) k (Num.w 0)
theorem und160 : Tryz.prog.underlying 160 = some (.map 3 31) := by kernel_rfl
/-- the operators that were made -/
def OpsAt (mb : Nat) (w : World) : Prop := ∃ es c, w.heap[mb]? = some (.map es c) ∧ IntKeys es ∧ AllGood w es
theorem run_lookup_no {T E : TypeId} (hT : Tryz.prog.underlying T = some (.map 3 E)) (z : Value) (w : World) (b : Nat) (es : Array MapEntry) (c : Nat) (k : Int) (hz : (zeroValue E).run Tryz.prog w = .ok z w) (hb : w.heap[b]? = some (.map es c)) (hk : IntKeys es)
    (hex : ¬ ∃ e ∈ es.toList, e.key = .int .i64 k) : (Instr.lookup T (.map (some b)) (.int .i64 k) true).run Tryz.prog w = .ok (.tuple #[z, .bool false]) w := by
  rcases findNow_int k es.toList 0 hk with ⟨h1, h2⟩ | ⟨j, e, h1, h2, h3⟩
  · have hc := run_checkKey_int es.isEmpty 9999 k w
    simp [Instr.lookup, run_underlying hT, MapKept.run_getObj_map hb, hc, MapKept.run_findKey und3 h1, Result.andThen, hz]
  · exact absurd ⟨e, List.mem_of_getElem? h1, h2⟩ hex
theorem run_lookup_okf {T E : TypeId} (hT : Tryz.prog.underlying T = some (.map 3 E)) (w : World) (b : Nat) (es : Array MapEntry) (c : Nat) (k : Int) (hb : w.heap[b]? = some (.map es c)) (hk : IntKeys es)
    (hex : ∃ e ∈ es.toList, e.key = .int .i64 k) : ∃ e ∈ es.toList, e.key = .int .i64 k ∧ (Instr.lookup T (.map (some b)) (.int .i64 k) true).run Tryz.prog w = .ok (.tuple #[e.val, .bool true]) w ∧ (Instr.lookup T (.map (some b)) (.int .i64 k) false).run Tryz.prog w = .ok e.val w := by
  rcases findNow_int k es.toList 0 hk with ⟨h1, h2⟩ | ⟨j, e, h1, h2, h3⟩
  · obtain ⟨e, he, hke⟩ := hex
    exact absurd hke (h2 e he)
  · refine ⟨e, List.mem_of_getElem? h1, h2, ?_, ?_⟩
    all_goals
      have hc := run_checkKey_int es.isEmpty 9999 k w
      simp [Instr.lookup, run_underlying hT, MapKept.run_getObj_map hb, hc, MapKept.run_findKey und3 h3, Result.andThen]
theorem lookup160 {w : World} {b : Nat} {es : Array MapEntry} {c k : Nat} (hb : w.heap[b]? = some (.map es c)) (hk : IntKeys es) (hg : AllGood w es) (hex : ∃ e ∈ es.toList, e.key = .int .i64 (k : Int)) :
    ∃ b1 off, Mat w (some ⟨b1, off, none⟩) (dimK k) (dimK k) (opM k) ∧ (Instr.lookup 160 (.map (some b)) (.int .i64 (k : Int)) true).run Tryz.prog w = .ok (.tuple #[.slice (some ⟨b1, off, none⟩) (dimK k) (dimK k), .bool true]) w ∧
      (Instr.lookup 160 (.map (some b)) (.int .i64 (k : Int)) false).run Tryz.prog w = .ok (.slice (some ⟨b1, off, none⟩) (dimK k) (dimK k)) w := by
  obtain ⟨e, he, hke, h1, h2⟩ := run_lookup_okf und160 w b es c k hb hk hex
  obtain ⟨k', _, _, hk', b1, off, hv, hM⟩ := hg e he
  have : k' = k := key_inj (hke.symm.trans hk')
  subst this
  rw [hv] at h1 h2
  exact ⟨b1, off, hM, h1, h2⟩
theorem KeepX.putObj (w : World) (b : Nat) (o : Obj) : KeepX b w (w.putObj b o) := by
  refine ⟨rfl, rfl, rfl, by simp [World.putObj], fun k hk hne => World.putObj_heap_other (fun e => hne e)⟩
theorem Mat.ofCells {W W' : World} (hs : W.heap.size ≤ W'.heap.size) (hc : ∀ {p : Addr} {v : Value}, W.cell? p = some v → W'.cell? p = some v) {A : Option Addr} {h n : Nat} {M : Nat → Nat → Num} (H : Mat W A h n M) : Mat W' A h n M := by
  obtain ⟨b, off, rb, ro, rc, e, H⟩ := H
  exact ⟨b, off, rb, ro, rc, e, H.dims, Nat.lt_of_lt_of_le H.lt hs, fun i hi => ⟨hc (H.row i hi).1, Nat.lt_of_lt_of_le (H.row i hi).2 hs⟩, fun i j hi hj => ⟨hc (H.num i j hi hj).1, hc (H.num i j hi hj).2.1, hc (H.num i j hi hj).2.2.1, hc (H.num i j hi hj).2.2.2.1, hc (H.num i j hi hj).2.2.2.2⟩⟩
theorem OpsAt.cell {mb : Nat} {w w' : World} (h : OpsAt mb w) (hk : KeepX mb w w') {p : Addr} {v : Value} (hp : w.cell? p = some v) : w'.cell? p = some v := by
  obtain ⟨es, c, h1, _⟩ := h
  obtain ⟨cs, T, f, hc⟩ := cells_of_cell hp
  have hne : p.block ≠ mb := fun e => by rw [e, h1] at hc; cases hc
  exact (hk.cell (Array.getElem?_eq_some_iff.1 hc).1 hne).trans hp
theorem OpsAt.mat {mb : Nat} {w w' : World} (h : OpsAt mb w) (hk : KeepX mb w w') {A : Option Addr} {r n : Nat} {M : Nat → Nat → Num} (H : Mat w A r n M) : Mat w' A r n M := H.ofCells hk.size (h.cell hk)
theorem OpsAt.below {mb : Nat} {w w' : World} (h : OpsAt mb w) (hb : Below w.heap.size w w') : OpsAt mb w' := by
  obtain ⟨es, c, h1, h2, h3⟩ := h
  exact ⟨es, c, (hb.block mb (Array.getElem?_eq_some_iff.1 h1).1).trans h1, h2, fun e he => by
    obtain ⟨k, a1, a2, a3, b, off, e', H⟩ := h3 e he
    exact ⟨k, a1, a2, a3, b, off, e', H.below hb⟩⟩
theorem OpsAt.lt {mb : Nat} {w : World} (h : OpsAt mb w) : mb < w.heap.size := by
  obtain ⟨es, c, h1, _⟩ := h
  exact (Array.getElem?_eq_some_iff.1 h1).1
theorem ops_insert {w : World} {mb k : Nat} {v : Value} (h : OpsAt mb w) (hk1 : 1 ≤ k) (hk2 : k ≤ 12) (hv : GoodV k v w) :
    ∃ w', (Instr.mapUpdate 160 (.map (some mb)) (.int .i64 (k : Int)) v).run Tryz.prog w = .ok () w' ∧ KeepX mb w w' ∧ OpsAt mb w' ∧ ∃ b off, Mat w' (some ⟨b, off, none⟩) (dimK k) (dimK k) (opM k) ∧
      (Instr.lookup 160 (.map (some mb)) (.int .i64 (k : Int)) false).run Tryz.prog w' = .ok (.slice (some ⟨b, off, none⟩) (dimK k) (dimK k)) w' := by
  obtain ⟨es, c, h1, h2, h3⟩ := h
  obtain ⟨es', c', hrun, g1, g2, g3, g4⟩ := run_mapUpdate_int und160 w mb es c (k : Int) v h1 h2
  have hlt := (Array.getElem?_eq_some_iff.1 h1).1
  have hnew : (w.putObj mb (.map es' c')).heap[mb]? = some (.map es' c') := by simp [World.putObj, hlt]
  have hK := KeepX.putObj w mb (.map es' c')
  have hgood : ∀ k v, GoodV k v w → GoodV k v (w.putObj mb (.map es' c')) := fun k v ⟨b, off, e, H⟩ => ⟨b, off, e, OpsAt.mat ⟨es, c, h1, h2, h3⟩ hK H⟩
  have hag : AllGood (w.putObj mb (.map es' c')) es' := by
    intro e he
    rcases g3 e he with ⟨e1, e2⟩ | he'
    · exact ⟨k, hk1, hk2, e1, by rw [e2]; exact hgood k v hv⟩
    · obtain ⟨k', a1, a2, a3, a4⟩ := h3 e he'
      exact ⟨k', a1, a2, a3, hgood _ _ a4⟩
  obtain ⟨b, off, hM, _, hr⟩ := lookup160 hnew g1 hag g2
  exact ⟨_, hrun, hK, ⟨es', c', hnew, g1, hag⟩, b, off, hM, hr⟩
set_option maxHeartbeats 1000000 in
set_option maxRecDepth 100000 in
theorem f146_any (mb k : Nat) (w : World) (h : OpsAt mb w) (h1 : 1 ≤ k) (h2 : k ≤ 12) :
    Calls Tryz.prog 146 #[.map (some mb), .int .i64 k] w fun e w' => ∃ b off, e = .returned (.slice (some ⟨b, off, none⟩) (dimK k) (dimK k)) ∧ Mat w' (some ⟨b, off, none⟩) (dimK k) (dimK k) (opM k) ∧ OpsAt mb w' ∧ KeepX mb w w' := by
  have h0 := h
  obtain ⟨es, c, a1, a2, a3⟩ := h
  by_cases hex : ∃ e ∈ es.toList, e.key = .int .i64 (k : Int)
  · obtain ⟨b, off, hM, hr1, hr2⟩ := lookup160 a1 a2 a3 hex
    clear a1 a2 a3 hex
    go_enter Tryz.func146, Tryz.ntmps146
    go_wp2_with (fail)
    go_ret
    exact ⟨b, off, rfl, hM, h0, KeepX.refl _ _⟩
  · have hr1 := run_lookup_no und160 (.slice none 0 0) w mb es c (k : Int) (by kernel_rfl) a1 a2 hex
    clear a1 a2 a3 hex
    have H13 := f13_any k w h1 h2
    go_enter Tryz.func146, Tryz.ntmps146
    go_wp2_with (go_at_call 13; refine H13.mono ?_; clear H13; rintro e w1 ⟨b, off, rfl, hM, hb1⟩; obtain ⟨w2, hr2, hk2, ho2, b2, off2, hM2, hr3⟩ := ops_insert (h0.below hb1) h1 h2 ⟨b, off, rfl, hM⟩)
    go_ret
    exact ⟨b2, off2, rfl, hM2, ho2, (KeepX.of_below hb1).trans hk2⟩
end
section
open Go.RowKit
instance : DecidableEq Q := fun x y => decidable_of_iff (x.a = y.a ∧ x.b = y.b ∧ x.c = y.c ∧ x.d = y.d) ⟨fun h => by cases x; cases y; obtain ⟨h1, h2, h3, h4⟩ := h; dsimp only at h1 h2 h3 h4; rw [h1, h2, h3, h4], fun h => by rw [h]; exact ⟨rfl, rfl, rfl, rfl⟩⟩
instance : DecidableEq Num := fun x y => decidable_of_iff (x.q = y.q ∧ x.k = y.k) ⟨fun h => by cases x; cases y; obtain ⟨h1, h2⟩ := h; dsimp only at h1 h2; rw [h1, h2], fun h => by rw [h]; exact ⟨rfl, rfl⟩⟩
/-- where the number of a row of an operator lies that is not 0 -/
def colK (k i : Nat) : Nat :=
  match k with
  | 1 | 2 => 1 - i
  | 9 => i ^^^ (i % 2) * 2
  | 11 => i / 2 + (i % 2) * 2
  | 12 => i ^^^ (i % 2) * (i / 2 % 2) * 4
  | _ => i
/-- its power of w -/
def phK (k i : Nat) : Nat :=
  match k with
  | 2 => 6 - 4 * i
  | 3 => 4 * i
  | 5 => 2 * i
  | 6 => 6 * i
  | 7 => i
  | 8 => 7 * i
  | 10 => if i = 3 then 4 else 0
  | _ => 0
theorem dimK_pow (k : Nat) (h1 : 1 ≤ k) (h2 : k ≤ 12) : 2 ^ arK k = dimK k := by
  obtain rfl | rfl | rfl | rfl | rfl | rfl | rfl | rfl | rfl | rfl | rfl | rfl := kinds12 h1 h2 <;> rfl
def opChk (k : Nat) : Bool := (List.range (dimK k)).all fun i => (List.range (dimK k)).all fun j => decide (opM k i j = if j = colK k i then Num.w (phK k i) else Num.zero) && decide (colK k i < dimK k ∧ phK k i < 8)
theorem opChk_all (k : Nat) (h1 : 1 ≤ k) (h2 : k ≤ 12) (h4 : k ≠ 4) : opChk k = true := by
  obtain rfl | rfl | rfl | rfl | rfl | rfl | rfl | rfl | rfl | rfl | rfl | rfl := kinds12 h1 h2
  all_goals first | exact absurd rfl h4 | decide +kernel
theorem opM_at (k : Nat) (h1 : 1 ≤ k) (h2 : k ≤ 12) (h4 : k ≠ 4) (i j : Nat) (hi : i < dimK k) (hj : j < dimK k) : (opM k i j = if j = colK k i then Num.w (phK k i) else Num.zero) ∧ colK k i < dimK k ∧ phK k i < 8 := by
  have h := opChk_all k h1 h2 h4
  unfold opChk at h
  rw [List.all_eq_true] at h
  have h := h i (by simpa using hi)
  rw [List.all_eq_true] at h
  have h := h j (by simpa using hj)
  rw [Bool.and_eq_true, decide_eq_true_eq, decide_eq_true_eq] at h
  exact ⟨h.1, h.2⟩
theorem mulN_w : ∀ a : Nat, a < 8 → mulN (Num.w a) Num.zero = (Num.zero, 0) ∧ ∀ p : Nat, p < 8 → mulN (Num.w a) (Num.w p) = (Num.w ((a + p) % 8), 0) := by
  decide +kernel
/-- a number of the state after a gate, where the state before was a basis state with a power of w -/
def appF (g : Gt) (t p row : Nat) : Num := if outK g.ws (restK g.ws row g.ws.length) (colK g.k (inK g.ws row g.ws.length)) g.ws.length = t then Num.w ((phK g.k (inK g.ws row g.ws.length) + p) % 8) else Num.zero
def stepG (g : Gt) (t : Nat) : Nat := doneX g.k (g.ws.getD 0 0) (g.ws.getD 1 0) (g.ws.getD 2 0) t
def stepP (g : Gt) (t p : Nat) : Nat := doneP g.k (g.ws.getD 0 0) (g.ws.getD 1 0) t p % 8
end
section
open Go.RowKit
def frG (k : Nat) (ws : List Nat) (r : Nat) : Nat := outK ws (restK ws r ws.length) (colK k (inK ws r ws.length)) ws.length
def lawC (k : Nat) (ws : List Nat) : Bool := (List.range 64).all fun x =>
  (frG k ws (doneX k (ws.getD 0 0) (ws.getD 1 0) (ws.getD 2 0) x)).beq x && (doneX k (ws.getD 0 0) (ws.getD 1 0) (ws.getD 2 0) (frG k ws x)).beq x &&
    (doneP k (ws.getD 0 0) (ws.getD 1 0) x 0 % 8).beq (phK k (inK ws (doneX k (ws.getD 0 0) (ws.getD 1 0) (ws.getD 2 0) x) ws.length))
theorem law1 : ∀ k ∈ [1, 2, 3, 5, 6, 7, 8], ∀ a ∈ [0, 1, 2, 3, 4, 5], lawC k [a] = true := by decide +kernel
theorem law2 : ∀ k ∈ [9, 10, 11], ∀ a ∈ [0, 1, 2, 3, 4, 5], ∀ b ∈ [0, 1, 2, 3, 4, 5], a ≠ b → lawC k [a, b] = true := by decide +kernel
theorem law3 : ∀ a ∈ [0, 1, 2, 3, 4, 5], ∀ b ∈ [0, 1, 2, 3, 4, 5], ∀ c ∈ [0, 1, 2, 3, 4, 5], a ≠ b → a ≠ c → b ≠ c → lawC 12 [a, b, c] = true := by decide +kernel
theorem mem6 {a : Nat} (h : a < 6) : a ∈ [0, 1, 2, 3, 4, 5] := by
  obtain rfl | rfl | rfl | rfl | rfl | rfl : a = 0 ∨ a = 1 ∨ a = 2 ∨ a = 3 ∨ a = 4 ∨ a = 5 := by omega
  all_goals simp
theorem lawG (g : Gt) (n : Nat) (hg : Gt.ok g n) (hn : n ≤ 6) : lawC g.k g.ws = true := by
  obtain ⟨h1, h2, h3, hlen, hlt, hnd⟩ := hg
  obtain ⟨k, ws⟩ := g
  dsimp only at *
  have hm : ∀ a ∈ ws, a ∈ [0, 1, 2, 3, 4, 5] := fun a ha => mem6 (by have := hlt a ha; omega)
  have hk : arK k = 1 ∧ k ∈ [1, 2, 3, 5, 6, 7, 8] ∨ arK k = 2 ∧ k ∈ [9, 10, 11] ∨ arK k = 3 ∧ k = 12 := by
    obtain rfl | rfl | rfl | rfl | rfl | rfl | rfl | rfl | rfl | rfl | rfl | rfl := kinds12 h1 h2
    all_goals first | exact absurd rfl h3 | decide
  rcases hk with ⟨ha, hk⟩ | ⟨ha, hk⟩ | ⟨ha, rfl⟩
  · rw [ha] at hlen
    match ws, hlen with
    | [a], _ => exact law1 k hk a (hm a (by simp))
  · rw [ha] at hlen
    match ws, hlen with
    | [a, b], _ =>
      simp at hnd
      exact law2 k hk a (hm a (by simp)) b (hm b (by simp)) hnd
  · rw [ha] at hlen
    match ws, hlen with
    | [a, b, c], _ =>
      simp at hnd
      exact law3 a (hm a (by simp)) b (hm b (by simp)) c (hm c (by simp)) hnd.1.1 hnd.1.2 hnd.2
theorem doneP_add (k w0 w1 x p : Nat) : doneP k w0 w1 x p = p + doneP k w0 w1 x 0 := by
  unfold doneP
  split <;> omega
theorem app_step (g : Gt) (n t p row : Nat) (hg : Gt.ok g n) (hn : n ≤ 6) (hr : row < 64) (ht : t < 64) : appF g t p row = stV (stepG g t) (stepP g t p) row := by
  have h := lawG g n hg hn
  unfold lawC at h
  rw [List.all_eq_true] at h
  have hA := h t (by simpa using ht)
  have hB := h row (by simpa using hr)
  simp only [Bool.and_eq_true, Nat.beq_eq_true_eq] at hA hB
  obtain ⟨⟨a1, a2⟩, a3⟩ := hA
  obtain ⟨⟨b1, b2⟩, b3⟩ := hB
  replace a1 := Nat.eq_of_beq_eq_true a1
  replace a3 := Nat.eq_of_beq_eq_true a3
  replace b2 := Nat.eq_of_beq_eq_true b2
  unfold frG at a1 b2
  unfold appF stV stepG stepP
  rw [doneP_add]
  by_cases e : row = doneX g.k (g.ws.getD 0 0) (g.ws.getD 1 0) (g.ws.getD 2 0) t
  · rw [if_pos e, if_pos (by rw [e]; exact a1)]
    congr 1
    rw [e, ← a3]
    omega
  · rw [if_neg e, if_neg]
    intro e2
    exact e (by rw [← e2]; exact b2.symm)
theorem bit_lt (x q m n : Nat) (hm : m < n) : (x / 2 ^ q % 2) * 2 ^ m < 2 ^ n := by
  have h2 : x / 2 ^ q % 2 < 2 := Nat.mod_lt _ (by decide)
  have hp := Nat.two_pow_pos m
  have := Nat.pow_le_pow_right (n := 2) (by decide) (show m + 1 ≤ n by omega)
  rw [Nat.pow_succ] at this
  obtain h3 | h3 : x / 2 ^ q % 2 = 0 ∨ x / 2 ^ q % 2 = 1 := by omega
  · rw [h3]; omega
  · rw [h3]; omega
theorem step_lt (g : Gt) (n t : Nat) (hg : Gt.ok g n) (ht : t < 2 ^ n) : stepG g t < 2 ^ n := by
  obtain ⟨h1, h2, h3, hlen, hlt, hnd⟩ := hg
  obtain ⟨k, ws⟩ := g
  dsimp only at *
  have hw : ∀ j, j < arK k → ws.getD j 0 < n := fun j hj => by
    rw [List.getD_eq_getElem?_getD, List.getElem?_eq_getElem (by omega : j < ws.length)]
    exact hlt _ (List.getElem_mem _)
  have hp : ∀ j, j < arK k → 2 ^ ws.getD j 0 < 2 ^ n := fun j hj => Nat.pow_lt_pow_right (by decide) (hw j hj)
  unfold stepG doneX
  obtain rfl | rfl | rfl | rfl | rfl | rfl | rfl | rfl | rfl | rfl | rfl | rfl := kinds12 h1 h2
  all_goals dsimp only
  all_goals first
    | exact ht
    | exact Nat.xor_lt_two_pow ht (hp 0 (by decide))
    | exact Nat.xor_lt_two_pow ht (bit_lt _ _ _ _ (hw 1 (by decide)))
    | skip
  · refine Nat.xor_lt_two_pow ht (Nat.or_lt_two_pow ?_ ?_)
    all_goals
      have hx : (t / 2 ^ ws.getD 0 0 % 2) ^^^ (t / 2 ^ ws.getD 1 0 % 2) < 2 := Nat.xor_lt_two_pow (n := 1) (Nat.mod_lt _ (by decide)) (Nat.mod_lt _ (by decide))
      have := bit_lt ((t / 2 ^ ws.getD 0 0 % 2) ^^^ (t / 2 ^ ws.getD 1 0 % 2)) 0
      rw [Nat.pow_zero, Nat.div_one, Nat.mod_eq_of_lt hx] at this
      first | exact this _ _ (hw 0 (by decide)) | exact this _ _ (hw 1 (by decide))
  · refine Nat.xor_lt_two_pow ht ?_
    have h1 := bit_lt t (ws.getD 1 0) (ws.getD 2 0) n (hw 2 (by decide))
    have h2 : t / 2 ^ ws.getD 0 0 % 2 < 2 := Nat.mod_lt _ (by decide)
    refine Nat.lt_of_le_of_lt ?_ h1
    obtain h3 | h3 : t / 2 ^ ws.getD 0 0 % 2 = 0 ∨ t / 2 ^ ws.getD 0 0 % 2 = 1 := by omega
    · rw [h3]; simp
    · rw [h3]; simp
end
end Go.Proofs.YtdfgmmjcamhdjaaGreatDoor
