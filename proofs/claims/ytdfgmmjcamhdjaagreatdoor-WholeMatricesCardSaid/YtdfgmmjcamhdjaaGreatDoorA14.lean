/- Steps to WholeMatrices' card; what each asks stands in it. -/
import Derived.Test.YtdfgmmjcamhdjaaGreatDoorA13
set_option linter.unusedVariables false
set_option linter.unusedSimpArgs false
namespace Go.Proofs.YtdfgmmjcamhdjaaGreatDoor
section
open Go.RowKit
attribute [local go_sem ↓] Go.wp_at_zero Go.wp_at_succ
theorem defers_putL {ops : Array Oper} {a0 : Act} {vs : Nat → Value} {L : Nat → Bool} : ∀ k, (Rely.putL ops a0 vs L k).defers = a0.defers
  | 0 => rfl
  | k + 1 => by
    unfold Rely.putL
    split
    · have ih := defers_putL (ops := ops) (a0 := a0) (vs := vs) (L := L) k
      cases h : Rely.dstOf ops k <;> exact ih
    · exact defers_putL k
theorem lt67 (i : Nat) (h : i < 67) : i = 0 ∨ i = 1 ∨ i = 2 ∨ i = 3 ∨ i = 4 ∨ i = 5 ∨ i = 6 ∨ i = 7 ∨ i = 8 ∨ i = 9 ∨ i = 10 ∨ i = 11 ∨ i = 12 ∨ i = 13 ∨ i = 14 ∨ i = 15 ∨ i = 16 ∨ i = 17 ∨ i = 18 ∨ i = 19 ∨ i = 20 ∨ i = 21 ∨ i = 22 ∨ i = 23 ∨ i = 24 ∨ i = 25 ∨ i = 26 ∨ i = 27 ∨ i = 28 ∨ i = 29 ∨ i = 30 ∨ i = 31 ∨ i = 32 ∨ i = 33 ∨ i = 34 ∨ i = 35 ∨ i = 36 ∨ i = 37 ∨ i = 38 ∨ i = 39 ∨ i = 40 ∨ i = 41 ∨ i = 42 ∨ i = 43 ∨ i = 44 ∨ i = 45 ∨ i = 46 ∨ i = 47 ∨ i = 48 ∨ i = 49 ∨ i = 50 ∨ i = 51 ∨ i = 52 ∨ i = 53 ∨ i = 54 ∨ i = 55 ∨ i = 56 ∨ i = 57 ∨ i = 58 ∨ i = 59 ∨ i = 60 ∨ i = 61 ∨ i = 62 ∨ i = 63 ∨ i = 64 ∨ i = 65 ∨ i = 66 := by omega
def onlyDst (ops : Array Oper) (d x : Nat) : Bool := (List.range ops.size).all fun j => j == d || Rely.dstOf ops j != some x
theorem onlyDst_spec {ops : Array Oper} {d x : Nat} (h : onlyDst ops d x = true) : ∀ j, j < ops.size → j ≠ d → Rely.dstOf ops j ≠ some x := by
  intro j hj hne
  unfold onlyDst at h
  simp only [List.all_eq_true, List.mem_range, Bool.or_eq_true, beq_iff_eq, bne_iff_ne] at h
  exact (h j hj).resolve_left hne
def notDst (ops : Array Oper) (x : Nat) : Bool := (List.range ops.size).all fun d => Rely.dstOf ops d != some x
theorem notDst_spec {ops : Array Oper} {x : Nat} (h : notDst ops x = true) : ∀ d, d < ops.size → ∀ t, Rely.dstOf ops d = some t → Operand.tmp x ≠ .tmp t := by
  intro d hd t ht e
  cases e
  unfold notDst at h
  simp only [List.all_eq_true, List.mem_range, bne_iff_ne] at h
  exact h d hd ht
theorem mem_direct {ops : Array Oper} {i d : Nat} (h : (Calm.direct ops i).contains d = true) : d ∈ Calm.direct ops i := by simpa using h
set_option maxHeartbeats 8000000 in
set_option maxRecDepth 100000 in
theorem f52_any (w : World) : Calls Tryz.prog 52 #[] w fun e w' => ∃ b es c, e = .returned (.map (some b)) ∧ w'.heap[b]? = some (.map es c) ∧ IntKeys es ∧ AllGood w' es ∧ (∀ k : Nat, 1 ≤ k → k ≤ 12 → ∃ e ∈ es.toList, e.key = .int .i64 (k : Int)) ∧ Below w.heap.size w w' := by
  have H99 : ∀ W : World, Calls Tryz.prog 99 #[.agg #[.int .i64 1, .int .i64 0, .int .i64 0, .int .i64 0, .int .i64 1]] W fun e w' => e = .returned (.tuple #[.agg #[.int .i64 (-1), .int .i64 0, .int .i64 0, .int .i64 0, .int .i64 1], .int .i64 0]) ∧ Below W.heap.size W w' := fun W =>
    f99_any Num.rt W (show okN _ _ from ⟨by decide, by decide⟩) (by decide) Num.mn 0 (show _ = _ by kernel_rfl)
  have H98 : ∀ W : World, Calls Tryz.prog 98 #[.int .i64 1] W fun e w' => e = .returned (.tuple #[.agg #[.int .i64 1, .int .i64 0, .int .i64 0, .int .i64 0, .int .i64 1], .int .i64 0]) ∧ Below W.heap.size W w' := fun W => f98_any 1 W (by decide)
  go_enter Tryz.func52, Tryz.ntmps52
  go_wp2_with (first
    | (go_at_call 98; refine (H98 _).mono ?_; rintro e w1 ⟨rfl, hb1⟩; have hA1 := Blk.new w1 38 #[.int .i64 1, .int .i64 0, .int .i64 0, .int .i64 0, .int .i64 1]; have hB1 : Below w.heap.size w (w1.alloc (.cells #[.int .i64 1, .int .i64 0, .int .i64 0, .int .i64 0, .int .i64 1] 38)) := hb1.alloc hb1.size _; have cA1 := hA1.cells)
    | (go_at_call 99; refine (H99 _).mono ?_; rintro e w2 ⟨rfl, hb2⟩; have hA2 := (hA1.below hb2).alloc (.cells #[.int .i64 (-1), .int .i64 0, .int .i64 0, .int .i64 0, .int .i64 1] 38); have hM2 := Blk.new w2 38 #[.int .i64 (-1), .int .i64 0, .int .i64 0, .int .i64 0, .int .i64 1]; have hB2 : Below w.heap.size w (w2.alloc (.cells #[.int .i64 (-1), .int .i64 0, .int .i64 0, .int .i64 0, .int .i64 1] 38)) := (bt hB1 hb2).alloc (bt hB1 hb2).size _))
  obtain ⟨W4, hW4⟩ : ∃ W4, w2.alloc (.cells #[.int .i64 (-1), .int .i64 0, .int .i64 0, .int .i64 0, .int .i64 1] 38) = W4 := ⟨_, rfl⟩
  obtain ⟨B2, hB2e⟩ : ∃ B2, w1.heap.size = B2 := ⟨_, rfl⟩
  obtain ⟨B4, hB4e⟩ : ∃ B4, w2.heap.size = B4 := ⟨_, rfl⟩
  rw [hW4] at hA2 hM2 hB2 ⊢
  rw [hB2e] at hA2 ⊢
  rw [hB4e] at hM2 ⊢
  clear hW4 hB4e hB2e hb2 hb1 hA1 hB1 cA1 H99 H98 w2 w1
  refine Rely.wp_region (C := (C52 w B2 B4)) (T := Grow) (R := (fun i vs W => (kinds52 i).says w.heap.size i vs W)) (N := 69) (by kernel_rfl) (by kernel_rfl) (by kernel_rfl) (fun i vs W W' g h => says_grow g _ h) (fun i vs vs' W hi hd h => ?hloc) ⟨hB2.drew, hA2.drew, hM2.drew⟩ (fun i o ho ρ vs W hC hk => ?hstep) (fun vs W hC hR => ?hQ)
  case hloc =>
    have h2 : (kinds52 i).saysV w.heap.size (vs' i) (vs 0) W := by rw [← hi]; exact h
    exact says_loc _ (fun hs => hd 0 (elders_spec (by kernel_rfl) hs)) h2
  case hQ =>
    have k66 : vs 66 = vs 0 := hR 66 (by decide)
    have i1 : HasKey w.heap.size 1 (vs 0) W := hR 2 (by decide)
    have i2 : HasKey w.heap.size 2 (vs 0) W := hR 12 (by decide)
    have i3 : HasKey w.heap.size 3 (vs 0) W := hR 18 (by decide)
    have i4 : HasKey w.heap.size 4 (vs 0) W := hR 26 (by decide)
    have i5 : HasKey w.heap.size 5 (vs 0) W := hR 32 (by decide)
    have i6 : HasKey w.heap.size 6 (vs 0) W := hR 38 (by decide)
    have i7 : HasKey w.heap.size 7 (vs 0) W := hR 44 (by decide)
    have i8 : HasKey w.heap.size 8 (vs 0) W := hR 50 (by decide)
    have i9 : HasKey w.heap.size 9 (vs 0) W := hR 52 (by decide)
    have i10 : HasKey w.heap.size 10 (vs 0) W := hR 60 (by decide)
    have i11 : HasKey w.heap.size 11 (vs 0) W := hR 62 (by decide)
    have i12 : HasKey w.heap.size 12 (vs 0) W := hR 64 (by decide)
    have i1' := i1
    clear hR
    generalize hA : Rely.putL _ _ vs _ _ = A
    have hA0 : A.eval (.tmp 0) = vs 66 := by
      rw [← hA]
      exact Rely.eval_some (d := 66) (L := fun _ => true) rfl (by kernel_rfl) (show 0 < 69 by decide) _ (by decide) (onlyDst_spec (by kernel_rfl))
    have hAd : A.defers = [] := by
      rw [← hA]
      exact (defers_putL _).trans rfl
    clear hA
    obtain ⟨tm, df⟩ := A
    obtain rfl : df = [] := hAd
    have hA1 : tm.getD 0 undef = vs 0 := (show _ = _ from hA0).trans k66
    obtain ⟨b, es, c, hm, _, h1, h2, h3, h4⟩ := i1
    have hkeys : ∀ k : Nat, HasKey w.heap.size k (vs 0) W → ∃ e ∈ es.toList, e.key = .int .i64 (k : Int) := by
      rintro k ⟨b', es', c', hm', _, g1, _, _, g4⟩
      rw [hm] at hm'
      cases hm'
      rw [h1] at g1
      cases g1
      exact g4
    have hA2 : tm[0]?.getD undef = vs 0 := by simpa using hA1
    clear hA0
    go_wp2
    refine bodyPost_ret (v := vs 0) (by simp [results, Tryz.results52, go_sem, hA1, hA2]) rfl ⟨b, es, c, by rw [hm], h1, h2, h3, fun k hk1 hk2 => ?_, hC.1⟩
    have hk12 : k = 1 ∨ k = 2 ∨ k = 3 ∨ k = 4 ∨ k = 5 ∨ k = 6 ∨ k = 7 ∨ k = 8 ∨ k = 9 ∨ k = 10 ∨ k = 11 ∨ k = 12 := by omega
    obtain rfl | rfl | rfl | rfl | rfl | rfl | rfl | rfl | rfl | rfl | rfl | rfl := hk12
    · exact hkeys 1 i1'
    · exact hkeys 2 i2
    · exact hkeys 3 i3
    · exact hkeys 4 i4
    · exact hkeys 5 i5
    · exact hkeys 6 i6
    · exact hkeys 7 i7
    · exact hkeys 8 i8
    · exact hkeys 9 i9
    · exact hkeys 10 i10
    · exact hkeys 11 i11
    · exact hkeys 12 i12
  case hstep =>
    have hc : ∀ v, ρ (.const v) = v := fun v => hk.2 (.const v) (fun _ _ _ _ e => by cases e)
    have hf : ∀ f, ρ (.func f) = .func (.func f) #[] #[] := fun f => hk.2 (.func f) (fun _ _ _ _ e => by cases e)
    have e1 : ρ (.tmp 1) = .func (.func 61) #[] #[] := hk.2 (.tmp 1) (notDst_spec (by kernel_rfl))
    have e2 : ρ (.tmp 2) = .pointer (some ⟨B2, 0, none⟩) := hk.2 (.tmp 2) (notDst_spec (by kernel_rfl))
    have e4 : ρ (.tmp 4) = .pointer (some ⟨B4, 0, none⟩) := hk.2 (.tmp 4) (notDst_spec (by kernel_rfl))
    replace hk := hk.1
    have hi : i < 67 := (Array.getElem?_eq_some_iff.1 ho).1
    obtain rfl | rfl | rfl | rfl | rfl | rfl | rfl | rfl | rfl | rfl | rfl | rfl | rfl | rfl | rfl | rfl | rfl | rfl | rfl | rfl | rfl | rfl | rfl | rfl | rfl | rfl | rfl | rfl | rfl | rfl | rfl | rfl | rfl | rfl | rfl | rfl | rfl | rfl | rfl | rfl | rfl | rfl | rfl | rfl | rfl | rfl | rfl | rfl | rfl | rfl | rfl | rfl | rfl | rfl | rfl | rfl | rfl | rfl | rfl | rfl | rfl | rfl | rfl | rfl | rfl | rfl | rfl := lt67 i hi
    · obtain rfl : _ = o := Option.some.inj ho
      exact st52_0 (m := vs 0) hC hc hf
    · obtain rfl : _ = o := Option.some.inj ho
      exact st52_1 (m := vs 0) hC hc hf
    · obtain rfl : _ = o := Option.some.inj ho
      exact st52_2 (m := vs 0) hC hc hf ((hk 0 (mem_direct (by kernel_rfl))).2 15 (by kernel_rfl)) (hk 0 (mem_direct (by kernel_rfl))).1 (vs 1) ((hk 1 (mem_direct (by kernel_rfl))).2 16 (by kernel_rfl)) (hk 1 (mem_direct (by kernel_rfl))).1
    · obtain rfl : _ = o := Option.some.inj ho
      exact st52_3 (m := vs 0) hC hc hf
    · obtain rfl : _ = o := Option.some.inj ho
      exact st52_4 (m := vs 0) hC hc hf e1
    · obtain rfl : _ = o := Option.some.inj ho
      exact st52_5 (m := vs 0) hC hc hf (vs 4) ((hk 4 (mem_direct (by kernel_rfl))).2 18 (by kernel_rfl)) (hk 4 (mem_direct (by kernel_rfl))).1
    · obtain rfl : _ = o := Option.some.inj ho
      exact st52_6 (m := vs 0) hC hc hf (vs 3) ((hk 3 (mem_direct (by kernel_rfl))).2 17 (by kernel_rfl)) (hk 3 (mem_direct (by kernel_rfl))).1 (vs 5) ((hk 5 (mem_direct (by kernel_rfl))).2 19 (by kernel_rfl)) (hk 5 (mem_direct (by kernel_rfl))).1
    · obtain rfl : _ = o := Option.some.inj ho
      exact st52_7 (m := vs 0) hC hc hf e1
    · obtain rfl : _ = o := Option.some.inj ho
      exact st52_8 (m := vs 0) hC hc hf (vs 7) ((hk 7 (mem_direct (by kernel_rfl))).2 21 (by kernel_rfl)) (hk 7 (mem_direct (by kernel_rfl))).1
    · obtain rfl : _ = o := Option.some.inj ho
      exact st52_9 (m := vs 0) hC hc hf
    · obtain rfl : _ = o := Option.some.inj ho
      exact st52_10 (m := vs 0) hC hc hf (vs 8) ((hk 8 (mem_direct (by kernel_rfl))).2 22 (by kernel_rfl)) (hk 8 (mem_direct (by kernel_rfl))).1 (vs 9) ((hk 9 (mem_direct (by kernel_rfl))).2 23 (by kernel_rfl)) (hk 9 (mem_direct (by kernel_rfl))).1
    · obtain rfl : _ = o := Option.some.inj ho
      exact st52_11 (m := vs 0) hC hc hf (vs 6) ((hk 6 (mem_direct (by kernel_rfl))).2 20 (by kernel_rfl)) (hk 6 (mem_direct (by kernel_rfl))).1 (vs 10) ((hk 10 (mem_direct (by kernel_rfl))).2 24 (by kernel_rfl)) (hk 10 (mem_direct (by kernel_rfl))).1
    · obtain rfl : _ = o := Option.some.inj ho
      exact st52_12 (m := vs 0) hC hc hf ((hk 0 (mem_direct (by kernel_rfl))).2 15 (by kernel_rfl)) (hk 0 (mem_direct (by kernel_rfl))).1 (vs 11) ((hk 11 (mem_direct (by kernel_rfl))).2 25 (by kernel_rfl)) (hk 11 (mem_direct (by kernel_rfl))).1
    · obtain rfl : _ = o := Option.some.inj ho
      exact st52_13 (m := vs 0) hC hc hf
    · obtain rfl : _ = o := Option.some.inj ho
      exact st52_14 (m := vs 0) hC hc hf e1
    · obtain rfl : _ = o := Option.some.inj ho
      exact st52_15 (m := vs 0) hC hc hf (vs 14) ((hk 14 (mem_direct (by kernel_rfl))).2 27 (by kernel_rfl)) (hk 14 (mem_direct (by kernel_rfl))).1
    · obtain rfl : _ = o := Option.some.inj ho
      exact st52_16 (m := vs 0) hC hc hf (vs 13) ((hk 13 (mem_direct (by kernel_rfl))).2 26 (by kernel_rfl)) (hk 13 (mem_direct (by kernel_rfl))).1 (vs 15) ((hk 15 (mem_direct (by kernel_rfl))).2 28 (by kernel_rfl)) (hk 15 (mem_direct (by kernel_rfl))).1
    · obtain rfl : _ = o := Option.some.inj ho
      exact st52_17 (m := vs 0) hC hc hf (vs 16) ((hk 16 (mem_direct (by kernel_rfl))).2 29 (by kernel_rfl)) (hk 16 (mem_direct (by kernel_rfl))).1
    · obtain rfl : _ = o := Option.some.inj ho
      exact st52_18 (m := vs 0) hC hc hf ((hk 0 (mem_direct (by kernel_rfl))).2 15 (by kernel_rfl)) (hk 0 (mem_direct (by kernel_rfl))).1 (vs 17) ((hk 17 (mem_direct (by kernel_rfl))).2 30 (by kernel_rfl)) (hk 17 (mem_direct (by kernel_rfl))).1
    · obtain rfl : _ = o := Option.some.inj ho
      exact st52_19 (m := vs 0) hC hc hf e2
    · obtain rfl : _ = o := Option.some.inj ho
      exact st52_20 (m := vs 0) hC hc hf e2
    · obtain rfl : _ = o := Option.some.inj ho
      exact st52_21 (m := vs 0) hC hc hf (vs 19) ((hk 19 (mem_direct (by kernel_rfl))).2 31 (by kernel_rfl)) (hk 19 (mem_direct (by kernel_rfl))).1 (vs 20) ((hk 20 (mem_direct (by kernel_rfl))).2 32 (by kernel_rfl)) (hk 20 (mem_direct (by kernel_rfl))).1
    · obtain rfl : _ = o := Option.some.inj ho
      exact st52_22 (m := vs 0) hC hc hf e2
    · obtain rfl : _ = o := Option.some.inj ho
      exact st52_23 (m := vs 0) hC hc hf e4
    · obtain rfl : _ = o := Option.some.inj ho
      exact st52_24 (m := vs 0) hC hc hf (vs 22) ((hk 22 (mem_direct (by kernel_rfl))).2 34 (by kernel_rfl)) (hk 22 (mem_direct (by kernel_rfl))).1 (vs 23) ((hk 23 (mem_direct (by kernel_rfl))).2 35 (by kernel_rfl)) (hk 23 (mem_direct (by kernel_rfl))).1
    · obtain rfl : _ = o := Option.some.inj ho
      exact st52_25 (m := vs 0) hC hc hf (vs 21) ((hk 21 (mem_direct (by kernel_rfl))).2 33 (by kernel_rfl)) (hk 21 (mem_direct (by kernel_rfl))).1 (vs 24) ((hk 24 (mem_direct (by kernel_rfl))).2 36 (by kernel_rfl)) (hk 24 (mem_direct (by kernel_rfl))).1
    · obtain rfl : _ = o := Option.some.inj ho
      exact st52_26 (m := vs 0) hC hc hf ((hk 0 (mem_direct (by kernel_rfl))).2 15 (by kernel_rfl)) (hk 0 (mem_direct (by kernel_rfl))).1 (vs 25) ((hk 25 (mem_direct (by kernel_rfl))).2 37 (by kernel_rfl)) (hk 25 (mem_direct (by kernel_rfl))).1
    · obtain rfl : _ = o := Option.some.inj ho
      exact st52_27 (m := vs 0) hC hc hf
    · obtain rfl : _ = o := Option.some.inj ho
      exact st52_28 (m := vs 0) hC hc hf e1
    · obtain rfl : _ = o := Option.some.inj ho
      exact st52_29 (m := vs 0) hC hc hf (vs 28) ((hk 28 (mem_direct (by kernel_rfl))).2 39 (by kernel_rfl)) (hk 28 (mem_direct (by kernel_rfl))).1
    · obtain rfl : _ = o := Option.some.inj ho
      exact st52_30 (m := vs 0) hC hc hf (vs 27) ((hk 27 (mem_direct (by kernel_rfl))).2 38 (by kernel_rfl)) (hk 27 (mem_direct (by kernel_rfl))).1 (vs 29) ((hk 29 (mem_direct (by kernel_rfl))).2 40 (by kernel_rfl)) (hk 29 (mem_direct (by kernel_rfl))).1
    · obtain rfl : _ = o := Option.some.inj ho
      exact st52_31 (m := vs 0) hC hc hf (vs 30) ((hk 30 (mem_direct (by kernel_rfl))).2 41 (by kernel_rfl)) (hk 30 (mem_direct (by kernel_rfl))).1
    · obtain rfl : _ = o := Option.some.inj ho
      exact st52_32 (m := vs 0) hC hc hf ((hk 0 (mem_direct (by kernel_rfl))).2 15 (by kernel_rfl)) (hk 0 (mem_direct (by kernel_rfl))).1 (vs 31) ((hk 31 (mem_direct (by kernel_rfl))).2 42 (by kernel_rfl)) (hk 31 (mem_direct (by kernel_rfl))).1
    · obtain rfl : _ = o := Option.some.inj ho
      exact st52_33 (m := vs 0) hC hc hf
    · obtain rfl : _ = o := Option.some.inj ho
      exact st52_34 (m := vs 0) hC hc hf e1
    · obtain rfl : _ = o := Option.some.inj ho
      exact st52_35 (m := vs 0) hC hc hf (vs 34) ((hk 34 (mem_direct (by kernel_rfl))).2 44 (by kernel_rfl)) (hk 34 (mem_direct (by kernel_rfl))).1
    · obtain rfl : _ = o := Option.some.inj ho
      exact st52_36 (m := vs 0) hC hc hf (vs 33) ((hk 33 (mem_direct (by kernel_rfl))).2 43 (by kernel_rfl)) (hk 33 (mem_direct (by kernel_rfl))).1 (vs 35) ((hk 35 (mem_direct (by kernel_rfl))).2 45 (by kernel_rfl)) (hk 35 (mem_direct (by kernel_rfl))).1
    · obtain rfl : _ = o := Option.some.inj ho
      exact st52_37 (m := vs 0) hC hc hf (vs 36) ((hk 36 (mem_direct (by kernel_rfl))).2 46 (by kernel_rfl)) (hk 36 (mem_direct (by kernel_rfl))).1
    · obtain rfl : _ = o := Option.some.inj ho
      exact st52_38 (m := vs 0) hC hc hf ((hk 0 (mem_direct (by kernel_rfl))).2 15 (by kernel_rfl)) (hk 0 (mem_direct (by kernel_rfl))).1 (vs 37) ((hk 37 (mem_direct (by kernel_rfl))).2 47 (by kernel_rfl)) (hk 37 (mem_direct (by kernel_rfl))).1
    · obtain rfl : _ = o := Option.some.inj ho
      exact st52_39 (m := vs 0) hC hc hf
    · obtain rfl : _ = o := Option.some.inj ho
      exact st52_40 (m := vs 0) hC hc hf e1
    · obtain rfl : _ = o := Option.some.inj ho
      exact st52_41 (m := vs 0) hC hc hf (vs 40) ((hk 40 (mem_direct (by kernel_rfl))).2 49 (by kernel_rfl)) (hk 40 (mem_direct (by kernel_rfl))).1
    · obtain rfl : _ = o := Option.some.inj ho
      exact st52_42 (m := vs 0) hC hc hf (vs 39) ((hk 39 (mem_direct (by kernel_rfl))).2 48 (by kernel_rfl)) (hk 39 (mem_direct (by kernel_rfl))).1 (vs 41) ((hk 41 (mem_direct (by kernel_rfl))).2 50 (by kernel_rfl)) (hk 41 (mem_direct (by kernel_rfl))).1
    · obtain rfl : _ = o := Option.some.inj ho
      exact st52_43 (m := vs 0) hC hc hf (vs 42) ((hk 42 (mem_direct (by kernel_rfl))).2 51 (by kernel_rfl)) (hk 42 (mem_direct (by kernel_rfl))).1
    · obtain rfl : _ = o := Option.some.inj ho
      exact st52_44 (m := vs 0) hC hc hf ((hk 0 (mem_direct (by kernel_rfl))).2 15 (by kernel_rfl)) (hk 0 (mem_direct (by kernel_rfl))).1 (vs 43) ((hk 43 (mem_direct (by kernel_rfl))).2 52 (by kernel_rfl)) (hk 43 (mem_direct (by kernel_rfl))).1
    · obtain rfl : _ = o := Option.some.inj ho
      exact st52_45 (m := vs 0) hC hc hf
    · obtain rfl : _ = o := Option.some.inj ho
      exact st52_46 (m := vs 0) hC hc hf e1
    · obtain rfl : _ = o := Option.some.inj ho
      exact st52_47 (m := vs 0) hC hc hf (vs 46) ((hk 46 (mem_direct (by kernel_rfl))).2 54 (by kernel_rfl)) (hk 46 (mem_direct (by kernel_rfl))).1
    · obtain rfl : _ = o := Option.some.inj ho
      exact st52_48 (m := vs 0) hC hc hf (vs 45) ((hk 45 (mem_direct (by kernel_rfl))).2 53 (by kernel_rfl)) (hk 45 (mem_direct (by kernel_rfl))).1 (vs 47) ((hk 47 (mem_direct (by kernel_rfl))).2 55 (by kernel_rfl)) (hk 47 (mem_direct (by kernel_rfl))).1
    · obtain rfl : _ = o := Option.some.inj ho
      exact st52_49 (m := vs 0) hC hc hf (vs 48) ((hk 48 (mem_direct (by kernel_rfl))).2 56 (by kernel_rfl)) (hk 48 (mem_direct (by kernel_rfl))).1
    · obtain rfl : _ = o := Option.some.inj ho
      exact st52_50 (m := vs 0) hC hc hf ((hk 0 (mem_direct (by kernel_rfl))).2 15 (by kernel_rfl)) (hk 0 (mem_direct (by kernel_rfl))).1 (vs 49) ((hk 49 (mem_direct (by kernel_rfl))).2 57 (by kernel_rfl)) (hk 49 (mem_direct (by kernel_rfl))).1
    · obtain rfl : _ = o := Option.some.inj ho
      exact st52_51 (m := vs 0) hC hc hf
    · obtain rfl : _ = o := Option.some.inj ho
      exact st52_52 (m := vs 0) hC hc hf ((hk 0 (mem_direct (by kernel_rfl))).2 15 (by kernel_rfl)) (hk 0 (mem_direct (by kernel_rfl))).1 (vs 51) ((hk 51 (mem_direct (by kernel_rfl))).2 58 (by kernel_rfl)) (hk 51 (mem_direct (by kernel_rfl))).1
    · obtain rfl : _ = o := Option.some.inj ho
      exact st52_53 (m := vs 0) hC hc hf
    · obtain rfl : _ = o := Option.some.inj ho
      exact st52_54 (m := vs 0) hC hc hf
    · obtain rfl : _ = o := Option.some.inj ho
      exact st52_55 (m := vs 0) hC hc hf
    · obtain rfl : _ = o := Option.some.inj ho
      exact st52_56 (m := vs 0) hC hc hf e1
    · obtain rfl : _ = o := Option.some.inj ho
      exact st52_57 (m := vs 0) hC hc hf (vs 56) ((hk 56 (mem_direct (by kernel_rfl))).2 62 (by kernel_rfl)) (hk 56 (mem_direct (by kernel_rfl))).1
    · obtain rfl : _ = o := Option.some.inj ho
      exact st52_58 (m := vs 0) hC hc hf (vs 53) ((hk 53 (mem_direct (by kernel_rfl))).2 59 (by kernel_rfl)) (hk 53 (mem_direct (by kernel_rfl))).1 (vs 54) ((hk 54 (mem_direct (by kernel_rfl))).2 60 (by kernel_rfl)) (hk 54 (mem_direct (by kernel_rfl))).1 (vs 55) ((hk 55 (mem_direct (by kernel_rfl))).2 61 (by kernel_rfl)) (hk 55 (mem_direct (by kernel_rfl))).1 (vs 57) ((hk 57 (mem_direct (by kernel_rfl))).2 63 (by kernel_rfl)) (hk 57 (mem_direct (by kernel_rfl))).1
    · obtain rfl : _ = o := Option.some.inj ho
      exact st52_59 (m := vs 0) hC hc hf (vs 58) ((hk 58 (mem_direct (by kernel_rfl))).2 64 (by kernel_rfl)) (hk 58 (mem_direct (by kernel_rfl))).1
    · obtain rfl : _ = o := Option.some.inj ho
      exact st52_60 (m := vs 0) hC hc hf ((hk 0 (mem_direct (by kernel_rfl))).2 15 (by kernel_rfl)) (hk 0 (mem_direct (by kernel_rfl))).1 (vs 59) ((hk 59 (mem_direct (by kernel_rfl))).2 65 (by kernel_rfl)) (hk 59 (mem_direct (by kernel_rfl))).1
    · obtain rfl : _ = o := Option.some.inj ho
      exact st52_61 (m := vs 0) hC hc hf
    · obtain rfl : _ = o := Option.some.inj ho
      exact st52_62 (m := vs 0) hC hc hf ((hk 0 (mem_direct (by kernel_rfl))).2 15 (by kernel_rfl)) (hk 0 (mem_direct (by kernel_rfl))).1 (vs 61) ((hk 61 (mem_direct (by kernel_rfl))).2 66 (by kernel_rfl)) (hk 61 (mem_direct (by kernel_rfl))).1
    · obtain rfl : _ = o := Option.some.inj ho
      exact st52_63 (m := vs 0) hC hc hf
    · obtain rfl : _ = o := Option.some.inj ho
      exact st52_64 (m := vs 0) hC hc hf ((hk 0 (mem_direct (by kernel_rfl))).2 15 (by kernel_rfl)) (hk 0 (mem_direct (by kernel_rfl))).1 (vs 63) ((hk 63 (mem_direct (by kernel_rfl))).2 67 (by kernel_rfl)) (hk 63 (mem_direct (by kernel_rfl))).1
    · obtain rfl : _ = o := Option.some.inj ho
      exact st52_65 (m := vs 0) hC hc hf ((hk 0 (mem_direct (by kernel_rfl))).2 15 (by kernel_rfl)) (hk 0 (mem_direct (by kernel_rfl))).1
    · obtain rfl : _ = o := Option.some.inj ho
      exact st52_66 (m := vs 0) hC hc hf (vs 65) ((hk 65 (mem_direct (by kernel_rfl))).2 68 (by kernel_rfl)) (hk 65 (mem_direct (by kernel_rfl))).1
end
section
open Go.RowKit
attribute [local go_sem ↓] Go.wp_at_zero Go.wp_at_succ
theorem run_lookup_ok {T E : TypeId} (hT : Tryz.prog.underlying T = some (.map 3 E)) (w : World) (b : Nat) (es : Array MapEntry) (c : Nat) (k : Int) (hb : w.heap[b]? = some (.map es c)) (hk : IntKeys es)
    (hex : ∃ e ∈ es.toList, e.key = .int .i64 k) : ∃ e ∈ es.toList, e.key = .int .i64 k ∧ (Instr.lookup T (.map (some b)) (.int .i64 k) true).run Tryz.prog w = .ok (.tuple #[e.val, .bool true]) w := by
  rcases findNow_int k es.toList 0 hk with ⟨h1, h2⟩ | ⟨j, e, h1, h2, h3⟩
  · obtain ⟨e, he, hke⟩ := hex
    exact absurd hke (h2 e he)
  · refine ⟨e, List.mem_of_getElem? h1, h2, ?_⟩
    have hc := run_checkKey_int es.isEmpty 9999 k w
    simp [Instr.lookup, run_underlying hT, MapKept.run_getObj_map hb, hc, MapKept.run_findKey und3 h3, Result.andThen]
theorem key_inj {a b : Nat} (h : Value.int .i64 (a : Int) = .int .i64 (b : Int)) : b = a := by
  injection h with _ h
  omega
theorem lookup_good {w : World} {b : Nat} {es : Array MapEntry} {c k : Nat} (hb : w.heap[b]? = some (.map es c)) (hk : IntKeys es) (hg : AllGood w es) (hex : ∃ e ∈ es.toList, e.key = .int .i64 (k : Int)) :
    ∃ b1 off, Mat w (some ⟨b1, off, none⟩) (dimK k) (dimK k) (opM k) ∧ (Instr.lookup 100 (.map (some b)) (.int .i64 (k : Int)) true).run Tryz.prog w = .ok (.tuple #[.slice (some ⟨b1, off, none⟩) (dimK k) (dimK k), .bool true]) w := by
  obtain ⟨e, he, hke, hrun⟩ := run_lookup_ok und100 w b es c k hb hk hex
  obtain ⟨k', _, _, hk', b1, off, hv, hM⟩ := hg e he
  have : k' = k := key_inj (hke.symm.trans hk')
  subst this
  rw [hv] at hrun
  exact ⟨b1, off, hM, hrun⟩
set_option maxHeartbeats 1000000 in
set_option maxRecDepth 100000 in
theorem f13_any (k : Nat) (w : World) (h1 : 1 ≤ k) (h2 : k ≤ 12) : Calls Tryz.prog 13 #[.int .i64 k] w fun e w' => ∃ b off, e = .returned (.tuple #[.slice (some ⟨b, off, none⟩) (dimK k) (dimK k), .int .i64 0]) ∧ Mat w' (some ⟨b, off, none⟩) (dimK k) (dimK k) (opM k) ∧ Below w.heap.size w w' := by
  go_enter Tryz.func13, Tryz.ntmps13
  go_wp2_with (go_at_call 52; refine (f52_any _).mono ?_; rintro e w1 ⟨b, es, c, rfl, g1, g2, g3, g4, hb1⟩; obtain ⟨b1, off, hM, hrun⟩ := lookup_good g1 g2 g3 (g4 k h1 h2))
  exact bodyPost_ret (v := .tuple #[.slice (some ⟨b1, off, none⟩) (dimK k) (dimK k), .int .i64 0]) (by simp [results, Tryz.results13, go_sem]) rfl ⟨b1, off, rfl, hM, hb1⟩
end
section
open Go.RowKit
attribute [local go_sem ↓] Go.wp_at_zero Go.wp_at_succ
set_option maxHeartbeats 1000000 in
set_option maxRecDepth 100000 in
theorem f88_any (k : Nat) (w : World) : Calls Tryz.prog 88 #[.int .i64 k] w fun e w' => e = .returned (.int .i64 ((k : Nat) : Int)) ∧ Below w.heap.size w w' := by
  go_enter Tryz.func88, Tryz.ntmps88
  go_wp2
  go_ret
  exact ⟨rfl, Below.refl _ _⟩
set_option maxHeartbeats 1000000 in
set_option maxRecDepth 100000 in
theorem f84_any (i n b off cap B : Nat) (x : Num) (w : World) (hi : i < n) (hn : n ≤ 64) (hlB : B < w.heap.size) (hB : w.cell? ⟨B, 0, none⟩ = some (.slice (some ⟨b, off, none⟩) n cap)) (hlb : b < w.heap.size) (hx : NumAt w b (off + i * 5) x) :
    Calls Tryz.prog 84 #[.int .i64 i, .pointer (some ⟨B, 0, none⟩)] w fun e w' => e = .returned (.agg #[.int .i64 x.q.a, .int .i64 x.q.b, .int .i64 x.q.c, .int .i64 x.q.d, .int .i64 x.k]) ∧ Below w.heap.size w w' := by
  have hiz : (i : Int) < n := by omega
  obtain ⟨x0, x1, x2, x3, x4⟩ := hx
  go_enter Tryz.func84, Tryz.ntmps84
  go_wp2
  have hR := Blk.new w 38 #[.int .i64 0, .int .i64 0, .int .i64 0, .int .i64 0, .int .i64 0]
  have hF := (((((hR.set 0 (.int .i64 x.q.a)).set 1 (.int .i64 x.q.b)).set 2 (.int .i64 x.q.c)).set 3 (.int .i64 x.q.d)).set 4 (.int .i64 x.k))
  have cF := hF.cells
  refine bodyPost_ret (v := .agg #[.int .i64 x.q.a, .int .i64 x.q.b, .int .i64 x.q.c, .int .i64 x.q.d, .int .i64 x.k]) (by simp [results, Tryz.results84, go_sem, cF]) rfl ⟨rfl, ?_⟩
  first | exact ((Below.refl _ _).alloc (Nat.le_refl _) _) | exact (((((((Below.refl _ _).alloc (Nat.le_refl _) _).setCell (by first | (simp; done) | (simp; omega) | omega) _).setCell (by first | (simp; done) | (simp; omega) | omega) _).setCell (by first | (simp; done) | (simp; omega) | omega) _).setCell (by first | (simp; done) | (simp; omega) | omega) _).setCell (by first | (simp; done) | (simp; omega) | omega) _)
set_option maxHeartbeats 1000000 in
set_option maxRecDepth 100000 in
theorem f85_any (i n b off cap B : Nat) (x : Num) (w : World) (hi : i < n) (hn : n ≤ 64) (hlB : B < w.heap.size) (hB : w.cell? ⟨B, 0, none⟩ = some (.slice (some ⟨b, off, none⟩) n cap)) (hlb : b < w.heap.size) (hx : NumAt w b (off + i * 5) x) :
    Calls Tryz.prog 85 #[.int .i64 i, .pointer (some ⟨B, 0, none⟩)] w fun e w' => e = .returned (.agg #[.int .i64 x.q.a, .int .i64 x.q.b, .int .i64 x.q.c, .int .i64 x.q.d, .int .i64 x.k]) ∧ Below w.heap.size w w' := by
  have hiz : (i : Int) < n := by omega
  obtain ⟨x0, x1, x2, x3, x4⟩ := hx
  go_enter Tryz.func85, Tryz.ntmps85
  go_wp2
  have hR := Blk.new w 38 #[.int .i64 0, .int .i64 0, .int .i64 0, .int .i64 0, .int .i64 0]
  have hF := (((((hR.set 0 (.int .i64 x.q.a)).set 1 (.int .i64 x.q.b)).set 2 (.int .i64 x.q.c)).set 3 (.int .i64 x.q.d)).set 4 (.int .i64 x.k))
  have cF := hF.cells
  refine bodyPost_ret (v := .agg #[.int .i64 x.q.a, .int .i64 x.q.b, .int .i64 x.q.c, .int .i64 x.q.d, .int .i64 x.k]) (by simp [results, Tryz.results85, go_sem, cF]) rfl ⟨rfl, ?_⟩
  first | exact ((Below.refl _ _).alloc (Nat.le_refl _) _) | exact (((((((Below.refl _ _).alloc (Nat.le_refl _) _).setCell (by first | (simp; done) | (simp; omega) | omega) _).setCell (by first | (simp; done) | (simp; omega) | omega) _).setCell (by first | (simp; done) | (simp; omega) | omega) _).setCell (by first | (simp; done) | (simp; omega) | omega) _).setCell (by first | (simp; done) | (simp; omega) | omega) _)
set_option maxHeartbeats 2000000 in
set_option maxRecDepth 100000 in
theorem f116_any {A : Option Addr} {h n : Nat} {M : Nat → Nat → Num} (i r c cap Bm Bp : Nat) (w : World) (HM : Mat w A h n M) (hr : r < h) (hi : i < n) (hlm : Bm < w.heap.size) (hm : w.cell? ⟨Bm, 0, none⟩ = some (.slice A h cap)) (hlp : Bp < w.heap.size) (hp : w.cell? ⟨Bp, 0, none⟩ = some (.int .i64 r)) :
    Calls Tryz.prog 116 #[.int .i64 i, .pointer (some ⟨Bm, 0, none⟩), .pointer (some ⟨Bp, 0, none⟩)] w fun e w' => e = .returned (.agg #[.int .i64 (M r i).q.a, .int .i64 (M r i).q.b, .int .i64 (M r i).q.c, .int .i64 (M r i).q.d, .int .i64 (M r i).k]) ∧ Below w.heap.size w w' := by
  obtain ⟨b, off, rb, ro, rc, rfl, HM⟩ := HM
  obtain ⟨x, hx⟩ : ∃ x, M r i = x := ⟨_, rfl⟩
  have hxn := HM.num r i hr hi
  rw [hx] at hxn
  rw [hx]
  obtain ⟨x0, x1, x2, x3, x4⟩ := hxn
  have hrow := (HM.row r hr).1
  have hlr := (HM.row r hr).2
  have hlb := HM.lt
  have hiz : (i : Int) < n := by omega
  have hrz : (r : Int) < h := by omega
  go_enter Tryz.func116, Tryz.ntmps116
  go_wp2
  have hR := Blk.new w 38 #[.int .i64 0, .int .i64 0, .int .i64 0, .int .i64 0, .int .i64 0]
  have hF := (((((hR.set 0 (.int .i64 x.q.a)).set 1 (.int .i64 x.q.b)).set 2 (.int .i64 x.q.c)).set 3 (.int .i64 x.q.d)).set 4 (.int .i64 x.k))
  have cF := hF.cells
  refine bodyPost_ret (v := .agg #[.int .i64 x.q.a, .int .i64 x.q.b, .int .i64 x.q.c, .int .i64 x.q.d, .int .i64 x.k]) (by simp [results, Tryz.results116, go_sem, cF]) rfl ⟨rfl, ?_⟩
  first | exact ((Below.refl _ _).alloc (Nat.le_refl _) _) | exact (((((((Below.refl _ _).alloc (Nat.le_refl _) _).setCell (by first | (simp; done) | (simp; omega) | omega) _).setCell (by first | (simp; done) | (simp; omega) | omega) _).setCell (by first | (simp; done) | (simp; omega) | omega) _).setCell (by first | (simp; done) | (simp; omega) | omega) _).setCell (by first | (simp; done) | (simp; omega) | omega) _)
set_option maxHeartbeats 2000000 in
set_option maxRecDepth 100000 in
theorem f117_any {A : Option Addr} {h n : Nat} {M : Nat → Nat → Num} (i r c cap Bm Bp : Nat) (w : World) (HM : Mat w A h n M) (hr : r < n) (hi : i < h) (hlm : Bm < w.heap.size) (hm : w.cell? ⟨Bm, 0, none⟩ = some (.slice A h cap)) (hlp : Bp < w.heap.size) (hp : w.cell? ⟨Bp, 1, none⟩ = some (.int .i64 r)) :
    Calls Tryz.prog 117 #[.int .i64 i, .pointer (some ⟨Bm, 0, none⟩), .pointer (some ⟨Bp, 0, none⟩)] w fun e w' => e = .returned (.agg #[.int .i64 (M i r).q.a, .int .i64 (M i r).q.b, .int .i64 (M i r).q.c, .int .i64 (M i r).q.d, .int .i64 (M i r).k]) ∧ Below w.heap.size w w' := by
  obtain ⟨b, off, rb, ro, rc, rfl, HM⟩ := HM
  obtain ⟨x, hx⟩ : ∃ x, M i r = x := ⟨_, rfl⟩
  have hxn := HM.num i r hi hr
  rw [hx] at hxn
  rw [hx]
  obtain ⟨x0, x1, x2, x3, x4⟩ := hxn
  have hrow := (HM.row i hi).1
  have hlr := (HM.row i hi).2
  have hlb := HM.lt
  have hiz : (i : Int) < h := by omega
  have hrz : (r : Int) < n := by omega
  go_enter Tryz.func117, Tryz.ntmps117
  go_wp2
  refine Calm.wp_region_calm 8 [] (by kernel_rfl) (by kernel_rfl) (by decide) (fun w' => Blk w' w.heap.size 38 #[.int .i64 0, .int .i64 0, .int .i64 0, .int .i64 0, .int .i64 0] ∧ Below w.heap.size w w') (0) (fun _ _ => Nat.zero_le _) ⟨(Blk.new w 38 #[.int .i64 0, .int .i64 0, .int .i64 0, .int .i64 0, .int .i64 0]).drew, (((Below.refl _ _).alloc (Nat.le_refl _) _)).drew⟩ ?_
  show Calm.WalkI _ _ _ _ _ _ [0, 1, 2, 3, 4, 5, 6, 7] _ _
  refine Calm.calm_step rfl rfl rfl ?_; apply Exists.intro; refine ⟨fun w' hw' => ?_, ?_⟩
  · obtain ⟨hR, hW⟩ := hw'
    have d0 := keep_cell hW hlm hm
    have d1 := keep_cell hW hlp hp
    have d2 := keep_cell hW hlb hrow
    have y0 := keep_cell hW hlr x0
    have y1 := keep_cell hW hlr x1
    have y2 := keep_cell hW hlr x2
    have y3 := keep_cell hW hlr x3
    have y4 := keep_cell hW hlr x4
    apply Calm.calm_value
    go_simp
    exact rfl
  intro K hK; go_simp; refine hK _ ?_; clear hK K
  refine Calm.calm_step rfl rfl rfl ?_; apply Exists.intro; refine ⟨fun w' hw' => ?_, ?_⟩
  · obtain ⟨hR, hW⟩ := hw'
    have d0 := keep_cell hW hlm hm
    have d1 := keep_cell hW hlp hp
    have d2 := keep_cell hW hlb hrow
    have y0 := keep_cell hW hlr x0
    have y1 := keep_cell hW hlr x1
    have y2 := keep_cell hW hlr x2
    have y3 := keep_cell hW hlr x3
    have y4 := keep_cell hW hlr x4
    apply Calm.calm_value
    go_simp
    exact rfl
  intro K hK; go_simp; refine hK _ ?_; clear hK K
  refine Calm.calm_step rfl rfl rfl ?_; apply Exists.intro; refine ⟨fun w' hw' => ?_, ?_⟩
  · obtain ⟨hR, hW⟩ := hw'
    have d0 := keep_cell hW hlm hm
    have d1 := keep_cell hW hlp hp
    have d2 := keep_cell hW hlb hrow
    have y0 := keep_cell hW hlr x0
    have y1 := keep_cell hW hlr x1
    have y2 := keep_cell hW hlr x2
    have y3 := keep_cell hW hlr x3
    have y4 := keep_cell hW hlr x4
    apply Calm.calm_value
    go_simp
    exact rfl
  intro K hK; go_simp; refine hK _ ?_; clear hK K
  refine Calm.calm_step rfl rfl rfl ?_; apply Exists.intro; refine ⟨fun w' hw' => ?_, ?_⟩
  · obtain ⟨hR, hW⟩ := hw'
    have d0 := keep_cell hW hlm hm
    have d1 := keep_cell hW hlp hp
    have d2 := keep_cell hW hlb hrow
    have y0 := keep_cell hW hlr x0
    have y1 := keep_cell hW hlr x1
    have y2 := keep_cell hW hlr x2
    have y3 := keep_cell hW hlr x3
    have y4 := keep_cell hW hlr x4
    apply Calm.calm_value
    go_simp
    exact rfl
  intro K hK; go_simp; refine hK _ ?_; clear hK K
  refine Calm.calm_step rfl rfl rfl ?_; apply Exists.intro; refine ⟨fun w' hw' => ?_, ?_⟩
  · obtain ⟨hR, hW⟩ := hw'
    have d0 := keep_cell hW hlm hm
    have d1 := keep_cell hW hlp hp
    have d2 := keep_cell hW hlb hrow
    have y0 := keep_cell hW hlr x0
    have y1 := keep_cell hW hlr x1
    have y2 := keep_cell hW hlr x2
    have y3 := keep_cell hW hlr x3
    have y4 := keep_cell hW hlr x4
    apply Calm.calm_value
    go_simp
    exact rfl
  intro K hK; go_simp; refine hK _ ?_; clear hK K
  refine Calm.calm_step rfl rfl rfl ?_; apply Exists.intro; refine ⟨fun w' hw' => ?_, ?_⟩
  · obtain ⟨hR, hW⟩ := hw'
    have d0 := keep_cell hW hlm hm
    have d1 := keep_cell hW hlp hp
    have d2 := keep_cell hW hlb hrow
    have y0 := keep_cell hW hlr x0
    have y1 := keep_cell hW hlr x1
    have y2 := keep_cell hW hlr x2
    have y3 := keep_cell hW hlr x3
    have y4 := keep_cell hW hlr x4
    apply Calm.calm_value
    go_simp
    exact rfl
  intro K hK; go_simp; refine hK _ ?_; clear hK K
  refine Calm.calm_step rfl rfl rfl ?_; apply Exists.intro; refine ⟨fun w' hw' => ?_, ?_⟩
  · obtain ⟨hR, hW⟩ := hw'
    have d0 := keep_cell hW hlm hm
    have d1 := keep_cell hW hlp hp
    have d2 := keep_cell hW hlb hrow
    have y0 := keep_cell hW hlr x0
    have y1 := keep_cell hW hlr x1
    have y2 := keep_cell hW hlr x2
    have y3 := keep_cell hW hlr x3
    have y4 := keep_cell hW hlr x4
    apply Calm.calm_value
    go_simp
    exact rfl
  intro K hK; go_simp; refine hK _ ?_; clear hK K
  refine Calm.calm_step rfl rfl rfl ?_; apply Exists.intro; refine ⟨fun w' hw' => ?_, ?_⟩
  · obtain ⟨hR, hW⟩ := hw'
    have d0 := keep_cell hW hlm hm
    have d1 := keep_cell hW hlp hp
    have d2 := keep_cell hW hlb hrow
    have y0 := keep_cell hW hlr x0
    have y1 := keep_cell hW hlr x1
    have y2 := keep_cell hW hlr x2
    have y3 := keep_cell hW hlr x3
    have y4 := keep_cell hW hlr x4
    apply Calm.calm_value
    go_simp
    exact rfl
  intro K hK; go_simp; refine hK _ ?_; clear hK K
  refine Calm.calm_end_lit (fun wk hk => ?_)
  simp only [List.drop_succ_cons, List.drop_zero]
  obtain ⟨⟨hR, hW⟩, _, _⟩ := hk
  have cR := hR.cells
  have fR := hR.frozen
  have lR := hR.lt
  go_wp2
  have hF := (((((hR.set 0 (.int .i64 x.q.a)).set 1 (.int .i64 x.q.b)).set 2 (.int .i64 x.q.c)).set 3 (.int .i64 x.q.d)).set 4 (.int .i64 x.k))
  have cF := hF.cells
  refine bodyPost_ret (v := .agg #[.int .i64 x.q.a, .int .i64 x.q.b, .int .i64 x.q.c, .int .i64 x.q.d, .int .i64 x.k]) (by simp [results, Tryz.results117, go_sem, cF]) rfl ⟨rfl, ?_⟩
  exact (((((hW.setCell (by first | (simp; done) | (simp; omega) | omega) _).setCell (by first | (simp; done) | (simp; omega) | omega) _).setCell (by first | (simp; done) | (simp; omega) | omega) _).setCell (by first | (simp; done) | (simp; omega) | omega) _).setCell (by first | (simp; done) | (simp; omega) | omega) _)
end
section
open Go.RowKit
attribute [local go_sem ↓] Go.wp_at_zero Go.wp_at_succ
def Num.md (x : Num) : Prop := x.ok ∧ x.k ≤ 30
/-- the sum of products, from the left to the right -/
def dots (x y : Nat → Num) : Nat → Num
  | 0 => Num.zero
  | k + 1 => if k = 0 then (mulN (x 0) (y 0)).1 else (addN (dots x y k) (mulN (x k) (y k)).1).1
/-- the sum can be worked out -/
structure DotOk (x y : Nat → Num) (n : Nat) : Prop where
  left : ∀ k, k < n → (x k).sm
  right : ∀ k, k < n → (y k).sm
  mul : ∀ k, k < n → (mulN (x k) (y k)).2 = 0 ∧ (mulN (x k) (y k)).1.md
  add : ∀ k, 0 < k → k < n → (addN (dots x y k) (mulN (x k) (y k)).1).2 = 0
  sum : ∀ k, k < n → (dots x y (k + 1)).md
/-- a function value that hands out numbers -/
def NumFn (g : Nat) (lb : Array Value) (n : Nat) (x : Nat → Num) (w : World) : Prop :=
  ∀ (W : World) (i : Nat), i < n → Below w.heap.size w W → Calls Tryz.prog g (#[.int .i64 i] ++ lb) W fun e w' => e = .returned (.agg #[.int .i64 (x i).q.a, .int .i64 (x i).q.b, .int .i64 (x i).q.c, .int .i64 (x i).q.d, .int .i64 (x i).k]) ∧ Below W.heap.size W w'
set_option maxHeartbeats 4000000 in
set_option maxRecDepth 100000 in
theorem f83_any (gx gy : Nat) (lbx lby : Array Value) (ex : ∀ args w, (callFunc gx args).run Tryz.prog w = .ok (.enter gx args) w) (ey : ∀ args w, (callFunc gy args).run Tryz.prog w = .ok (.enter gy args) w) (n : Nat) (x y : Nat → Num) (w : World) (hn : n ≤ 64) (hx : NumFn gx lbx n x w) (hy : NumFn gy lby n y w) (H : DotOk x y n) :
    Calls Tryz.prog 83 #[.int .i64 n, .func (.func gx) #[] lbx, .func (.func gy) #[] lby] w fun e w' => e = .returned (.tuple #[.agg #[.int .i64 (dots x y n).q.a, .int .i64 (dots x y n).q.b, .int .i64 (dots x y n).q.c, .int .i64 (dots x y n).q.d, .int .i64 (dots x y n).k], .int .i64 0]) ∧ Below w.heap.size w w' := by
  go_enter Tryz.func83, Tryz.ntmps83
  go_wp2
  go_loopg [14] n (fun gg s14 wr => ∃ kk : Nat, kk ≤ n ∧ n - kk ≤ gg ∧ s14 = .int .i64 kk ∧ Aside (Blk wr w.heap.size 38 #[.int .i64 0, .int .i64 0, .int .i64 0, .int .i64 0, .int .i64 0]) ∧ Aside (Blk wr (w.heap.size + 1) 38 #[.int .i64 (dots x y kk).q.a, .int .i64 (dots x y kk).q.b, .int .i64 (dots x y kk).q.c, .int .i64 (dots x y kk).q.d, .int .i64 (dots x y kk).k]) ∧ Aside (Below w.heap.size w wr))
  case atStart => exact ⟨0, Nat.zero_le _, by omega, rfl, (Blk.new' 38 _ (by simp)).alloc _, Blk.new' 38 _ (by simp), (((Below.refl _ _).alloc (Nat.le_refl _) _).alloc (by first | (simp; done) | (simp; omega) | omega) _)⟩
  case round =>
    obtain ⟨kk, hkk, hg, rfl, RW, OW, BW⟩ := hrel
    by_cases hlt : kk < n
    · have hltz : (kk : Int) < (n : Int) := by omega
      have hxs := H.left kk hlt
      have hys := H.right kk hlt
      obtain ⟨z, hze⟩ : ∃ z, (mulN (x kk) (y kk)).1 = z := ⟨_, rfl⟩
      have hz : Hid (mulN (x kk) (y kk) = (z, 0)) := show _ = _ from Prod.ext hze (H.mul kk hlt).1
      have hzm := (H.mul kk hlt).2
      rw [hze] at hzm
      have hR := RW.out
      have hO := OW.out
      have hW := BW.out
      have hcx := hx wr kk hlt hW
      clear RW OW BW
      by_cases h0 : kk = 0
      · subst h0
        have hdots : dots x y 1 = z := hze
        have hcx : Calls Tryz.prog gx (#[.int .i64 0] ++ lbx) wr fun e w' => e = .returned (.agg #[.int .i64 (x 0).q.a, .int .i64 (x 0).q.b, .int .i64 (x 0).q.c, .int .i64 (x 0).q.d, .int .i64 (x 0).k]) ∧ Below wr.heap.size wr w' := hcx
        clear hkk
        go_wp2_with (first
        | (go_at_fn gx; refine hcx.mono ?_; clear hcx; rintro e w1 ⟨rfl, hb1⟩; have hR1 := hR.below hb1; have hO1 := hO.below hb1; have hW1 := bt hW hb1; have hcy : Calls Tryz.prog gy (#[.int .i64 0] ++ lby) w1 fun e w' => e = .returned (.agg #[.int .i64 (y 0).q.a, .int .i64 (y 0).q.b, .int .i64 (y 0).q.c, .int .i64 (y 0).q.d, .int .i64 (y 0).k]) ∧ Below w1.heap.size w1 w' := hy w1 0 hlt hW1)
        | (go_at_fn gy; refine hcy.mono ?_; clear hcy; rintro e w2 ⟨rfl, hb2⟩; have hR2 := hR1.below hb2; have hO2 := hO1.below hb2; have hW2 := bt hW1 hb2)
        | (go_at_call 56; refine (f56_any (x 0) (y 0) _ hxs.1 hys.1 hxs.2.2 hys.2.2 z 0 hz).mono ?_; rintro e w3 ⟨rfl, hb3⟩; have hR3 := hR2.below hb3; have hO3 := hO2.below hb3; have hW3 := bt hW2 hb3; have hZ3 := Blk.new w3 38 #[.int .i64 z.q.a, .int .i64 z.q.b, .int .i64 z.q.c, .int .i64 z.q.d, .int .i64 z.k]; have hR4 := hR3.alloc (.cells #[.int .i64 z.q.a, .int .i64 z.q.b, .int .i64 z.q.c, .int .i64 z.q.d, .int .i64 z.k] 38); have hO4 := hO3.alloc (.cells #[.int .i64 z.q.a, .int .i64 z.q.b, .int .i64 z.q.c, .int .i64 z.q.d, .int .i64 z.k] 38); have hW4 : Below w.heap.size w (w3.alloc (.cells #[.int .i64 z.q.a, .int .i64 z.q.b, .int .i64 z.q.c, .int .i64 z.q.d, .int .i64 z.k] 38)) := hW3.alloc hW3.size _; have cO4 := hO4.cells; have cZ3 := hZ3.cells; have fO4 := hO4.frozen; have lO3 := hO3.lt; have cO3 := hO3.cells; have fO3 := hO3.frozen)
        )
        have hR5 := (((((hR3.far (p := ⟨w.heap.size + 1, 0, none⟩) (by simp) (.int .i64 z.q.a)).far (p := ⟨w.heap.size + 1, 1, none⟩) (by simp) (.int .i64 z.q.b)).far (p := ⟨w.heap.size + 1, 2, none⟩) (by simp) (.int .i64 z.q.c)).far (p := ⟨w.heap.size + 1, 3, none⟩) (by simp) (.int .i64 z.q.d)).far (p := ⟨w.heap.size + 1, 4, none⟩) (by simp) (.int .i64 z.k)).alloc (.cells #[.int .i64 z.q.a, .int .i64 z.q.b, .int .i64 z.q.c, .int .i64 z.q.d, .int .i64 z.k] 38)
        have hO5 := (((((hO3.set 0 (.int .i64 z.q.a)).set 1 (.int .i64 z.q.b)).set 2 (.int .i64 z.q.c)).set 3 (.int .i64 z.q.d)).set 4 (.int .i64 z.k)).alloc (.cells #[.int .i64 z.q.a, .int .i64 z.q.b, .int .i64 z.q.c, .int .i64 z.q.d, .int .i64 z.k] 38)
        have hW50 := (((((hW3.setCell (p := ⟨w.heap.size + 1, 0, none⟩) (by simp) (.int .i64 z.q.a)).setCell (p := ⟨w.heap.size + 1, 1, none⟩) (by simp) (.int .i64 z.q.b)).setCell (p := ⟨w.heap.size + 1, 2, none⟩) (by simp) (.int .i64 z.q.c)).setCell (p := ⟨w.heap.size + 1, 3, none⟩) (by simp) (.int .i64 z.q.d)).setCell (p := ⟨w.heap.size + 1, 4, none⟩) (by simp) (.int .i64 z.k))
        have hW5 := hW50.alloc hW50.size (.cells #[.int .i64 z.q.a, .int .i64 z.q.b, .int .i64 z.q.c, .int .i64 z.q.d, .int .i64 z.k] 38)
        go_roundg (n - (0 + 1))
        case measure => omega
        case rel =>
          refine ⟨1, by omega, by omega, by go_num, (show Aside _ from ?_), (show Aside _ from ?_), (show Aside _ from ?_)⟩
          · exact hR5
          · show Blk _ _ _ #[.int .i64 (dots x y 1).q.a, .int .i64 (dots x y 1).q.b, .int .i64 (dots x y 1).q.c, .int .i64 (dots x y 1).q.d, .int .i64 (dots x y 1).k]
            rw [hdots]
            exact hO5
          · exact hW5
      · obtain ⟨s, hse⟩ : ∃ s, dots x y kk = s := ⟨_, rfl⟩
        have hsm : s.md := by
          rw [← hse]
          have := H.sum (kk - 1) (by omega)
          rwa [show kk - 1 + 1 = kk from by omega] at this
        obtain ⟨u, hue⟩ : ∃ u, (addN s z).1 = u := ⟨_, rfl⟩
        have hu : Hid (addN s z = (u, 0)) := show _ = _ from Prod.ext hue (by have := H.add kk (by omega) hlt; rw [hse, hze] at this; exact this)
        have hdots : dots x y (kk + 1) = u := by rw [← hue, ← hse, ← hze]; simp [dots, h0]
        rw [hse] at hO
        have h0z : (0 : Int) < (kk : Int) := by omega
        have h0n : 0 < kk := by omega
        go_wp2_with (first
        | (go_at_fn gx; refine hcx.mono ?_; clear hcx; rintro e w1 ⟨rfl, hb1⟩; have hR1 := hR.below hb1; have hO1 := hO.below hb1; have hW1 := bt hW hb1; have hcy := hy w1 kk hlt hW1)
        | (go_at_fn gy; refine hcy.mono ?_; clear hcy; rintro e w2 ⟨rfl, hb2⟩; have hR2 := hR1.below hb2; have hO2 := hO1.below hb2; have hW2 := bt hW1 hb2)
        | (go_at_call 56; refine (f56_any (x kk) (y kk) _ hxs.1 hys.1 hxs.2.2 hys.2.2 z 0 hz).mono ?_; rintro e w3 ⟨rfl, hb3⟩; have hR3 := hR2.below hb3; have hO3 := hO2.below hb3; have hW3 := bt hW2 hb3; have hZ3 := Blk.new w3 38 #[.int .i64 z.q.a, .int .i64 z.q.b, .int .i64 z.q.c, .int .i64 z.q.d, .int .i64 z.k]; have hR4 := hR3.alloc (.cells #[.int .i64 z.q.a, .int .i64 z.q.b, .int .i64 z.q.c, .int .i64 z.q.d, .int .i64 z.k] 38); have hO4 := hO3.alloc (.cells #[.int .i64 z.q.a, .int .i64 z.q.b, .int .i64 z.q.c, .int .i64 z.q.d, .int .i64 z.k] 38); have hW4 : Below w.heap.size w (w3.alloc (.cells #[.int .i64 z.q.a, .int .i64 z.q.b, .int .i64 z.q.c, .int .i64 z.q.d, .int .i64 z.k] 38)) := hW3.alloc hW3.size _; have cO4 := hO4.cells; have cZ3 := hZ3.cells; have fO4 := hO4.frozen; have lO3 := hO3.lt; have cO3 := hO3.cells; have fO3 := hO3.frozen)
        | (go_at_call 31; refine (f31_any s z _ hsm.1 hzm.1 hsm.2 hzm.2 u 0 hu).mono ?_; rintro e w5 ⟨rfl, hb5⟩; have hR5 := hR4.below hb5; have hO5 := hO4.below hb5; have hZ5 := hZ3.below hb5; have hW5 := bt hW4 hb5; have cO5 := hO5.cells; have cZ5 := hZ5.cells; have fO5 := hO5.frozen; have fZ5 := hZ5.frozen; have lO5 := hO5.lt; have lZ5 := hZ5.lt; clear cO4 cZ3 fO4))
        have hR6 := ((((((((((hR5.far (p := ⟨w3.heap.size, 0, none⟩) (by simp; omega) (.int .i64 u.q.a)).far (p := ⟨w3.heap.size, 1, none⟩) (by simp; omega) (.int .i64 u.q.b)).far (p := ⟨w3.heap.size, 2, none⟩) (by simp; omega) (.int .i64 u.q.c)).far (p := ⟨w3.heap.size, 3, none⟩) (by simp; omega) (.int .i64 u.q.d)).far (p := ⟨w3.heap.size, 4, none⟩) (by simp; omega) (.int .i64 u.k)).far (p := ⟨w.heap.size + 1, 0, none⟩) (by simp) (.int .i64 u.q.a)).far (p := ⟨w.heap.size + 1, 1, none⟩) (by simp) (.int .i64 u.q.b)).far (p := ⟨w.heap.size + 1, 2, none⟩) (by simp) (.int .i64 u.q.c)).far (p := ⟨w.heap.size + 1, 3, none⟩) (by simp) (.int .i64 u.q.d)).far (p := ⟨w.heap.size + 1, 4, none⟩) (by simp) (.int .i64 u.k))
        have hO6 := ((((((((((hO5.far (p := ⟨w3.heap.size, 0, none⟩) (by simp; omega) (.int .i64 u.q.a)).far (p := ⟨w3.heap.size, 1, none⟩) (by simp; omega) (.int .i64 u.q.b)).far (p := ⟨w3.heap.size, 2, none⟩) (by simp; omega) (.int .i64 u.q.c)).far (p := ⟨w3.heap.size, 3, none⟩) (by simp; omega) (.int .i64 u.q.d)).far (p := ⟨w3.heap.size, 4, none⟩) (by simp; omega) (.int .i64 u.k)).set 0 (.int .i64 u.q.a)).set 1 (.int .i64 u.q.b)).set 2 (.int .i64 u.q.c)).set 3 (.int .i64 u.q.d)).set 4 (.int .i64 u.k))
        have hW6 := ((((((((((hW5.setCell (p := ⟨w3.heap.size, 0, none⟩) (by have := hW3.size; simp; omega) (.int .i64 u.q.a)).setCell (p := ⟨w3.heap.size, 1, none⟩) (by have := hW3.size; simp; omega) (.int .i64 u.q.b)).setCell (p := ⟨w3.heap.size, 2, none⟩) (by have := hW3.size; simp; omega) (.int .i64 u.q.c)).setCell (p := ⟨w3.heap.size, 3, none⟩) (by have := hW3.size; simp; omega) (.int .i64 u.q.d)).setCell (p := ⟨w3.heap.size, 4, none⟩) (by have := hW3.size; simp; omega) (.int .i64 u.k)).setCell (p := ⟨w.heap.size + 1, 0, none⟩) (by simp) (.int .i64 u.q.a)).setCell (p := ⟨w.heap.size + 1, 1, none⟩) (by simp) (.int .i64 u.q.b)).setCell (p := ⟨w.heap.size + 1, 2, none⟩) (by simp) (.int .i64 u.q.c)).setCell (p := ⟨w.heap.size + 1, 3, none⟩) (by simp) (.int .i64 u.q.d)).setCell (p := ⟨w.heap.size + 1, 4, none⟩) (by simp) (.int .i64 u.k))
        go_roundg (n - (kk + 1))
        case measure => omega
        case rel =>
          refine ⟨kk + 1, by omega, by omega, by go_num, (show Aside _ from hR6), (show Aside _ from ?_), (show Aside _ from hW6)⟩
          rw [hdots]
          exact hO6
    · have hltz : ¬ (kk : Int) < (n : Int) := by omega
      obtain rfl : kk = n := by omega
      clear hlt
      have hR := RW.out
      have hO := OW.out
      have hW := BW.out
      have cO := hO.cells
      have cR := hR.cells
      have fR := hR.frozen
      have lR := hR.lt
      go_wp2
      have hF := (((((hR.set 0 (.int .i64 (dots x y kk).q.a)).set 1 (.int .i64 (dots x y kk).q.b)).set 2 (.int .i64 (dots x y kk).q.c)).set 3 (.int .i64 (dots x y kk).q.d)).set 4 (.int .i64 (dots x y kk).k))
      have cF := hF.cells
      refine bodyPost_ret (v := .tuple #[.agg #[.int .i64 (dots x y kk).q.a, .int .i64 (dots x y kk).q.b, .int .i64 (dots x y kk).q.c, .int .i64 (dots x y kk).q.d, .int .i64 (dots x y kk).k], .int .i64 0]) (by simp [results, Tryz.results83, go_sem, cF]) rfl ⟨rfl, ?_⟩
      exact (((((hW.setCell (by first | (simp; done) | (simp; omega) | omega) _).setCell (by first | (simp; done) | (simp; omega) | omega) _).setCell (by first | (simp; done) | (simp; omega) | omega) _).setCell (by first | (simp; done) | (simp; omega) | omega) _).setCell (by first | (simp; done) | (simp; omega) | omega) _)
end
section
open Go.RowKit
attribute [local go_sem ↓] Go.wp_at_zero Go.wp_at_succ
set_option maxHeartbeats 4000000 in
set_option maxRecDepth 100000 in
theorem f115_any {A A' : Option Addr} {h k n : Nat} {M N : Nat → Nat → Num} (cap cap' i j Bn Bm : Nat) (r : Num) (w : World) (HM : Mat w A h k M) (HN : Mat w A' k n N) (hi : i < h) (hj : j < n) (hln : Bn < w.heap.size) (hn : w.cell? ⟨Bn, 0, none⟩ = some (.slice A' k cap')) (hlm : Bm < w.heap.size) (hm : w.cell? ⟨Bm, 0, none⟩ = some (.slice A h cap))
    (H : DotOk (fun l => M i l) (fun l => N l j) k) (hr : Hid (dots (fun l => M i l) (fun l => N l j) k = r)) :
    Calls Tryz.prog 115 #[.agg #[.int .i64 i, .int .i64 j], .pointer (some ⟨Bn, 0, none⟩), .pointer (some ⟨Bm, 0, none⟩)] w fun e w' => e = .returned (.tuple #[.agg #[.int .i64 r.q.a, .int .i64 r.q.b, .int .i64 r.q.c, .int .i64 r.q.d, .int .i64 r.k], .int .i64 0]) ∧ Below w.heap.size w w' := by
  have hb0 : Below w.heap.size w ((w.alloc (.cells #[.int .i64 i, .int .i64 j] 94)).alloc (.cells #[.int .i64 0, .int .i64 0, .int .i64 0, .int .i64 0, .int .i64 0] 38)) := (((Below.refl _ _).alloc (Nat.le_refl _) _).alloc (by first | (simp; done) | (simp; omega) | omega) _)
  have hP : Blk ((w.alloc (.cells #[.int .i64 i, .int .i64 j] 94)).alloc (.cells #[.int .i64 0, .int .i64 0, .int .i64 0, .int .i64 0, .int .i64 0] 38)) w.heap.size 94 #[.int .i64 i, .int .i64 j] := (Blk.new' _ _ (by simp)).alloc _
  have hR : Blk ((w.alloc (.cells #[.int .i64 i, .int .i64 j] 94)).alloc (.cells #[.int .i64 0, .int .i64 0, .int .i64 0, .int .i64 0, .int .i64 0] 38)) (w.heap.size + 1) 38 #[.int .i64 0, .int .i64 0, .int .i64 0, .int .i64 0, .int .i64 0] := Blk.new' _ _ (by simp)
  have hx : NumFn 116 #[.pointer (some ⟨Bm, 0, none⟩), .pointer (some ⟨w.heap.size, 0, none⟩)] k (fun l => M i l) ((w.alloc (.cells #[.int .i64 i, .int .i64 j] 94)).alloc (.cells #[.int .i64 0, .int .i64 0, .int .i64 0, .int .i64 0, .int .i64 0] 38)) := fun W l hl hb =>
    f116_any l i 0 cap Bm w.heap.size W ((HM.below hb0).below hb) hi hl (Nat.lt_of_lt_of_le hlm (bt hb0 hb).size) (keep_cell (p := ⟨Bm, 0, none⟩) (bt hb0 hb) hlm hm) (Nat.lt_of_lt_of_le hP.lt hb.size) (keep_cell (p := ⟨w.heap.size, 0, none⟩) hb hP.lt (hP.cells 0))
  have hy : NumFn 117 #[.pointer (some ⟨Bn, 0, none⟩), .pointer (some ⟨w.heap.size, 0, none⟩)] k (fun l => N l j) ((w.alloc (.cells #[.int .i64 i, .int .i64 j] 94)).alloc (.cells #[.int .i64 0, .int .i64 0, .int .i64 0, .int .i64 0, .int .i64 0] 38)) := fun W l hl hb =>
    f117_any l j 0 cap' Bn w.heap.size W ((HN.below hb0).below hb) hj hl (Nat.lt_of_lt_of_le hln (bt hb0 hb).size) (keep_cell (p := ⟨Bn, 0, none⟩) (bt hb0 hb) hln hn) (Nat.lt_of_lt_of_le hP.lt hb.size) (keep_cell (p := ⟨w.heap.size, 1, none⟩) hb hP.lt (hP.cells 1))
  have hk : k ≤ 64 := by obtain ⟨_, _, _, _, _, _, hh⟩ := HN; exact hh.dims.2.1
  have hcall := f83_any 116 117 _ _ (enters_of Tryz.func116 (by kernel_rfl) rfl) (enters_of Tryz.func117 (by kernel_rfl) rfl) k _ _ _ hk hx hy H
  rw [hr.out] at hcall
  clear hx hy H
  go_enter Tryz.func115, Tryz.ntmps115
  go_wp2_with (go_at_call 83; refine hcall.mono ?_; rintro e w1 ⟨rfl, hb1⟩; have hR1 := hR.below hb1; have cR := hR1.cells; have fR := hR1.frozen)
  have hF := (((((hR1.set 0 (.int .i64 r.q.a)).set 1 (.int .i64 r.q.b)).set 2 (.int .i64 r.q.c)).set 3 (.int .i64 r.q.d)).set 4 (.int .i64 r.k))
  have cF := hF.cells
  have hb := bt hb0 hb1
  refine bodyPost_ret (v := .tuple #[.agg #[.int .i64 r.q.a, .int .i64 r.q.b, .int .i64 r.q.c, .int .i64 r.q.d, .int .i64 r.k], .int .i64 0]) (by simp [results, Tryz.results115, go_sem, cF]) rfl ⟨rfl, ?_⟩
  exact (((((hb.setCell (by first | (simp; done) | (simp; omega) | omega) _).setCell (by first | (simp; done) | (simp; omega) | omega) _).setCell (by first | (simp; done) | (simp; omega) | omega) _).setCell (by first | (simp; done) | (simp; omega) | omega) _).setCell (by first | (simp; done) | (simp; omega) | omega) _)
set_option maxHeartbeats 4000000 in
set_option maxRecDepth 100000 in
theorem f63_any {A A' : Option Addr} {h k n : Nat} {M N : Nat → Nat → Num} (cap cap' : Nat) (w : World) (HM : Mat w A h k M) (HN : Mat w A' k n N) (H : ∀ i j, i < h → j < n → DotOk (fun l => M i l) (fun l => N l j) k) :
    Calls Tryz.prog 63 #[.slice A h cap, .slice A' k cap'] w fun e w' => ∃ B, w.heap.size ≤ B ∧ e = .returned (.tuple #[.slice (some ⟨B, 0, none⟩) h h, .int .i64 0]) ∧ Filled w' B h n (fun i j => dots (fun l => M i l) (fun l => N l j) k) ∧ Below w.heap.size w w' := by
  have hdim : 1 ≤ h ∧ h ≤ 64 ∧ 1 ≤ n ∧ n ≤ 64 := by
    obtain ⟨_, _, _, _, _, _, h1⟩ := HM
    obtain ⟨_, _, _, _, _, _, h2⟩ := HN
    exact ⟨h1.dims.1, h1.dims.2.1, h2.dims.2.2.1, h2.dims.2.2.2⟩
  go_enter Tryz.func63, Tryz.ntmps63
  go_wp2
  refine Calm.wp_region_seg (by kernel_rfl) ?_
  refine Calm.seg (C := fun w' => Blk w' w.heap.size 88 #[.slice A h cap] ∧ Blk w' (w.heap.size + 1) 88 #[.slice A' k cap'] ∧ Below w.heap.size w w') 0 5 (by decide) (by kernel_rfl) (⟨((Blk.new' 88 #[.slice A h cap] (by simp)).alloc _).drew, (Blk.new' 88 #[.slice A' k cap'] (by simp)).drew, ((((Below.refl _ _).alloc (Nat.le_refl _) _).alloc (by first | (simp; done) | (simp; omega) | omega) _)).drew⟩) ?_
  show Calm.WalkI _ _ _ _ _ _ [0, 1, 2, 3, 4] _ _
  refine Calm.calm_step rfl rfl rfl ?_; apply Exists.intro; refine ⟨fun w' hw' => ?_, ?_⟩
  · obtain ⟨hA, hB, hW⟩ := hw'
    have cA := hA.cells
    have cB := hB.cells
    apply Calm.calm_value
    go_simp
    exact rfl
  intro K hK; go_simp; refine hK _ ?_; clear hK K
  refine Calm.calm_step rfl rfl rfl ?_; apply Exists.intro; refine ⟨fun w' hw' => ?_, ?_⟩
  · obtain ⟨hA, hB, hW⟩ := hw'
    have cA := hA.cells
    have cB := hB.cells
    apply Calm.calm_value
    go_simp
    exact rfl
  intro K hK; go_simp; refine hK _ ?_; clear hK K
  refine Calm.calm_step rfl rfl rfl ?_; apply Exists.intro; refine ⟨fun w' hw' => ?_, ?_⟩
  · obtain ⟨hA, hB, hW⟩ := hw'
    have cA := hA.cells
    have cB := hB.cells
    apply Calm.calm_value
    go_simp
    exact rfl
  intro K hK; go_simp; refine hK _ ?_; clear hK K
  refine Calm.calm_step rfl rfl rfl ?_; apply Exists.intro; refine ⟨fun w' hw' => ?_, ?_⟩
  · obtain ⟨hA, hB, hW⟩ := hw'
    have cA := hA.cells
    have cB := hB.cells
    apply Calm.calm_call
    · go_simp
      exact ⟨rfl, rfl⟩
    refine (f62_mat cap' (HN.below hW)).mono ?_
    rintro e w'' ⟨rfl, hb⟩
    exact ⟨rfl, hb, hA.below hb, hB.below hb, bt hW hb⟩
  intro K hK; go_simp; refine hK _ ?_; clear hK K
  refine Calm.calm_step rfl rfl rfl ?_; apply Exists.intro; refine ⟨fun w' hw' => ?_, ?_⟩
  · obtain ⟨hA, hB, hW⟩ := hw'
    have cA := hA.cells
    have cB := hB.cells
    apply Calm.calm_value
    go_simp
    exact rfl
  intro K hK; go_simp; refine hK _ ?_; clear hK K
  refine Calm.seg_end_lit (fun wk hk => ?_)
  obtain ⟨hA, hB, hW⟩ := hk
  have hel : ElemOn 115 #[.pointer (some ⟨w.heap.size + 1, 0, none⟩), .pointer (some ⟨w.heap.size, 0, none⟩)] h n (fun i j => dots (fun l => M i l) (fun l => N l j) k) wk.heap.size wk := fun W i j y hi hj hy hWW hs =>
    f115_any cap cap' i j (w.heap.size + 1) w.heap.size y W (HM.below (bt hW hWW)) (HN.below (bt hW hWW)) hi hj (Nat.lt_of_lt_of_le hB.lt hWW.size) (keep_cell (p := ⟨w.heap.size + 1, 0, none⟩) hWW hB.lt (hB.cells 0)) (Nat.lt_of_lt_of_le hA.lt hWW.size) (keep_cell (p := ⟨w.heap.size, 0, none⟩) hWW hA.lt (hA.cells 0)) (H i j hi hj) hy
  refine Calm.any_call 5 rfl (by kernel_rfl) rfl (by go_simp; exact ⟨rfl, rfl⟩) ?_
  refine (f45_any 115 #[.pointer (some ⟨w.heap.size + 1, 0, none⟩), .pointer (some ⟨w.heap.size, 0, none⟩)] (enters_of Tryz.func115 (by kernel_rfl) rfl) h n (fun i j => dots (fun l => M i l) (fun l => N l j) k) wk hdim hel).mono ?_
  rintro e w8 ⟨rfl, hF8, hb8⟩
  refine ⟨_, rfl, fun K hK => ?_⟩
  go_simp
  refine hK _ ?_
  clear hK K
  refine Calm.seg (C := fun w' => w' = w8) 6 8 (by decide) (by kernel_rfl) (rfl) ?_
  show Calm.WalkI _ _ _ _ _ _ [6, 7] _ _
  refine Calm.calm_step rfl rfl rfl ?_; apply Exists.intro; refine ⟨fun w' hw' => ?_, ?_⟩
  · obtain rfl := hw'
    apply Calm.calm_value
    go_simp
    exact rfl
  intro K hK; go_simp; refine hK _ ?_; clear hK K
  refine Calm.calm_step rfl rfl rfl ?_; apply Exists.intro; refine ⟨fun w' hw' => ?_, ?_⟩
  · obtain rfl := hw'
    apply Calm.calm_value
    go_simp
    exact rfl
  intro K hK; go_simp; refine hK _ ?_; clear hK K
  refine Calm.seg_end_lit (fun wk hk => ?_)
  obtain rfl := hk
  refine Calm.any_tail 8 (by kernel_rfl) ?_
  simp only [List.drop_succ_cons, List.drop_zero]
  go_wp2
  exact bodyPost_ret (v := .tuple #[.slice (some ⟨_, 0, none⟩) h h, .int .i64 0]) (by simp [results, Tryz.results63, go_sem]) rfl ⟨_, hW.size, rfl, hF8, bt hW hb8⟩
end
section
open Go.RowKit
attribute [local go_sem ↓] Go.wp_at_zero Go.wp_at_succ
def pick2 {α : Type} (x y : α) (i : Nat) : α := if i = 0 then x else y
theorem f53_two {A A' : Option Addr} {h n h' n' : Nat} {M N : Nat → Nat → Num} (cap cap' : Nat) {b : Nat} {T : TypeId} {w : World} (hb : Blk w b T #[.slice A h cap, .slice A' h' cap']) (HM : Mat w A h n M) (HN : Mat w A' h' n' N) (hM : ∀ i j, i < h → j < n → (M i j).ok) (hN : ∀ i j, i < h' → j < n' → (N i j).ok) :
    Calls Tryz.prog 53 #[.slice (some ⟨b, 0, none⟩) 2 2] w fun e w' => e = .returned (.int .i64 0) ∧ Below w.heap.size w w' :=
  f53_any b 2 (pick2 A A') (pick2 h h') (pick2 n n') (pick2 cap cap') (pick2 M N) w (by omega) hb.lt (fun i hi => by
    obtain rfl | rfl : i = 0 ∨ i = 1 := by omega
    · exact ⟨hb.cells 0, HM, hM⟩
    · exact ⟨hb.cells 1, HN, hN⟩)
set_option maxHeartbeats 4000000 in
set_option maxRecDepth 100000 in
theorem f19_any {A A' : Option Addr} {h k n : Nat} {M N : Nat → Nat → Num} (cap cap' : Nat) (w : World) (HM : Mat w A h k M) (HN : Mat w A' k n N) (hM : ∀ i j, i < h → j < k → (M i j).ok) (hN : ∀ i j, i < k → j < n → (N i j).ok) (H : ∀ i j, i < h → j < n → DotOk (fun l => M i l) (fun l => N l j) k) :
    Calls Tryz.prog 19 #[.slice A h cap, .slice A' k cap'] w fun e w' => ∃ B, w.heap.size ≤ B ∧ e = .returned (.tuple #[.slice (some ⟨B, 0, none⟩) h h, .int .i64 0]) ∧ Filled w' B h n (fun i j => dots (fun l => M i l) (fun l => N l j) k) ∧ Below w.heap.size w w' := by
  have hb0 : Below w.heap.size w (w.alloc (.cells #[.slice A h cap, .slice A' k cap'] 31)) := (Below.refl _ _).alloc (Nat.le_refl _) _
  have hS := Blk.new w 31 #[.slice A h cap, .slice A' k cap']
  go_enter Tryz.func19, Tryz.ntmps19
  go_wp2_with (first
    | (go_at_call 53; refine (f53_two cap cap' hS (HM.below hb0) (HN.below hb0) hM hN).mono ?_; rintro e w1 ⟨rfl, hb1⟩; have hW1 := bt hb0 hb1)
    | (go_at_call 62; refine (f62_mat cap (HM.below hW1)).mono ?_; rintro e w2 ⟨rfl, hb2⟩; have hW2 := bt hW1 hb2)
    | (go_at_call 63; refine (f63_any cap cap' _ (HM.below hW2) (HN.below hW2) H).mono ?_; rintro e w3 ⟨B, hB, rfl, hF3, hb3⟩))
  exact bodyPost_ret (v := .tuple #[.slice (some ⟨B, 0, none⟩) h h, .int .i64 0]) (by simp [results, Tryz.results19, go_sem]) rfl ⟨B, Nat.le_trans hW2.size hB, rfl, hF3, bt hW2 hb3⟩
end
end Go.Proofs.YtdfgmmjcamhdjaaGreatDoor
