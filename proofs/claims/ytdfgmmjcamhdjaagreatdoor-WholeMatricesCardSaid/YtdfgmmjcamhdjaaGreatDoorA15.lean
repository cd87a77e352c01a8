/- Steps to WholeMatrices' card; what each asks stands in it. -/
import Derived.Test.YtdfgmmjcamhdjaaGreatDoorA14
set_option linter.unusedVariables false
set_option linter.unusedSimpArgs false
namespace Go.Proofs.YtdfgmmjcamhdjaaGreatDoor
section
open Go.RowKit
attribute [local go_sem ↓] Go.wp_at_zero Go.wp_at_succ
set_option maxHeartbeats 8000000 in
set_option maxRecDepth 100000 in
theorem f55_any {A A' : Option Addr} {h n h' n' : Nat} {M N : Nat → Nat → Num} (cap cap' i j Bm Bn : Nat) (r : Num) (w : World) (HM : Mat w A h n M) (HN : Mat w A' h' n' N) (hi : i < h * h') (hj : j < n * n') (hlm : Bm < w.heap.size) (hm : w.cell? ⟨Bm, 0, none⟩ = some (.slice A h cap)) (hln : Bn < w.heap.size) (hn : w.cell? ⟨Bn, 0, none⟩ = some (.slice A' h' cap'))
    (hM : ∀ i j, i < h → j < n → (M i j).sm) (hN : ∀ i j, i < h' → j < n' → (N i j).sm) (hr : Hid (mulN (M (i / h') (j / n')) (N (i % h') (j % n')) = (r, 0))) :
    Calls Tryz.prog 55 #[.agg #[.int .i64 i, .int .i64 j], .pointer (some ⟨Bm, 0, none⟩), .pointer (some ⟨Bn, 0, none⟩)] w fun e w' => e = .returned (.tuple #[.agg #[.int .i64 r.q.a, .int .i64 r.q.b, .int .i64 r.q.c, .int .i64 r.q.d, .int .i64 r.k], .int .i64 0]) ∧ Below w.heap.size w w' := by
  obtain ⟨b, off, rb, ro, rc, rfl, HM⟩ := HM
  obtain ⟨b', off', rb', ro', rc', rfl, HN⟩ := HN
  have p1 : 0 < h' := HN.dims.1
  have p2 : 0 < n' := HN.dims.2.2.1
  have hi1 : i / h' < h := Nat.div_lt_of_lt_mul (by rw [Nat.mul_comm]; exact hi)
  have hj1 : j / n' < n := Nat.div_lt_of_lt_mul (by rw [Nat.mul_comm]; exact hj)
  have hi2 : i % h' < h' := Nat.mod_lt _ p1
  have hj2 : j % n' < n' := Nat.mod_lt _ p2
  have hxs := hM _ _ hi1 hj1
  have hus := hN _ _ hi2 hj2
  have hx := HM.num _ _ hi1 hj1
  have hu := HN.num _ _ hi2 hj2
  have hrowM := (HM.row _ hi1).1
  have hlr := (HM.row _ hi1).2
  have hrowN := (HN.row _ hi2).1
  have hlr' := (HN.row _ hi2).2
  have hrowN0 : w.cell? ⟨b', off', none⟩ = _ := (HN.row 0 p1).1
  have hlb := HM.lt
  have hlb' := HN.lt
  have q1 : (i : Int).tdiv (h' : Int) = ((i / h' : Nat) : Int) := rfl
  have q2 : (j : Int).tdiv (n' : Int) = ((j / n' : Nat) : Int) := rfl
  have q3 : (i : Int).tmod (h' : Int) = ((i % h' : Nat) : Int) := rfl
  have q4 : (j : Int).tmod (n' : Int) = ((j % n' : Nat) : Int) := rfl
  generalize M (i / h') (j / n') = x at hxs hx hr
  generalize N (i % h') (j % n') = u at hus hu hr
  generalize i / h' = i1 at *
  generalize j / n' = j1 at *
  generalize i % h' = i2 at *
  generalize j % n' = j2 at *
  obtain ⟨x0, x1, x2, x3, x4⟩ := hx
  obtain ⟨u0, u1, u2, u3, u4⟩ := hu
  have p1z : (0 : Int) < (h' : Int) := by omega
  have p2z : (0 : Int) < (n' : Int) := by omega
  have p1n : ¬ (h' = 0) := by omega
  have p2n : ¬ (n' = 0) := by omega
  have s1 : (i1 : Int) < (h : Int) := by omega
  have s2 : (j1 : Int) < (n : Int) := by omega
  have s3 : (i2 : Int) < (h' : Int) := by omega
  have s4 : (j2 : Int) < (n' : Int) := by omega
  have hh1 := HM.dims.2.1
  have hh2 := HM.dims.2.2.2
  have hh3 := HN.dims.2.1
  have hh4 := HN.dims.2.2.2
  have w1 : IntKind.i64.wrap (i1 : Int) = i1 := by rw [IntKind.wrap_i64]; omega
  have w2 : IntKind.i64.wrap (j1 : Int) = j1 := by rw [IntKind.wrap_i64]; omega
  have w3 : IntKind.i64.wrap (i2 : Int) = i2 := by rw [IntKind.wrap_i64]; omega
  have w4 : IntKind.i64.wrap (j2 : Int) = j2 := by rw [IntKind.wrap_i64]; omega
  go_enter Tryz.func55, Tryz.ntmps55
  go_wp2
  refine Calm.wp_region_calm 37 [] (by kernel_rfl) (by kernel_rfl) (by decide) (fun w' => Blk w' w.heap.size 94 #[.int .i64 i, .int .i64 j] ∧ Blk w' (w.heap.size + 1) 38 #[.int .i64 0, .int .i64 0, .int .i64 0, .int .i64 0, .int .i64 0] ∧ Below w.heap.size w w') (0) (fun _ _ => Nat.zero_le _) ⟨((Blk.new' 94 #[.int .i64 i, .int .i64 j] (by simp)).alloc _).drew, (Blk.new' 38 #[.int .i64 0, .int .i64 0, .int .i64 0, .int .i64 0, .int .i64 0] (by simp)).drew, ((((Below.refl _ _).alloc (Nat.le_refl _) _).alloc (by first | (simp; done) | (simp; omega) | omega) _)).drew⟩ ?_
  show Calm.WalkI _ _ _ _ _ _ [0, 1, 2, 3, 4, 5, 6, 7, 8, 9, 10, 11, 12, 13, 14, 15, 16, 17, 18, 19, 20, 21, 22, 23, 24, 25, 26, 27, 28, 29, 30, 31, 32, 33, 34, 35, 36] _ _
  refine Calm.calm_step rfl rfl rfl ?_; apply Exists.intro; refine ⟨fun w' hw' => ?_, ?_⟩
  · obtain ⟨hA, hR, hW⟩ := hw'
    have cA := hA.cells
    have dm := keep_cell hW hlm hm
    have dn := keep_cell hW hln hn
    have d0 := keep_cell hW hlb hrowM
    have d1 := keep_cell hW hlb' hrowN0
    have d2 := keep_cell hW hlb' hrowN
    have y0 := keep_cell hW hlr x0
    have y1 := keep_cell hW hlr x1
    have y2 := keep_cell hW hlr x2
    have y3 := keep_cell hW hlr x3
    have y4 := keep_cell hW hlr x4
    have z0 := keep_cell hW hlr' u0
    have z1 := keep_cell hW hlr' u1
    have z2 := keep_cell hW hlr' u2
    have z3 := keep_cell hW hlr' u3
    have z4 := keep_cell hW hlr' u4
    apply Calm.calm_value
    go_simp
    exact rfl
  intro K hK; go_simp; refine hK _ ?_; clear hK K
  refine Calm.calm_step rfl rfl rfl ?_; apply Exists.intro; refine ⟨fun w' hw' => ?_, ?_⟩
  · obtain ⟨hA, hR, hW⟩ := hw'
    have cA := hA.cells
    have dm := keep_cell hW hlm hm
    have dn := keep_cell hW hln hn
    have d0 := keep_cell hW hlb hrowM
    have d1 := keep_cell hW hlb' hrowN0
    have d2 := keep_cell hW hlb' hrowN
    have y0 := keep_cell hW hlr x0
    have y1 := keep_cell hW hlr x1
    have y2 := keep_cell hW hlr x2
    have y3 := keep_cell hW hlr x3
    have y4 := keep_cell hW hlr x4
    have z0 := keep_cell hW hlr' u0
    have z1 := keep_cell hW hlr' u1
    have z2 := keep_cell hW hlr' u2
    have z3 := keep_cell hW hlr' u3
    have z4 := keep_cell hW hlr' u4
    apply Calm.calm_value
    go_simp
    exact rfl
  intro K hK; go_simp; refine hK _ ?_; clear hK K
  refine Calm.calm_step rfl rfl rfl ?_; apply Exists.intro; refine ⟨fun w' hw' => ?_, ?_⟩
  · obtain ⟨hA, hR, hW⟩ := hw'
    have cA := hA.cells
    have dm := keep_cell hW hlm hm
    have dn := keep_cell hW hln hn
    have d0 := keep_cell hW hlb hrowM
    have d1 := keep_cell hW hlb' hrowN0
    have d2 := keep_cell hW hlb' hrowN
    have y0 := keep_cell hW hlr x0
    have y1 := keep_cell hW hlr x1
    have y2 := keep_cell hW hlr x2
    have y3 := keep_cell hW hlr x3
    have y4 := keep_cell hW hlr x4
    have z0 := keep_cell hW hlr' u0
    have z1 := keep_cell hW hlr' u1
    have z2 := keep_cell hW hlr' u2
    have z3 := keep_cell hW hlr' u3
    have z4 := keep_cell hW hlr' u4
    apply Calm.calm_value
    go_simp
    exact rfl
  intro K hK; go_simp; refine hK _ ?_; clear hK K
  refine Calm.calm_step rfl rfl rfl ?_; apply Exists.intro; refine ⟨fun w' hw' => ?_, ?_⟩
  · obtain ⟨hA, hR, hW⟩ := hw'
    have cA := hA.cells
    have dm := keep_cell hW hlm hm
    have dn := keep_cell hW hln hn
    have d0 := keep_cell hW hlb hrowM
    have d1 := keep_cell hW hlb' hrowN0
    have d2 := keep_cell hW hlb' hrowN
    have y0 := keep_cell hW hlr x0
    have y1 := keep_cell hW hlr x1
    have y2 := keep_cell hW hlr x2
    have y3 := keep_cell hW hlr x3
    have y4 := keep_cell hW hlr x4
    have z0 := keep_cell hW hlr' u0
    have z1 := keep_cell hW hlr' u1
    have z2 := keep_cell hW hlr' u2
    have z3 := keep_cell hW hlr' u3
    have z4 := keep_cell hW hlr' u4
    apply Calm.calm_value
    go_simp
    exact rfl
  intro K hK; go_simp; refine hK _ ?_; clear hK K
  refine Calm.calm_step rfl rfl rfl ?_; apply Exists.intro; refine ⟨fun w' hw' => ?_, ?_⟩
  · obtain ⟨hA, hR, hW⟩ := hw'
    have cA := hA.cells
    have dm := keep_cell hW hlm hm
    have dn := keep_cell hW hln hn
    have d0 := keep_cell hW hlb hrowM
    have d1 := keep_cell hW hlb' hrowN0
    have d2 := keep_cell hW hlb' hrowN
    have y0 := keep_cell hW hlr x0
    have y1 := keep_cell hW hlr x1
    have y2 := keep_cell hW hlr x2
    have y3 := keep_cell hW hlr x3
    have y4 := keep_cell hW hlr x4
    have z0 := keep_cell hW hlr' u0
    have z1 := keep_cell hW hlr' u1
    have z2 := keep_cell hW hlr' u2
    have z3 := keep_cell hW hlr' u3
    have z4 := keep_cell hW hlr' u4
    apply Calm.calm_value
    go_simp
    exact rfl
  intro K hK; go_simp; refine hK _ ?_; clear hK K
  refine Calm.calm_step rfl rfl rfl ?_; apply Exists.intro; refine ⟨fun w' hw' => ?_, ?_⟩
  · obtain ⟨hA, hR, hW⟩ := hw'
    have cA := hA.cells
    have dm := keep_cell hW hlm hm
    have dn := keep_cell hW hln hn
    have d0 := keep_cell hW hlb hrowM
    have d1 := keep_cell hW hlb' hrowN0
    have d2 := keep_cell hW hlb' hrowN
    have y0 := keep_cell hW hlr x0
    have y1 := keep_cell hW hlr x1
    have y2 := keep_cell hW hlr x2
    have y3 := keep_cell hW hlr x3
    have y4 := keep_cell hW hlr x4
    have z0 := keep_cell hW hlr' u0
    have z1 := keep_cell hW hlr' u1
    have z2 := keep_cell hW hlr' u2
    have z3 := keep_cell hW hlr' u3
    have z4 := keep_cell hW hlr' u4
    apply Calm.calm_value
    go_simp
    exact rfl
  intro K hK; go_simp; refine hK _ ?_; clear hK K
  refine Calm.calm_step rfl rfl rfl ?_; apply Exists.intro; refine ⟨fun w' hw' => ?_, ?_⟩
  · obtain ⟨hA, hR, hW⟩ := hw'
    have cA := hA.cells
    have dm := keep_cell hW hlm hm
    have dn := keep_cell hW hln hn
    have d0 := keep_cell hW hlb hrowM
    have d1 := keep_cell hW hlb' hrowN0
    have d2 := keep_cell hW hlb' hrowN
    have y0 := keep_cell hW hlr x0
    have y1 := keep_cell hW hlr x1
    have y2 := keep_cell hW hlr x2
    have y3 := keep_cell hW hlr x3
    have y4 := keep_cell hW hlr x4
    have z0 := keep_cell hW hlr' u0
    have z1 := keep_cell hW hlr' u1
    have z2 := keep_cell hW hlr' u2
    have z3 := keep_cell hW hlr' u3
    have z4 := keep_cell hW hlr' u4
    apply Calm.calm_value
    go_simp
    exact rfl
  intro K hK; go_simp; refine hK _ ?_; clear hK K
  refine Calm.calm_step rfl rfl rfl ?_; apply Exists.intro; refine ⟨fun w' hw' => ?_, ?_⟩
  · obtain ⟨hA, hR, hW⟩ := hw'
    have cA := hA.cells
    have dm := keep_cell hW hlm hm
    have dn := keep_cell hW hln hn
    have d0 := keep_cell hW hlb hrowM
    have d1 := keep_cell hW hlb' hrowN0
    have d2 := keep_cell hW hlb' hrowN
    have y0 := keep_cell hW hlr x0
    have y1 := keep_cell hW hlr x1
    have y2 := keep_cell hW hlr x2
    have y3 := keep_cell hW hlr x3
    have y4 := keep_cell hW hlr x4
    have z0 := keep_cell hW hlr' u0
    have z1 := keep_cell hW hlr' u1
    have z2 := keep_cell hW hlr' u2
    have z3 := keep_cell hW hlr' u3
    have z4 := keep_cell hW hlr' u4
    apply Calm.calm_value
    go_simp
    exact rfl
  intro K hK; go_simp; refine hK _ ?_; clear hK K
  refine Calm.calm_step rfl rfl rfl ?_; apply Exists.intro; refine ⟨fun w' hw' => ?_, ?_⟩
  · obtain ⟨hA, hR, hW⟩ := hw'
    have cA := hA.cells
    have dm := keep_cell hW hlm hm
    have dn := keep_cell hW hln hn
    have d0 := keep_cell hW hlb hrowM
    have d1 := keep_cell hW hlb' hrowN0
    have d2 := keep_cell hW hlb' hrowN
    have y0 := keep_cell hW hlr x0
    have y1 := keep_cell hW hlr x1
    have y2 := keep_cell hW hlr x2
    have y3 := keep_cell hW hlr x3
    have y4 := keep_cell hW hlr x4
    have z0 := keep_cell hW hlr' u0
    have z1 := keep_cell hW hlr' u1
    have z2 := keep_cell hW hlr' u2
    have z3 := keep_cell hW hlr' u3
    have z4 := keep_cell hW hlr' u4
    apply Calm.calm_value
    go_simp
    exact rfl
  intro K hK; go_simp; refine hK _ ?_; clear hK K
  refine Calm.calm_step rfl rfl rfl ?_; apply Exists.intro; refine ⟨fun w' hw' => ?_, ?_⟩
  · obtain ⟨hA, hR, hW⟩ := hw'
    have cA := hA.cells
    have dm := keep_cell hW hlm hm
    have dn := keep_cell hW hln hn
    have d0 := keep_cell hW hlb hrowM
    have d1 := keep_cell hW hlb' hrowN0
    have d2 := keep_cell hW hlb' hrowN
    have y0 := keep_cell hW hlr x0
    have y1 := keep_cell hW hlr x1
    have y2 := keep_cell hW hlr x2
    have y3 := keep_cell hW hlr x3
    have y4 := keep_cell hW hlr x4
    have z0 := keep_cell hW hlr' u0
    have z1 := keep_cell hW hlr' u1
    have z2 := keep_cell hW hlr' u2
    have z3 := keep_cell hW hlr' u3
    have z4 := keep_cell hW hlr' u4
    apply Calm.calm_value
    go_simp
    exact rfl
  intro K hK; go_simp; refine hK _ ?_; clear hK K
  refine Calm.calm_step rfl rfl rfl ?_; apply Exists.intro; refine ⟨fun w' hw' => ?_, ?_⟩
  · obtain ⟨hA, hR, hW⟩ := hw'
    have cA := hA.cells
    have dm := keep_cell hW hlm hm
    have dn := keep_cell hW hln hn
    have d0 := keep_cell hW hlb hrowM
    have d1 := keep_cell hW hlb' hrowN0
    have d2 := keep_cell hW hlb' hrowN
    have y0 := keep_cell hW hlr x0
    have y1 := keep_cell hW hlr x1
    have y2 := keep_cell hW hlr x2
    have y3 := keep_cell hW hlr x3
    have y4 := keep_cell hW hlr x4
    have z0 := keep_cell hW hlr' u0
    have z1 := keep_cell hW hlr' u1
    have z2 := keep_cell hW hlr' u2
    have z3 := keep_cell hW hlr' u3
    have z4 := keep_cell hW hlr' u4
    apply Calm.calm_value
    go_simp
    exact rfl
  intro K hK; go_simp; refine hK _ ?_; clear hK K
  refine Calm.calm_step rfl rfl rfl ?_; apply Exists.intro; refine ⟨fun w' hw' => ?_, ?_⟩
  · obtain ⟨hA, hR, hW⟩ := hw'
    have cA := hA.cells
    have dm := keep_cell hW hlm hm
    have dn := keep_cell hW hln hn
    have d0 := keep_cell hW hlb hrowM
    have d1 := keep_cell hW hlb' hrowN0
    have d2 := keep_cell hW hlb' hrowN
    have y0 := keep_cell hW hlr x0
    have y1 := keep_cell hW hlr x1
    have y2 := keep_cell hW hlr x2
    have y3 := keep_cell hW hlr x3
    have y4 := keep_cell hW hlr x4
    have z0 := keep_cell hW hlr' u0
    have z1 := keep_cell hW hlr' u1
    have z2 := keep_cell hW hlr' u2
    have z3 := keep_cell hW hlr' u3
    have z4 := keep_cell hW hlr' u4
    apply Calm.calm_value
    go_simp
    exact rfl
  intro K hK; go_simp; refine hK _ ?_; clear hK K
  refine Calm.calm_step rfl rfl rfl ?_; apply Exists.intro; refine ⟨fun w' hw' => ?_, ?_⟩
  · obtain ⟨hA, hR, hW⟩ := hw'
    have cA := hA.cells
    have dm := keep_cell hW hlm hm
    have dn := keep_cell hW hln hn
    have d0 := keep_cell hW hlb hrowM
    have d1 := keep_cell hW hlb' hrowN0
    have d2 := keep_cell hW hlb' hrowN
    have y0 := keep_cell hW hlr x0
    have y1 := keep_cell hW hlr x1
    have y2 := keep_cell hW hlr x2
    have y3 := keep_cell hW hlr x3
    have y4 := keep_cell hW hlr x4
    have z0 := keep_cell hW hlr' u0
    have z1 := keep_cell hW hlr' u1
    have z2 := keep_cell hW hlr' u2
    have z3 := keep_cell hW hlr' u3
    have z4 := keep_cell hW hlr' u4
    apply Calm.calm_value
    go_simp
    exact rfl
  intro K hK; go_simp; refine hK _ ?_; clear hK K
  refine Calm.calm_step rfl rfl rfl ?_; apply Exists.intro; refine ⟨fun w' hw' => ?_, ?_⟩
  · obtain ⟨hA, hR, hW⟩ := hw'
    have cA := hA.cells
    have dm := keep_cell hW hlm hm
    have dn := keep_cell hW hln hn
    have d0 := keep_cell hW hlb hrowM
    have d1 := keep_cell hW hlb' hrowN0
    have d2 := keep_cell hW hlb' hrowN
    have y0 := keep_cell hW hlr x0
    have y1 := keep_cell hW hlr x1
    have y2 := keep_cell hW hlr x2
    have y3 := keep_cell hW hlr x3
    have y4 := keep_cell hW hlr x4
    have z0 := keep_cell hW hlr' u0
    have z1 := keep_cell hW hlr' u1
    have z2 := keep_cell hW hlr' u2
    have z3 := keep_cell hW hlr' u3
    have z4 := keep_cell hW hlr' u4
    apply Calm.calm_value
    go_simp
    exact rfl
  intro K hK; go_simp; refine hK _ ?_; clear hK K
  refine Calm.calm_step rfl rfl rfl ?_; apply Exists.intro; refine ⟨fun w' hw' => ?_, ?_⟩
  · obtain ⟨hA, hR, hW⟩ := hw'
    have cA := hA.cells
    have dm := keep_cell hW hlm hm
    have dn := keep_cell hW hln hn
    have d0 := keep_cell hW hlb hrowM
    have d1 := keep_cell hW hlb' hrowN0
    have d2 := keep_cell hW hlb' hrowN
    have y0 := keep_cell hW hlr x0
    have y1 := keep_cell hW hlr x1
    have y2 := keep_cell hW hlr x2
    have y3 := keep_cell hW hlr x3
    have y4 := keep_cell hW hlr x4
    have z0 := keep_cell hW hlr' u0
    have z1 := keep_cell hW hlr' u1
    have z2 := keep_cell hW hlr' u2
    have z3 := keep_cell hW hlr' u3
    have z4 := keep_cell hW hlr' u4
    apply Calm.calm_value
    go_simp
    exact rfl
  intro K hK; go_simp; refine hK _ ?_; clear hK K
  refine Calm.calm_step rfl rfl rfl ?_; apply Exists.intro; refine ⟨fun w' hw' => ?_, ?_⟩
  · obtain ⟨hA, hR, hW⟩ := hw'
    have cA := hA.cells
    have dm := keep_cell hW hlm hm
    have dn := keep_cell hW hln hn
    have d0 := keep_cell hW hlb hrowM
    have d1 := keep_cell hW hlb' hrowN0
    have d2 := keep_cell hW hlb' hrowN
    have y0 := keep_cell hW hlr x0
    have y1 := keep_cell hW hlr x1
    have y2 := keep_cell hW hlr x2
    have y3 := keep_cell hW hlr x3
    have y4 := keep_cell hW hlr x4
    have z0 := keep_cell hW hlr' u0
    have z1 := keep_cell hW hlr' u1
    have z2 := keep_cell hW hlr' u2
    have z3 := keep_cell hW hlr' u3
    have z4 := keep_cell hW hlr' u4
    apply Calm.calm_value
    go_simp
    exact rfl
  intro K hK; go_simp; refine hK _ ?_; clear hK K
  refine Calm.calm_step rfl rfl rfl ?_; apply Exists.intro; refine ⟨fun w' hw' => ?_, ?_⟩
  · obtain ⟨hA, hR, hW⟩ := hw'
    have cA := hA.cells
    have dm := keep_cell hW hlm hm
    have dn := keep_cell hW hln hn
    have d0 := keep_cell hW hlb hrowM
    have d1 := keep_cell hW hlb' hrowN0
    have d2 := keep_cell hW hlb' hrowN
    have y0 := keep_cell hW hlr x0
    have y1 := keep_cell hW hlr x1
    have y2 := keep_cell hW hlr x2
    have y3 := keep_cell hW hlr x3
    have y4 := keep_cell hW hlr x4
    have z0 := keep_cell hW hlr' u0
    have z1 := keep_cell hW hlr' u1
    have z2 := keep_cell hW hlr' u2
    have z3 := keep_cell hW hlr' u3
    have z4 := keep_cell hW hlr' u4
    apply Calm.calm_value
    go_simp
    exact rfl
  intro K hK; go_simp; refine hK _ ?_; clear hK K
  refine Calm.calm_step rfl rfl rfl ?_; apply Exists.intro; refine ⟨fun w' hw' => ?_, ?_⟩
  · obtain ⟨hA, hR, hW⟩ := hw'
    have cA := hA.cells
    have dm := keep_cell hW hlm hm
    have dn := keep_cell hW hln hn
    have d0 := keep_cell hW hlb hrowM
    have d1 := keep_cell hW hlb' hrowN0
    have d2 := keep_cell hW hlb' hrowN
    have y0 := keep_cell hW hlr x0
    have y1 := keep_cell hW hlr x1
    have y2 := keep_cell hW hlr x2
    have y3 := keep_cell hW hlr x3
    have y4 := keep_cell hW hlr x4
    have z0 := keep_cell hW hlr' u0
    have z1 := keep_cell hW hlr' u1
    have z2 := keep_cell hW hlr' u2
    have z3 := keep_cell hW hlr' u3
    have z4 := keep_cell hW hlr' u4
    apply Calm.calm_value
    go_simp
    exact rfl
  intro K hK; go_simp; refine hK _ ?_; clear hK K
  refine Calm.calm_step rfl rfl rfl ?_; apply Exists.intro; refine ⟨fun w' hw' => ?_, ?_⟩
  · obtain ⟨hA, hR, hW⟩ := hw'
    have cA := hA.cells
    have dm := keep_cell hW hlm hm
    have dn := keep_cell hW hln hn
    have d0 := keep_cell hW hlb hrowM
    have d1 := keep_cell hW hlb' hrowN0
    have d2 := keep_cell hW hlb' hrowN
    have y0 := keep_cell hW hlr x0
    have y1 := keep_cell hW hlr x1
    have y2 := keep_cell hW hlr x2
    have y3 := keep_cell hW hlr x3
    have y4 := keep_cell hW hlr x4
    have z0 := keep_cell hW hlr' u0
    have z1 := keep_cell hW hlr' u1
    have z2 := keep_cell hW hlr' u2
    have z3 := keep_cell hW hlr' u3
    have z4 := keep_cell hW hlr' u4
    apply Calm.calm_value
    go_simp
    exact rfl
  intro K hK; go_simp; refine hK _ ?_; clear hK K
  refine Calm.calm_step rfl rfl rfl ?_; apply Exists.intro; refine ⟨fun w' hw' => ?_, ?_⟩
  · obtain ⟨hA, hR, hW⟩ := hw'
    have cA := hA.cells
    have dm := keep_cell hW hlm hm
    have dn := keep_cell hW hln hn
    have d0 := keep_cell hW hlb hrowM
    have d1 := keep_cell hW hlb' hrowN0
    have d2 := keep_cell hW hlb' hrowN
    have y0 := keep_cell hW hlr x0
    have y1 := keep_cell hW hlr x1
    have y2 := keep_cell hW hlr x2
    have y3 := keep_cell hW hlr x3
    have y4 := keep_cell hW hlr x4
    have z0 := keep_cell hW hlr' u0
    have z1 := keep_cell hW hlr' u1
    have z2 := keep_cell hW hlr' u2
    have z3 := keep_cell hW hlr' u3
    have z4 := keep_cell hW hlr' u4
    apply Calm.calm_value
    go_simp
    exact rfl
  intro K hK; go_simp; refine hK _ ?_; clear hK K
  refine Calm.calm_step rfl rfl rfl ?_; apply Exists.intro; refine ⟨fun w' hw' => ?_, ?_⟩
  · obtain ⟨hA, hR, hW⟩ := hw'
    have cA := hA.cells
    have dm := keep_cell hW hlm hm
    have dn := keep_cell hW hln hn
    have d0 := keep_cell hW hlb hrowM
    have d1 := keep_cell hW hlb' hrowN0
    have d2 := keep_cell hW hlb' hrowN
    have y0 := keep_cell hW hlr x0
    have y1 := keep_cell hW hlr x1
    have y2 := keep_cell hW hlr x2
    have y3 := keep_cell hW hlr x3
    have y4 := keep_cell hW hlr x4
    have z0 := keep_cell hW hlr' u0
    have z1 := keep_cell hW hlr' u1
    have z2 := keep_cell hW hlr' u2
    have z3 := keep_cell hW hlr' u3
    have z4 := keep_cell hW hlr' u4
    apply Calm.calm_value
    go_simp
    exact rfl
  intro K hK; go_simp; refine hK _ ?_; clear hK K
  refine Calm.calm_step rfl rfl rfl ?_; apply Exists.intro; refine ⟨fun w' hw' => ?_, ?_⟩
  · obtain ⟨hA, hR, hW⟩ := hw'
    have cA := hA.cells
    have dm := keep_cell hW hlm hm
    have dn := keep_cell hW hln hn
    have d0 := keep_cell hW hlb hrowM
    have d1 := keep_cell hW hlb' hrowN0
    have d2 := keep_cell hW hlb' hrowN
    have y0 := keep_cell hW hlr x0
    have y1 := keep_cell hW hlr x1
    have y2 := keep_cell hW hlr x2
    have y3 := keep_cell hW hlr x3
    have y4 := keep_cell hW hlr x4
    have z0 := keep_cell hW hlr' u0
    have z1 := keep_cell hW hlr' u1
    have z2 := keep_cell hW hlr' u2
    have z3 := keep_cell hW hlr' u3
    have z4 := keep_cell hW hlr' u4
    apply Calm.calm_value
    go_simp
    exact rfl
  intro K hK; go_simp; refine hK _ ?_; clear hK K
  refine Calm.calm_step rfl rfl rfl ?_; apply Exists.intro; refine ⟨fun w' hw' => ?_, ?_⟩
  · obtain ⟨hA, hR, hW⟩ := hw'
    have cA := hA.cells
    have dm := keep_cell hW hlm hm
    have dn := keep_cell hW hln hn
    have d0 := keep_cell hW hlb hrowM
    have d1 := keep_cell hW hlb' hrowN0
    have d2 := keep_cell hW hlb' hrowN
    have y0 := keep_cell hW hlr x0
    have y1 := keep_cell hW hlr x1
    have y2 := keep_cell hW hlr x2
    have y3 := keep_cell hW hlr x3
    have y4 := keep_cell hW hlr x4
    have z0 := keep_cell hW hlr' u0
    have z1 := keep_cell hW hlr' u1
    have z2 := keep_cell hW hlr' u2
    have z3 := keep_cell hW hlr' u3
    have z4 := keep_cell hW hlr' u4
    apply Calm.calm_value
    go_simp
    exact rfl
  intro K hK; go_simp; refine hK _ ?_; clear hK K
  refine Calm.calm_step rfl rfl rfl ?_; apply Exists.intro; refine ⟨fun w' hw' => ?_, ?_⟩
  · obtain ⟨hA, hR, hW⟩ := hw'
    have cA := hA.cells
    have dm := keep_cell hW hlm hm
    have dn := keep_cell hW hln hn
    have d0 := keep_cell hW hlb hrowM
    have d1 := keep_cell hW hlb' hrowN0
    have d2 := keep_cell hW hlb' hrowN
    have y0 := keep_cell hW hlr x0
    have y1 := keep_cell hW hlr x1
    have y2 := keep_cell hW hlr x2
    have y3 := keep_cell hW hlr x3
    have y4 := keep_cell hW hlr x4
    have z0 := keep_cell hW hlr' u0
    have z1 := keep_cell hW hlr' u1
    have z2 := keep_cell hW hlr' u2
    have z3 := keep_cell hW hlr' u3
    have z4 := keep_cell hW hlr' u4
    apply Calm.calm_value
    go_simp
    exact rfl
  intro K hK; go_simp; refine hK _ ?_; clear hK K
  refine Calm.calm_step rfl rfl rfl ?_; apply Exists.intro; refine ⟨fun w' hw' => ?_, ?_⟩
  · obtain ⟨hA, hR, hW⟩ := hw'
    have cA := hA.cells
    have dm := keep_cell hW hlm hm
    have dn := keep_cell hW hln hn
    have d0 := keep_cell hW hlb hrowM
    have d1 := keep_cell hW hlb' hrowN0
    have d2 := keep_cell hW hlb' hrowN
    have y0 := keep_cell hW hlr x0
    have y1 := keep_cell hW hlr x1
    have y2 := keep_cell hW hlr x2
    have y3 := keep_cell hW hlr x3
    have y4 := keep_cell hW hlr x4
    have z0 := keep_cell hW hlr' u0
    have z1 := keep_cell hW hlr' u1
    have z2 := keep_cell hW hlr' u2
    have z3 := keep_cell hW hlr' u3
    have z4 := keep_cell hW hlr' u4
    apply Calm.calm_value
    go_simp
    exact rfl
  intro K hK; go_simp; refine hK _ ?_; clear hK K
  refine Calm.calm_step rfl rfl rfl ?_; apply Exists.intro; refine ⟨fun w' hw' => ?_, ?_⟩
  · obtain ⟨hA, hR, hW⟩ := hw'
    have cA := hA.cells
    have dm := keep_cell hW hlm hm
    have dn := keep_cell hW hln hn
    have d0 := keep_cell hW hlb hrowM
    have d1 := keep_cell hW hlb' hrowN0
    have d2 := keep_cell hW hlb' hrowN
    have y0 := keep_cell hW hlr x0
    have y1 := keep_cell hW hlr x1
    have y2 := keep_cell hW hlr x2
    have y3 := keep_cell hW hlr x3
    have y4 := keep_cell hW hlr x4
    have z0 := keep_cell hW hlr' u0
    have z1 := keep_cell hW hlr' u1
    have z2 := keep_cell hW hlr' u2
    have z3 := keep_cell hW hlr' u3
    have z4 := keep_cell hW hlr' u4
    apply Calm.calm_value
    go_simp
    exact rfl
  intro K hK; go_simp; refine hK _ ?_; clear hK K
  refine Calm.calm_step rfl rfl rfl ?_; apply Exists.intro; refine ⟨fun w' hw' => ?_, ?_⟩
  · obtain ⟨hA, hR, hW⟩ := hw'
    have cA := hA.cells
    have dm := keep_cell hW hlm hm
    have dn := keep_cell hW hln hn
    have d0 := keep_cell hW hlb hrowM
    have d1 := keep_cell hW hlb' hrowN0
    have d2 := keep_cell hW hlb' hrowN
    have y0 := keep_cell hW hlr x0
    have y1 := keep_cell hW hlr x1
    have y2 := keep_cell hW hlr x2
    have y3 := keep_cell hW hlr x3
    have y4 := keep_cell hW hlr x4
    have z0 := keep_cell hW hlr' u0
    have z1 := keep_cell hW hlr' u1
    have z2 := keep_cell hW hlr' u2
    have z3 := keep_cell hW hlr' u3
    have z4 := keep_cell hW hlr' u4
    apply Calm.calm_value
    go_simp
    exact rfl
  intro K hK; go_simp; refine hK _ ?_; clear hK K
  refine Calm.calm_step rfl rfl rfl ?_; apply Exists.intro; refine ⟨fun w' hw' => ?_, ?_⟩
  · obtain ⟨hA, hR, hW⟩ := hw'
    have cA := hA.cells
    have dm := keep_cell hW hlm hm
    have dn := keep_cell hW hln hn
    have d0 := keep_cell hW hlb hrowM
    have d1 := keep_cell hW hlb' hrowN0
    have d2 := keep_cell hW hlb' hrowN
    have y0 := keep_cell hW hlr x0
    have y1 := keep_cell hW hlr x1
    have y2 := keep_cell hW hlr x2
    have y3 := keep_cell hW hlr x3
    have y4 := keep_cell hW hlr x4
    have z0 := keep_cell hW hlr' u0
    have z1 := keep_cell hW hlr' u1
    have z2 := keep_cell hW hlr' u2
    have z3 := keep_cell hW hlr' u3
    have z4 := keep_cell hW hlr' u4
    apply Calm.calm_value
    go_simp
    exact rfl
  intro K hK; go_simp; refine hK _ ?_; clear hK K
  refine Calm.calm_step rfl rfl rfl ?_; apply Exists.intro; refine ⟨fun w' hw' => ?_, ?_⟩
  · obtain ⟨hA, hR, hW⟩ := hw'
    have cA := hA.cells
    have dm := keep_cell hW hlm hm
    have dn := keep_cell hW hln hn
    have d0 := keep_cell hW hlb hrowM
    have d1 := keep_cell hW hlb' hrowN0
    have d2 := keep_cell hW hlb' hrowN
    have y0 := keep_cell hW hlr x0
    have y1 := keep_cell hW hlr x1
    have y2 := keep_cell hW hlr x2
    have y3 := keep_cell hW hlr x3
    have y4 := keep_cell hW hlr x4
    have z0 := keep_cell hW hlr' u0
    have z1 := keep_cell hW hlr' u1
    have z2 := keep_cell hW hlr' u2
    have z3 := keep_cell hW hlr' u3
    have z4 := keep_cell hW hlr' u4
    apply Calm.calm_value
    go_simp
    exact rfl
  intro K hK; go_simp; refine hK _ ?_; clear hK K
  refine Calm.calm_step rfl rfl rfl ?_; apply Exists.intro; refine ⟨fun w' hw' => ?_, ?_⟩
  · obtain ⟨hA, hR, hW⟩ := hw'
    have cA := hA.cells
    have dm := keep_cell hW hlm hm
    have dn := keep_cell hW hln hn
    have d0 := keep_cell hW hlb hrowM
    have d1 := keep_cell hW hlb' hrowN0
    have d2 := keep_cell hW hlb' hrowN
    have y0 := keep_cell hW hlr x0
    have y1 := keep_cell hW hlr x1
    have y2 := keep_cell hW hlr x2
    have y3 := keep_cell hW hlr x3
    have y4 := keep_cell hW hlr x4
    have z0 := keep_cell hW hlr' u0
    have z1 := keep_cell hW hlr' u1
    have z2 := keep_cell hW hlr' u2
    have z3 := keep_cell hW hlr' u3
    have z4 := keep_cell hW hlr' u4
    apply Calm.calm_value
    go_simp
    exact rfl
  intro K hK; go_simp; refine hK _ ?_; clear hK K
  refine Calm.calm_step rfl rfl rfl ?_; apply Exists.intro; refine ⟨fun w' hw' => ?_, ?_⟩
  · obtain ⟨hA, hR, hW⟩ := hw'
    have cA := hA.cells
    have dm := keep_cell hW hlm hm
    have dn := keep_cell hW hln hn
    have d0 := keep_cell hW hlb hrowM
    have d1 := keep_cell hW hlb' hrowN0
    have d2 := keep_cell hW hlb' hrowN
    have y0 := keep_cell hW hlr x0
    have y1 := keep_cell hW hlr x1
    have y2 := keep_cell hW hlr x2
    have y3 := keep_cell hW hlr x3
    have y4 := keep_cell hW hlr x4
    have z0 := keep_cell hW hlr' u0
    have z1 := keep_cell hW hlr' u1
    have z2 := keep_cell hW hlr' u2
    have z3 := keep_cell hW hlr' u3
    have z4 := keep_cell hW hlr' u4
    apply Calm.calm_value
    go_simp
    exact rfl
  intro K hK; go_simp; refine hK _ ?_; clear hK K
  refine Calm.calm_step rfl rfl rfl ?_; apply Exists.intro; refine ⟨fun w' hw' => ?_, ?_⟩
  · obtain ⟨hA, hR, hW⟩ := hw'
    have cA := hA.cells
    have dm := keep_cell hW hlm hm
    have dn := keep_cell hW hln hn
    have d0 := keep_cell hW hlb hrowM
    have d1 := keep_cell hW hlb' hrowN0
    have d2 := keep_cell hW hlb' hrowN
    have y0 := keep_cell hW hlr x0
    have y1 := keep_cell hW hlr x1
    have y2 := keep_cell hW hlr x2
    have y3 := keep_cell hW hlr x3
    have y4 := keep_cell hW hlr x4
    have z0 := keep_cell hW hlr' u0
    have z1 := keep_cell hW hlr' u1
    have z2 := keep_cell hW hlr' u2
    have z3 := keep_cell hW hlr' u3
    have z4 := keep_cell hW hlr' u4
    apply Calm.calm_value
    go_simp
    exact rfl
  intro K hK; go_simp; refine hK _ ?_; clear hK K
  refine Calm.calm_step rfl rfl rfl ?_; apply Exists.intro; refine ⟨fun w' hw' => ?_, ?_⟩
  · obtain ⟨hA, hR, hW⟩ := hw'
    have cA := hA.cells
    have dm := keep_cell hW hlm hm
    have dn := keep_cell hW hln hn
    have d0 := keep_cell hW hlb hrowM
    have d1 := keep_cell hW hlb' hrowN0
    have d2 := keep_cell hW hlb' hrowN
    have y0 := keep_cell hW hlr x0
    have y1 := keep_cell hW hlr x1
    have y2 := keep_cell hW hlr x2
    have y3 := keep_cell hW hlr x3
    have y4 := keep_cell hW hlr x4
    have z0 := keep_cell hW hlr' u0
    have z1 := keep_cell hW hlr' u1
    have z2 := keep_cell hW hlr' u2
    have z3 := keep_cell hW hlr' u3
    have z4 := keep_cell hW hlr' u4
    apply Calm.calm_value
    go_simp
    exact rfl
  intro K hK; go_simp; refine hK _ ?_; clear hK K
  refine Calm.calm_step rfl rfl rfl ?_; apply Exists.intro; refine ⟨fun w' hw' => ?_, ?_⟩
  · obtain ⟨hA, hR, hW⟩ := hw'
    have cA := hA.cells
    have dm := keep_cell hW hlm hm
    have dn := keep_cell hW hln hn
    have d0 := keep_cell hW hlb hrowM
    have d1 := keep_cell hW hlb' hrowN0
    have d2 := keep_cell hW hlb' hrowN
    have y0 := keep_cell hW hlr x0
    have y1 := keep_cell hW hlr x1
    have y2 := keep_cell hW hlr x2
    have y3 := keep_cell hW hlr x3
    have y4 := keep_cell hW hlr x4
    have z0 := keep_cell hW hlr' u0
    have z1 := keep_cell hW hlr' u1
    have z2 := keep_cell hW hlr' u2
    have z3 := keep_cell hW hlr' u3
    have z4 := keep_cell hW hlr' u4
    apply Calm.calm_value
    go_simp
    exact rfl
  intro K hK; go_simp; refine hK _ ?_; clear hK K
  refine Calm.calm_step rfl rfl rfl ?_; apply Exists.intro; refine ⟨fun w' hw' => ?_, ?_⟩
  · obtain ⟨hA, hR, hW⟩ := hw'
    have cA := hA.cells
    have dm := keep_cell hW hlm hm
    have dn := keep_cell hW hln hn
    have d0 := keep_cell hW hlb hrowM
    have d1 := keep_cell hW hlb' hrowN0
    have d2 := keep_cell hW hlb' hrowN
    have y0 := keep_cell hW hlr x0
    have y1 := keep_cell hW hlr x1
    have y2 := keep_cell hW hlr x2
    have y3 := keep_cell hW hlr x3
    have y4 := keep_cell hW hlr x4
    have z0 := keep_cell hW hlr' u0
    have z1 := keep_cell hW hlr' u1
    have z2 := keep_cell hW hlr' u2
    have z3 := keep_cell hW hlr' u3
    have z4 := keep_cell hW hlr' u4
    apply Calm.calm_call
    · go_simp
      exact ⟨rfl, rfl⟩
    refine (f56_any x u _ hxs.1 hus.1 hxs.2.2 hus.2.2 r 0 hr).mono ?_
    rintro e w'' ⟨rfl, hb⟩
    exact ⟨rfl, hb, hA.below hb, hR.below hb, bt hW hb⟩
  intro K hK; go_simp; refine hK _ ?_; clear hK K
  refine Calm.calm_step rfl rfl rfl ?_; apply Exists.intro; refine ⟨fun w' hw' => ?_, ?_⟩
  · obtain ⟨hA, hR, hW⟩ := hw'
    have cA := hA.cells
    have dm := keep_cell hW hlm hm
    have dn := keep_cell hW hln hn
    have d0 := keep_cell hW hlb hrowM
    have d1 := keep_cell hW hlb' hrowN0
    have d2 := keep_cell hW hlb' hrowN
    have y0 := keep_cell hW hlr x0
    have y1 := keep_cell hW hlr x1
    have y2 := keep_cell hW hlr x2
    have y3 := keep_cell hW hlr x3
    have y4 := keep_cell hW hlr x4
    have z0 := keep_cell hW hlr' u0
    have z1 := keep_cell hW hlr' u1
    have z2 := keep_cell hW hlr' u2
    have z3 := keep_cell hW hlr' u3
    have z4 := keep_cell hW hlr' u4
    apply Calm.calm_value
    go_simp
    exact rfl
  intro K hK; go_simp; refine hK _ ?_; clear hK K
  refine Calm.calm_step rfl rfl rfl ?_; apply Exists.intro; refine ⟨fun w' hw' => ?_, ?_⟩
  · obtain ⟨hA, hR, hW⟩ := hw'
    have cA := hA.cells
    have dm := keep_cell hW hlm hm
    have dn := keep_cell hW hln hn
    have d0 := keep_cell hW hlb hrowM
    have d1 := keep_cell hW hlb' hrowN0
    have d2 := keep_cell hW hlb' hrowN
    have y0 := keep_cell hW hlr x0
    have y1 := keep_cell hW hlr x1
    have y2 := keep_cell hW hlr x2
    have y3 := keep_cell hW hlr x3
    have y4 := keep_cell hW hlr x4
    have z0 := keep_cell hW hlr' u0
    have z1 := keep_cell hW hlr' u1
    have z2 := keep_cell hW hlr' u2
    have z3 := keep_cell hW hlr' u3
    have z4 := keep_cell hW hlr' u4
    apply Calm.calm_value
    go_simp
    exact rfl
  intro K hK; go_simp; refine hK _ ?_; clear hK K
  refine Calm.calm_end_lit (fun wk hk => ?_)
  simp only [List.drop_succ_cons, List.drop_zero]
  obtain ⟨⟨hA, hR, hW⟩, _, _⟩ := hk
  have cR := hR.cells
  have fR := hR.frozen
  have lR := hR.lt
  go_wp2
  have hF := (((((hR.set 0 (.int .i64 r.q.a)).set 1 (.int .i64 r.q.b)).set 2 (.int .i64 r.q.c)).set 3 (.int .i64 r.q.d)).set 4 (.int .i64 r.k))
  have cF := hF.cells
  refine bodyPost_ret (v := .tuple #[.agg #[.int .i64 r.q.a, .int .i64 r.q.b, .int .i64 r.q.c, .int .i64 r.q.d, .int .i64 r.k], .int .i64 0]) (by simp [results, Tryz.results55, go_sem, cF]) rfl ⟨rfl, ?_⟩
  exact (((((hW.setCell (by first | (simp; done) | (simp; omega) | omega) _).setCell (by first | (simp; done) | (simp; omega) | omega) _).setCell (by first | (simp; done) | (simp; omega) | omega) _).setCell (by first | (simp; done) | (simp; omega) | omega) _).setCell (by first | (simp; done) | (simp; omega) | omega) _)
end
section
open Go.RowKit
attribute [local go_sem ↓] Go.wp_at_zero Go.wp_at_succ
set_option maxHeartbeats 4000000 in
set_option maxRecDepth 100000 in
theorem f14_any {A A' : Option Addr} {h n h' n' : Nat} {M N : Nat → Nat → Num} (cap cap' : Nat) (w : World) (HM : Mat w A h n M) (HN : Mat w A' h' n' N) (hM : ∀ i j, i < h → j < n → (M i j).sm) (hN : ∀ i j, i < h' → j < n' → (N i j).sm) (hH : h * h' ≤ 64) (hV : n * n' ≤ 64)
    (he : ∀ i j, i < h * h' → j < n * n' → (mulN (M (i / h') (j / n')) (N (i % h') (j % n'))).2 = 0) :
    Calls Tryz.prog 14 #[.slice A h cap, .slice A' h' cap'] w fun e w' => ∃ B, w.heap.size ≤ B ∧ e = .returned (.tuple #[.slice (some ⟨B, 0, none⟩) (h * h') (h * h'), .int .i64 0]) ∧ Filled w' B (h * h') (n * n') (fun i j => (mulN (M (i / h') (j / n')) (N (i % h') (j % n'))).1) ∧ Below w.heap.size w w' := by
  have hM0 := HM
  have hN0 := HN
  obtain ⟨b, off, rb, ro, rc, rfl, HM⟩ := HM
  obtain ⟨b', off', rb', ro', rc', rfl, HN⟩ := HN
  have p1 := HM.dims.1
  have p2 := HM.dims.2.2.1
  have p3 := HN.dims.1
  have p4 := HN.dims.2.2.1
  have g1 : 1 ≤ h * h' := Nat.mul_pos p1 p3
  have g2 : 1 ≤ n * n' := Nat.mul_pos p2 p4
  have k1 := (HM.row 0 p1).1
  have k2 := (HN.row 0 p3).1
  rw [Nat.add_zero] at k1 k2
  have hlb := HM.lt
  have hlb' := HN.lt
  have hb0 : Below w.heap.size w ((w.alloc (.cells #[.slice (some ⟨b, off, none⟩) h cap] 31)).alloc (.cells #[.slice (some ⟨b', off', none⟩) h' cap'] 31)) := (((Below.refl _ _).alloc (Nat.le_refl _) _).alloc (by first | (simp; done) | (simp; omega) | omega) _)
  have hA0 : Blk ((w.alloc (.cells #[.slice (some ⟨b, off, none⟩) h cap] 31)).alloc (.cells #[.slice (some ⟨b', off', none⟩) h' cap'] 31)) w.heap.size 31 #[.slice (some ⟨b, off, none⟩) h cap] := (Blk.new' _ _ (by simp)).alloc _
  have hX0 : Blk ((w.alloc (.cells #[.slice (some ⟨b, off, none⟩) h cap] 31)).alloc (.cells #[.slice (some ⟨b', off', none⟩) h' cap'] 31)) (w.heap.size + 1) 31 #[.slice (some ⟨b', off', none⟩) h' cap'] := Blk.new' _ _ (by simp)
  have hb1' : Below w.heap.size w (((w.alloc (.cells #[.slice (some ⟨b, off, none⟩) h cap] 31)).alloc (.cells #[.slice (some ⟨b', off', none⟩) h' cap'] 31)).alloc (.cells #[.slice (some ⟨b, off, none⟩) h cap, .slice (some ⟨b', off', none⟩) h' cap'] 31)) := hb0.alloc hb0.size _
  have hS : Blk (((w.alloc (.cells #[.slice (some ⟨b, off, none⟩) h cap] 31)).alloc (.cells #[.slice (some ⟨b', off', none⟩) h' cap'] 31)).alloc (.cells #[.slice (some ⟨b, off, none⟩) h cap, .slice (some ⟨b', off', none⟩) h' cap'] 31)) (w.heap.size + 1 + 1) 31 #[.slice (some ⟨b, off, none⟩) h cap, .slice (some ⟨b', off', none⟩) h' cap'] := Blk.new' _ _ (by simp)
  have c0 := (hA0.alloc (.cells #[.slice (some ⟨b, off, none⟩) h cap, .slice (some ⟨b', off', none⟩) h' cap'] 31))
  have c1 := (hX0.alloc (.cells #[.slice (some ⟨b, off, none⟩) h cap, .slice (some ⟨b', off', none⟩) h' cap'] 31))
  have h1n : 0 < h := p1
  have h3n : 0 < h' := p3
  go_enter Tryz.func14, Tryz.ntmps14
  go_wp2_with (go_at_call 53; refine (f53_two cap cap' hS (hM0.below hb1') (hN0.below hb1') (fun i j hi hj => (hM i j hi hj).1) (fun i j hi hj => (hN i j hi hj).1)).mono ?_; rintro e w1 ⟨rfl, hb1⟩; have hW1 := bt hb1' hb1; have hA1 := c0.below hb1; have hX1 := c1.below hb1; have cA1 := hA1.cells; have cX1 := hX1.cells; have d1 := keep_cell hW1 hlb k1; have d2 := keep_cell hW1 hlb' k2)
  have e1 : IntKind.i64.wrap ((h : Int) * (h' : Int)) = (h : Int) * (h' : Int) := by
    have : ((h * h' : Nat) : Int) = (h : Int) * (h' : Int) := Int.natCast_mul _ _
    rw [IntKind.wrap_i64, ← this]; omega
  have e2 : IntKind.i64.wrap ((n : Int) * (n' : Int)) = (n : Int) * (n' : Int) := by
    have : ((n * n' : Nat) : Int) = (n : Int) * (n' : Int) := Int.natCast_mul _ _
    rw [IntKind.wrap_i64, ← this]; omega
  refine Calm.wp_region_seg (by kernel_rfl) ?_
  refine Calm.seg (C := fun w' => w' = w1.drew) 0 16 (by decide) (by kernel_rfl) (rfl) ?_
  show Calm.WalkI _ _ _ _ _ _ [0, 1, 2, 3, 4, 5, 6, 7, 8, 9, 10, 11, 12, 13, 14, 15] _ _
  refine Calm.calm_step rfl rfl rfl ?_; apply Exists.intro; refine ⟨fun w' hw' => ?_, ?_⟩
  · obtain rfl := hw'
    apply Calm.calm_value
    go_simp
    exact rfl
  intro K hK; go_simp; refine hK _ ?_; clear hK K
  refine Calm.calm_step rfl rfl rfl ?_; apply Exists.intro; refine ⟨fun w' hw' => ?_, ?_⟩
  · obtain rfl := hw'
    apply Calm.calm_value
    go_simp
    exact rfl
  intro K hK; go_simp; refine hK _ ?_; clear hK K
  refine Calm.calm_step rfl rfl rfl ?_; apply Exists.intro; refine ⟨fun w' hw' => ?_, ?_⟩
  · obtain rfl := hw'
    apply Calm.calm_value
    go_simp
    exact rfl
  intro K hK; go_simp; refine hK _ ?_; clear hK K
  refine Calm.calm_step rfl rfl rfl ?_; apply Exists.intro; refine ⟨fun w' hw' => ?_, ?_⟩
  · obtain rfl := hw'
    apply Calm.calm_value
    go_simp
    exact rfl
  intro K hK; go_simp; refine hK _ ?_; clear hK K
  refine Calm.calm_step rfl rfl rfl ?_; apply Exists.intro; refine ⟨fun w' hw' => ?_, ?_⟩
  · obtain rfl := hw'
    apply Calm.calm_value
    go_simp
    exact rfl
  intro K hK; go_simp; refine hK _ ?_; clear hK K
  refine Calm.calm_step rfl rfl rfl ?_; apply Exists.intro; refine ⟨fun w' hw' => ?_, ?_⟩
  · obtain rfl := hw'
    apply Calm.calm_value
    go_simp
    exact rfl
  intro K hK; go_simp; refine hK _ ?_; clear hK K
  refine Calm.calm_step rfl rfl rfl ?_; apply Exists.intro; refine ⟨fun w' hw' => ?_, ?_⟩
  · obtain rfl := hw'
    apply Calm.calm_value
    go_simp
    exact rfl
  intro K hK; go_simp; refine hK _ ?_; clear hK K
  refine Calm.calm_step rfl rfl rfl ?_; apply Exists.intro; refine ⟨fun w' hw' => ?_, ?_⟩
  · obtain rfl := hw'
    apply Calm.calm_value
    go_simp
    exact rfl
  intro K hK; go_simp; refine hK _ ?_; clear hK K
  refine Calm.calm_step rfl rfl rfl ?_; apply Exists.intro; refine ⟨fun w' hw' => ?_, ?_⟩
  · obtain rfl := hw'
    apply Calm.calm_value
    go_simp
    exact rfl
  intro K hK; go_simp; refine hK _ ?_; clear hK K
  refine Calm.calm_step rfl rfl rfl ?_; apply Exists.intro; refine ⟨fun w' hw' => ?_, ?_⟩
  · obtain rfl := hw'
    apply Calm.calm_value
    go_simp
    exact rfl
  intro K hK; go_simp; refine hK _ ?_; clear hK K
  refine Calm.calm_step rfl rfl rfl ?_; apply Exists.intro; refine ⟨fun w' hw' => ?_, ?_⟩
  · obtain rfl := hw'
    apply Calm.calm_value
    go_simp
    exact rfl
  intro K hK; go_simp; refine hK _ ?_; clear hK K
  refine Calm.calm_step rfl rfl rfl ?_; apply Exists.intro; refine ⟨fun w' hw' => ?_, ?_⟩
  · obtain rfl := hw'
    apply Calm.calm_value
    go_simp
    exact rfl
  intro K hK; go_simp; refine hK _ ?_; clear hK K
  refine Calm.calm_step rfl rfl rfl ?_; apply Exists.intro; refine ⟨fun w' hw' => ?_, ?_⟩
  · obtain rfl := hw'
    apply Calm.calm_value
    go_simp
    exact rfl
  intro K hK; go_simp; refine hK _ ?_; clear hK K
  refine Calm.calm_step rfl rfl rfl ?_; apply Exists.intro; refine ⟨fun w' hw' => ?_, ?_⟩
  · obtain rfl := hw'
    apply Calm.calm_value
    go_simp
    exact rfl
  intro K hK; go_simp; refine hK _ ?_; clear hK K
  refine Calm.calm_step rfl rfl rfl ?_; apply Exists.intro; refine ⟨fun w' hw' => ?_, ?_⟩
  · obtain rfl := hw'
    apply Calm.calm_value
    go_simp
    exact rfl
  intro K hK; go_simp; refine hK _ ?_; clear hK K
  refine Calm.calm_step rfl rfl rfl ?_; apply Exists.intro; refine ⟨fun w' hw' => ?_, ?_⟩
  · obtain rfl := hw'
    apply Calm.calm_value
    go_simp
    exact rfl
  intro K hK; go_simp; refine hK _ ?_; clear hK K
  refine Calm.seg_end_lit (fun wk hk => ?_)
  obtain rfl := hk
  refine Calm.any_tail 16 (by kernel_rfl) ?_
  simp only [List.drop_succ_cons, List.drop_zero]
  have H54a : ∀ W, Calls Tryz.prog 54 #[.int .i64 ((h : Int) * (h' : Int))] W fun e w' => e = .returned (.bool true) ∧ Below W.heap.size W w' := fun W => by
    have := f54_any (h * h') W g1 hH
    rwa [Int.natCast_mul] at this
  have H54b : ∀ W, Calls Tryz.prog 54 #[.int .i64 ((n : Int) * (n' : Int))] W fun e w' => e = .returned (.bool true) ∧ Below W.heap.size W w' := fun W => by
    have := f54_any (n * n') W g2 hV
    rwa [Int.natCast_mul] at this
  have hel : ∀ W0 : World, Below w1.heap.size w1 W0 → ElemOn 55 #[.pointer (some ⟨w.heap.size, 0, none⟩), .pointer (some ⟨w.heap.size + 1, 0, none⟩)] (h * h') (n * n') (fun i j => (mulN (M (i / h') (j / n')) (N (i % h') (j % n'))).1) W0.heap.size W0 := fun W0 h0 W i j y hi hj hy hW hs => by
    have hb9 := bt h0 hW
    exact f55_any cap cap' i j w.heap.size (w.heap.size + 1) y W (hM0.below (bt hW1 hb9)) (hN0.below (bt hW1 hb9)) hi hj (Nat.lt_of_lt_of_le hA1.lt hb9.size) (keep_cell (p := ⟨w.heap.size, 0, none⟩) hb9 hA1.lt (cA1 0)) (Nat.lt_of_lt_of_le hX1.lt hb9.size) (keep_cell (p := ⟨w.heap.size + 1, 0, none⟩) hb9 hX1.lt (cX1 0)) hM hN (show _ = _ from Prod.ext hy.out (he i j hi hj))
  have H45 : ∀ W0 : World, Below w1.heap.size w1 W0 → Calls Tryz.prog 45 #[.int .i64 ((h : Int) * (h' : Int)), .int .i64 ((n : Int) * (n' : Int)), .func (.func 55) #[] #[.pointer (some ⟨w.heap.size, 0, none⟩), .pointer (some ⟨w.heap.size + 1, 0, none⟩)]] W0 fun e w' => e = .returned (.tuple #[.slice (some ⟨W0.heap.size, 0, none⟩) (h * h') (h * h'), .int .i64 0]) ∧ Filled w' W0.heap.size (h * h') (n * n') (fun i j => (mulN (M (i / h') (j / n')) (N (i % h') (j % n'))).1) ∧ Below W0.heap.size W0 w' := fun W0 h0 => by
    have := f45_any 55 #[.pointer (some ⟨w.heap.size, 0, none⟩), .pointer (some ⟨w.heap.size + 1, 0, none⟩)] (enters_of Tryz.func55 (by kernel_rfl) rfl) (h * h') (n * n') (fun i j => (mulN (M (i / h') (j / n')) (N (i % h') (j % n'))).1) W0 ⟨g1, hH, g2, hV⟩ (hel W0 h0)
    rwa [Int.natCast_mul, Int.natCast_mul] at this
  clear hel he hM hN hH hV g1 g2 hS c0 c1 hA0 hX0
  have z1 : Below w1.heap.size w1 w1.drew := (Below.refl _ _).drew
  go_wp2_with (first
    | (go_at_call 54; refine (H54a _).mono ?_; clear H54a; rintro e w2 ⟨rfl, hb2⟩; have z2 := bt z1 hb2)
    | (go_at_call 54; refine (H54b _).mono ?_; clear H54b; rintro e w3 ⟨rfl, hb3⟩; have z3 := bt z2 hb3)
    | (go_at_call 45; refine (H45 _ z3).mono ?_; clear H45; rintro e w4 ⟨rfl, hF4, hb4⟩))
  exact bodyPost_ret (v := .tuple #[.slice (some ⟨w3.heap.size, 0, none⟩) (h * h') (h * h'), .int .i64 0]) (by simp [results, Tryz.results14, go_sem]) rfl ⟨w3.heap.size, Nat.le_trans hW1.size z3.size, rfl, hF4, bt (bt hW1 z3) hb4⟩
end
section
open Go.RowKit
set_option maxHeartbeats 400000 in
theorem f94_any (p : Int → Bool) (g : Nat) (lb : Array Value) (eg : ∀ args w, (callFunc g args).run Tryz.prog w = .ok (.enter g args) w) (x : Int) (B : Nat) (w : World)
    (hB : w.cell? ⟨B, 0, none⟩ = some (.func (.func g) #[] lb))
    (hp : Calls Tryz.prog g (#[.int .i64 x] ++ lb) w fun e w' => e = .returned (.bool (p x)) ∧ Below w.heap.size w w') :
    Calls Tryz.prog 94 #[.int .i64 x, .pointer (some ⟨B, 0, none⟩)] w fun e w' => e = .returned (.bool (!p x)) ∧ Below w.heap.size w w' := by
  go_enter Tryz.func94, Tryz.ntmps94
  go_wp2_with (go_at_fn g; refine hp.mono ?_; rintro e w' ⟨rfl, hb'⟩)
  go_ret
  exact ⟨rfl, hb'⟩
set_option maxHeartbeats 400000 in
theorem f40_any (p : Int → Bool) (g : Nat) (lb : Array Value) (eg : ∀ args w, (callFunc g args).run Tryz.prog w = .ok (.enter g args) w) (A : Option Addr) (n cap : Nat) (zs : List Int) (w : World) (hn : Hid (n = zs.length)) (hA : SlI w A zs)
    (hp : PredOn g lb (.int .i64) p zs w) :
    Calls Tryz.prog 40 #[.slice A n cap, .func (.func g) #[] lb] w fun e w' => e = .returned (.bool (zs.all p)) ∧ Below w.heap.size w w' := by
  have hb0 : Below w.heap.size w (w.alloc (.cells #[.func (.func g) #[] lb] 86)) := (Below.refl _ w).alloc (Nat.le_refl _) _
  have H := f93_any (fun x => !p x) 94 #[.pointer (some ⟨w.heap.size, 0, none⟩)] (enters_of Tryz.func94 (by kernel_rfl) rfl) A n cap zs (w.alloc (.cells #[.func (.func g) #[] lb] 86)) hn (hA.below hb0)
    (fun W x hx hb => f94_any p g lb eg x w.heap.size W ((hb.cell (p := ⟨w.heap.size, 0, none⟩) (by simp)).trans (by simp)) (hp W x hx (hb0.trans (hb.mono (by simp)))))
  clear hp hA
  go_enter Tryz.func40, Tryz.ntmps40
  go_wp2_with (go_at_call 93; refine H.mono ?_; rintro e w' ⟨rfl, hb'⟩)
  go_ret
  refine ⟨?_, hb0.trans (hb'.mono (by simp))⟩
  rw [← not_any_not]
  rfl
set_option maxHeartbeats 1000000 in
theorem f95_any (A : Option Addr) (n cap : Nat) (zs : List Int) (v : Int) (w : World) (hn : Hid (n = zs.length)) (hA : SlI w A zs) (hno : ∀ z ∈ zs, z ≠ v) :
    Calls Tryz.prog 95 #[.slice A n cap, .int .i64 v] w fun e w' => e = .returned (.int .i64 (-1)) ∧ Below w.heap.size w w' := by
  have hbig : n ≤ 1000000 := by have := hA.1; rw [hn.out]; simpa using this
  go_enter Tryz.func95, Tryz.ntmps95
  go_wp2
  go_loopg [5, 8] n (fun gg _ s8 wr => ∃ kk : Nat, kk ≤ n ∧ n - kk ≤ gg ∧ s8 = .int .i64 kk ∧ Aside (wr = w))
  case atStart => exact ⟨0, Nat.zero_le _, by omega, rfl, rfl⟩
  case round =>
    obtain ⟨kk, hkk, hg, rfl, rfl⟩ := hrel
    by_cases hlt : kk < n
    · have hltz : (kk : Int) < (n : Int) := by omega
      have hk' : kk < zs.length := by rw [← hn.out]; exact hlt
      obtain ⟨b, off, rfl, hblt, hc⟩ := SlI.at_ hA hk'
      have hcell := hc kk hk'
      have hne : zs.getD kk 0 ≠ v := hno _ (by rw [List.getD_eq_getElem?_getD, List.getElem?_eq_getElem hk']; exact List.getElem_mem _)
      have hne' : ¬ v = zs.getD kk 0 := fun e => hne e.symm
      clear hc hno
      generalize zs.getD kk 0 = y at hcell hne hne'
      go_wp2
      go_roundg (n - (kk + 1))
      case measure => omega
      case rel => exact ⟨kk + 1, by omega, by omega, by go_num, (show Aside _ from rfl)⟩
    · have hltz : ¬ (kk : Int) < (n : Int) := by omega
      clear hlt
      go_wp2
      go_ret
      exact ⟨rfl, Below.refl _ _⟩
set_option maxHeartbeats 1000000 in
theorem f42_any (A : Option Addr) (n cap : Nat) (zs : List Int) (v : Int) (w : World) (hn : Hid (n = zs.length)) (hA : SlI w A zs) (hno : ∀ z ∈ zs, z ≠ v) :
    Calls Tryz.prog 42 #[.slice A n cap, .int .i64 v] w fun e w' => e = .returned (.bool false) ∧ Below w.heap.size w w' := by
  have H := f95_any A n cap zs v w hn hA hno
  clear hA hno
  go_enter Tryz.func42, Tryz.ntmps42
  go_wp2_with (go_at_call 95; refine H.mono ?_; rintro e w' ⟨rfl, hb'⟩)
  go_ret
  exact ⟨rfl, hb'⟩
end
section
open Go.RowKit
attribute [local go_sem ↓] Go.wp_at_zero Go.wp_at_succ
theorem run_eq2 (a b a' b' : Int) (w : World) : (Op.equalIn 10000 94 (.agg #[.int .i64 a, .int .i64 b]) (.agg #[.int .i64 a', .int .i64 b'])).run Tryz.prog w = .ok (a == a' && b == b') w := by
  have h0 : ∀ (x y : Int) (w : World), (Op.equalIn 9999 3 (.int .i64 x) (.int .i64 y)).run Tryz.prog w = .ok (x == y) w := fun x y w => run_equalIn_int w 9998 3 .i64 .i64 x y Tryz.underlying3
  rw [show (10000 : Nat) = 9999 + 1 from rfl, Op.equalIn]
  simp [go_sem, Tryz.underlying94, List.range'_succ, h0]
  cases h1 : a == a' <;> cases h2 : b == b' <;> simp [go_sem, h0, h1, h2] <;> simp_all
attribute [go_sem] run_eq2
set_option maxHeartbeats 1000000 in
set_option maxRecDepth 100000 in
theorem f73_mat {A A' : Option Addr} {h n : Nat} {M N : Nat → Nat → Num} {w : World} (cap cap' : Nat) (HM : Mat w A h n M) (HN : Mat w A' h n N) :
    Calls Tryz.prog 73 #[.slice A h cap, .slice A' h cap'] w fun e w' => e = .returned (.bool true) ∧ Below w.heap.size w w' := by
  have h1 : ∀ W, Below w.heap.size w W → Calls Tryz.prog 62 #[.slice A h cap] W fun e w' => e = .returned (.int .i64 n) ∧ Below W.heap.size W w' := fun W hb => f62_mat cap (HM.below hb)
  have h2 : ∀ W, Below w.heap.size w W → Calls Tryz.prog 62 #[.slice A' h cap'] W fun e w' => e = .returned (.int .i64 n) ∧ Below W.heap.size W w' := fun W hb => f62_mat cap' (HN.below hb)
  clear HM HN
  go_enter Tryz.func73, Tryz.ntmps73
  go_wp2_with (first
    | (go_at_call 62; refine (h1 _ (Below.refl _ _)).mono ?_; clear h1; rintro e w1 ⟨rfl, hb1⟩)
    | (go_at_call 62; refine (h2 _ hb1).mono ?_; clear h2; rintro e w2 ⟨rfl, hb2⟩))
  go_ret
  exact ⟨by simp, bt hb1 hb2⟩
end
section
open Go.RowKit
theorem run_eqN (a b c d e a' b' c' d' e' : Int) (w : World) : (Op.equalIn 10000 38 (.agg #[.int .i64 a, .int .i64 b, .int .i64 c, .int .i64 d, .int .i64 e]) (.agg #[.int .i64 a', .int .i64 b', .int .i64 c', .int .i64 d', .int .i64 e'])).run Tryz.prog w = .ok (a == a' && (b == b' && (c == c' && (d == d' && e == e')))) w := by
  have h0 : ∀ (x y : Int) (w : World), (Op.equalIn 9999 3 (.int .i64 x) (.int .i64 y)).run Tryz.prog w = .ok (x == y) w := fun x y w => run_equalIn_int w 9998 3 .i64 .i64 x y Tryz.underlying3
  rw [show (10000 : Nat) = 9999 + 1 from rfl, Op.equalIn]
  simp [go_sem, Tryz.underlying38, h0]
  cases h1 : a == a' <;> cases h2 : b == b' <;> cases h3 : c == c' <;> cases h4 : d == d' <;> cases h5 : e == e' <;> simp [go_sem, h0, h1, h2, h3, h4, h5] <;> simp_all
attribute [go_sem] run_eqN
end
section
open Go.RowKit Go.Shelf
attribute [local go_sem] Oper.semAt_some
/-- the least form of a number -/
def leastOf (x : Num) : Num := (leastN x.q x.k).1
theorem f47_r (x r : Num) (w : World) (hok : x.ok) (hr : Hid (leastOf x = r)) : Calls Tryz.prog 47 #[.agg #[.int .i64 x.q.a, .int .i64 x.q.b, .int .i64 x.q.c, .int .i64 x.q.d, .int .i64 x.k]] w fun e w' => e = .returned (.tuple #[.agg #[.int .i64 r.q.a, .int .i64 r.q.b, .int .i64 r.q.c, .int .i64 r.q.d, .int .i64 r.k], .int .i64 (leastN x.q x.k).2]) ∧ Below w.heap.size w w' := by
  have := f47_any x.q x.k w hok
  rw [← hr.out]
  exact this
set_option maxRecDepth 100000 in
set_option maxHeartbeats 4000000 in
theorem f86_any {A A' : Option Addr} {h n : Nat} {M N : Nat → Nat → Num} {w : World} (cap cap' : Nat) (HM : Mat w A h n M) (HN : Mat w A' h n N) (hM : ∀ i j, i < h → j < n → (M i j).ok) (hN : ∀ i j, i < h → j < n → (N i j).ok) :
    Calls Tryz.prog 86 #[.slice A h cap, .slice A' h cap'] w fun e w' => (∃ r, e = .returned (.bool r) ∧ (r = true ↔ ∀ i j, i < h → j < n → leastOf (M i j) = leastOf (N i j))) ∧ Below w.heap.size w w' := by
  have hM0 := HM
  obtain ⟨b, off, rb, ro, rc, rfl, HM⟩ := HM
  obtain ⟨d1, d2, d3, d4⟩ := HM.dims
  have hlb := HM.lt
  refine (callsIn_wide (n := 6)).1 ?_
  refine callsIn_of_wp_marks Tryz.func86 rfl trivial ?_ rfl
  simp only [Tryz.ntmps86, List.size_toArray, List.length_cons, List.length_nil, Nat.reduceAdd, Nat.reduceSub, Array.replicate_succ, Array.replicate_zero, List.push_toArray, List.append_toArray, List.nil_append, List.cons_append]
  gi_wp2_with (refine ⟨trivial, ?_⟩; gi_at_call 74; refine (f74_in _ _ trivial rfl _ _ _ _).mono ?_; rintro e w3 ⟨rfl, rfl⟩)
  have hW4 : ∀ (P : World → Prop), P ((((w.alloc (.cells #[.slice (some ⟨b, off, none⟩) h cap] 88)).alloc (.cells #[.slice A' h cap'] 88)).alloc (.cells #[.bool false] 4)).alloc (.cells #[.slice (some ⟨b, off, none⟩) h cap] 88)) → P ((((w.alloc (.cells #[.slice (some ⟨b, off, none⟩) h cap] 88)).alloc (.cells #[.slice A' h cap'] 88)).alloc (.cells #[.bool false] 4)).alloc (.cells #[.slice (some ⟨b, off, none⟩) h cap] 88)) := fun _ h => h
  have hB3 : Below w.heap.size w ((((w.alloc (.cells #[.slice (some ⟨b, off, none⟩) h cap] 88)).alloc (.cells #[.slice A' h cap'] 88)).alloc (.cells #[.bool false] 4)).alloc (.cells #[.slice (some ⟨b, off, none⟩) h cap] 88)) := (((((Below.refl _ _).alloc (Nat.le_refl _) _).alloc (by first | (simp; done) | (simp; omega) | omega) _).alloc (by first | (simp; done) | (simp; omega) | omega) _).alloc (by first | (simp; done) | (simp; omega) | omega) _)
  have hA3 : Blk ((((w.alloc (.cells #[.slice (some ⟨b, off, none⟩) h cap] 88)).alloc (.cells #[.slice A' h cap'] 88)).alloc (.cells #[.bool false] 4)).alloc (.cells #[.slice (some ⟨b, off, none⟩) h cap] 88)) w.heap.size 88 #[.slice (some ⟨b, off, none⟩) h cap] := (((Blk.new' _ _ (by simp)).alloc _).alloc _).alloc _
  have hC3 : Blk ((((w.alloc (.cells #[.slice (some ⟨b, off, none⟩) h cap] 88)).alloc (.cells #[.slice A' h cap'] 88)).alloc (.cells #[.bool false] 4)).alloc (.cells #[.slice (some ⟨b, off, none⟩) h cap] 88)) (w.heap.size + 1) 88 #[.slice A' h cap'] := ((Blk.new' _ _ (by simp)).alloc _).alloc _
  have hR3 : Blk ((((w.alloc (.cells #[.slice (some ⟨b, off, none⟩) h cap] 88)).alloc (.cells #[.slice A' h cap'] 88)).alloc (.cells #[.bool false] 4)).alloc (.cells #[.slice (some ⟨b, off, none⟩) h cap] 88)) (w.heap.size + 1 + 1) 4 #[.bool false] := (Blk.new' _ _ (by simp)).alloc _
  have bN : Blk ((((w.alloc (.cells #[.slice (some ⟨b, off, none⟩) h cap] 88)).alloc (.cells #[.slice A' h cap'] 88)).alloc (.cells #[.bool false] 4)).alloc (.cells #[.slice (some ⟨b, off, none⟩) h cap] 88)) (w.heap.size + 1 + 1 + 1) 88 #[.slice (some ⟨b, off, none⟩) h cap] := Blk.new' _ _ (by simp)
  clear hW4
  obtain ⟨W0, hW0⟩ : ∃ W0, (((w.alloc (.cells #[.slice (some ⟨b, off, none⟩) h cap] 88)).alloc (.cells #[.slice A' h cap'] 88)).alloc (.cells #[.bool false] 4)).alloc (.cells #[.slice (some ⟨b, off, none⟩) h cap] 88) = W0 := ⟨_, rfl⟩
  rw [hW0] at hB3 hA3 hC3 hR3 bN ⊢
  clear hW0
  refine wpIn_rangeFunc_ownH rfl (by omega) (gf := 123) (lb := #[.pointer (some ⟨w.heap.size + 1 + 1 + 1, 0, none⟩)]) rfl trivial (enters_of Tryz.func123 (by kernel_rfl) rfl)
    (f123_stops (h := h) (n := n) Fence.wide _ trivial rfl (by omega) (w.heap.size + 1 + 1 + 1) b off cap (fun i => some ⟨rb i, ro i, none⟩) rc (by omega) (by omega) W0 bN.lt (Nat.lt_of_lt_of_le hlb hB3.size) (bN.cells 0) (fun i hi => keep_cell (p := ⟨b, off + i, none⟩) hB3 hlb (HM.row i hi).1)) keepsBlk_t keepsBlk_b (Below.refl _ _) (fun _ => rfl)
    (fun pre W => (((Blk W w.heap.size 88 #[.slice (some ⟨b, off, none⟩) h cap] ∧ Blk W (w.heap.size + 1) 88 #[.slice A' h cap']) ∧ Blk W (w.heap.size + 1 + 1) 4 #[.bool false]) ∧ ∀ p ∈ pre, leastOf (M p.1.1 p.1.2) = leastOf (N p.1.1 p.1.2)) ∧ Below w.heap.size w W)
    (fun c pre W => (Blk W (w.heap.size + 1 + 1) 4 #[.bool false] ∧ (c = .ret ∧ ∃ i j, i < h ∧ j < n ∧ leastOf (M i j) ≠ leastOf (N i j))) ∧ Below w.heap.size w W)
    (OwnFrom.and (Own.from (fun s X Y row hs hg hr => ⟨⟨⟨blk_own _ _ (fun (_ : Unit) => _) () X Y row hs.1.1.1 hg hr, blk_own _ _ (fun (_ : Unit) => _) () X Y row hs.1.1.2 hg hr⟩, blk_own _ _ (fun (_ : Unit) => _) () X Y row hs.1.2 hg hr⟩, hs.2⟩) _) (ownFrom_below (Nat.le_refl _) hB3.size))
    (fun c => OwnFrom.and (Own.from (fun s X Y row hs hg hr => ⟨blk_own _ _ (fun (_ : Unit) => _) () X Y row hs.1 hg hr, hs.2⟩) _) (ownFrom_below (Nat.le_refl _) hB3.size))
    ⟨⟨⟨⟨hA3, hC3⟩, hR3⟩, fun p hp => (by simp at hp)⟩, hB3⟩
    (fun x a' W => ∃ Bx, w.heap.size + 1 + 1 < Bx ∧ Blk W Bx 94 #[.int .i64 x.1.1, .int .i64 x.1.2] ∧ a' = { tmps := #[Value.slice (some { block := b, off := off }) h cap, Value.slice A' h cap', Value.pointer (some { block := w.heap.size, off := 0 }), Value.pointer (some { block := w.heap.size + 1, off := 0 }), Value.pointer (some { block := w.heap.size + 1 + 1, off := 0 }), Value.pointer (some { block := Bx, off := 0 }), undef, undef, undef, undef, Value.slice (some { block := b, off := off }) h cap, Value.func (Fn.func 123) #[] #[Value.pointer (some { block := w.heap.size + 1 + 1 + 1, off := 0 })], Value.agg #[Value.int IntKind.i64 ↑x.val.fst, Value.int IntKind.i64 ↑x.val.snd], undef, undef, undef, undef, undef, undef, undef, undef, undef, undef, undef, undef, undef, undef, undef, undef, undef], defers := [] })
    (fun x a' _ X Y row hs hg hr => by obtain ⟨Bx, h1, h2, h3⟩ := hs; exact ⟨Bx, h1, blk_own Bx 94 (fun (_ : Unit) => #[.int .i64 x.1.1, .int .i64 x.1.2]) () X Y row h2 hg (fun r e => (hr r e).2), h3⟩)
    ?assign ?body ?done ?stop
  case assign =>
    rintro l pre x W K ⟨⟨⟨⟨hA, hC⟩, hR⟩, hp⟩, hB⟩ hK
    simp only [encPl]
    gi_wp2
    exact hK _ _ ((KeepsOthers.alloc _ _).from _) (KeepsBlk.of_below ((Below.refl _ W).alloc (Nat.le_refl _) _) (Nat.lt_of_lt_of_le hlb hB.size)) ⟨⟨⟨⟨hA.alloc _, hC.alloc _⟩, hR.alloc _⟩, hp⟩, hB.alloc hB.size _⟩ ⟨W.heap.size, hR.lt, Blk.new W 94 _, rfl⟩
  case body =>
    rintro l pre ⟨⟨i, j⟩, hi, hj⟩ a' W hl ⟨r, hr⟩ ⟨⟨⟨⟨hA, hC⟩, hR⟩, hp⟩, hB⟩ ⟨Bx, hBx, bX, rfl⟩ hlt
    dsimp only at *
    have cA := hA.cells
    have cX := bX.cells
    obtain ⟨x, hx⟩ : ∃ x, M i j = x := ⟨_, rfl⟩
    obtain ⟨y, hy⟩ : ∃ y, N i j = y := ⟨_, rfl⟩
    obtain ⟨u, hu⟩ : ∃ u, leastOf x = u := ⟨_, rfl⟩
    obtain ⟨v, hv⟩ : ∃ v, leastOf y = v := ⟨_, rfl⟩
    have hxo := hM i j hi hj
    have hyo := hN i j hi hj
    rw [hx] at hxo
    rw [hy] at hyo
    have H1 := f48_mat cap i j x (hM0.below hB) hi hj hx
    have H2 : ∀ W', Below W.heap.size W W' → Calls Tryz.prog 48 #[.slice A' h cap', .agg #[.int .i64 i, .int .i64 j]] W' fun e w' => e = .returned (.agg #[.int .i64 y.q.a, .int .i64 y.q.b, .int .i64 y.q.c, .int .i64 y.q.d, .int .i64 y.k]) ∧ Below W'.heap.size W' w' := fun W' hb => f48_mat cap' i j y (HN.below (bt hB hb)) hi hj hy
    have H3 := fun W' => f47_r x u W' hxo hu
    have H4 := fun W' => f47_r y v W' hyo hv
    have hdec : (u = v ∧ (u.q.a == v.q.a && (u.q.b == v.q.b && (u.q.c == v.q.c && (u.q.d == v.q.d && ((u.k : Int) == (v.k : Int)))))) = true) ∨ (u ≠ v ∧ (u.q.a == v.q.a && (u.q.b == v.q.b && (u.q.c == v.q.c && (u.q.d == v.q.d && ((u.k : Int) == (v.k : Int)))))) = false) := by
      by_cases e : u = v
      · subst e; exact .inl ⟨rfl, by simp⟩
      · refine .inr ⟨e, ?_⟩
        rw [Bool.eq_false_iff]
        intro hh
        simp only [Bool.and_eq_true, beq_iff_eq] at hh
        obtain ⟨⟨ua, ub, uc, ud⟩, uk⟩ := u
        obtain ⟨⟨va, vb, vc, vd⟩, vk⟩ := v
        obtain ⟨h1, h2, h3, h4, h5⟩ := hh
        dsimp only at h1 h2 h3 h4 h5
        subst h1 h2 h3 h4
        have : uk = vk := by omega
        subst this
        exact e rfl
    rcases hdec with ⟨huv, hd⟩ | ⟨huv, hd⟩
    · subst huv
      gi_wp2_with (first
      | (refine ⟨trivial, ?_⟩; gi_at_call 48; refine (CallsIn.inRound l (callsIn_wide.2 H1)).mono ?_; clear H1; rintro e w1 ⟨rfl, hb1⟩; have hX1 := bX.below hb1; have hC1 := hC.below hb1; have hR1 := hR.below hb1)
      | (refine ⟨trivial, ?_⟩; gi_at_call 47; refine (CallsIn.inRound l (callsIn_wide.2 (H3 _))).mono ?_; clear H3; rintro e w2 ⟨rfl, hb2⟩; have hX2 := (hX1.below hb2).alloc (.cells #[.int .i64 u.q.a, .int .i64 u.q.b, .int .i64 u.q.c, .int .i64 u.q.d, .int .i64 u.k] 38); have hC2 := (hC1.below hb2).alloc (.cells #[.int .i64 u.q.a, .int .i64 u.q.b, .int .i64 u.q.c, .int .i64 u.q.d, .int .i64 u.k] 38); have hR2 := (hR1.below hb2).alloc (.cells #[.int .i64 u.q.a, .int .i64 u.q.b, .int .i64 u.q.c, .int .i64 u.q.d, .int .i64 u.k] 38); have hU2 := Blk.new w2 38 #[.int .i64 u.q.a, .int .i64 u.q.b, .int .i64 u.q.c, .int .i64 u.q.d, .int .i64 u.k]; have hb02 : Below W.heap.size W (w2.alloc (.cells #[.int .i64 u.q.a, .int .i64 u.q.b, .int .i64 u.q.c, .int .i64 u.q.d, .int .i64 u.k] 38)) := (bt hb1 hb2).alloc (bt hb1 hb2).size _; have cX2 := hX2.cells; have cC2 := hC2.cells)
      | (refine ⟨trivial, ?_⟩; gi_at_call 48; refine (CallsIn.inRound l (callsIn_wide.2 (H2 _ hb02))).mono ?_; clear H2; rintro e w3 ⟨rfl, hb3⟩; have hX3 := hX2.below hb3; have hC3' := hC2.below hb3; have hR3' := hR2.below hb3; have hU3 := hU2.below hb3)
      | (refine ⟨trivial, ?_⟩; gi_at_call 47; refine (CallsIn.inRound l (callsIn_wide.2 (H4 _))).mono ?_; clear H4; rintro e w4 ⟨rfl, hb4⟩; have hR4 := (hR3'.below hb4).alloc (.cells #[.int .i64 u.q.a, .int .i64 u.q.b, .int .i64 u.q.c, .int .i64 u.q.d, .int .i64 u.k] 38); have hU4 := (hU3.below hb4).alloc (.cells #[.int .i64 u.q.a, .int .i64 u.q.b, .int .i64 u.q.c, .int .i64 u.q.d, .int .i64 u.k] 38); have hV4 := Blk.new w4 38 #[.int .i64 u.q.a, .int .i64 u.q.b, .int .i64 u.q.c, .int .i64 u.q.d, .int .i64 u.k]; have hb04 : Below W.heap.size W (w4.alloc (.cells #[.int .i64 u.q.a, .int .i64 u.q.b, .int .i64 u.q.c, .int .i64 u.q.d, .int .i64 u.k] 38)) := (bt (bt hb02 hb3) hb4).alloc (bt (bt hb02 hb3) hb4).size _; have cU4 := hU4.cells; have cV4 := hV4.cells; have fR4 := (hR3'.below hb4).frozen; have cR4 := (hR3'.below hb4).cells; have lR4 := (hR3'.below hb4).lt; have cU4' := (hU3.below hb4).cells; have lU4 := (hU3.below hb4).lt))
      exact ⟨keepsFrom_below _ hb04, KeepsBlk.of_below hb04 (Nat.lt_of_lt_of_le hlb hB.size), ⟨⟨⟨⟨hA.below hb04, hC.below hb04⟩, hR4⟩, fun p hpp => (by
        rcases List.mem_append.1 hpp with hpp | hpp
        · exact hp p hpp
        · have e : p = ⟨(i, j), hi, hj⟩ := by simpa using hpp
          subst e
          show leastOf (M i j) = leastOf (N i j)
          rw [hx, hy, hu, hv])⟩, bt hB hb04⟩⟩
    · have huv1 : Hid (u ≠ v) := huv
      clear huv
      gi_wp2_with (first
      | (refine ⟨trivial, ?_⟩; gi_at_call 48; refine (CallsIn.inRound l (callsIn_wide.2 H1)).mono ?_; clear H1; rintro e w1 ⟨rfl, hb1⟩; have hX1 := bX.below hb1; have hC1 := hC.below hb1; have hR1 := hR.below hb1)
      | (refine ⟨trivial, ?_⟩; gi_at_call 47; refine (CallsIn.inRound l (callsIn_wide.2 (H3 _))).mono ?_; clear H3; rintro e w2 ⟨rfl, hb2⟩; have hX2 := (hX1.below hb2).alloc (.cells #[.int .i64 u.q.a, .int .i64 u.q.b, .int .i64 u.q.c, .int .i64 u.q.d, .int .i64 u.k] 38); have hC2 := (hC1.below hb2).alloc (.cells #[.int .i64 u.q.a, .int .i64 u.q.b, .int .i64 u.q.c, .int .i64 u.q.d, .int .i64 u.k] 38); have hR2 := (hR1.below hb2).alloc (.cells #[.int .i64 u.q.a, .int .i64 u.q.b, .int .i64 u.q.c, .int .i64 u.q.d, .int .i64 u.k] 38); have hU2 := Blk.new w2 38 #[.int .i64 u.q.a, .int .i64 u.q.b, .int .i64 u.q.c, .int .i64 u.q.d, .int .i64 u.k]; have hb02 : Below W.heap.size W (w2.alloc (.cells #[.int .i64 u.q.a, .int .i64 u.q.b, .int .i64 u.q.c, .int .i64 u.q.d, .int .i64 u.k] 38)) := (bt hb1 hb2).alloc (bt hb1 hb2).size _; have cX2 := hX2.cells; have cC2 := hC2.cells)
      | (refine ⟨trivial, ?_⟩; gi_at_call 48; refine (CallsIn.inRound l (callsIn_wide.2 (H2 _ hb02))).mono ?_; clear H2; rintro e w3 ⟨rfl, hb3⟩; have hX3 := hX2.below hb3; have hC3' := hC2.below hb3; have hR3' := hR2.below hb3; have hU3 := hU2.below hb3)
      | (refine ⟨trivial, ?_⟩; gi_at_call 47; refine (CallsIn.inRound l (callsIn_wide.2 (H4 _))).mono ?_; clear H4; rintro e w4 ⟨rfl, hb4⟩; have hR4 := (hR3'.below hb4).alloc (.cells #[.int .i64 v.q.a, .int .i64 v.q.b, .int .i64 v.q.c, .int .i64 v.q.d, .int .i64 v.k] 38); have hU4 := (hU3.below hb4).alloc (.cells #[.int .i64 v.q.a, .int .i64 v.q.b, .int .i64 v.q.c, .int .i64 v.q.d, .int .i64 v.k] 38); have hV4 := Blk.new w4 38 #[.int .i64 v.q.a, .int .i64 v.q.b, .int .i64 v.q.c, .int .i64 v.q.d, .int .i64 v.k]; have hb04 : Below W.heap.size W (w4.alloc (.cells #[.int .i64 v.q.a, .int .i64 v.q.b, .int .i64 v.q.c, .int .i64 v.q.d, .int .i64 v.k] 38)) := (bt (bt hb02 hb3) hb4).alloc (bt (bt hb02 hb3) hb4).size _; have cU4 := hU4.cells; have cV4 := hV4.cells; have fR4 := (hR3'.below hb4).frozen; have cR4 := (hR3'.below hb4).cells; have lR4 := (hR3'.below hb4).lt; have cU4' := (hU3.below hb4).cells; have lU4 := (hU3.below hb4).lt))
      all_goals have hb34 := bt (bt hb02 hb3) hb4
      all_goals have hB34 := bt hB hb34
      all_goals have hRf := ((hR3'.below hb4).set 0 (.bool false)).alloc (.cells #[.int .i64 v.q.a, .int .i64 v.q.b, .int .i64 v.q.c, .int .i64 v.q.d, .int .i64 v.k] 38)
      all_goals first
        | exact ⟨((keepsFrom_below _ hb34).trans ((KeepsOthers.setCell _ _ _).from _)).trans ((KeepsOthers.alloc _ _).from _), ⟨hRf, rfl, i, j, hi, hj, by rw [hx, hy, hu, hv]; exact huv1.out⟩, (hB34.setCell (p := ⟨w.heap.size + 1 + 1, 0, none⟩) (by simp; omega) _).alloc (by simp; exact hB34.size) _⟩
        | (exfalso; simp_all; done)
        | skip
  case done =>
    rintro D ys W hD hfull ⟨⟨⟨⟨hA, hC⟩, hR⟩, hp⟩, hB⟩ hK
    have fR := hR.frozen
    have cR := hR.cells
    gi_wp2
    have hK' := (KeepsOthers.setCell W ⟨w.heap.size + 1 + 1, 0, none⟩ (.bool true)).same D _ hK rfl
    refine ⟨by simp, .inl ⟨_, _, rfl, run_takeDeferred hK', ?_⟩⟩
    have hF := hR.set 0 (.bool true)
    have cG := (blk_own (w.heap.size + 1 + 1) 4 (fun (_ : Unit) => _) () _ _ _ hF (grownBy_putObj' _ D (.deferred none)) (fun r e => by cases e; exact ⟨_, hK', rfl⟩)).cells
    refine ⟨.bool true, by simp [results, Tryz.results86, go_sem, cG], ⟨true, rfl, iff_of_true rfl fun i j hi hj => hp ⟨(i, j), hi, hj⟩ (hfull _)⟩, ?_⟩
    exact (hB.setCell (p := ⟨w.heap.size + 1 + 1, 0, none⟩) (by simp; omega) _).trans (belowK_b (w := w) (Nat.le_refl _) _ D _ _ (Nat.le_trans hB3.size hD) hK' rfl rfl)
  case stop =>
    rintro D c pre W hD _ ⟨⟨hR, rfl, i, j, hi, hj, hne⟩, hB⟩ hK
    gi_wp2
    refine ⟨by simp, .inl ⟨_, _, rfl, run_takeDeferred hK, ?_⟩⟩
    have cG := (blk_own (w.heap.size + 1 + 1) 4 (fun (_ : Unit) => _) () _ _ _ hR (grownBy_putObj' _ D (.deferred none)) (fun r e => by cases e; exact ⟨_, hK, rfl⟩)).cells
    refine ⟨.bool false, by simp [results, Tryz.results86, go_sem, cG], ⟨false, rfl, iff_of_false (by simp) fun hh => hne (hh i j hi hj)⟩, ?_⟩
    exact hB.trans (belowK_b (w := w) (Nat.le_refl _) W D _ _ (Nat.le_trans hB3.size hD) hK rfl rfl)
end
end Go.Proofs.YtdfgmmjcamhdjaaGreatDoor
