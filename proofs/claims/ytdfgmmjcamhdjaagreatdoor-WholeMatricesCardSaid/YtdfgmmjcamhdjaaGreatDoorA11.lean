/- Steps to WholeMatrices' card; what each asks stands in it. -/
import Derived.Shelf.AbstractIn
import Derived.Test.YtdfgmmjcamhdjaaGreatDoorA10
set_option linter.unusedVariables false
set_option linter.unusedSimpArgs false
namespace Go.Proofs.YtdfgmmjcamhdjaaGreatDoor
section
open Go.RowKit Go.Shelf
attribute [local go_sem] Oper.semAt_some
/-- what is asked of a function value that computes an element -/
def ElemOn (g : Nat) (lb : Array Value) (h n : Nat) (f : Nat → Nat → Num) (B : Nat) (w : World) : Prop :=
  ∀ (W : World) (i j : Nat) (y : Num), i < h → j < n → Hid (f i j = y) → Below B w W → w.heap.size ≤ W.heap.size → Calls Tryz.prog g (#[.agg #[.int .i64 i, .int .i64 j]] ++ lb) W fun e w' =>
    e = .returned (.tuple #[.agg #[.int .i64 y.q.a, .int .i64 y.q.b, .int .i64 y.q.c, .int .i64 y.q.d, .int .i64 y.k], .int .i64 0]) ∧ Below W.heap.size W w'
set_option maxRecDepth 100000 in
set_option maxHeartbeats 4000000 in
theorem f96_any (g : Nat) (lb : Array Value) (eg : ∀ args w, (callFunc g args).run Tryz.prog w = .ok (.enter g args) w) (B h n : Nat) (f : Nat → Nat → Num) (w : World) (hd : 1 ≤ h ∧ h ≤ 64 ∧ 1 ≤ n ∧ n ≤ 64) (H : Filled w B h n (fun _ _ => Num.zero)) (hBw : B ≤ w.heap.size) (hel : ElemOn g lb h n f B w) :
    Calls Tryz.prog 96 #[.agg #[.slice (some ⟨B, 0, none⟩) h h, .func (.func g) #[] lb]] w fun e w' => e = .returned (.tuple #[.slice (some ⟨B, 0, none⟩) h h, .int .i64 0]) ∧ Filled w' B h n f ∧ Below B w w' := by
  obtain ⟨d1, d2, d3, d4⟩ := hd
  have hlb := H.head.lt
  refine (callsIn_wide (n := 6)).1 ?_
  refine callsIn_of_wp_marks Tryz.func96 rfl trivial ?_ rfl
  simp only [Tryz.ntmps96, List.size_toArray, List.length_cons, List.length_nil, Nat.reduceAdd, Nat.reduceSub, Array.replicate_succ, Array.replicate_zero, List.push_toArray, List.append_toArray, List.nil_append, List.cons_append]
  gi_wp2_with (refine ⟨trivial, ?_⟩; gi_at_call 74; refine (f74_in _ _ trivial rfl _ _ _ _).mono ?_; rintro e w3 ⟨rfl, rfl⟩)
  have hB3 : Below B w ((((w.alloc (.cells #[.slice (some ⟨B, 0, none⟩) h h, .func (.func g) #[] lb] 137)).alloc (.cells #[.slice none 0 0] 31)).alloc (.cells #[.int .i64 0] 32)).alloc (.cells #[.slice (some ⟨B, 0, none⟩) h h] 88)) := ((((Below.refl _ w).alloc hBw _).alloc (by simp; omega) _).alloc (by simp; omega) _).alloc (by simp; omega) _
  have hsz : ((((w.alloc (.cells #[.slice (some ⟨B, 0, none⟩) h h, .func (.func g) #[] lb] 137)).alloc (.cells #[.slice none 0 0] 31)).alloc (.cells #[.int .i64 0] 32)).alloc (.cells #[.slice (some ⟨B, 0, none⟩) h h] 88)).heap.size = w.heap.size + 4 := by simp
  have hT : Blk ((((w.alloc (.cells #[.slice (some ⟨B, 0, none⟩) h h, .func (.func g) #[] lb] 137)).alloc (.cells #[.slice none 0 0] 31)).alloc (.cells #[.int .i64 0] 32)).alloc (.cells #[.slice (some ⟨B, 0, none⟩) h h] 88)) w.heap.size 137 #[.slice (some ⟨B, 0, none⟩) h h, .func (.func g) #[] lb] := (((Blk.new' _ _ (by simp)).alloc _).alloc _).alloc _
  have hR : Blk ((((w.alloc (.cells #[.slice (some ⟨B, 0, none⟩) h h, .func (.func g) #[] lb] 137)).alloc (.cells #[.slice none 0 0] 31)).alloc (.cells #[.int .i64 0] 32)).alloc (.cells #[.slice (some ⟨B, 0, none⟩) h h] 88)) (w.heap.size + 1) 31 #[.slice none 0 0] := ((Blk.new' _ _ (by simp)).alloc _).alloc _
  have hE : Blk ((((w.alloc (.cells #[.slice (some ⟨B, 0, none⟩) h h, .func (.func g) #[] lb] 137)).alloc (.cells #[.slice none 0 0] 31)).alloc (.cells #[.int .i64 0] 32)).alloc (.cells #[.slice (some ⟨B, 0, none⟩) h h] 88)) (w.heap.size + 1 + 1) 32 #[.int .i64 0] := (Blk.new' _ _ (by simp)).alloc _
  have hS : Blk ((((w.alloc (.cells #[.slice (some ⟨B, 0, none⟩) h h, .func (.func g) #[] lb] 137)).alloc (.cells #[.slice none 0 0] 31)).alloc (.cells #[.int .i64 0] 32)).alloc (.cells #[.slice (some ⟨B, 0, none⟩) h h] 88)) (w.heap.size + 1 + 1 + 1) 88 #[.slice (some ⟨B, 0, none⟩) h h] := Blk.new' _ _ (by simp)
  have hF := (((H.alloc (.cells #[.slice (some ⟨B, 0, none⟩) h h, .func (.func g) #[] lb] 137)).alloc (.cells #[.slice none 0 0] 31)).alloc (.cells #[.int .i64 0] 32)).alloc (.cells #[.slice (some ⟨B, 0, none⟩) h h] 88)
  obtain ⟨W0, hW0⟩ : ∃ W0, (((w.alloc (.cells #[.slice (some ⟨B, 0, none⟩) h h, .func (.func g) #[] lb] 137)).alloc (.cells #[.slice none 0 0] 31)).alloc (.cells #[.int .i64 0] 32)).alloc (.cells #[.slice (some ⟨B, 0, none⟩) h h] 88) = W0 := ⟨_, rfl⟩
  rw [hW0] at hB3 hsz hT hR hE hS hF ⊢
  clear hW0
  refine wpIn_rangeFunc_ownH rfl (by omega) (gf := 123) (lb := #[.pointer (some ⟨w.heap.size + 1 + 1 + 1, 0, none⟩)]) rfl trivial (enters_of Tryz.func123 (by kernel_rfl) rfl)
    (f123_stops (h := h) (n := n) Fence.wide _ trivial rfl (by omega) (w.heap.size + 1 + 1 + 1) B 0 h (fun i => some ⟨B + 1 + i, 0, none⟩) (fun _ => n) (by omega) (by omega) W0 hS.lt hF.head.lt (hS.cells 0) (fun i hi => by rw [Nat.zero_add]; exact hF.head_at hi)) keepsBlk_t keepsBlk_b (Below.refl _ _) (fun _ => rfl)
    (fun pre W => (((Blk W w.heap.size 137 #[.slice (some ⟨B, 0, none⟩) h h, .func (.func g) #[] lb] ∧ Blk W (w.heap.size + 1) 31 #[.slice none 0 0]) ∧ Blk W (w.heap.size + 1 + 1) 32 #[.int .i64 0]) ∧ Filled W B h n (soFar f pre)) ∧ Below B w W ∧ W0.heap.size ≤ W.heap.size)
    (fun _ _ _ => False)
    (OwnFrom.and (Own.from (fun s X Y row hs hg hr => ⟨⟨⟨blk_own _ _ (fun (_ : Unit) => _) () X Y row hs.1.1.1 hg hr, blk_own _ _ (fun (_ : Unit) => _) () X Y row hs.1.1.2 hg hr⟩, blk_own _ _ (fun (_ : Unit) => _) () X Y row hs.1.2 hg hr⟩, filled_own B h n (fun s => soFar f s) s X Y row hs.2 hg hr⟩) _) (OwnFrom.and (ownFrom_below hBw (by omega)) (fun s X Y row hs hg hr => Nat.le_trans hs hg.size)))
    (fun _ _ _ _ _ hs _ _ => hs)
    ⟨⟨⟨⟨hT, hR⟩, hE⟩, by rw [soFar_nil]; exact hF⟩, hB3, Nat.le_refl _⟩
    (fun x a' W => ∃ Bx, W0.heap.size ≤ Bx ∧ Blk W Bx 94 #[.int .i64 x.1.1, .int .i64 x.1.2] ∧ a' = { tmps := #[Value.agg #[Value.slice (some { block := B, off := 0 }) h h, Value.func (Fn.func g) #[] lb], Value.pointer (some { block := w.heap.size, off := 0 }), Value.pointer (some { block := w.heap.size + 1, off := 0 }), Value.pointer (some { block := w.heap.size + 1 + 1, off := 0 }), Value.pointer (some { block := Bx, off := 0 }), undef, undef, Value.pointer (some { block := w.heap.size, off := 0 }), Value.slice (some { block := B, off := 0 }) h h, Value.func (Fn.func 123) #[] #[Value.pointer (some { block := w.heap.size + 1 + 1 + 1, off := 0 })], Value.agg #[Value.int IntKind.i64 ↑x.val.fst, Value.int IntKind.i64 ↑x.val.snd], undef, undef, undef, undef, undef, undef, undef, undef, undef, undef, undef, undef, undef, undef, undef, undef, undef, undef, undef, undef, undef, undef], defers := [] })
    (fun x a' _ X Y row hs hg hr => by obtain ⟨Bx, h1, h2, h3⟩ := hs; exact ⟨Bx, h1, blk_own Bx 94 (fun (_ : Unit) => #[.int .i64 x.1.1, .int .i64 x.1.2]) () X Y row h2 hg (fun r e => (hr r e).2), h3⟩)
    ?assign ?body ?done ?stop
  case assign =>
    rintro l pre x W K ⟨⟨⟨⟨hT, hR⟩, hE⟩, hF⟩, hB, hsW⟩ hK
    simp only [encPl]
    gi_wp2
    exact hK _ _ ((KeepsOthers.alloc _ _).from _) (KeepsBlk.of_below ((Below.refl _ W).alloc (Nat.le_refl _) _) hF.head.lt) ⟨⟨⟨⟨hT.alloc _, hR.alloc _⟩, hE.alloc _⟩, hF.alloc _⟩, hB.alloc (by omega) _, by simp; omega⟩ ⟨W.heap.size, hsW, Blk.new W 94 _, rfl⟩
  case body =>
    rintro l pre ⟨⟨i, j⟩, hi, hj⟩ a' W hl ⟨r, hr⟩ ⟨⟨⟨⟨hT, hR⟩, hE⟩, hF⟩, hB, hsW⟩ ⟨Bx, hBx, bX, rfl⟩ hlt
    dsimp only at *
    have cT := hT.cells
    have cX := bX.cells
    obtain ⟨y, hy⟩ : ∃ y, f i j = y := ⟨_, rfl⟩
    have hcall := hel W i j y hi hj hy hB (by omega)
    gi_wp2_with (refine ⟨trivial, ?_⟩; gi_at_fn g; refine (CallsIn.inRound l (callsIn_wide.2 hcall)).mono ?_; clear hcall; rintro e w1 ⟨rfl, hb1⟩; have hT1 := hT.below hb1; have hX1 := bX.below hb1; have cT1 := hT1.cells; have cX1 := hX1.cells; clear cT cX)
    have hT6 := hT1.alloc (.cells #[.int .i64 y.q.a, .int .i64 y.q.b, .int .i64 y.q.c, .int .i64 y.q.d, .int .i64 y.k] 38)
    have hX6 := hX1.alloc (.cells #[.int .i64 y.q.a, .int .i64 y.q.b, .int .i64 y.q.c, .int .i64 y.q.d, .int .i64 y.k] 38)
    have hR6 := (hR.below hb1).alloc (.cells #[.int .i64 y.q.a, .int .i64 y.q.b, .int .i64 y.q.c, .int .i64 y.q.d, .int .i64 y.k] 38)
    have hE6 := (hE.below hb1).alloc (.cells #[.int .i64 y.q.a, .int .i64 y.q.b, .int .i64 y.q.c, .int .i64 y.q.d, .int .i64 y.k] 38)
    have hF6 := (hF.below hb1).alloc (.cells #[.int .i64 y.q.a, .int .i64 y.q.b, .int .i64 y.q.c, .int .i64 y.q.d, .int .i64 y.k] 38)
    have hY6 := Blk.new w1 38 #[.int .i64 y.q.a, .int .i64 y.q.b, .int .i64 y.q.c, .int .i64 y.q.d, .int .i64 y.k]
    have hB6 : Below W.heap.size W (w1.alloc (.cells #[.int .i64 y.q.a, .int .i64 y.q.b, .int .i64 y.q.c, .int .i64 y.q.d, .int .i64 y.k] 38)) := hb1.alloc hb1.size _
    have hs6 : w1.heap.size < (w1.alloc (.cells #[.int .i64 y.q.a, .int .i64 y.q.b, .int .i64 y.q.c, .int .i64 y.q.d, .int .i64 y.k] 38)).heap.size := by simp
    obtain ⟨W6, hW6⟩ : ∃ W6, w1.alloc (.cells #[.int .i64 y.q.a, .int .i64 y.q.b, .int .i64 y.q.c, .int .i64 y.q.d, .int .i64 y.k] 38) = W6 := ⟨_, rfl⟩
    obtain ⟨By, hBy⟩ : ∃ By, w1.heap.size = By := ⟨_, rfl⟩
    rw [hW6] at hT6 hX6 hR6 hE6 hF6 hY6 hB6 hs6 ⊢
    rw [hBy] at hY6 hs6 ⊢
    have hge := hb1.size
    rw [hBy] at hge
    clear hW6 hBy hT1 hX1 cT1 cX1 hb1 w1
    have cT := hT6.cells
    have cX := hX6.cells
    have cY := hY6.cells
    have cH := hF6.head_at hi
    have fB := (hF6.row i hi).frozen
    obtain ⟨n0, n1, n2, n3, n4⟩ := (hF6.row i hi).numAt hj
    have hiz : (i : Int) < h := by omega
    have hjz : (j : Int) < n := by omega
    refine Calm.wpIn_region_calm 10 [] (by kernel_rfl) (by kernel_rfl) (by kernel_rfl) (by decide) (fun w' => w' = W6.drew) (0) (fun _ _ => Nat.zero_le _) rfl ?_
    show Calm.WalkI _ _ _ _ _ _ [0, 1, 2, 3, 4, 5, 6, 7, 8, 9] _ _
    refine Calm.calm_step rfl rfl rfl ?_; apply Exists.intro; refine ⟨fun w' hw' => ?_, ?_⟩
    · obtain rfl := hw'
      apply Calm.calm_value
      go_simp
      exact rfl
    intro K hK; go_simp; refine hK _ ?_; clear hK K
    refine Calm.calm_step rfl rfl rfl ?_; apply Exists.intro; refine ⟨fun w' hw' => ?_, ?_⟩
    · obtain rfl := hw'
      apply Calm.calm_value
      go_simp
      exact rfl
    intro K hK; go_simp; refine hK _ ?_; clear hK K
    refine Calm.calm_step rfl rfl rfl ?_; apply Exists.intro; refine ⟨fun w' hw' => ?_, ?_⟩
    · obtain rfl := hw'
      apply Calm.calm_value
      go_simp
      exact rfl
    intro K hK; go_simp; refine hK _ ?_; clear hK K
    refine Calm.calm_step rfl rfl rfl ?_; apply Exists.intro; refine ⟨fun w' hw' => ?_, ?_⟩
    · obtain rfl := hw'
      apply Calm.calm_value
      go_simp
      exact rfl
    intro K hK; go_simp; refine hK _ ?_; clear hK K
    refine Calm.calm_step rfl rfl rfl ?_; apply Exists.intro; refine ⟨fun w' hw' => ?_, ?_⟩
    · obtain rfl := hw'
      apply Calm.calm_value
      go_simp
      exact rfl
    intro K hK; go_simp; refine hK _ ?_; clear hK K
    refine Calm.calm_step rfl rfl rfl ?_; apply Exists.intro; refine ⟨fun w' hw' => ?_, ?_⟩
    · obtain rfl := hw'
      apply Calm.calm_value
      go_simp
      exact rfl
    intro K hK; go_simp; refine hK _ ?_; clear hK K
    refine Calm.calm_step rfl rfl rfl ?_; apply Exists.intro; refine ⟨fun w' hw' => ?_, ?_⟩
    · obtain rfl := hw'
      apply Calm.calm_value
      go_simp
      exact rfl
    intro K hK; go_simp; refine hK _ ?_; clear hK K
    refine Calm.calm_step rfl rfl rfl ?_; apply Exists.intro; refine ⟨fun w' hw' => ?_, ?_⟩
    · obtain rfl := hw'
      apply Calm.calm_value
      go_simp
      exact rfl
    intro K hK; go_simp; refine hK _ ?_; clear hK K
    refine Calm.calm_step rfl rfl rfl ?_; apply Exists.intro; refine ⟨fun w' hw' => ?_, ?_⟩
    · obtain rfl := hw'
      apply Calm.calm_value
      go_simp
      exact rfl
    intro K hK; go_simp; refine hK _ ?_; clear hK K
    refine Calm.calm_step rfl rfl rfl ?_; apply Exists.intro; refine ⟨fun w' hw' => ?_, ?_⟩
    · obtain rfl := hw'
      apply Calm.calm_value
      go_simp
      exact rfl
    intro K hK; go_simp; refine hK _ ?_; clear hK K
    refine Calm.calm_endIn_lit (fun wk hk => ?_)
    simp only [List.drop_succ_cons, List.drop_zero]
    obtain ⟨rfl, _, _⟩ := hk
    gi_wp2
    have hF7 := hF6.put hi hj y
    have e7 := soFar_snoc f pre (⟨(i, j), hi, hj⟩ : Pl h n)
    dsimp only at e7 hF7
    rw [hy] at e7
    rw [e7] at hF7
    have hbl := hT.lt
    have hrl := (H.row i hi).lt
    have hbb : Below B W6 (((((W6.setCell ⟨B + 1 + i, j * 5, none⟩ (.int .i64 y.q.a)).setCell ⟨B + 1 + i, j * 5 + 1, none⟩ (.int .i64 y.q.b)).setCell ⟨B + 1 + i, j * 5 + 2, none⟩ (.int .i64 y.q.c)).setCell ⟨B + 1 + i, j * 5 + 3, none⟩ (.int .i64 y.q.d)).setCell ⟨B + 1 + i, j * 5 + 4, none⟩ (.int .i64 y.k)) :=
      (((((Below.refl B W6).setCell (by simp; omega) _).setCell (by simp; omega) _).setCell (by simp; omega) _).setCell (by simp; omega) _).setCell (by simp; omega) _
    have hkf : KeepsFrom (w.heap.size + 4) W6 (((((W6.setCell ⟨B + 1 + i, j * 5, none⟩ (.int .i64 y.q.a)).setCell ⟨B + 1 + i, j * 5 + 1, none⟩ (.int .i64 y.q.b)).setCell ⟨B + 1 + i, j * 5 + 2, none⟩ (.int .i64 y.q.c)).setCell ⟨B + 1 + i, j * 5 + 3, none⟩ (.int .i64 y.q.d)).setCell ⟨B + 1 + i, j * 5 + 4, none⟩ (.int .i64 y.k)) :=
      (((((KeepsOthers.setCell _ _ _).from _).trans ((KeepsOthers.setCell _ _ _).from _)).trans ((KeepsOthers.setCell _ _ _).from _)).trans ((KeepsOthers.setCell _ _ _).from _)).trans ((KeepsOthers.setCell _ _ _).from _)
    have hT7 := ((((hT6.far (p := ⟨B + 1 + i, j * 5, none⟩) (by simp; omega) (.int .i64 y.q.a)).far (p := ⟨B + 1 + i, j * 5 + 1, none⟩) (by simp; omega) (.int .i64 y.q.b)).far (p := ⟨B + 1 + i, j * 5 + 2, none⟩) (by simp; omega) (.int .i64 y.q.c)).far (p := ⟨B + 1 + i, j * 5 + 3, none⟩) (by simp; omega) (.int .i64 y.q.d)).far (p := ⟨B + 1 + i, j * 5 + 4, none⟩) (by simp; omega) (.int .i64 y.k)
    have hR7 := ((((hR6.far (p := ⟨B + 1 + i, j * 5, none⟩) (by simp; omega) (.int .i64 y.q.a)).far (p := ⟨B + 1 + i, j * 5 + 1, none⟩) (by simp; omega) (.int .i64 y.q.b)).far (p := ⟨B + 1 + i, j * 5 + 2, none⟩) (by simp; omega) (.int .i64 y.q.c)).far (p := ⟨B + 1 + i, j * 5 + 3, none⟩) (by simp; omega) (.int .i64 y.q.d)).far (p := ⟨B + 1 + i, j * 5 + 4, none⟩) (by simp; omega) (.int .i64 y.k)
    have hE7 := ((((hE6.far (p := ⟨B + 1 + i, j * 5, none⟩) (by simp; omega) (.int .i64 y.q.a)).far (p := ⟨B + 1 + i, j * 5 + 1, none⟩) (by simp; omega) (.int .i64 y.q.b)).far (p := ⟨B + 1 + i, j * 5 + 2, none⟩) (by simp; omega) (.int .i64 y.q.c)).far (p := ⟨B + 1 + i, j * 5 + 3, none⟩) (by simp; omega) (.int .i64 y.q.d)).far (p := ⟨B + 1 + i, j * 5 + 4, none⟩) (by simp; omega) (.int .i64 y.k)
    have hge6 := hB6.size
    obtain ⟨W7, hW7⟩ : ∃ W7, (((((W6.setCell ⟨B + 1 + i, j * 5, none⟩ (.int .i64 y.q.a)).setCell ⟨B + 1 + i, j * 5 + 1, none⟩ (.int .i64 y.q.b)).setCell ⟨B + 1 + i, j * 5 + 2, none⟩ (.int .i64 y.q.c)).setCell ⟨B + 1 + i, j * 5 + 3, none⟩ (.int .i64 y.q.d)).setCell ⟨B + 1 + i, j * 5 + 4, none⟩ (.int .i64 y.k)) = W7 := ⟨_, rfl⟩
    rw [hW7] at hF7 hbb hkf hT7 hR7 hE7 ⊢
    clear hW7
    have hkf2 := (keepsFrom_below (w.heap.size + 4) hB6).trans (hkf.trans ((KeepsOthers.drew W7).from _))
    refine ⟨hkf2, ?_, ⟨⟨⟨hT7.drew, hR7.drew⟩, hE7.drew⟩, ⟨hF7.head, hF7.row⟩⟩, ((hB.trans (hB6.mono (by omega))).trans hbb).drew, ?_⟩
    · refine KeepsBlk.trans (KeepsBlk.of_below hB6 (by omega)) (KeepsBlk.of_cells fun k => ?_)
      exact (hF7.head.cells k).trans (hF6.head.cells k).symm
    · have := hkf2.size
      omega
  case done =>
    rintro D ys W hD hfull ⟨⟨⟨⟨hT, hR⟩, hE⟩, hF⟩, hB, hsW⟩ hK
    have cT := hT.cells
    have cR := hR.cells
    have fR := hR.frozen
    have cE := hE.cells
    have fE := hE.frozen
    gi_wp2
    have hF1 := (hF.far (p := ⟨w.heap.size + 1, 0, none⟩) (by have := hF.row (h - 1) (by omega); have := this.lt; have := (H.row (h - 1) (by omega)).lt; simp; omega) (.slice (some ⟨B, 0, none⟩) h h)).far (p := ⟨w.heap.size + 1 + 1, 0, none⟩) (by have := (H.row (h - 1) (by omega)).lt; simp; omega) (.int .i64 0)
    have hR1 := (hR.set 0 (.slice (some ⟨B, 0, none⟩) h h)).far (p := ⟨w.heap.size + 1 + 1, 0, none⟩) (by simp) (.int .i64 0)
    have hE1 := (hE.far (p := ⟨w.heap.size + 1, 0, none⟩) (by simp) (.slice (some ⟨B, 0, none⟩) h h)).set 0 (.int .i64 0)
    have hK1 := (KeepsOthers.setCell (W.setCell ⟨w.heap.size + 1, 0, none⟩ (.slice (some ⟨B, 0, none⟩) h h)) ⟨w.heap.size + 1 + 1, 0, none⟩ (.int .i64 0)).same D _ ((KeepsOthers.setCell W ⟨w.heap.size + 1, 0, none⟩ (.slice (some ⟨B, 0, none⟩) h h)).same D _ hK rfl) rfl
    refine ⟨by simp, .inl ⟨_, _, rfl, run_takeDeferred hK1, ?_⟩⟩
    have hF2 := filled_own B h n (fun (_ : Unit) => soFar f ys) () _ _ _ hF1 (grownBy_putObj' _ D (.deferred none)) (fun r e => by cases e; exact ⟨_, hK1, rfl⟩)
    have cR2 := (blk_own (w.heap.size + 1) 31 (fun (_ : Unit) => _) () _ _ _ hR1 (grownBy_putObj' _ D (.deferred none)) (fun r e => by cases e; exact ⟨_, hK1, rfl⟩)).cells
    have cE2 := (blk_own (w.heap.size + 1 + 1) 32 (fun (_ : Unit) => _) () _ _ _ hE1 (grownBy_putObj' _ D (.deferred none)) (fun r e => by cases e; exact ⟨_, hK1, rfl⟩)).cells
    refine ⟨.tuple #[.slice (some ⟨B, 0, none⟩) h h, .int .i64 0], by simp [results, Tryz.results96, go_sem, cR2, cE2], rfl, hF2.congr (fun i j hi hj => soFar_full f hfull hi hj), ?_⟩
    exact ((hB.setCell (p := ⟨w.heap.size + 1, 0, none⟩) (by simp; omega) _).setCell (p := ⟨w.heap.size + 1 + 1, 0, none⟩) (by simp; omega) _).trans (belowK_b (w := w) hBw _ D _ _ (by omega) hK1 rfl rfl)
  case stop =>
    rintro D c pre W _ _ h _
    exact h.elim
end
section
open Go.RowKit
attribute [local go_sem ↓] Go.wp_at_zero Go.wp_at_succ
theorem ElemOn.later {g : Nat} {lb : Array Value} {h n : Nat} {f : Nat → Nat → Num} {B : Nat} {w w' : World} (H : ElemOn g lb h n f B w) (hb : Below B w w') : ElemOn g lb h n f B w' :=
  fun W i j y hi hj hy hW hs => H W i j y hi hj hy (hb.trans hW) (Nat.le_trans hb.size hs)
/-- small numbers, in right form -/
def Num.sm (x : Num) : Prop := x.ok ∧ x.k ≤ 30 ∧ x.q.Le 536870912
set_option maxHeartbeats 1000000 in
set_option maxRecDepth 100000 in
theorem f45_any (g : Nat) (lb : Array Value) (eg : ∀ args w, (callFunc g args).run Tryz.prog w = .ok (.enter g args) w) (h n : Nat) (f : Nat → Nat → Num) (w : World) (hd : 1 ≤ h ∧ h ≤ 64 ∧ 1 ≤ n ∧ n ≤ 64) (hel : ElemOn g lb h n f w.heap.size w) :
    Calls Tryz.prog 45 #[.int .i64 h, .int .i64 n, .func (.func g) #[] lb] w fun e w' => e = .returned (.tuple #[.slice (some ⟨w.heap.size, 0, none⟩) h h, .int .i64 0]) ∧ Filled w' w.heap.size h n f ∧ Below w.heap.size w w' := by
  go_enter Tryz.func45, Tryz.ntmps45
  go_wp2_with (first
    | (go_at_call 64; refine (f64_any h n _ hd.2.1 hd.2.2.2).mono ?_; rintro e w1 ⟨rfl, hs1, hH1, hR1, hb1⟩)
    | (go_at_call 96; refine (f96_any g lb eg w.heap.size h n f _ hd ⟨hH1, fun i hi => RowB.zero (hR1 i hi)⟩ (by omega) (hel.later hb1)).mono ?_; rintro e w2 ⟨rfl, hF2, hb2⟩))
  exact bodyPost_ret (v := .tuple #[.slice (some ⟨w.heap.size, 0, none⟩) h h, .int .i64 0]) (by simp [results, Tryz.results45, go_sem]) rfl ⟨rfl, hF2, hb1.trans hb2⟩
set_option maxHeartbeats 4000000 in
set_option maxRecDepth 100000 in
theorem f72_any {A : Option Addr} {h n : Nat} {M : Nat → Nat → Num} (cap i j Bm Bx : Nat) (x z r : Num) (w : World) (hlm : Bm < w.heap.size) (hlx : Bx < w.heap.size) (hm : w.cell? ⟨Bm, 0, none⟩ = some (.slice A h cap)) (hx : NumAt w Bx 0 x) (HM : Mat w A h n M) (hi : i < h) (hj : j < n) (hz : Hid (M i j = z)) (hzs : z.sm) (hxs : x.sm) (hr : Hid (mulN z x = (r, 0))) :
    Calls Tryz.prog 72 #[.agg #[.int .i64 i, .int .i64 j], .pointer (some ⟨Bm, 0, none⟩), .pointer (some ⟨Bx, 0, none⟩)] w fun e w' => e = .returned (.tuple #[.agg #[.int .i64 r.q.a, .int .i64 r.q.b, .int .i64 r.q.c, .int .i64 r.q.d, .int .i64 r.k], .int .i64 0]) ∧ Below w.heap.size w w' := by
  go_enter Tryz.func72, Tryz.ntmps72
  go_wp2
  refine Calm.wp_region_calm 7 [] (by kernel_rfl) (by kernel_rfl) (by decide) (fun w' => Blk w' w.heap.size 94 #[.int .i64 i, .int .i64 j] ∧ Blk w' (w.heap.size + 1) 38 #[.int .i64 0, .int .i64 0, .int .i64 0, .int .i64 0, .int .i64 0] ∧ Below w.heap.size w w') (0) (fun _ _ => Nat.zero_le _) ⟨((Blk.new' 94 #[.int .i64 i, .int .i64 j] (by simp)).alloc _).drew, (Blk.new' 38 #[.int .i64 0, .int .i64 0, .int .i64 0, .int .i64 0, .int .i64 0] (by simp)).drew, ((((Below.refl _ _).alloc (Nat.le_refl _) _).alloc (by first | (simp; done) | (simp; omega) | omega) _)).drew⟩ ?_
  show Calm.WalkI _ _ _ _ _ _ [0, 1, 2, 3, 4, 5, 6] _ _
  refine Calm.calm_step rfl rfl rfl ?_; apply Exists.intro; refine ⟨fun w' hw' => ?_, ?_⟩
  · obtain ⟨hA, hR, hW⟩ := hw'
    have cA := hA.cells
    have dm := keep_cell hW hlm hm
    obtain ⟨x0, x1, x2, x3, x4⟩ := NumAt.below hx hW hlx
    apply Calm.calm_value
    go_simp
    exact rfl
  intro K hK; go_simp; refine hK _ ?_; clear hK K
  refine Calm.calm_step rfl rfl rfl ?_; apply Exists.intro; refine ⟨fun w' hw' => ?_, ?_⟩
  · obtain ⟨hA, hR, hW⟩ := hw'
    have cA := hA.cells
    have dm := keep_cell hW hlm hm
    obtain ⟨x0, x1, x2, x3, x4⟩ := NumAt.below hx hW hlx
    apply Calm.calm_value
    go_simp
    exact rfl
  intro K hK; go_simp; refine hK _ ?_; clear hK K
  refine Calm.calm_step rfl rfl rfl ?_; apply Exists.intro; refine ⟨fun w' hw' => ?_, ?_⟩
  · obtain ⟨hA, hR, hW⟩ := hw'
    have cA := hA.cells
    have dm := keep_cell hW hlm hm
    obtain ⟨x0, x1, x2, x3, x4⟩ := NumAt.below hx hW hlx
    apply Calm.calm_call
    · go_simp
      exact ⟨rfl, rfl⟩
    refine (f48_mat cap i j z (HM.below hW) hi hj hz).mono ?_
    rintro e w'' ⟨rfl, hb⟩
    exact ⟨rfl, hb, hA.below hb, hR.below hb, bt hW hb⟩
  intro K hK; go_simp; refine hK _ ?_; clear hK K
  refine Calm.calm_step rfl rfl rfl ?_; apply Exists.intro; refine ⟨fun w' hw' => ?_, ?_⟩
  · obtain ⟨hA, hR, hW⟩ := hw'
    have cA := hA.cells
    have dm := keep_cell hW hlm hm
    obtain ⟨x0, x1, x2, x3, x4⟩ := NumAt.below hx hW hlx
    apply Calm.calm_value
    go_simp
    exact rfl
  intro K hK; go_simp; refine hK _ ?_; clear hK K
  refine Calm.calm_step rfl rfl rfl ?_; apply Exists.intro; refine ⟨fun w' hw' => ?_, ?_⟩
  · obtain ⟨hA, hR, hW⟩ := hw'
    have cA := hA.cells
    have dm := keep_cell hW hlm hm
    obtain ⟨x0, x1, x2, x3, x4⟩ := NumAt.below hx hW hlx
    apply Calm.calm_call
    · go_simp
      exact ⟨rfl, rfl⟩
    refine (f56_any z x _ hzs.1 hxs.1 hzs.2.2 hxs.2.2 r 0 hr).mono ?_
    rintro e w'' ⟨rfl, hb⟩
    exact ⟨rfl, hb, hA.below hb, hR.below hb, bt hW hb⟩
  intro K hK; go_simp; refine hK _ ?_; clear hK K
  refine Calm.calm_step rfl rfl rfl ?_; apply Exists.intro; refine ⟨fun w' hw' => ?_, ?_⟩
  · obtain ⟨hA, hR, hW⟩ := hw'
    have cA := hA.cells
    have dm := keep_cell hW hlm hm
    obtain ⟨x0, x1, x2, x3, x4⟩ := NumAt.below hx hW hlx
    apply Calm.calm_value
    go_simp
    exact rfl
  intro K hK; go_simp; refine hK _ ?_; clear hK K
  refine Calm.calm_step rfl rfl rfl ?_; apply Exists.intro; refine ⟨fun w' hw' => ?_, ?_⟩
  · obtain ⟨hA, hR, hW⟩ := hw'
    have cA := hA.cells
    have dm := keep_cell hW hlm hm
    obtain ⟨x0, x1, x2, x3, x4⟩ := NumAt.below hx hW hlx
    apply Calm.calm_value
    go_simp
    exact rfl
  intro K hK; go_simp; refine hK _ ?_; clear hK K
  refine Calm.calm_end_lit (fun wk hk => ?_)
  simp only [List.drop_succ_cons, List.drop_zero]
  obtain ⟨⟨hA, hR, hW⟩, _, _⟩ := hk
  have cR := hR.cells
  have fR := hR.frozen
  have lR := hR.lt
  go_wp2
  have hF := (((((hR.set 0 (.int .i64 r.q.a)).set 1 (.int .i64 r.q.b)).set 2 (.int .i64 r.q.c)).set 3 (.int .i64 r.q.d)).set 4 (.int .i64 r.k))
  have cF := hF.cells
  refine bodyPost_ret (v := .tuple #[.agg #[.int .i64 r.q.a, .int .i64 r.q.b, .int .i64 r.q.c, .int .i64 r.q.d, .int .i64 r.k], .int .i64 0]) (by simp [results, Tryz.results72, go_sem, cF]) rfl ⟨rfl, ?_⟩
  exact (((((hW.setCell (by first | (simp; done) | (simp; omega) | omega) _).setCell (by first | (simp; done) | (simp; omega) | omega) _).setCell (by first | (simp; done) | (simp; omega) | omega) _).setCell (by first | (simp; done) | (simp; omega) | omega) _).setCell (by first | (simp; done) | (simp; omega) | omega) _)
set_option maxHeartbeats 4000000 in
set_option maxRecDepth 100000 in
theorem f75_any {A : Option Addr} {h n : Nat} {M : Nat → Nat → Num} (cap i j Bm : Nat) (z r : Num) (w : World) (hlm : Bm < w.heap.size) (hm : w.cell? ⟨Bm, 0, none⟩ = some (.slice A h cap)) (HM : Mat w A h n M) (hi : i < n) (hj : j < h) (hz : Hid (M j i = z)) (hzs : z.sm) (hr : Hid (conjN z = (r, 0))) :
    Calls Tryz.prog 75 #[.agg #[.int .i64 i, .int .i64 j], .pointer (some ⟨Bm, 0, none⟩)] w fun e w' => e = .returned (.tuple #[.agg #[.int .i64 r.q.a, .int .i64 r.q.b, .int .i64 r.q.c, .int .i64 r.q.d, .int .i64 r.k], .int .i64 0]) ∧ Below w.heap.size w w' := by
  obtain ⟨b, off, rb, ro, rc, rfl, HM⟩ := HM
  have hzz := HM.num j i hj hi
  rw [hz.out] at hzz
  have hiz : (i : Int) < n := by omega
  have hjz : (j : Int) < h := by omega
  go_enter Tryz.func75, Tryz.ntmps75
  go_wp2
  refine Calm.wp_region_calm 12 [] (by kernel_rfl) (by kernel_rfl) (by decide) (fun w' => Blk w' w.heap.size 94 #[.int .i64 i, .int .i64 j] ∧ Blk w' (w.heap.size + 1) 38 #[.int .i64 0, .int .i64 0, .int .i64 0, .int .i64 0, .int .i64 0] ∧ Below w.heap.size w w') (0) (fun _ _ => Nat.zero_le _) ⟨((Blk.new' 94 #[.int .i64 i, .int .i64 j] (by simp)).alloc _).drew, (Blk.new' 38 #[.int .i64 0, .int .i64 0, .int .i64 0, .int .i64 0, .int .i64 0] (by simp)).drew, ((((Below.refl _ _).alloc (Nat.le_refl _) _).alloc (by first | (simp; done) | (simp; omega) | omega) _)).drew⟩ ?_
  show Calm.WalkI _ _ _ _ _ _ [0, 1, 2, 3, 4, 5, 6, 7, 8, 9, 10, 11] _ _
  refine Calm.calm_step rfl rfl rfl ?_; apply Exists.intro; refine ⟨fun w' hw' => ?_, ?_⟩
  · obtain ⟨hA, hR, hW⟩ := hw'
    have cA := hA.cells
    have dm := keep_cell hW hlm hm
    have d := keep_cell (p := ⟨b, off + j, none⟩) hW HM.lt (HM.row j hj).1
    obtain ⟨x0, x1, x2, x3, x4⟩ := NumAt.below hzz hW (HM.row j hj).2
    apply Calm.calm_value
    go_simp
    exact rfl
  intro K hK; go_simp; refine hK _ ?_; clear hK K
  refine Calm.calm_step rfl rfl rfl ?_; apply Exists.intro; refine ⟨fun w' hw' => ?_, ?_⟩
  · obtain ⟨hA, hR, hW⟩ := hw'
    have cA := hA.cells
    have dm := keep_cell hW hlm hm
    have d := keep_cell (p := ⟨b, off + j, none⟩) hW HM.lt (HM.row j hj).1
    obtain ⟨x0, x1, x2, x3, x4⟩ := NumAt.below hzz hW (HM.row j hj).2
    apply Calm.calm_value
    go_simp
    exact rfl
  intro K hK; go_simp; refine hK _ ?_; clear hK K
  refine Calm.calm_step rfl rfl rfl ?_; apply Exists.intro; refine ⟨fun w' hw' => ?_, ?_⟩
  · obtain ⟨hA, hR, hW⟩ := hw'
    have cA := hA.cells
    have dm := keep_cell hW hlm hm
    have d := keep_cell (p := ⟨b, off + j, none⟩) hW HM.lt (HM.row j hj).1
    obtain ⟨x0, x1, x2, x3, x4⟩ := NumAt.below hzz hW (HM.row j hj).2
    apply Calm.calm_value
    go_simp
    exact rfl
  intro K hK; go_simp; refine hK _ ?_; clear hK K
  refine Calm.calm_step rfl rfl rfl ?_; apply Exists.intro; refine ⟨fun w' hw' => ?_, ?_⟩
  · obtain ⟨hA, hR, hW⟩ := hw'
    have cA := hA.cells
    have dm := keep_cell hW hlm hm
    have d := keep_cell (p := ⟨b, off + j, none⟩) hW HM.lt (HM.row j hj).1
    obtain ⟨x0, x1, x2, x3, x4⟩ := NumAt.below hzz hW (HM.row j hj).2
    apply Calm.calm_value
    go_simp
    exact rfl
  intro K hK; go_simp; refine hK _ ?_; clear hK K
  refine Calm.calm_step rfl rfl rfl ?_; apply Exists.intro; refine ⟨fun w' hw' => ?_, ?_⟩
  · obtain ⟨hA, hR, hW⟩ := hw'
    have cA := hA.cells
    have dm := keep_cell hW hlm hm
    have d := keep_cell (p := ⟨b, off + j, none⟩) hW HM.lt (HM.row j hj).1
    obtain ⟨x0, x1, x2, x3, x4⟩ := NumAt.below hzz hW (HM.row j hj).2
    apply Calm.calm_value
    go_simp
    exact rfl
  intro K hK; go_simp; refine hK _ ?_; clear hK K
  refine Calm.calm_step rfl rfl rfl ?_; apply Exists.intro; refine ⟨fun w' hw' => ?_, ?_⟩
  · obtain ⟨hA, hR, hW⟩ := hw'
    have cA := hA.cells
    have dm := keep_cell hW hlm hm
    have d := keep_cell (p := ⟨b, off + j, none⟩) hW HM.lt (HM.row j hj).1
    obtain ⟨x0, x1, x2, x3, x4⟩ := NumAt.below hzz hW (HM.row j hj).2
    apply Calm.calm_value
    go_simp
    exact rfl
  intro K hK; go_simp; refine hK _ ?_; clear hK K
  refine Calm.calm_step rfl rfl rfl ?_; apply Exists.intro; refine ⟨fun w' hw' => ?_, ?_⟩
  · obtain ⟨hA, hR, hW⟩ := hw'
    have cA := hA.cells
    have dm := keep_cell hW hlm hm
    have d := keep_cell (p := ⟨b, off + j, none⟩) hW HM.lt (HM.row j hj).1
    obtain ⟨x0, x1, x2, x3, x4⟩ := NumAt.below hzz hW (HM.row j hj).2
    apply Calm.calm_value
    go_simp
    exact rfl
  intro K hK; go_simp; refine hK _ ?_; clear hK K
  refine Calm.calm_step rfl rfl rfl ?_; apply Exists.intro; refine ⟨fun w' hw' => ?_, ?_⟩
  · obtain ⟨hA, hR, hW⟩ := hw'
    have cA := hA.cells
    have dm := keep_cell hW hlm hm
    have d := keep_cell (p := ⟨b, off + j, none⟩) hW HM.lt (HM.row j hj).1
    obtain ⟨x0, x1, x2, x3, x4⟩ := NumAt.below hzz hW (HM.row j hj).2
    apply Calm.calm_value
    go_simp
    exact rfl
  intro K hK; go_simp; refine hK _ ?_; clear hK K
  refine Calm.calm_step rfl rfl rfl ?_; apply Exists.intro; refine ⟨fun w' hw' => ?_, ?_⟩
  · obtain ⟨hA, hR, hW⟩ := hw'
    have cA := hA.cells
    have dm := keep_cell hW hlm hm
    have d := keep_cell (p := ⟨b, off + j, none⟩) hW HM.lt (HM.row j hj).1
    obtain ⟨x0, x1, x2, x3, x4⟩ := NumAt.below hzz hW (HM.row j hj).2
    apply Calm.calm_value
    go_simp
    exact rfl
  intro K hK; go_simp; refine hK _ ?_; clear hK K
  refine Calm.calm_step rfl rfl rfl ?_; apply Exists.intro; refine ⟨fun w' hw' => ?_, ?_⟩
  · obtain ⟨hA, hR, hW⟩ := hw'
    have cA := hA.cells
    have dm := keep_cell hW hlm hm
    have d := keep_cell (p := ⟨b, off + j, none⟩) hW HM.lt (HM.row j hj).1
    obtain ⟨x0, x1, x2, x3, x4⟩ := NumAt.below hzz hW (HM.row j hj).2
    apply Calm.calm_call
    · go_simp
      exact ⟨rfl, rfl⟩
    refine (f76_any z _ hzs.1 r 0 hr).mono ?_
    rintro e w'' ⟨rfl, hb⟩
    exact ⟨rfl, hb, hA.below hb, hR.below hb, bt hW hb⟩
  intro K hK; go_simp; refine hK _ ?_; clear hK K
  refine Calm.calm_step rfl rfl rfl ?_; apply Exists.intro; refine ⟨fun w' hw' => ?_, ?_⟩
  · obtain ⟨hA, hR, hW⟩ := hw'
    have cA := hA.cells
    have dm := keep_cell hW hlm hm
    have d := keep_cell (p := ⟨b, off + j, none⟩) hW HM.lt (HM.row j hj).1
    obtain ⟨x0, x1, x2, x3, x4⟩ := NumAt.below hzz hW (HM.row j hj).2
    apply Calm.calm_value
    go_simp
    exact rfl
  intro K hK; go_simp; refine hK _ ?_; clear hK K
  refine Calm.calm_step rfl rfl rfl ?_; apply Exists.intro; refine ⟨fun w' hw' => ?_, ?_⟩
  · obtain ⟨hA, hR, hW⟩ := hw'
    have cA := hA.cells
    have dm := keep_cell hW hlm hm
    have d := keep_cell (p := ⟨b, off + j, none⟩) hW HM.lt (HM.row j hj).1
    obtain ⟨x0, x1, x2, x3, x4⟩ := NumAt.below hzz hW (HM.row j hj).2
    apply Calm.calm_value
    go_simp
    exact rfl
  intro K hK; go_simp; refine hK _ ?_; clear hK K
  refine Calm.calm_end_lit (fun wk hk => ?_)
  simp only [List.drop_succ_cons, List.drop_zero]
  obtain ⟨⟨hA, hR, hW⟩, _, _⟩ := hk
  have cR := hR.cells
  have fR := hR.frozen
  have lR := hR.lt
  go_wp2
  have hF := (((((hR.set 0 (.int .i64 r.q.a)).set 1 (.int .i64 r.q.b)).set 2 (.int .i64 r.q.c)).set 3 (.int .i64 r.q.d)).set 4 (.int .i64 r.k))
  have cF := hF.cells
  refine bodyPost_ret (v := .tuple #[.agg #[.int .i64 r.q.a, .int .i64 r.q.b, .int .i64 r.q.c, .int .i64 r.q.d, .int .i64 r.k], .int .i64 0]) (by simp [results, Tryz.results75, go_sem, cF]) rfl ⟨rfl, ?_⟩
  exact (((((hW.setCell (by first | (simp; done) | (simp; omega) | omega) _).setCell (by first | (simp; done) | (simp; omega) | omega) _).setCell (by first | (simp; done) | (simp; omega) | omega) _).setCell (by first | (simp; done) | (simp; omega) | omega) _).setCell (by first | (simp; done) | (simp; omega) | omega) _)
end
section
open Go.RowKit
attribute [local go_sem ↓] Go.wp_at_zero Go.wp_at_succ
set_option maxHeartbeats 4000000 in
set_option maxRecDepth 100000 in
theorem f27_any {A : Option Addr} {h n : Nat} {M : Nat → Nat → Num} (cap : Nat) (x : Num) (w : World) (HM : Mat w A h n M) (hM : ∀ i j, i < h → j < n → (M i j).sm) (hx : x.sm) (he : ∀ i j, i < h → j < n → (mulN (M i j) x).2 = 0) :
    Calls Tryz.prog 27 #[.slice A h cap, .agg #[.int .i64 x.q.a, .int .i64 x.q.b, .int .i64 x.q.c, .int .i64 x.q.d, .int .i64 x.k]] w fun e w' => ∃ B, w.heap.size ≤ B ∧ e = .returned (.tuple #[.slice (some ⟨B, 0, none⟩) h h, .int .i64 0]) ∧ Filled w' B h n (fun i j => (mulN (M i j) x).1) ∧ Below w.heap.size w w' := by
  have hM0 := HM
  obtain ⟨b, off, rb, ro, rc, rfl, HM⟩ := HM
  have hd1 : (0 : Int) < h := by have := HM.dims.1; omega
  have hd0 : 0 < h := HM.dims.1
  go_enter Tryz.func27, Tryz.ntmps27
  have hb0 : Below w.heap.size w ((w.alloc (.cells #[.slice (some ⟨b, off, none⟩) h cap] 31)).alloc (.cells #[.int .i64 x.q.a, .int .i64 x.q.b, .int .i64 x.q.c, .int .i64 x.q.d, .int .i64 x.k] 38)) := (((Below.refl _ _).alloc (Nat.le_refl _) _).alloc (by first | (simp; done) | (simp; omega) | omega) _)
  have hA0 : Blk ((w.alloc (.cells #[.slice (some ⟨b, off, none⟩) h cap] 31)).alloc (.cells #[.int .i64 x.q.a, .int .i64 x.q.b, .int .i64 x.q.c, .int .i64 x.q.d, .int .i64 x.k] 38)) w.heap.size 31 #[.slice (some ⟨b, off, none⟩) h cap] := (Blk.new' _ _ (by simp)).alloc _
  have hX0 : Blk ((w.alloc (.cells #[.slice (some ⟨b, off, none⟩) h cap] 31)).alloc (.cells #[.int .i64 x.q.a, .int .i64 x.q.b, .int .i64 x.q.c, .int .i64 x.q.d, .int .i64 x.k] 38)) (w.heap.size + 1) 38 #[.int .i64 x.q.a, .int .i64 x.q.b, .int .i64 x.q.c, .int .i64 x.q.d, .int .i64 x.k] := Blk.new' _ _ (by simp)
  go_wp2_with (first
    | (go_at_call 39; refine (f39_mat cap (hM0.below hb0) (fun i j hi hj => (hM i j hi hj).1)).mono ?_; rintro e w1 ⟨rfl, hb1⟩; have hA1 := hA0.below hb1; have hX1 := hX0.below hb1; have hb01 := bt hb0 hb1; have cX1 := hX1.cells; have cA1 := hA1.cells)
    | (go_at_call 71; refine (f71_any x.q x.k _ hx.1).mono ?_; rintro e w2 ⟨rfl, hb2⟩; have hA2 := hA1.below hb2; have hX2 := hX1.below hb2; have hb02 := bt hb01 hb2; have cX2 := hX2.cells; have cA2 := hA2.cells; have dM := keep_cell (p := ⟨b, off, none⟩) hb02 HM.lt (HM.row 0 HM.dims.1).1; clear cX1 cA1))
  have hel : ElemOn 72 #[.pointer (some ⟨w.heap.size, 0, none⟩), .pointer (some ⟨w.heap.size + 1, 0, none⟩)] h n (fun i j => (mulN (M i j) x).1) w2.drew.heap.size w2.drew := fun W i j y hi hj hy hW hs =>
    f72_any cap i j w.heap.size (w.heap.size + 1) x (M i j) y W (Nat.lt_of_lt_of_le hA2.lt hW.size) (Nat.lt_of_lt_of_le hX2.lt hW.size) (keep_cell (p := ⟨w.heap.size, 0, none⟩) hW hA2.lt (cA2 0))
      ⟨keep_cell (p := ⟨w.heap.size + 1, 0, none⟩) hW hX2.lt (cX2 0), keep_cell (p := ⟨w.heap.size + 1, 1, none⟩) hW hX2.lt (cX2 1), keep_cell (p := ⟨w.heap.size + 1, 2, none⟩) hW hX2.lt (cX2 2), keep_cell (p := ⟨w.heap.size + 1, 3, none⟩) hW hX2.lt (cX2 3), keep_cell (p := ⟨w.heap.size + 1, 4, none⟩) hW hX2.lt (cX2 4)⟩
      (hM0.below (bt hb02.drew hW)) hi hj rfl (hM i j hi hj) hx (show _ = _ from Prod.ext hy.out (he i j hi hj))
  refine Calm.wp_region_seg (by kernel_rfl) ?_
  refine Calm.seg (C := fun w' => w' = w2.drew) 0 7 (by decide) (by kernel_rfl) (rfl) ?_
  show Calm.WalkI _ _ _ _ _ _ [0, 1, 2, 3, 4, 5, 6] _ _
  refine Calm.calm_step rfl rfl rfl ?_; apply Exists.intro; refine ⟨fun w' hw' => ?_, ?_⟩
  · obtain rfl := hw'
    apply Calm.calm_value
    go_simp
    exact rfl
  intro K hK; go_simp; refine hK _ ?_; clear hK K
  refine Calm.calm_step rfl rfl rfl ?_; apply Exists.intro; refine ⟨fun w' hw' => ?_, ?_⟩
  · obtain rfl := hw'
    apply Calm.calm_value
    go_simp
    exact rfl
  intro K hK; go_simp; refine hK _ ?_; clear hK K
  refine Calm.calm_step rfl rfl rfl ?_; apply Exists.intro; refine ⟨fun w' hw' => ?_, ?_⟩
  · obtain rfl := hw'
    apply Calm.calm_value
    go_simp
    exact rfl
  intro K hK; go_simp; refine hK _ ?_; clear hK K
  refine Calm.calm_step rfl rfl rfl ?_; apply Exists.intro; refine ⟨fun w' hw' => ?_, ?_⟩
  · obtain rfl := hw'
    apply Calm.calm_value
    go_simp
    exact rfl
  intro K hK; go_simp; refine hK _ ?_; clear hK K
  refine Calm.calm_step rfl rfl rfl ?_; apply Exists.intro; refine ⟨fun w' hw' => ?_, ?_⟩
  · obtain rfl := hw'
    apply Calm.calm_value
    go_simp
    exact rfl
  intro K hK; go_simp; refine hK _ ?_; clear hK K
  refine Calm.calm_step rfl rfl rfl ?_; apply Exists.intro; refine ⟨fun w' hw' => ?_, ?_⟩
  · obtain rfl := hw'
    apply Calm.calm_value
    go_simp
    exact rfl
  intro K hK; go_simp; refine hK _ ?_; clear hK K
  refine Calm.calm_step rfl rfl rfl ?_; apply Exists.intro; refine ⟨fun w' hw' => ?_, ?_⟩
  · obtain rfl := hw'
    apply Calm.calm_value
    go_simp
    exact rfl
  intro K hK; go_simp; refine hK _ ?_; clear hK K
  refine Calm.seg_end_lit (fun wk hk => ?_)
  obtain rfl := hk
  refine Calm.any_call 7 rfl (by kernel_rfl) rfl (by go_simp; exact ⟨rfl, rfl⟩) ?_
  refine (f45_any 72 #[.pointer (some ⟨w.heap.size, 0, none⟩), .pointer (some ⟨w.heap.size + 1, 0, none⟩)] (enters_of Tryz.func72 (by kernel_rfl) rfl) h n (fun i j => (mulN (M i j) x).1) w2.drew HM.dims hel).mono ?_
  rintro e w8 ⟨rfl, hF8, hb8⟩
  refine ⟨_, rfl, fun K hK => ?_⟩
  go_simp
  refine hK _ ?_
  clear hK K
  refine Calm.seg (C := fun w' => w' = w8) 8 10 (by decide) (by kernel_rfl) (rfl) ?_
  show Calm.WalkI _ _ _ _ _ _ [8, 9] _ _
  refine Calm.calm_step rfl rfl rfl ?_; apply Exists.intro; refine ⟨fun w' hw' => ?_, ?_⟩
  · obtain rfl := hw'
    apply Calm.calm_value
    go_simp
    exact rfl
  intro K hK; go_simp; refine hK _ ?_; clear hK K
  refine Calm.calm_step rfl rfl rfl ?_; apply Exists.intro; refine ⟨fun w' hw' => ?_, ?_⟩
  · obtain rfl := hw'
    apply Calm.calm_value
    go_simp
    exact rfl
  intro K hK; go_simp; refine hK _ ?_; clear hK K
  refine Calm.seg_end_lit (fun wk hk => ?_)
  obtain rfl := hk
  refine Calm.any_tail 10 (by kernel_rfl) ?_
  simp only [List.drop_succ_cons, List.drop_zero]
  go_wp2
  exact bodyPost_ret (v := .tuple #[.slice (some ⟨w2.heap.size, 0, none⟩) h h, .int .i64 0]) (by simp [results, Tryz.results27, go_sem]) rfl ⟨w2.heap.size, hb02.size, rfl, hF8, bt hb02.drew hb8⟩
set_option maxHeartbeats 4000000 in
set_option maxRecDepth 100000 in
theorem f30_any {A : Option Addr} {h n : Nat} {M : Nat → Nat → Num} (cap : Nat) (w : World) (HM : Mat w A h n M) (hM : ∀ i j, i < h → j < n → (M i j).sm) (he : ∀ i j, i < h → j < n → (conjN (M i j)).2 = 0) :
    Calls Tryz.prog 30 #[.slice A h cap] w fun e w' => ∃ B, w.heap.size ≤ B ∧ e = .returned (.tuple #[.slice (some ⟨B, 0, none⟩) n n, .int .i64 0]) ∧ Filled w' B n h (fun i j => (conjN (M j i)).1) ∧ Below w.heap.size w w' := by
  have hM0 := HM
  obtain ⟨b, off, rb, ro, rc, rfl, HM⟩ := HM
  have hd1 : (0 : Int) < h := by have := HM.dims.1; omega
  have hd0 : 0 < h := HM.dims.1
  go_enter Tryz.func30, Tryz.ntmps30
  have hb0 : Below w.heap.size w (w.alloc (.cells #[.slice (some ⟨b, off, none⟩) h cap] 31)) := ((Below.refl _ _).alloc (Nat.le_refl _) _)
  have hA0 : Blk (w.alloc (.cells #[.slice (some ⟨b, off, none⟩) h cap] 31)) w.heap.size 31 #[.slice (some ⟨b, off, none⟩) h cap] := Blk.new' _ _ (by simp)
  go_wp2_with (first
    | (go_at_call 39; refine (f39_mat cap (hM0.below hb0) (fun i j hi hj => (hM i j hi hj).1)).mono ?_; rintro e w1 ⟨rfl, hb1⟩; have hA1 := hA0.below hb1; have hb01 := bt hb0 hb1; have cA1 := hA1.cells; have dM := keep_cell (p := ⟨b, off, none⟩) hb01 HM.lt (HM.row 0 HM.dims.1).1))
  have hel : ElemOn 75 #[.pointer (some ⟨w.heap.size, 0, none⟩)] n h (fun i j => (conjN (M j i)).1) w1.drew.heap.size w1.drew := fun W i j y hi hj hy hW hs =>
    f75_any cap i j w.heap.size (M j i) y W (Nat.lt_of_lt_of_le hA1.lt hW.size) (keep_cell (p := ⟨w.heap.size, 0, none⟩) hW hA1.lt (cA1 0))
      (hM0.below (bt hb01.drew hW)) hi hj rfl (hM j i hj hi) (show _ = _ from Prod.ext hy.out (he j i hj hi))
  refine Calm.wp_region_seg (by kernel_rfl) ?_
  refine Calm.seg (C := fun w' => w' = w1.drew) 0 7 (by decide) (by kernel_rfl) (rfl) ?_
  show Calm.WalkI _ _ _ _ _ _ [0, 1, 2, 3, 4, 5, 6] _ _
  refine Calm.calm_step rfl rfl rfl ?_; apply Exists.intro; refine ⟨fun w' hw' => ?_, ?_⟩
  · obtain rfl := hw'
    apply Calm.calm_value
    go_simp
    exact rfl
  intro K hK; go_simp; refine hK _ ?_; clear hK K
  refine Calm.calm_step rfl rfl rfl ?_; apply Exists.intro; refine ⟨fun w' hw' => ?_, ?_⟩
  · obtain rfl := hw'
    apply Calm.calm_value
    go_simp
    exact rfl
  intro K hK; go_simp; refine hK _ ?_; clear hK K
  refine Calm.calm_step rfl rfl rfl ?_; apply Exists.intro; refine ⟨fun w' hw' => ?_, ?_⟩
  · obtain rfl := hw'
    apply Calm.calm_value
    go_simp
    exact rfl
  intro K hK; go_simp; refine hK _ ?_; clear hK K
  refine Calm.calm_step rfl rfl rfl ?_; apply Exists.intro; refine ⟨fun w' hw' => ?_, ?_⟩
  · obtain rfl := hw'
    apply Calm.calm_value
    go_simp
    exact rfl
  intro K hK; go_simp; refine hK _ ?_; clear hK K
  refine Calm.calm_step rfl rfl rfl ?_; apply Exists.intro; refine ⟨fun w' hw' => ?_, ?_⟩
  · obtain rfl := hw'
    apply Calm.calm_value
    go_simp
    exact rfl
  intro K hK; go_simp; refine hK _ ?_; clear hK K
  refine Calm.calm_step rfl rfl rfl ?_; apply Exists.intro; refine ⟨fun w' hw' => ?_, ?_⟩
  · obtain rfl := hw'
    apply Calm.calm_value
    go_simp
    exact rfl
  intro K hK; go_simp; refine hK _ ?_; clear hK K
  refine Calm.calm_step rfl rfl rfl ?_; apply Exists.intro; refine ⟨fun w' hw' => ?_, ?_⟩
  · obtain rfl := hw'
    apply Calm.calm_value
    go_simp
    exact rfl
  intro K hK; go_simp; refine hK _ ?_; clear hK K
  refine Calm.seg_end_lit (fun wk hk => ?_)
  obtain rfl := hk
  refine Calm.any_call 7 rfl (by kernel_rfl) rfl (by go_simp; exact ⟨rfl, rfl⟩) ?_
  refine (f45_any 75 #[.pointer (some ⟨w.heap.size, 0, none⟩)] (enters_of Tryz.func75 (by kernel_rfl) rfl) n h (fun i j => (conjN (M j i)).1) w1.drew (by have := HM.dims; omega) hel).mono ?_
  rintro e w8 ⟨rfl, hF8, hb8⟩
  refine ⟨_, rfl, fun K hK => ?_⟩
  go_simp
  refine hK _ ?_
  clear hK K
  refine Calm.seg (C := fun w' => w' = w8) 8 10 (by decide) (by kernel_rfl) (rfl) ?_
  show Calm.WalkI _ _ _ _ _ _ [8, 9] _ _
  refine Calm.calm_step rfl rfl rfl ?_; apply Exists.intro; refine ⟨fun w' hw' => ?_, ?_⟩
  · obtain rfl := hw'
    apply Calm.calm_value
    go_simp
    exact rfl
  intro K hK; go_simp; refine hK _ ?_; clear hK K
  refine Calm.calm_step rfl rfl rfl ?_; apply Exists.intro; refine ⟨fun w' hw' => ?_, ?_⟩
  · obtain rfl := hw'
    apply Calm.calm_value
    go_simp
    exact rfl
  intro K hK; go_simp; refine hK _ ?_; clear hK K
  refine Calm.seg_end_lit (fun wk hk => ?_)
  obtain rfl := hk
  refine Calm.any_tail 10 (by kernel_rfl) ?_
  simp only [List.drop_succ_cons, List.drop_zero]
  go_wp2
  exact bodyPost_ret (v := .tuple #[.slice (some ⟨w1.heap.size, 0, none⟩) n n, .int .i64 0]) (by simp [results, Tryz.results30, go_sem]) rfl ⟨w1.heap.size, hb01.size, rfl, hF8, bt hb01.drew hb8⟩
end
end Go.Proofs.YtdfgmmjcamhdjaaGreatDoor
