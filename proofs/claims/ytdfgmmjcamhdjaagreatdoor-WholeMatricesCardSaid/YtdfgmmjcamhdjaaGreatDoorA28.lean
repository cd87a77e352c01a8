/- Steps to WholeMatrices' card; what each asks stands in it. -/
import Derived.WalkMore
import Derived.Test.YtdfgmmjcamhdjaaGreatDoorA05
import Derived.Test.YtdfgmmjcamhdjaaGreatDoorA27
set_option linter.unusedVariables false
set_option linter.unusedSimpArgs false
namespace Go.Proofs.YtdfgmmjcamhdjaaGreatDoor
open Go.RowKit Go.Shelf
attribute [local go_sem] Oper.semAt_some
attribute [local go_sem ↓] run_eqN
section
variable {P : Program} {b : Frame} {a : Act} {k : List Item} {cs : List Frame} {w : World} {Q : Exit → Act → World → Prop} {F : Fence} {n : Nat}
theorem stepR_scope {c : Code} : step P (lone (b.atR a (.code (.scope c) :: k)) cs w) = .next (lone (b.atR a (.code c :: .inScope c :: k)) cs w) :=
  step_lone_go (by simp [Go.stepG, Go.stepG.exec, Frame.atR])
theorem stepR_inScope {c : Code} : step P (lone (b.atR a (.inScope c :: k)) cs w) = .next (lone (b.atR a k) cs w) :=
  step_lone_go (by simp [Go.stepG, Go.stepG.exec, Frame.atR])
/-- a scope through which the run goes without a goto -/
theorem wpIn_scope {c : Code} (h : c.wpIn F n P (Exit.noGoto Q) a w) : (Code.scope c).wpIn F n P Q a w := by
  intro b k cs hro hb hr
  have h0 : (lone (b.atR a (.code (.scope c) :: k)) cs w).fenced P F := fenced_calm hb hr rfl
  obtain ⟨e, a₁, w₁, hq, harr⟩ := h b (.inScope c :: k) cs hro hb hr
  cases e with
  | normal => exact ⟨.normal, a₁, w₁, hq, .head h0 stepR_scope (StepsIn.trans harr (.one (fenced_calm hb hr rfl) stepR_inScope))⟩
  | exit id =>
    have hx : exitTo id (.inScope c :: k) = exitTo id k := by simp [exitTo]
    exact ⟨.exit id, a₁, w₁, hq, fun k' hk => .head h0 stepR_scope (harr.1 k' (by rw [hx]; exact hk)),
      fun hr' hk => let ⟨k₁, h1, h2⟩ := harr.2 hr' (by rw [hx]; exact hk); ⟨k₁, h1, .head h0 stepR_scope h2⟩⟩
  | goto l => exact hq.elim
  | ret => exact ⟨_, a₁, w₁, hq, .of_steps (.one h0 stepR_scope) harr⟩
  | panic ch => exact ⟨_, a₁, w₁, hq, .of_steps (.one h0 stepR_scope) harr⟩
  | outgrown => exact ⟨_, a₁, w₁, hq, .of_steps (.one h0 stepR_scope) harr⟩
end
theorem Blk.set5 {w : World} {b : Nat} {T : TypeId} {x0 x1 x2 x3 x4 : Value} (h : Blk w b T #[x0, x1, x2, x3, x4]) (v0 v1 v2 v3 v4 : Value) : Blk (((((w.setCell ⟨b, 0, none⟩ v0).setCell ⟨b, 1, none⟩ v1).setCell ⟨b, 2, none⟩ v2).setCell ⟨b, 3, none⟩ v3).setCell ⟨b, 4, none⟩ v4) b T #[v0, v1, v2, v3, v4] := ((((h.set 0 v0).set 1 v1).set 2 v2).set 3 v3).set 4 v4
theorem Blk.far5 {w : World} {b p : Nat} {T : TypeId} {cs : Array Value} (h : Blk w b T cs) (hp : b ≠ p) (v0 v1 v2 v3 v4 : Value) : Blk (((((w.setCell ⟨p, 0, none⟩ v0).setCell ⟨p, 1, none⟩ v1).setCell ⟨p, 2, none⟩ v2).setCell ⟨p, 3, none⟩ v3).setCell ⟨p, 4, none⟩ v4) b T cs := ((((h.far hp v0).far hp v1).far hp v2).far hp v3).far hp v4
theorem below_set5 {B : Nat} {a w : World} {p : Nat} (h : Below B a w) (hp : B ≤ p) (v0 v1 v2 v3 v4 : Value) : Below B a (((((w.setCell ⟨p, 0, none⟩ v0).setCell ⟨p, 1, none⟩ v1).setCell ⟨p, 2, none⟩ v2).setCell ⟨p, 3, none⟩ v3).setCell ⟨p, 4, none⟩ v4) := ((((h.setCell hp v0).setCell hp v1).setCell hp v2).setCell hp v3).setCell hp v4
theorem keepsFrom_set5 (B : Nat) (w : World) (p : Nat) (v0 v1 v2 v3 v4 : Value) : KeepsFrom B w (((((w.setCell ⟨p, 0, none⟩ v0).setCell ⟨p, 1, none⟩ v1).setCell ⟨p, 2, none⟩ v2).setCell ⟨p, 3, none⟩ v3).setCell ⟨p, 4, none⟩ v4) :=
  (((((KeepsOthers.setCell _ _ _).from B).trans ((KeepsOthers.setCell _ _ _).from B)).trans ((KeepsOthers.setCell _ _ _).from B)).trans ((KeepsOthers.setCell _ _ _).from B)).trans ((KeepsOthers.setCell _ _ _).from B)
theorem keepsBlk_set5 {b p : Nat} {w : World} (h : b ≠ p) (v0 v1 v2 v3 v4 : Value) : KeepsBlk b w (((((w.setCell ⟨p, 0, none⟩ v0).setCell ⟨p, 1, none⟩ v1).setCell ⟨p, 2, none⟩ v2).setCell ⟨p, 3, none⟩ v3).setCell ⟨p, 4, none⟩ v4) := fun i v hv =>
  keep_set (p := ⟨b, i, none⟩) h (keep_set (p := ⟨b, i, none⟩) h (keep_set (p := ⟨b, i, none⟩) h (keep_set (p := ⟨b, i, none⟩) h (keep_set (p := ⟨b, i, none⟩) h hv))))
/-- what the rounds of an outer loop have collected -/
def colls (Ds : List Nat) : List Deferred := Ds.map fun D => { target := .collected D, args := #[] }
def CollOk (Ds : List Nat) (W : World) : Prop := ∀ D ∈ Ds, W.heap[D]? = some (.deferred (some []))
theorem leaves_all {F : Fence} {n : Nat} {P : Program} {fn : Func} {tmps : Array Value} {R : Ending → World → Prop} {B : Nat} {w0 : World} (hB : B ≤ w0.heap.size) (hfin : ∀ W, Below B w0 W → LeavesIn F n P fn tmps R [] .returning W) :
    ∀ (Ds : List Nat) (W : World), Below B w0 W → Ds.Nodup → (∀ D ∈ Ds, w0.heap.size ≤ D) → CollOk Ds W → LeavesInM F n P fn tmps R (colls Ds) .returning W
  | [], W, hb, _, _, _ => hfin W hb
  | D :: Ds, W, hb, hnd, hge, hc => by
    have hK := hc D (by simp)
    refine ⟨by simp, .inl ⟨D, _, rfl, run_takeDeferred hK, ?_⟩⟩
    rw [List.nodup_cons] at hnd
    refine leaves_all hB hfin Ds _ (hb.trans (belowK_b (w := w0) hB _ D _ _ (hge D (by simp)) hK rfl rfl)) hnd.2 (fun D' h => hge D' (by simp [h])) (fun D' h => ?_)
    have hne : D' ≠ D := fun e => hnd.1 (e ▸ h)
    rw [World.putObj_heap_other hne]
    exact hc D' (by simp [h])
theorem coll_own {α : Type} (B : Nat) (Ds : List Nat) (hlt : ∀ D ∈ Ds, D < B) : OwnFrom B (fun (_ : List α) W => CollOk Ds W) := fun _ X Y row hs hg hr D hD => by
  have h1 := hs D hD
  refine (hg.block D (Array.getElem?_eq_some_iff.1 h1).1 (fun e => ?_)).trans h1
  have := (hr D e.symm).1
  have := hlt D hD
  omega
set_option maxHeartbeats 4000000 in
set_option maxRecDepth 100000 in
theorem f29_any {A A' : Option Addr} {h n : Nat} {M N : Nat → Nat → Num} (cap cap' t : Nat) (w : World) (ht : t < 8) (HM : Mat w A h n M) (HN : Mat w A' h n N) (hM : ∀ i j, i < h → j < n → (M i j).ok) (hN : ∀ i j, i < h → j < n → (N i j).sm)
    (hyes : ∀ i j, i < h → j < n → leastOf (M i j) = (mulN (Num.w t) (N i j)).1) (hno : ∀ k, k < t → ∃ i j, i < h ∧ j < n ∧ leastOf (M i j) ≠ (mulN (Num.w k) (N i j)).1) :
    Calls Tryz.prog 29 #[.slice A h cap, .slice A' h cap'] w fun e w' => e = .returned (.tuple #[.int .i64 t, .int .i64 0]) ∧ Below w.heap.size w w' := by
  have H53 : ∀ W b, Below w.heap.size w W → Blk W b 31 #[.slice A h cap, .slice A' h cap'] → Calls Tryz.prog 53 #[.slice (some ⟨b, 0, none⟩) 2 2] W fun e w' => e = .returned (.int .i64 0) ∧ Below W.heap.size W w' := fun W b hb hB => f53_two cap cap' hB (HM.below hb) (HN.below hb) hM (fun i j hi hj => (hN i j hi hj).1)
  have H73 : ∀ W, Below w.heap.size w W → Calls Tryz.prog 73 #[.slice A h cap, .slice A' h cap'] W fun e w' => e = .returned (.bool true) ∧ Below W.heap.size W w' := fun W hb => f73_mat cap cap' (HM.below hb) (HN.below hb)
  have hM0 := HM
  have hN0 := HN
  obtain ⟨b, off, rb, ro, rc, rfl, HM⟩ := HM
  obtain ⟨d1, d2, d3, d4⟩ := HM.dims
  have hlb := HM.lt
  have hb0 : Below w.heap.size w ((w.alloc (.cells #[.slice (some ⟨b, off, none⟩) h cap] 31)).alloc (.cells #[.slice A' h cap'] 31)) := ((Below.refl _ _).alloc (Nat.le_refl _) _).alloc (by simp) _
  have hA0 : Blk ((w.alloc (.cells #[.slice (some ⟨b, off, none⟩) h cap] 31)).alloc (.cells #[.slice A' h cap'] 31)) w.heap.size 31 #[.slice (some ⟨b, off, none⟩) h cap] := (Blk.new _ _ _).alloc _
  have hC0 : Blk ((w.alloc (.cells #[.slice (some ⟨b, off, none⟩) h cap] 31)).alloc (.cells #[.slice A' h cap'] 31)) (w.heap.size + 1) 31 #[.slice A' h cap'] := Blk.new' _ _ (by simp)
  obtain ⟨w0, hw0⟩ : ∃ w0, (w.alloc (.cells #[.slice (some ⟨b, off, none⟩) h cap] 31)).alloc (.cells #[.slice A' h cap'] 31) = w0 := ⟨_, rfl⟩
  rw [hw0] at hb0 hA0 hC0
  have cA := hA0.cells
  have cC := hC0.cells
  have hbS : Below w0.heap.size w0 (w0.alloc (.cells #[.slice (some ⟨b, off, none⟩) h cap, .slice A' h cap'] 31)) := (Below.refl _ _).alloc (Nat.le_refl _) _
  have hS := Blk.new w0 31 #[.slice (some ⟨b, off, none⟩) h cap, .slice A' h cap']
  have hYes : ∀ k, k < 8 → (∀ i j, i < h → j < n → leastOf (M i j) = (mulN (Num.w k) (N i j)).1) → ¬ k < t := fun k _ hall hk => by
    obtain ⟨i, j, hi, hj, hne⟩ := hno k hk
    exact hne (hall i j hi hj)
  have HNo := Lib.hid hyes
  clear hno hyes
  have H61 : ∀ (k : Nat) (o : Num), Num.w k = o → k < 8 → ∀ W, Calls Tryz.prog 61 #[.int .i64 k] W fun e w' => e = .returned (.agg #[.int .i64 o.q.a, .int .i64 o.q.b, .int .i64 o.q.c, .int .i64 o.q.d, .int .i64 o.k]) ∧ Below W.heap.size W w' := fun k o ho hk W => by
    subst ho
    exact f61_any k W hk
  have hwsm : ∀ k, k < 8 → (Num.w k).sm := by
    have : ∀ a, a < 8 → okN (Num.w a).q (Num.w a).k ∧ (Num.w a).k ≤ 30 ∧ (Num.w a).q.Le 536870912 := by
      unfold okN Q.Le
      decide +kernel
    exact this
  refine (callsIn_wide (n := 6)).1 ?_
  refine callsIn_of_wp_marks Tryz.func29 rfl trivial ?_ rfl
  simp only [Tryz.ntmps29, List.size_toArray, List.length_cons, List.length_nil, Nat.reduceAdd, Nat.reduceSub, Array.replicate_succ, Array.replicate_zero, List.push_toArray, List.append_toArray, List.nil_append, List.cons_append]
  gi_wp2
  refine wpIn_scope ?_
  gi_wp2_with (first
    | (refine ⟨trivial, ?_⟩; gi_at_call 53; refine (callsIn_wide.2 (H53 _ _ (bt hb0 hbS) hS)).mono ?_; clear H53; rintro e w1 ⟨rfl, hb1⟩; have hb01 := bt hbS hb1; have hA1 := hA0.below hb01; have hC1 := hC0.below hb01; have hB1 := bt hb0 hb01; have cA1 := hA1.cells; have cC1 := hC1.cells)
    | (refine ⟨trivial, ?_⟩; gi_at_call 73; refine (callsIn_wide.2 (H73 _ hB1)).mono ?_; clear H73; rintro e w2 ⟨rfl, hb2⟩; have hA2 := hA1.below hb2; have hC2 := hC1.below hb2; have hB2 := bt hB1 hb2))
  refine wpIn_label ?_
  gi_wp2
  clear hb1 hb01 hA1 hC1 hB1 cA1 cC1 hA0 hC0 cA cC hS hbS
  refine wpIn_loop (fun a W => ∃ (k : Nat) (Ds : List Nat) (u7 u8 u16 u26 u27 u28 u29 u30 u31 u52 : Value), k ≤ t ∧ a = { tmps := #[.slice (some ⟨b, off, none⟩) h cap, .slice A' h cap', .pointer (some ⟨w.heap.size, 0, none⟩), .pointer (some ⟨w.heap.size + 1, 0, none⟩), .int .i64 0, .int .i64 0, .int .i64 0, u7, u8, undef, undef, undef, undef, undef, .slice (some ⟨b, off, none⟩) h cap, .slice A' h cap', u16, .int .i64 0, .int .i64 0, .bool false, undef, .slice (some ⟨b, off, none⟩) h cap, .slice A' h cap', .bool true, .bool false, .int .i64 (k : Int), u26, u27, u28, u29, u30, u31, undef, undef, undef, undef, undef, undef, undef, undef, undef, undef, undef, undef, undef, undef, undef, undef, undef, undef, undef, undef, u52], defers := colls Ds } ∧ Ds.Nodup ∧ (∀ D ∈ Ds, w0.heap.size ≤ D) ∧ CollOk Ds W ∧ Blk W w.heap.size 31 #[.slice (some ⟨b, off, none⟩) h cap] ∧ Blk W (w.heap.size + 1) 31 #[.slice A' h cap'] ∧ Below w.heap.size w W) (fun a _ => 8 - (intOf (a.eval (.tmp 25))).toNat) ⟨0, [], _, _, _, _, _, _, _, _, _, _, Nat.zero_le _, rfl, List.nodup_nil, fun D h => by simp at h, fun D h => by simp at h, hA2, hC2, hB2⟩ ?_
  rintro a W ⟨k, Ds, u7, u8, u16, u26, u27, u28, u29, u30, u31, u52, hk, rfl, hnd, hge, hco, hA, hC, hB⟩
  have hk8 : k < 8 := by omega
  obtain ⟨o, ho⟩ : ∃ o, Num.w k = o := ⟨_, rfl⟩
  have hosm := hwsm k hk8
  have H61 := H61 k o ho hk8
  rw [ho] at hosm
  have hs0 := hb0.size
  have hs00 : w0.heap.size = w.heap.size + 1 + 1 := by rw [← hw0]; simp
  gi_wp2_with (first
    | (refine ⟨trivial, ?_⟩; gi_at_call 61; refine (callsIn_wide.2 (H61 _)).mono ?_; clear H61; rintro e w3 ⟨rfl, hb3⟩; have hbO : Below w3.heap.size w3 (w3.alloc (.cells #[.int .i64 o.q.a, .int .i64 o.q.b, .int .i64 o.q.c, .int .i64 o.q.d, .int .i64 o.k] 38)) := (Below.refl _ _).alloc (Nat.le_refl _) _; have hb3O := bt hb3 hbO; have hA3 := hA.below hb3O; have hC3 := hC.below hb3O; have hO3 := Blk.new w3 38 #[.int .i64 o.q.a, .int .i64 o.q.b, .int .i64 o.q.c, .int .i64 o.q.d, .int .i64 o.k]; have hB3 := bt hB hb3O; have hco3 : CollOk Ds (w3.alloc (.cells #[.int .i64 o.q.a, .int .i64 o.q.b, .int .i64 o.q.c, .int .i64 o.q.d, .int .i64 o.k] 38)) := fun D hD => (hb3O.block D (Array.getElem?_eq_some_iff.1 (hco D hD)).1).trans (hco D hD); have cA3 := hA3.cells; have cA3' := (hA.below hb3).cells; have lA3 := (hA.below hb3).lt)
    | (refine ⟨trivial, ?_⟩; gi_at_call 74; refine (f74_in _ _ trivial rfl _ _ _ _).mono ?_; rintro e w4 ⟨rfl, rfl⟩))
  have hS4 : Blk ((w3.alloc (.cells #[.int .i64 o.q.a, .int .i64 o.q.b, .int .i64 o.q.c, .int .i64 o.q.d, .int .i64 o.k] 38)).alloc (.cells #[.slice (some ⟨b, off, none⟩) h cap] 88)) (w3.heap.size + 1) 88 #[.slice (some ⟨b, off, none⟩) h cap] := Blk.new' _ _ (by simp)
  have hA4 := hA3.alloc (.cells #[.slice (some ⟨b, off, none⟩) h cap] 88)
  have hC4 := hC3.alloc (.cells #[.slice (some ⟨b, off, none⟩) h cap] 88)
  have hO4 := hO3.alloc (.cells #[.slice (some ⟨b, off, none⟩) h cap] 88)
  have hB4 := hB3.alloc hB3.size (.cells #[.slice (some ⟨b, off, none⟩) h cap] 88)
  have hco4 : CollOk Ds ((w3.alloc (.cells #[.int .i64 o.q.a, .int .i64 o.q.b, .int .i64 o.q.c, .int .i64 o.q.d, .int .i64 o.k] 38)).alloc (.cells #[.slice (some ⟨b, off, none⟩) h cap] 88)) := fun D hD => (((Below.refl _ _).alloc (Nat.le_refl _) _).block D (Array.getElem?_eq_some_iff.1 (hco3 D hD)).1).trans (hco3 D hD)
  have n1 : w.heap.size + 1 < w3.heap.size := Nat.lt_of_lt_of_le hC.lt hb3.size
  generalize (w3.alloc (.cells #[.int .i64 o.q.a, .int .i64 o.q.b, .int .i64 o.q.c, .int .i64 o.q.d, .int .i64 o.k] 38)).alloc (.cells #[.slice (some ⟨b, off, none⟩) h cap] 88) = W4 at hS4 hA4 hC4 hO4 hB4 hco4 ⊢
  obtain ⟨Ob, hOb⟩ : ∃ Ob, w3.heap.size = Ob := ⟨_, rfl⟩
  rw [hOb] at hS4 hO4 n1 ⊢
  obtain ⟨Bs, hBs⟩ : ∃ Bs, Ob + 1 = Bs := ⟨_, rfl⟩
  rw [hBs] at hS4 ⊢
  have n2 : Ob < Bs := by omega
  have hDlt : ∀ D ∈ Ds, D < W4.heap.size := fun D hD => (Array.getElem?_eq_some_iff.1 (hco4 D hD)).1
  clear hOb hBs hA3 hC3 hO3 hB3 hco3 hb3O hbO hb3 cA3 cA3' lA3 hA hC hB hco w3 W
  refine wpIn_rangeFunc_ownH rfl (by omega) (gf := 123) (lb := #[.pointer (some ⟨Bs, 0, none⟩)]) rfl trivial (enters_of Tryz.func123 (by kernel_rfl) rfl)
    (f123_stops (h := h) (n := n) Fence.wide _ trivial rfl (by omega) Bs b off cap (fun i => some ⟨rb i, ro i, none⟩) rc (by omega) (by omega) W4 hS4.lt (Nat.lt_of_lt_of_le hlb hB4.size) (hS4.cells 0) (fun i hi => keep_cell (p := ⟨b, off + i, none⟩) hB4 hlb (HM.row i hi).1)) keepsBlk_t keepsBlk_b (Below.refl _ _) (fun _ => rfl)
    (fun pre W => ((((Blk W w.heap.size 31 #[.slice (some ⟨b, off, none⟩) h cap] ∧ Blk W (w.heap.size + 1) 31 #[.slice A' h cap']) ∧ Blk W Ob 38 #[.int .i64 o.q.a, .int .i64 o.q.b, .int .i64 o.q.c, .int .i64 o.q.d, .int .i64 o.k]) ∧ CollOk Ds W) ∧ (∀ p ∈ pre, leastOf (M p.1.1 p.1.2) = (mulN o (N p.1.1 p.1.2)).1)) ∧ Below w.heap.size w W)
    (fun c pre W => (((Blk W w.heap.size 31 #[.slice (some ⟨b, off, none⟩) h cap] ∧ Blk W (w.heap.size + 1) 31 #[.slice A' h cap']) ∧ CollOk Ds W) ∧ (c = .exit 1 ∧ ∃ i j, i < h ∧ j < n ∧ leastOf (M i j) ≠ (mulN o (N i j)).1)) ∧ Below w.heap.size w W)
    (OwnFrom.and (fun s X Y row hs hg hr => ⟨⟨⟨⟨blk_own _ _ (fun (_ : Unit) => _) () X Y row hs.1.1.1.1 hg (fun r e => (hr r e).2), blk_own _ _ (fun (_ : Unit) => _) () X Y row hs.1.1.1.2 hg (fun r e => (hr r e).2)⟩, blk_own _ _ (fun (_ : Unit) => _) () X Y row hs.1.1.2 hg (fun r e => (hr r e).2)⟩, coll_own (α := Unit) _ Ds hDlt [] X Y row hs.1.2 hg hr⟩, hs.2⟩) (ownFrom_below (Nat.le_refl _) hB4.size))
    (fun c => OwnFrom.and (fun s X Y row hs hg hr => ⟨⟨⟨blk_own _ _ (fun (_ : Unit) => _) () X Y row hs.1.1.1 hg (fun r e => (hr r e).2), blk_own _ _ (fun (_ : Unit) => _) () X Y row hs.1.1.2 hg (fun r e => (hr r e).2)⟩, coll_own (α := Unit) _ Ds hDlt [] X Y row hs.1.2 hg hr⟩, hs.2⟩) (ownFrom_below (Nat.le_refl _) hB4.size))
    ⟨⟨⟨⟨⟨hA4, hC4⟩, hO4⟩, hco4⟩, fun p hp => (by simp at hp)⟩, hB4⟩
    (fun x a' W => ∃ Bx, w.heap.size + 1 < Bx ∧ Ob < Bx ∧ Blk W Bx 94 #[.int .i64 x.1.1, .int .i64 x.1.2] ∧ a' = { tmps := #[.slice (some ⟨b, off, none⟩) h cap, .slice A' h cap', .pointer (some ⟨w.heap.size, 0, none⟩), .pointer (some ⟨w.heap.size + 1, 0, none⟩), .int .i64 0, .int .i64 0, .int .i64 0, .int .i64 (k : Int), .pointer (some ⟨Ob, 0, none⟩), .pointer (some ⟨Bx, 0, none⟩), undef, undef, undef, undef, .slice (some ⟨b, off, none⟩) h cap, .slice A' h cap', u16, .int .i64 0, .int .i64 0, .bool false, undef, .slice (some ⟨b, off, none⟩) h cap, .slice A' h cap', .bool true, .bool false, .int .i64 (k : Int), .bool true, .int .i64 (k : Int), .int .i64 (k : Int), .agg #[.int .i64 o.q.a, .int .i64 o.q.b, .int .i64 o.q.c, .int .i64 o.q.d, .int .i64 o.k], .slice (some ⟨b, off, none⟩) h cap, .func (.func 123) #[] #[.pointer (some ⟨Bs, 0, none⟩)], .agg #[.int .i64 (x.1.1 : Int), .int .i64 (x.1.2 : Int)], undef, undef, undef, undef, undef, undef, undef, undef, undef, undef, undef, undef, undef, undef, undef, undef, undef, undef, undef, u52], defers := [] })
    (fun x a' _ X Y row hs hg hr => by obtain ⟨Bx, h1, h2, h3, h4⟩ := hs; exact ⟨Bx, h1, h2, blk_own Bx 94 (fun (_ : Unit) => #[.int .i64 x.1.1, .int .i64 x.1.2]) () X Y row h3 hg (fun r e => (hr r e).2), h4⟩)
    ?assign ?body ?done ?stop
  case assign =>
    rintro l pre x W K ⟨⟨⟨⟨⟨hA, hC⟩, hO⟩, hco⟩, hp⟩, hB⟩ hK
    simp only [encPl]
    gi_wp2
    exact hK _ _ ((KeepsOthers.alloc _ _).from _) (KeepsBlk.of_below ((Below.refl _ W).alloc (Nat.le_refl _) _) (Nat.lt_of_lt_of_le hlb hB.size)) ⟨⟨⟨⟨⟨hA.alloc _, hC.alloc _⟩, hO.alloc _⟩, fun D hD => (((Below.refl _ _).alloc (Nat.le_refl _) _).block D (Array.getElem?_eq_some_iff.1 (hco D hD)).1).trans (hco D hD)⟩, hp⟩, hB.alloc hB.size _⟩ ⟨W.heap.size, hC.lt, hO.lt, Blk.new W 94 _, rfl⟩
  case body =>
    rintro l pre ⟨⟨i, j⟩, hi, hj⟩ a' W hl ⟨r, hr⟩ ⟨⟨⟨⟨⟨hA, hC⟩, hO⟩, hco⟩, hp⟩, hB⟩ ⟨Bx, hBx, hOx, bX, rfl⟩ hlt
    dsimp only at *
    obtain ⟨x, hx⟩ : ∃ x, M i j = x := ⟨_, rfl⟩
    obtain ⟨y, hy⟩ : ∃ y, N i j = y := ⟨_, rfl⟩
    obtain ⟨u, hu⟩ : ∃ u, leastOf x = u := ⟨_, rfl⟩
    obtain ⟨⟨v, e0⟩, hv⟩ : ∃ v, mulN o y = v := ⟨_, rfl⟩
    have hxo := hM i j hi hj
    have hyo := hN i j hi hj
    rw [hx] at hxo
    rw [hy] at hyo
    have H1 := f48_mat cap i j x (hM0.below hB) hi hj hx
    have H2 : ∀ W', Below W.heap.size W W' → Calls Tryz.prog 48 #[.slice A' h cap', .agg #[.int .i64 i, .int .i64 j]] W' fun e w' => e = .returned (.agg #[.int .i64 y.q.a, .int .i64 y.q.b, .int .i64 y.q.c, .int .i64 y.q.d, .int .i64 y.k]) ∧ Below W'.heap.size W' w' := fun W' hb => f48_mat cap' i j y (HN.below (bt hB hb)) hi hj hy
    have H3 := fun W' => f47_r x u W' hxo hu
    have H4 := fun W' => f56_any o y W' hosm.1 hyo.1 hosm.2.2 hyo.2.2 v e0 hv
    have hEq : Hid (leastOf (M i j) = u) := by show _ = _; rw [hx]; exact hu
    have hEv : Hid ((mulN o (N i j)).1 = v) := by show _ = _; rw [hy, hv]
    have hdec : (u = v ∧ (u.q.a == v.q.a && (u.q.b == v.q.b && (u.q.c == v.q.c && (u.q.d == v.q.d && ((u.k : Int) == (v.k : Int)))))) = true) ∨ (u ≠ v ∧ (u.q.a == v.q.a && (u.q.b == v.q.b && (u.q.c == v.q.c && (u.q.d == v.q.d && ((u.k : Int) == (v.k : Int)))))) = false) := by
      by_cases e : u = v
      · subst e; exact .inl ⟨rfl, by simp⟩
      · refine .inr ⟨e, ?_⟩
        rw [Bool.eq_false_iff]
        intro hh
        simp only [Bool.and_eq_true, beq_iff_eq] at hh
        obtain ⟨⟨ua, ub, uc, ud⟩, uk⟩ := u
        obtain ⟨⟨va, vb, vc, vd⟩, vk⟩ := v
        obtain ⟨h1, h2, h3, h4, h5⟩ := hh
        dsimp only at h1 h2 h3 h4 h5
        subst h1 h2 h3 h4
        have : uk = vk := by omega
        subst this
        exact e rfl
    have cA := hA.cells
    have cX := bX.cells
    clear hx hy hu hv hxo hyo hM hN HN HNo hYes hwsm H61 hosm
    gi_wp2_with (first
      | (refine ⟨trivial, ?_⟩; gi_at_call 48; refine (CallsIn.inRound l (callsIn_wide.2 H1)).mono ?_; clear H1; rintro e w1 ⟨rfl, hb1⟩)
      | (refine ⟨trivial, ?_⟩; gi_at_call 47; refine (CallsIn.inRound l (callsIn_wide.2 (H3 _))).mono ?_; clear H3; rintro e w2 ⟨rfl, hb2⟩; have hb12 := bt hb1 hb2; have hbU : Below W.heap.size W (w2.alloc (.cells #[.int .i64 u.q.a, .int .i64 u.q.b, .int .i64 u.q.c, .int .i64 u.q.d, .int .i64 u.k] 38)) := hb12.alloc hb12.size _; have hU := Blk.new w2 38 #[.int .i64 u.q.a, .int .i64 u.q.b, .int .i64 u.q.c, .int .i64 u.q.d, .int .i64 u.k]))
    have hAu := hA.below hbU
    have hCu := hC.below hbU
    have hOu := hO.below hbU
    have hXu := bX.below hbU
    have hBu := bt hB hbU
    have hcou : CollOk Ds (w2.alloc (.cells #[.int .i64 u.q.a, .int .i64 u.q.b, .int .i64 u.q.c, .int .i64 u.q.d, .int .i64 u.k] 38)) := fun D hD => (hbU.block D (Array.getElem?_eq_some_iff.1 (hco D hD)).1).trans (hco D hD)
    have hKf := keepsFrom_below W4.heap.size hbU
    have hKb : KeepsBlk b W (w2.alloc (.cells #[.int .i64 u.q.a, .int .i64 u.q.b, .int .i64 u.q.c, .int .i64 u.q.d, .int .i64 u.k] 38)) := KeepsBlk.of_below hbU (Nat.lt_of_lt_of_le hlb hB.size)
    have H2 : ∀ W', Below (w2.alloc (.cells #[.int .i64 u.q.a, .int .i64 u.q.b, .int .i64 u.q.c, .int .i64 u.q.d, .int .i64 u.k] 38)).heap.size (w2.alloc (.cells #[.int .i64 u.q.a, .int .i64 u.q.b, .int .i64 u.q.c, .int .i64 u.q.d, .int .i64 u.k] 38)) W' → Calls Tryz.prog 48 #[.slice A' h cap', .agg #[.int .i64 i, .int .i64 j]] W' fun e w' => e = .returned (.agg #[.int .i64 y.q.a, .int .i64 y.q.b, .int .i64 y.q.c, .int .i64 y.q.d, .int .i64 y.k]) ∧ Below W'.heap.size W' w' := fun W' hb => H2 W' (bt hbU hb)
    generalize w2.alloc (.cells #[.int .i64 u.q.a, .int .i64 u.q.b, .int .i64 u.q.c, .int .i64 u.q.d, .int .i64 u.k] 38) = wu at hU hAu hCu hOu hXu hBu hcou hKf hKb H2 ⊢
    obtain ⟨Ub, hUb⟩ : ∃ Ub, w2.heap.size = Ub := ⟨_, rfl⟩
    rw [hUb] at hU ⊢
    clear hUb hbU hb1 hb2 hb12 hA hC hO bX cA cX
    refine Calm.wpIn_region_late 9 7 (by kernel_rfl) 9 [(8, 38, #[.int .i64 0, .int .i64 0, .int .i64 0, .int .i64 0, .int .i64 0])] (by kernel_rfl) (by kernel_rfl) (by kernel_rfl) (by decide) (fun w' => Below wu.heap.size wu w') (wu.heap.size) (fun _ h => h.size) (Below.refl _ _).drew ?_
    show Calm.WalkI _ _ _ _ _ _ [0, 1, 2, 3, 4, 5, 6, 7, 8] _ _
    iterate 3
      refine Calm.calm_step rfl rfl rfl ?_; apply Exists.intro; refine ⟨fun w' hw' => ?_, ?_⟩
      · have cO' := (hOu.below hw').cells
        have cC' := (hCu.below hw').cells
        have cX' := (hXu.below hw').cells
        apply Calm.calm_value
        go_simp
        exact rfl
      intro K hK; go_simp; refine hK _ ?_; clear hK K
    refine Calm.calm_step rfl rfl rfl ?_; apply Exists.intro; refine ⟨fun w' hw' => ?_, ?_⟩
    · have cO' := (hOu.below hw').cells
      have cC' := (hCu.below hw').cells
      have cX' := (hXu.below hw').cells
      apply Calm.calm_call
      · go_simp
        exact ⟨rfl, rfl⟩
      refine (H2 w' hw').mono ?_
      rintro e w'' ⟨rfl, hb⟩
      exact ⟨rfl, hb, bt hw' hb⟩
    intro K hK; go_simp; refine hK _ ?_; clear hK K
    refine Calm.calm_step rfl rfl rfl ?_; apply Exists.intro; refine ⟨fun w' hw' => ?_, ?_⟩
    · have cO' := (hOu.below hw').cells
      have cC' := (hCu.below hw').cells
      have cX' := (hXu.below hw').cells
      apply Calm.calm_call
      · go_simp
        exact ⟨rfl, rfl⟩
      refine (H4 w').mono ?_
      rintro e w'' ⟨rfl, hb⟩
      exact ⟨rfl, hb, bt hw' hb⟩
    intro K hK; go_simp; refine hK _ ?_; clear hK K
    iterate 3
      refine Calm.calm_step rfl rfl rfl ?_; apply Exists.intro; refine ⟨fun w' hw' => ?_, ?_⟩
      · have cO' := (hOu.below hw').cells
        have cC' := (hCu.below hw').cells
        have cX' := (hXu.below hw').cells
        apply Calm.calm_value
        go_simp
        exact rfl
      intro K hK; go_simp; refine hK _ ?_; clear hK K
    refine Calm.calm_alloc rfl rfl rfl (fun w' hw' => ?_) (fun B8 hB8 => ?_)
    · have cO' := (hOu.below hw').cells
      have cC' := (hCu.below hw').cells
      have cX' := (hXu.below hw').cells
      refine ⟨by go_simp, hw'.alloc hw'.size _⟩
    intro K hK; go_simp; refine hK _ ?_; clear hK K
    refine Calm.calm_endIn_lit (fun wk hk' => ?_)
    simp only [List.drop_succ_cons, List.drop_zero]
    obtain ⟨hBk, hfacts, _⟩ := hk'
    obtain ⟨h81, h82⟩ := hfacts 8 _ _ (by decide) rfl
    change wu.heap.size ≤ B8 at h81
    change Blk wk B8 _ _ at h82
    clear hfacts
    have c8 := h82.cells
    have f8 := h82.frozen
    have hU9 := hU.below hBk
    have lU := hU.lt
    have nU : Ub ≠ B8 := by omega
    have lC := hCu.lt
    have lO := hOu.lt
    rcases hdec with ⟨huv, hd⟩ | ⟨huv, hd⟩
    all_goals have HU := Lib.hid huv
    all_goals clear huv
    all_goals gi_wp2
    all_goals refine NoPanic.normal ?_
    all_goals have c9 := (h82.set5 (.int .i64 v.q.a) (.int .i64 v.q.b) (.int .i64 v.q.c) (.int .i64 v.q.d) (.int .i64 v.k)).cells
    all_goals have cU9 := (hU9.far5 nU (.int .i64 v.q.a) (.int .i64 v.q.b) (.int .i64 v.q.c) (.int .i64 v.q.d) (.int .i64 v.k)).cells
    all_goals have hA9 := (hAu.below hBk).far5 (p := B8) (by omega) (.int .i64 v.q.a) (.int .i64 v.q.b) (.int .i64 v.q.c) (.int .i64 v.q.d) (.int .i64 v.k)
    all_goals have hC9 := (hCu.below hBk).far5 (p := B8) (by omega) (.int .i64 v.q.a) (.int .i64 v.q.b) (.int .i64 v.q.c) (.int .i64 v.q.d) (.int .i64 v.k)
    all_goals have hO9 := (hOu.below hBk).far5 (p := B8) (by omega) (.int .i64 v.q.a) (.int .i64 v.q.b) (.int .i64 v.q.c) (.int .i64 v.q.d) (.int .i64 v.k)
    all_goals have hB9 := below_set5 (bt hBu hBk) (p := B8) (by omega) (.int .i64 v.q.a) (.int .i64 v.q.b) (.int .i64 v.q.c) (.int .i64 v.q.d) (.int .i64 v.k)
    all_goals have hco9 : CollOk Ds (((((wk.setCell ⟨B8, 0, none⟩ (.int .i64 v.q.a)).setCell ⟨B8, 1, none⟩ (.int .i64 v.q.b)).setCell ⟨B8, 2, none⟩ (.int .i64 v.q.c)).setCell ⟨B8, 3, none⟩ (.int .i64 v.q.d)).setCell ⟨B8, 4, none⟩ (.int .i64 v.k)) := fun D hD => ((keepsFrom_below 0 hBk).trans (keepsFrom_set5 0 wk B8 (.int .i64 v.q.a) (.int .i64 v.q.b) (.int .i64 v.q.c) (.int .i64 v.q.d) (.int .i64 v.k))).same D _ (Nat.zero_le _) (hcou D hD) rfl
    all_goals have hKf9 := (hKf.trans (keepsFrom_below _ hBk)).trans (keepsFrom_set5 _ wk B8 (.int .i64 v.q.a) (.int .i64 v.q.b) (.int .i64 v.q.c) (.int .i64 v.q.d) (.int .i64 v.k))
    all_goals have hKb9 := (hKb.trans (KeepsBlk.of_below hBk (Nat.lt_of_lt_of_le hlb hBu.size))).trans (keepsBlk_set5 (b := b) (p := B8) (w := wk) (by have := hBu.size; omega) (.int .i64 v.q.a) (.int .i64 v.q.b) (.int .i64 v.q.c) (.int .i64 v.q.d) (.int .i64 v.k))
    all_goals generalize (((((wk.setCell ⟨B8, 0, none⟩ (.int .i64 v.q.a)).setCell ⟨B8, 1, none⟩ (.int .i64 v.q.b)).setCell ⟨B8, 2, none⟩ (.int .i64 v.q.c)).setCell ⟨B8, 3, none⟩ (.int .i64 v.q.d)).setCell ⟨B8, 4, none⟩ (.int .i64 v.k)) = w9 at c9 cU9 hA9 hC9 hO9 hB9 hco9 hKf9 hKb9 ⊢
    all_goals gi_wp2
    · exact ⟨hKf9, hKb9, ⟨⟨⟨⟨hA9, hC9⟩, hO9⟩, hco9⟩, fun p hpp => (by
        rcases List.mem_append.1 hpp with hpp | hpp
        · exact hp p hpp
        · have e : p = ⟨(i, j), hi, hj⟩ := by simpa using hpp
          subst e
          show leastOf (M i j) = _
          rw [hEq.out, hEv.out, HU.out])⟩, hB9⟩
    · exact ⟨hKf9, ⟨⟨⟨hA9, hC9⟩, hco9⟩, rfl, i, j, hi, hj, by rw [hEq.out, hEv.out]; exact HU.out⟩, hB9⟩
  case done =>
    rintro D ys W hD hfull ⟨⟨⟨⟨⟨hA, hC⟩, hO⟩, hco⟩, hp⟩, hB⟩ hK
    have hkt : k = t := by
      have := hYes k hk8 (fun i j hi hj => by rw [ho]; exact hp ⟨(i, j), hi, hj⟩ (hfull _))
      omega
    subst hkt
    gi_wp2
    refine leaves_all (B := w.heap.size) (w0 := w) (Nat.le_refl _) (fun W' hb => ?_) (D :: Ds) W hB ?_ ?_ ?_
    · refine ⟨.tuple #[.int .i64 k, .int .i64 0], by simp [results, Tryz.results29, go_sem], rfl, hb⟩
    · exact List.nodup_cons.2 ⟨fun h => by have := hDlt D h; omega, hnd⟩
    · intro D' h
      rcases List.mem_cons.1 h with rfl | h
      · have := hB4.size; omega
      · have := hge D' h; omega
    · intro D' h
      rcases List.mem_cons.1 h with rfl | h
      · exact hK
      · exact hco D' h
  case stop =>
    rintro D c pre W hD _ ⟨⟨⟨⟨hA, hC⟩, hco⟩, rfl, i, j, hi, hj, hne⟩, hB⟩ hK
    have hkt : k < t := by
      rcases Nat.lt_or_ge k t with h | h
      · exact h
      · obtain rfl : k = t := by omega
        exact absurd (HNo.out i j hi hj) (by rw [ho]; exact hne)
    gi_wp2
    refine ⟨⟨k + 1, D :: Ds, _, _, _, _, _, _, _, _, _, _, by omega, (by rw [show ((k + 1 : Nat) : Int) = (k : Int) + 1 from by simp]; rfl), List.nodup_cons.2 ⟨fun h => by have := hDlt D h; omega, hnd⟩, ?_, ?_, hA, hC, hB⟩, ?_⟩
    · intro D' h
      rcases List.mem_cons.1 h with rfl | h
      · have := hS4.lt; omega
      · exact hge D' h
    · intro D' h
      rcases List.mem_cons.1 h with rfl | h
      · exact hK
      · exact hco D' h
    · show 8 - (intOf (.int .i64 ((k : Int) + 1))).toNat < 8 - (intOf (.int .i64 (k : Int))).toNat
      simp [intOf]
      omega
end Go.Proofs.YtdfgmmjcamhdjaaGreatDoor
