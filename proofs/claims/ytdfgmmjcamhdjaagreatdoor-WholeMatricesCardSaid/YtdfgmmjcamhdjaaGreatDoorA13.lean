/- Steps to WholeMatrices' card; what each asks stands in it. -/
import Derived.Test.YtdfgmmjcamhdjaaGreatDoorA12
set_option linter.unusedVariables false
set_option linter.unusedSimpArgs false
namespace Go.Proofs.YtdfgmmjcamhdjaaGreatDoor
open Go.RowKit
attribute [local go_sem ↓] Go.wp_at_zero Go.wp_at_succ
/-- what is promised of an operation's value -/
inductive Kind where
  | val (v : Value)
  | good (k : Nat)
  | sl (n : Nat) (cs : Array Value)
  | map0
  | ins (k : Nat)
  | same
def Kind.saysV (N0 : Nat) (v m : Value) (W : World) : Kind → Prop
  | .val u => v = u
  | .good k => GoodV k v W
  | .sl n cs => ∃ b, v = .slice (some ⟨b, 0, none⟩) n n ∧ Blk W b 38 cs
  | .map0 => MapAt N0 v W
  | .ins k => HasKey N0 k m W
  | .same => v = m
def Kind.says (N0 : Nat) (i : Nat) (vs : Nat → Value) (W : World) (k : Kind) : Prop := k.saysV N0 (vs i) (vs 0) W
def Kind.elder : Kind → Bool
  | .ins _ => true
  | .same => true
  | _ => false
def list52 : List Kind := [
  .map0,
  .good 1,
  .ins 1,
  .val (.agg #[.int .i64 0, .int .i64 0, .int .i64 0, .int .i64 0, .int .i64 0]),
  .val (.func (.func 61) #[] #[]),
  .val (.agg #[.int .i64 0, .int .i64 0, .int .i64 (-1), .int .i64 0, .int .i64 0]),
  .sl 2 #[.int .i64 0, .int .i64 0, .int .i64 0, .int .i64 0, .int .i64 0, .int .i64 0, .int .i64 0, .int .i64 (-1), .int .i64 0, .int .i64 0],
  .val (.func (.func 61) #[] #[]),
  .val (.agg #[.int .i64 0, .int .i64 0, .int .i64 1, .int .i64 0, .int .i64 0]),
  .val (.agg #[.int .i64 0, .int .i64 0, .int .i64 0, .int .i64 0, .int .i64 0]),
  .sl 2 #[.int .i64 0, .int .i64 0, .int .i64 1, .int .i64 0, .int .i64 0, .int .i64 0, .int .i64 0, .int .i64 0, .int .i64 0, .int .i64 0],
  .good 2,
  .ins 2,
  .val (.agg #[.int .i64 1, .int .i64 0, .int .i64 0, .int .i64 0, .int .i64 0]),
  .val (.func (.func 61) #[] #[]),
  .val (.agg #[.int .i64 (-1), .int .i64 0, .int .i64 0, .int .i64 0, .int .i64 0]),
  .sl 2 #[.int .i64 1, .int .i64 0, .int .i64 0, .int .i64 0, .int .i64 0, .int .i64 (-1), .int .i64 0, .int .i64 0, .int .i64 0, .int .i64 0],
  .good 3,
  .ins 3,
  .val (.agg #[.int .i64 1, .int .i64 0, .int .i64 0, .int .i64 0, .int .i64 1]),
  .val (.agg #[.int .i64 1, .int .i64 0, .int .i64 0, .int .i64 0, .int .i64 1]),
  .sl 2 #[.int .i64 1, .int .i64 0, .int .i64 0, .int .i64 0, .int .i64 1, .int .i64 1, .int .i64 0, .int .i64 0, .int .i64 0, .int .i64 1],
  .val (.agg #[.int .i64 1, .int .i64 0, .int .i64 0, .int .i64 0, .int .i64 1]),
  .val (.agg #[.int .i64 (-1), .int .i64 0, .int .i64 0, .int .i64 0, .int .i64 1]),
  .sl 2 #[.int .i64 1, .int .i64 0, .int .i64 0, .int .i64 0, .int .i64 1, .int .i64 (-1), .int .i64 0, .int .i64 0, .int .i64 0, .int .i64 1],
  .good 4,
  .ins 4,
  .val (.agg #[.int .i64 1, .int .i64 0, .int .i64 0, .int .i64 0, .int .i64 0]),
  .val (.func (.func 61) #[] #[]),
  .val (.agg #[.int .i64 0, .int .i64 0, .int .i64 1, .int .i64 0, .int .i64 0]),
  .sl 2 #[.int .i64 1, .int .i64 0, .int .i64 0, .int .i64 0, .int .i64 0, .int .i64 0, .int .i64 0, .int .i64 1, .int .i64 0, .int .i64 0],
  .good 5,
  .ins 5,
  .val (.agg #[.int .i64 1, .int .i64 0, .int .i64 0, .int .i64 0, .int .i64 0]),
  .val (.func (.func 61) #[] #[]),
  .val (.agg #[.int .i64 0, .int .i64 0, .int .i64 (-1), .int .i64 0, .int .i64 0]),
  .sl 2 #[.int .i64 1, .int .i64 0, .int .i64 0, .int .i64 0, .int .i64 0, .int .i64 0, .int .i64 0, .int .i64 (-1), .int .i64 0, .int .i64 0],
  .good 6,
  .ins 6,
  .val (.agg #[.int .i64 1, .int .i64 0, .int .i64 0, .int .i64 0, .int .i64 0]),
  .val (.func (.func 61) #[] #[]),
  .val (.agg #[.int .i64 0, .int .i64 1, .int .i64 0, .int .i64 0, .int .i64 0]),
  .sl 2 #[.int .i64 1, .int .i64 0, .int .i64 0, .int .i64 0, .int .i64 0, .int .i64 0, .int .i64 1, .int .i64 0, .int .i64 0, .int .i64 0],
  .good 7,
  .ins 7,
  .val (.agg #[.int .i64 1, .int .i64 0, .int .i64 0, .int .i64 0, .int .i64 0]),
  .val (.func (.func 61) #[] #[]),
  .val (.agg #[.int .i64 0, .int .i64 0, .int .i64 0, .int .i64 (-1), .int .i64 0]),
  .sl 2 #[.int .i64 1, .int .i64 0, .int .i64 0, .int .i64 0, .int .i64 0, .int .i64 0, .int .i64 0, .int .i64 0, .int .i64 (-1), .int .i64 0],
  .good 8,
  .ins 8,
  .good 9,
  .ins 9,
  .val (.agg #[.int .i64 1, .int .i64 0, .int .i64 0, .int .i64 0, .int .i64 0]),
  .val (.agg #[.int .i64 1, .int .i64 0, .int .i64 0, .int .i64 0, .int .i64 0]),
  .val (.agg #[.int .i64 1, .int .i64 0, .int .i64 0, .int .i64 0, .int .i64 0]),
  .val (.func (.func 61) #[] #[]),
  .val (.agg #[.int .i64 (-1), .int .i64 0, .int .i64 0, .int .i64 0, .int .i64 0]),
  .sl 4 #[.int .i64 1, .int .i64 0, .int .i64 0, .int .i64 0, .int .i64 0, .int .i64 1, .int .i64 0, .int .i64 0, .int .i64 0, .int .i64 0, .int .i64 1, .int .i64 0, .int .i64 0, .int .i64 0, .int .i64 0, .int .i64 (-1), .int .i64 0, .int .i64 0, .int .i64 0, .int .i64 0],
  .good 10,
  .ins 10,
  .good 11,
  .ins 11,
  .good 12,
  .ins 12,
  .same,
  .same]
def kinds52 (i : Nat) : Kind := list52.getD i (.val undef)
theorem says_grow {N0 : Nat} {v m : Value} {W W' : World} (g : Grow W W') : ∀ k : Kind, k.saysV N0 v m W → k.saysV N0 v m W'
  | .val _, h => h
  | .good _, h => GoodV.grow g h
  | .sl _ _, ⟨b, e, h⟩ => ⟨b, e, g.blk h⟩
  | .map0, h => MapAt.grow g h
  | .ins _, h => HasKey.grow g h
  | .same, h => h
theorem says_loc {N0 : Nat} {v m m' : Value} {W : World} : ∀ k : Kind, (k.elder = true → m = m') → k.saysV N0 v m W → k.saysV N0 v m' W
  | .val _, _, h => h
  | .good _, _, h => h
  | .sl _ _, _, h => h
  | .map0, _, h => h
  | .ins _, h0, h => by unfold Kind.saysV at *; rw [← h0 rfl]; exact h
  | .same, h0, h => by unfold Kind.saysV at *; rw [← h0 rfl]; exact h
def elders (ops : Array Oper) : Bool := (List.range 67).all fun i => !(kinds52 i).elder || (Calm.direct ops i).contains 0
theorem elders_spec {ops : Array Oper} (h : elders ops = true) {i : Nat} (hs : (kinds52 i).elder = true) : 0 ∈ Calm.direct ops i := by
  unfold elders at h
  simp only [List.all_eq_true, List.mem_range, Bool.or_eq_true] at h
  by_cases hi : i < 67
  · rcases h i hi with h | h
    · rw [hs] at h; cases h
    · simpa using h
  · have : kinds52 i = .val undef := by unfold kinds52; rw [List.getD_eq_getElem?_getD, List.getElem?_eq_none (by simpa [list52] using Nat.le_of_not_lt hi)]; rfl
    rw [this] at hs
    cases hs
def findR (n : Nat) : Code → Option (Array Oper)
  | .region id ops _ => if id = n then some ops else none
  | .seq a b => match findR n a with | some x => some x | none => findR n b
  | .block _ c => findR n c
  | _ => none
def Op52 (k : Nat) (o : Oper) : Prop := ((Tryz.f52.body.bind (findR 4)).getD #[])[k]? = some o
/-- the class of worlds -/
def C52 (w : World) (B2 B4 : Nat) (W : World) : Prop := Below w.heap.size w W ∧ Blk W B2 38 #[.int .i64 1, .int .i64 0, .int .i64 0, .int .i64 0, .int .i64 1] ∧ Blk W B4 38 #[.int .i64 (-1), .int .i64 0, .int .i64 0, .int .i64 0, .int .i64 1]
theorem C52.grow {w W W' : World} {B2 B4 : Nat} (h : C52 w B2 B4 W) (hb : Below W.heap.size W W') : C52 w B2 B4 W' := ⟨bt h.1 hb, h.2.1.below hb, h.2.2.below hb⟩
abbrev St52 (w : World) (B2 B4 : Nat) (m : Value) (k : Kind) (W : World) (r : Result Next) : Prop := Rely.StepR Tryz.prog (C52 w B2 B4) Grow (fun v W' => k.saysV w.heap.size v m W') W r
theorem mat2 {W : World} {b b1 b2 : Nat} {x00 x01 x10 x11 : Num} {M : Nat → Nat → Num} (h : Blk W b 72 #[.slice (some ⟨b1, 0, none⟩) 2 2, .slice (some ⟨b2, 0, none⟩) 2 2]) (h1 : Blk W b1 38 #[.int .i64 x00.q.a, .int .i64 x00.q.b, .int .i64 x00.q.c, .int .i64 x00.q.d, .int .i64 x00.k, .int .i64 x01.q.a, .int .i64 x01.q.b, .int .i64 x01.q.c, .int .i64 x01.q.d, .int .i64 x01.k]) (h2 : Blk W b2 38 #[.int .i64 x10.q.a, .int .i64 x10.q.b, .int .i64 x10.q.c, .int .i64 x10.q.d, .int .i64 x10.k, .int .i64 x11.q.a, .int .i64 x11.q.b, .int .i64 x11.q.c, .int .i64 x11.q.d, .int .i64 x11.k])
    (e00 : M 0 0 = x00) (e01 : M 0 1 = x01) (e10 : M 1 0 = x10) (e11 : M 1 1 = x11) : Mat W (some ⟨b, 0, none⟩) 2 2 M := by
  refine ⟨b, 0, fun i => if i = 0 then b1 else b2, fun _ => 0, fun _ => 2, rfl, by decide, h.lt, fun i hi => ?_, fun i j hi hj => ?_⟩
  · obtain rfl | rfl : i = 0 ∨ i = 1 := by omega
    · exact ⟨h.cells 0, h1.lt⟩
    · exact ⟨h.cells 1, h2.lt⟩
  · obtain rfl | rfl : i = 0 ∨ i = 1 := by omega
    all_goals obtain rfl | rfl : j = 0 ∨ j = 1 := by omega
    · rw [e00]; exact ⟨h1.cells 0, h1.cells 1, h1.cells 2, h1.cells 3, h1.cells 4⟩
    · rw [e01]; exact ⟨h1.cells 5, h1.cells 6, h1.cells 7, h1.cells 8, h1.cells 9⟩
    · rw [e10]; exact ⟨h2.cells 0, h2.cells 1, h2.cells 2, h2.cells 3, h2.cells 4⟩
    · rw [e11]; exact ⟨h2.cells 5, h2.cells 6, h2.cells 7, h2.cells 8, h2.cells 9⟩
theorem num2 {W : World} {b : Nat} {x y : Num} (h : Blk W b 38 #[.int .i64 x.q.a, .int .i64 x.q.b, .int .i64 x.q.c, .int .i64 x.q.d, .int .i64 x.k, .int .i64 y.q.a, .int .i64 y.q.b, .int .i64 y.q.c, .int .i64 y.q.d, .int .i64 y.k]) (i : Nat) (hi : i < 2) : NumAt W b (0 + i * 5) (two x y i) := by
  obtain rfl | rfl : i = 0 ∨ i = 1 := by omega
  · exact ⟨h.cells 0, h.cells 1, h.cells 2, h.cells 3, h.cells 4⟩
  · exact ⟨h.cells 5, h.cells 6, h.cells 7, h.cells 8, h.cells 9⟩
theorem num4 {W : World} {b : Nat} {x y z u : Num} {f : Nat → Num} (h : Blk W b 38 #[.int .i64 x.q.a, .int .i64 x.q.b, .int .i64 x.q.c, .int .i64 x.q.d, .int .i64 x.k, .int .i64 y.q.a, .int .i64 y.q.b, .int .i64 y.q.c, .int .i64 y.q.d, .int .i64 y.k, .int .i64 z.q.a, .int .i64 z.q.b, .int .i64 z.q.c, .int .i64 z.q.d, .int .i64 z.k, .int .i64 u.q.a, .int .i64 u.q.b, .int .i64 u.q.c, .int .i64 u.q.d, .int .i64 u.k]) (e0 : f 0 = x) (e1 : f 1 = y) (e2 : f 2 = z) (e3 : f 3 = u) (i : Nat) (hi : i < 4) : NumAt W b (0 + i * 5) (f i) := by
  obtain rfl | rfl | rfl | rfl : i = 0 ∨ i = 1 ∨ i = 2 ∨ i = 3 := by omega
  · rw [e0]; exact ⟨h.cells 0, h.cells 1, h.cells 2, h.cells 3, h.cells 4⟩
  · rw [e1]; exact ⟨h.cells 5, h.cells 6, h.cells 7, h.cells 8, h.cells 9⟩
  · rw [e2]; exact ⟨h.cells 10, h.cells 11, h.cells 12, h.cells 13, h.cells 14⟩
  · rw [e3]; exact ⟨h.cells 15, h.cells 16, h.cells 17, h.cells 18, h.cells 19⟩
set_option maxHeartbeats 1000000 in
set_option maxRecDepth 100000 in
theorem st52_0 {w W : World} {B2 B4 : Nat} {m : Value} {ρ : Operand → Value} (hC : C52 w B2 B4 W) (hc : ∀ v, ρ (.const v) = v) (hf : ∀ f, ρ (.func f) = .func (.func f) #[] #[]) :
    St52 w B2 B4 m (.map0) W ((execOp ρ { dst := some 15, op := Go.Op.makeMap 100 none, type := 100, pos := "", after := #[], guard := none }).run Tryz.prog W) := by
  obtain ⟨hW, h2, h4⟩ := hC
  have c2 := h2.cells
  have c4 := h4.cells
  have hCW : C52 w B2 B4 W := ⟨hW, h2, h4⟩
  have hba : ∀ o : Obj, Below W.heap.size W (W.alloc o) := fun o => (Below.refl _ _).alloc (Nat.le_refl _) _
  have hmm := @run_makeMap Tryz.prog
  go_simp
  exact ⟨hCW.grow (hba _), Grow.of_below (hba _), W.heap.size, #[], 0, rfl, hW.size, World.alloc_heap_new W _, fun e he => (by simp at he), fun e he => (by simp at he)⟩
set_option maxHeartbeats 1000000 in
set_option maxRecDepth 100000 in
theorem st52_1 {w W : World} {B2 B4 : Nat} {m : Value} {ρ : Operand → Value} (hC : C52 w B2 B4 W) (hc : ∀ v, ρ (.const v) = v) (hf : ∀ f, ρ (.func f) = .func (.func f) #[] #[]) :
    St52 w B2 B4 m (.good 1) W ((execOp ρ { dst := some 16, op := Go.Op.call { callee := Go.Callee.value (Go.Operand.func 87), args := #[Go.Operand.const (Go.Value.int Go.IntKind.i64 2), Go.Operand.func 100], argTypes := #[3, 26] }, type := 88, pos := "", after := #[], guard := none }).run Tryz.prog W) := by
  obtain ⟨hW, h2, h4⟩ := hC
  have c2 := h2.cells
  have c4 := h4.cells
  have hCW : C52 w B2 B4 W := ⟨hW, h2, h4⟩
  have hba : ∀ o : Obj, Below W.heap.size W (W.alloc o) := fun o => (Below.refl _ _).alloc (Nat.le_refl _) _
  go_simp
  exact (f87_any 100 #[] (enters_of Tryz.func100 (by kernel_rfl) rfl) 2 mvX W (by decide) (by decide) (fun W k hk => f100_any k W hk)).mono fun e w' ⟨he, hF, hb⟩ => ⟨_, he, hCW.grow hb, Grow.of_below hb, _, _, rfl, hF.mat (by decide)⟩
set_option maxHeartbeats 1000000 in
set_option maxRecDepth 100000 in
theorem st52_2 {w W : World} {B2 B4 : Nat} {m : Value} {ρ : Operand → Value} (hC : C52 w B2 B4 W) (hc : ∀ v, ρ (.const v) = v) (hf : ∀ f, ρ (.func f) = .func (.func f) #[] #[]) (e15 : ρ (.tmp 15) = m) (r15 : (.map0 : Kind).saysV w.heap.size m m W) (v16 : Value) (e16 : ρ (.tmp 16) = v16) (r16 : (.good 1 : Kind).saysV w.heap.size v16 m W) :
    St52 w B2 B4 m (.ins 1) W ((execOp ρ { dst := none, op := Go.Op.insert 100 (Go.Operand.tmp 15) (Go.Operand.const (Go.Value.int Go.IntKind.i64 1)) (Go.Operand.tmp 16), type := 0, pos := "", after := #[], guard := none }).run Tryz.prog W) := by
  obtain ⟨hW, h2, h4⟩ := hC
  have c2 := h2.cells
  have c4 := h4.cells
  have hCW : C52 w B2 B4 W := ⟨hW, h2, h4⟩
  have hba : ∀ o : Obj, Below W.heap.size W (W.alloc o) := fun o => (Below.refl _ _).alloc (Nat.le_refl _) _
  have r15' : MapAt w.heap.size m W := r15
  obtain ⟨b, es', c', hm, hN, hrun, hg, hkey, hlt⟩ := r15'.insert (k := 1) (by decide) (by decide) r16
  subst hm
  have hrun' : (Instr.mapUpdate 100 (.map (some b)) (.int .i64 1) v16).run Tryz.prog W = .ok () (W.putObj b (.map es' c')) := hrun
  go_simp
  exact ⟨⟨hW.grown (grownBy_putObj' W b _) hW.size (fun k e => by cases e; exact hN), hg.blk h2, hg.blk h4⟩, hg, hkey⟩
set_option maxHeartbeats 1000000 in
set_option maxRecDepth 100000 in
theorem st52_3 {w W : World} {B2 B4 : Nat} {m : Value} {ρ : Operand → Value} (hC : C52 w B2 B4 W) (hc : ∀ v, ρ (.const v) = v) (hf : ∀ f, ρ (.func f) = .func (.func f) #[] #[]) :
    St52 w B2 B4 m (.val (.agg #[.int .i64 0, .int .i64 0, .int .i64 0, .int .i64 0, .int .i64 0])) W ((execOp ρ { dst := some 17, op := Go.Op.build 38 #[], type := 38, pos := "", after := #[], guard := none }).run Tryz.prog W) := by
  obtain ⟨hW, h2, h4⟩ := hC
  have c2 := h2.cells
  have c4 := h4.cells
  have hCW : C52 w B2 B4 W := ⟨hW, h2, h4⟩
  have hba : ∀ o : Obj, Below W.heap.size W (W.alloc o) := fun o => (Below.refl _ _).alloc (Nat.le_refl _) _
  go_simp
  exact ⟨hCW, Grow.refl _, rfl⟩
set_option maxHeartbeats 1000000 in
set_option maxRecDepth 100000 in
theorem st52_4 {w W : World} {B2 B4 : Nat} {m : Value} {ρ : Operand → Value} (hC : C52 w B2 B4 W) (hc : ∀ v, ρ (.const v) = v) (hf : ∀ f, ρ (.func f) = .func (.func f) #[] #[]) (e1 : ρ (.tmp 1) = .func (.func 61) #[] #[]) :
    St52 w B2 B4 m (.val (.func (.func 61) #[] #[])) W ((execOp ρ { dst := some 18, op := Go.Op.move (Go.Operand.tmp 1), type := 109, pos := "", after := #[], guard := none }).run Tryz.prog W) := by
  obtain ⟨hW, h2, h4⟩ := hC
  have c2 := h2.cells
  have c4 := h4.cells
  have hCW : C52 w B2 B4 W := ⟨hW, h2, h4⟩
  have hba : ∀ o : Obj, Below W.heap.size W (W.alloc o) := fun o => (Below.refl _ _).alloc (Nat.le_refl _) _
  go_simp
  exact ⟨hCW, Grow.refl _, rfl⟩
set_option maxHeartbeats 1000000 in
set_option maxRecDepth 100000 in
theorem st52_5 {w W : World} {B2 B4 : Nat} {m : Value} {ρ : Operand → Value} (hC : C52 w B2 B4 W) (hc : ∀ v, ρ (.const v) = v) (hf : ∀ f, ρ (.func f) = .func (.func f) #[] #[]) (v18 : Value) (e18 : ρ (.tmp 18) = v18) (r18 : (.val (.func (.func 61) #[] #[]) : Kind).saysV w.heap.size v18 m W) :
    St52 w B2 B4 m (.val (.agg #[.int .i64 0, .int .i64 0, .int .i64 (-1), .int .i64 0, .int .i64 0])) W ((execOp ρ { dst := some 19, op := Go.Op.call { callee := Go.Callee.value (Go.Operand.tmp 18), args := #[Go.Operand.const (Go.Value.int Go.IntKind.i64 6)], argTypes := #[3] }, type := 38, pos := "", after := #[], guard := none }).run Tryz.prog W) := by
  obtain rfl := r18
  obtain ⟨hW, h2, h4⟩ := hC
  have c2 := h2.cells
  have c4 := h4.cells
  have hCW : C52 w B2 B4 W := ⟨hW, h2, h4⟩
  have hba : ∀ o : Obj, Below W.heap.size W (W.alloc o) := fun o => (Below.refl _ _).alloc (Nat.le_refl _) _
  have H : Calls Tryz.prog 61 #[.int .i64 6] W fun e w' => e = .returned (.agg #[.int .i64 0, .int .i64 0, .int .i64 (-1), .int .i64 0, .int .i64 0]) ∧ Below W.heap.size W w' := f61_any 6 W (by decide)
  go_simp
  exact H.mono fun e w' ⟨he, hb⟩ => ⟨_, he, hCW.grow hb, Grow.of_below hb, rfl⟩
set_option maxHeartbeats 1000000 in
set_option maxRecDepth 100000 in
theorem st52_6 {w W : World} {B2 B4 : Nat} {m : Value} {ρ : Operand → Value} (hC : C52 w B2 B4 W) (hc : ∀ v, ρ (.const v) = v) (hf : ∀ f, ρ (.func f) = .func (.func f) #[] #[]) (v17 : Value) (e17 : ρ (.tmp 17) = v17) (r17 : (.val (.agg #[.int .i64 0, .int .i64 0, .int .i64 0, .int .i64 0, .int .i64 0]) : Kind).saysV w.heap.size v17 m W) (v19 : Value) (e19 : ρ (.tmp 19) = v19) (r19 : (.val (.agg #[.int .i64 0, .int .i64 0, .int .i64 (-1), .int .i64 0, .int .i64 0]) : Kind).saysV w.heap.size v19 m W) :
    St52 w B2 B4 m (.sl 2 #[.int .i64 0, .int .i64 0, .int .i64 0, .int .i64 0, .int .i64 0, .int .i64 0, .int .i64 0, .int .i64 (-1), .int .i64 0, .int .i64 0]) W ((execOp ρ { dst := some 20, op := Go.Op.buildSlice 72 2 #[(0, Go.Operand.tmp 17), (1, Go.Operand.tmp 19)], type := 72, pos := "", after := #[], guard := none }).run Tryz.prog W) := by
  obtain rfl := r17
  obtain rfl := r19
  obtain ⟨hW, h2, h4⟩ := hC
  have c2 := h2.cells
  have c4 := h4.cells
  have hCW : C52 w B2 B4 W := ⟨hW, h2, h4⟩
  have hba : ∀ o : Obj, Below W.heap.size W (W.alloc o) := fun o => (Below.refl _ _).alloc (Nat.le_refl _) _
  go_simp
  exact ⟨hCW.grow (hba _), Grow.of_below (hba _), W.heap.size, rfl, Blk.new W 38 _⟩
set_option maxHeartbeats 1000000 in
set_option maxRecDepth 100000 in
theorem st52_7 {w W : World} {B2 B4 : Nat} {m : Value} {ρ : Operand → Value} (hC : C52 w B2 B4 W) (hc : ∀ v, ρ (.const v) = v) (hf : ∀ f, ρ (.func f) = .func (.func f) #[] #[]) (e1 : ρ (.tmp 1) = .func (.func 61) #[] #[]) :
    St52 w B2 B4 m (.val (.func (.func 61) #[] #[])) W ((execOp ρ { dst := some 21, op := Go.Op.move (Go.Operand.tmp 1), type := 109, pos := "", after := #[], guard := none }).run Tryz.prog W) := by
  obtain ⟨hW, h2, h4⟩ := hC
  have c2 := h2.cells
  have c4 := h4.cells
  have hCW : C52 w B2 B4 W := ⟨hW, h2, h4⟩
  have hba : ∀ o : Obj, Below W.heap.size W (W.alloc o) := fun o => (Below.refl _ _).alloc (Nat.le_refl _) _
  go_simp
  exact ⟨hCW, Grow.refl _, rfl⟩
set_option maxHeartbeats 1000000 in
set_option maxRecDepth 100000 in
theorem st52_8 {w W : World} {B2 B4 : Nat} {m : Value} {ρ : Operand → Value} (hC : C52 w B2 B4 W) (hc : ∀ v, ρ (.const v) = v) (hf : ∀ f, ρ (.func f) = .func (.func f) #[] #[]) (v21 : Value) (e21 : ρ (.tmp 21) = v21) (r21 : (.val (.func (.func 61) #[] #[]) : Kind).saysV w.heap.size v21 m W) :
    St52 w B2 B4 m (.val (.agg #[.int .i64 0, .int .i64 0, .int .i64 1, .int .i64 0, .int .i64 0])) W ((execOp ρ { dst := some 22, op := Go.Op.call { callee := Go.Callee.value (Go.Operand.tmp 21), args := #[Go.Operand.const (Go.Value.int Go.IntKind.i64 2)], argTypes := #[3] }, type := 38, pos := "", after := #[], guard := none }).run Tryz.prog W) := by
  obtain rfl := r21
  obtain ⟨hW, h2, h4⟩ := hC
  have c2 := h2.cells
  have c4 := h4.cells
  have hCW : C52 w B2 B4 W := ⟨hW, h2, h4⟩
  have hba : ∀ o : Obj, Below W.heap.size W (W.alloc o) := fun o => (Below.refl _ _).alloc (Nat.le_refl _) _
  have H : Calls Tryz.prog 61 #[.int .i64 2] W fun e w' => e = .returned (.agg #[.int .i64 0, .int .i64 0, .int .i64 1, .int .i64 0, .int .i64 0]) ∧ Below W.heap.size W w' := f61_any 2 W (by decide)
  go_simp
  exact H.mono fun e w' ⟨he, hb⟩ => ⟨_, he, hCW.grow hb, Grow.of_below hb, rfl⟩
set_option maxHeartbeats 1000000 in
set_option maxRecDepth 100000 in
theorem st52_9 {w W : World} {B2 B4 : Nat} {m : Value} {ρ : Operand → Value} (hC : C52 w B2 B4 W) (hc : ∀ v, ρ (.const v) = v) (hf : ∀ f, ρ (.func f) = .func (.func f) #[] #[]) :
    St52 w B2 B4 m (.val (.agg #[.int .i64 0, .int .i64 0, .int .i64 0, .int .i64 0, .int .i64 0])) W ((execOp ρ { dst := some 23, op := Go.Op.build 38 #[], type := 38, pos := "", after := #[], guard := none }).run Tryz.prog W) := by
  obtain ⟨hW, h2, h4⟩ := hC
  have c2 := h2.cells
  have c4 := h4.cells
  have hCW : C52 w B2 B4 W := ⟨hW, h2, h4⟩
  have hba : ∀ o : Obj, Below W.heap.size W (W.alloc o) := fun o => (Below.refl _ _).alloc (Nat.le_refl _) _
  go_simp
  exact ⟨hCW, Grow.refl _, rfl⟩
set_option maxHeartbeats 1000000 in
set_option maxRecDepth 100000 in
theorem st52_10 {w W : World} {B2 B4 : Nat} {m : Value} {ρ : Operand → Value} (hC : C52 w B2 B4 W) (hc : ∀ v, ρ (.const v) = v) (hf : ∀ f, ρ (.func f) = .func (.func f) #[] #[]) (v22 : Value) (e22 : ρ (.tmp 22) = v22) (r22 : (.val (.agg #[.int .i64 0, .int .i64 0, .int .i64 1, .int .i64 0, .int .i64 0]) : Kind).saysV w.heap.size v22 m W) (v23 : Value) (e23 : ρ (.tmp 23) = v23) (r23 : (.val (.agg #[.int .i64 0, .int .i64 0, .int .i64 0, .int .i64 0, .int .i64 0]) : Kind).saysV w.heap.size v23 m W) :
    St52 w B2 B4 m (.sl 2 #[.int .i64 0, .int .i64 0, .int .i64 1, .int .i64 0, .int .i64 0, .int .i64 0, .int .i64 0, .int .i64 0, .int .i64 0, .int .i64 0]) W ((execOp ρ { dst := some 24, op := Go.Op.buildSlice 72 2 #[(0, Go.Operand.tmp 22), (1, Go.Operand.tmp 23)], type := 72, pos := "", after := #[], guard := none }).run Tryz.prog W) := by
  obtain rfl := r22
  obtain rfl := r23
  obtain ⟨hW, h2, h4⟩ := hC
  have c2 := h2.cells
  have c4 := h4.cells
  have hCW : C52 w B2 B4 W := ⟨hW, h2, h4⟩
  have hba : ∀ o : Obj, Below W.heap.size W (W.alloc o) := fun o => (Below.refl _ _).alloc (Nat.le_refl _) _
  go_simp
  exact ⟨hCW.grow (hba _), Grow.of_below (hba _), W.heap.size, rfl, Blk.new W 38 _⟩
set_option maxHeartbeats 1000000 in
set_option maxRecDepth 100000 in
theorem st52_11 {w W : World} {B2 B4 : Nat} {m : Value} {ρ : Operand → Value} (hC : C52 w B2 B4 W) (hc : ∀ v, ρ (.const v) = v) (hf : ∀ f, ρ (.func f) = .func (.func f) #[] #[]) (v20 : Value) (e20 : ρ (.tmp 20) = v20) (r20 : (.sl 2 #[.int .i64 0, .int .i64 0, .int .i64 0, .int .i64 0, .int .i64 0, .int .i64 0, .int .i64 0, .int .i64 (-1), .int .i64 0, .int .i64 0] : Kind).saysV w.heap.size v20 m W) (v24 : Value) (e24 : ρ (.tmp 24) = v24) (r24 : (.sl 2 #[.int .i64 0, .int .i64 0, .int .i64 1, .int .i64 0, .int .i64 0, .int .i64 0, .int .i64 0, .int .i64 0, .int .i64 0, .int .i64 0] : Kind).saysV w.heap.size v24 m W) :
    St52 w B2 B4 m (.good 2) W ((execOp ρ { dst := some 25, op := Go.Op.buildSlice 88 2 #[(0, Go.Operand.tmp 20), (1, Go.Operand.tmp 24)], type := 88, pos := "", after := #[], guard := none }).run Tryz.prog W) := by
  obtain ⟨b20, rfl, s20⟩ := r20
  obtain ⟨b24, rfl, s24⟩ := r24
  obtain ⟨hW, h2, h4⟩ := hC
  have c2 := h2.cells
  have c4 := h4.cells
  have hCW : C52 w B2 B4 W := ⟨hW, h2, h4⟩
  have hba : ∀ o : Obj, Below W.heap.size W (W.alloc o) := fun o => (Below.refl _ _).alloc (Nat.le_refl _) _
  go_simp
  exact ⟨hCW.grow (hba _), Grow.of_below (hba _), W.heap.size, 0, rfl, mat2 (x00 := Num.zero) (x01 := (Num.w 6)) (x10 := (Num.w 2)) (x11 := Num.zero) (Blk.new W 72 _) (s20.alloc _) (s24.alloc _) rfl rfl rfl rfl⟩
set_option maxHeartbeats 1000000 in
set_option maxRecDepth 100000 in
theorem st52_12 {w W : World} {B2 B4 : Nat} {m : Value} {ρ : Operand → Value} (hC : C52 w B2 B4 W) (hc : ∀ v, ρ (.const v) = v) (hf : ∀ f, ρ (.func f) = .func (.func f) #[] #[]) (e15 : ρ (.tmp 15) = m) (r15 : (.map0 : Kind).saysV w.heap.size m m W) (v25 : Value) (e25 : ρ (.tmp 25) = v25) (r25 : (.good 2 : Kind).saysV w.heap.size v25 m W) :
    St52 w B2 B4 m (.ins 2) W ((execOp ρ { dst := none, op := Go.Op.insert 100 (Go.Operand.tmp 15) (Go.Operand.const (Go.Value.int Go.IntKind.i64 2)) (Go.Operand.tmp 25), type := 0, pos := "", after := #[], guard := none }).run Tryz.prog W) := by
  obtain ⟨hW, h2, h4⟩ := hC
  have c2 := h2.cells
  have c4 := h4.cells
  have hCW : C52 w B2 B4 W := ⟨hW, h2, h4⟩
  have hba : ∀ o : Obj, Below W.heap.size W (W.alloc o) := fun o => (Below.refl _ _).alloc (Nat.le_refl _) _
  have r15' : MapAt w.heap.size m W := r15
  obtain ⟨b, es', c', hm, hN, hrun, hg, hkey, hlt⟩ := r15'.insert (k := 2) (by decide) (by decide) r25
  subst hm
  have hrun' : (Instr.mapUpdate 100 (.map (some b)) (.int .i64 2) v25).run Tryz.prog W = .ok () (W.putObj b (.map es' c')) := hrun
  go_simp
  exact ⟨⟨hW.grown (grownBy_putObj' W b _) hW.size (fun k e => by cases e; exact hN), hg.blk h2, hg.blk h4⟩, hg, hkey⟩
set_option maxHeartbeats 1000000 in
set_option maxRecDepth 100000 in
theorem st52_13 {w W : World} {B2 B4 : Nat} {m : Value} {ρ : Operand → Value} (hC : C52 w B2 B4 W) (hc : ∀ v, ρ (.const v) = v) (hf : ∀ f, ρ (.func f) = .func (.func f) #[] #[]) :
    St52 w B2 B4 m (.val (.agg #[.int .i64 1, .int .i64 0, .int .i64 0, .int .i64 0, .int .i64 0])) W ((execOp ρ { dst := some 26, op := Go.Op.call { callee := Go.Callee.value (Go.Operand.func 65), args := #[], argTypes := #[] }, type := 38, pos := "", after := #[], guard := none }).run Tryz.prog W) := by
  obtain ⟨hW, h2, h4⟩ := hC
  have c2 := h2.cells
  have c4 := h4.cells
  have hCW : C52 w B2 B4 W := ⟨hW, h2, h4⟩
  have hba : ∀ o : Obj, Below W.heap.size W (W.alloc o) := fun o => (Below.refl _ _).alloc (Nat.le_refl _) _
  go_simp
  exact (f65_any W).mono fun e w' ⟨he, hb⟩ => ⟨_, he, hCW.grow hb, Grow.of_below hb, rfl⟩
set_option maxHeartbeats 1000000 in
set_option maxRecDepth 100000 in
theorem st52_14 {w W : World} {B2 B4 : Nat} {m : Value} {ρ : Operand → Value} (hC : C52 w B2 B4 W) (hc : ∀ v, ρ (.const v) = v) (hf : ∀ f, ρ (.func f) = .func (.func f) #[] #[]) (e1 : ρ (.tmp 1) = .func (.func 61) #[] #[]) :
    St52 w B2 B4 m (.val (.func (.func 61) #[] #[])) W ((execOp ρ { dst := some 27, op := Go.Op.move (Go.Operand.tmp 1), type := 109, pos := "", after := #[], guard := none }).run Tryz.prog W) := by
  obtain ⟨hW, h2, h4⟩ := hC
  have c2 := h2.cells
  have c4 := h4.cells
  have hCW : C52 w B2 B4 W := ⟨hW, h2, h4⟩
  have hba : ∀ o : Obj, Below W.heap.size W (W.alloc o) := fun o => (Below.refl _ _).alloc (Nat.le_refl _) _
  go_simp
  exact ⟨hCW, Grow.refl _, rfl⟩
set_option maxHeartbeats 1000000 in
set_option maxRecDepth 100000 in
theorem st52_15 {w W : World} {B2 B4 : Nat} {m : Value} {ρ : Operand → Value} (hC : C52 w B2 B4 W) (hc : ∀ v, ρ (.const v) = v) (hf : ∀ f, ρ (.func f) = .func (.func f) #[] #[]) (v27 : Value) (e27 : ρ (.tmp 27) = v27) (r27 : (.val (.func (.func 61) #[] #[]) : Kind).saysV w.heap.size v27 m W) :
    St52 w B2 B4 m (.val (.agg #[.int .i64 (-1), .int .i64 0, .int .i64 0, .int .i64 0, .int .i64 0])) W ((execOp ρ { dst := some 28, op := Go.Op.call { callee := Go.Callee.value (Go.Operand.tmp 27), args := #[Go.Operand.const (Go.Value.int Go.IntKind.i64 4)], argTypes := #[3] }, type := 38, pos := "", after := #[], guard := none }).run Tryz.prog W) := by
  obtain rfl := r27
  obtain ⟨hW, h2, h4⟩ := hC
  have c2 := h2.cells
  have c4 := h4.cells
  have hCW : C52 w B2 B4 W := ⟨hW, h2, h4⟩
  have hba : ∀ o : Obj, Below W.heap.size W (W.alloc o) := fun o => (Below.refl _ _).alloc (Nat.le_refl _) _
  have H : Calls Tryz.prog 61 #[.int .i64 4] W fun e w' => e = .returned (.agg #[.int .i64 (-1), .int .i64 0, .int .i64 0, .int .i64 0, .int .i64 0]) ∧ Below W.heap.size W w' := f61_any 4 W (by decide)
  go_simp
  exact H.mono fun e w' ⟨he, hb⟩ => ⟨_, he, hCW.grow hb, Grow.of_below hb, rfl⟩
set_option maxHeartbeats 1000000 in
set_option maxRecDepth 100000 in
theorem st52_16 {w W : World} {B2 B4 : Nat} {m : Value} {ρ : Operand → Value} (hC : C52 w B2 B4 W) (hc : ∀ v, ρ (.const v) = v) (hf : ∀ f, ρ (.func f) = .func (.func f) #[] #[]) (v26 : Value) (e26 : ρ (.tmp 26) = v26) (r26 : (.val (.agg #[.int .i64 1, .int .i64 0, .int .i64 0, .int .i64 0, .int .i64 0]) : Kind).saysV w.heap.size v26 m W) (v28 : Value) (e28 : ρ (.tmp 28) = v28) (r28 : (.val (.agg #[.int .i64 (-1), .int .i64 0, .int .i64 0, .int .i64 0, .int .i64 0]) : Kind).saysV w.heap.size v28 m W) :
    St52 w B2 B4 m (.sl 2 #[.int .i64 1, .int .i64 0, .int .i64 0, .int .i64 0, .int .i64 0, .int .i64 (-1), .int .i64 0, .int .i64 0, .int .i64 0, .int .i64 0]) W ((execOp ρ { dst := some 29, op := Go.Op.buildSlice 72 2 #[(0, Go.Operand.tmp 26), (1, Go.Operand.tmp 28)], type := 72, pos := "", after := #[], guard := none }).run Tryz.prog W) := by
  obtain rfl := r26
  obtain rfl := r28
  obtain ⟨hW, h2, h4⟩ := hC
  have c2 := h2.cells
  have c4 := h4.cells
  have hCW : C52 w B2 B4 W := ⟨hW, h2, h4⟩
  have hba : ∀ o : Obj, Below W.heap.size W (W.alloc o) := fun o => (Below.refl _ _).alloc (Nat.le_refl _) _
  go_simp
  exact ⟨hCW.grow (hba _), Grow.of_below (hba _), W.heap.size, rfl, Blk.new W 38 _⟩
set_option maxHeartbeats 1000000 in
set_option maxRecDepth 100000 in
theorem st52_17 {w W : World} {B2 B4 : Nat} {m : Value} {ρ : Operand → Value} (hC : C52 w B2 B4 W) (hc : ∀ v, ρ (.const v) = v) (hf : ∀ f, ρ (.func f) = .func (.func f) #[] #[]) (v29 : Value) (e29 : ρ (.tmp 29) = v29) (r29 : (.sl 2 #[.int .i64 1, .int .i64 0, .int .i64 0, .int .i64 0, .int .i64 0, .int .i64 (-1), .int .i64 0, .int .i64 0, .int .i64 0, .int .i64 0] : Kind).saysV w.heap.size v29 m W) :
    St52 w B2 B4 m (.good 3) W ((execOp ρ { dst := some 30, op := Go.Op.call { callee := Go.Callee.value (Go.Operand.func 101), args := #[Go.Operand.tmp 29], argTypes := #[72] }, type := 88, pos := "", after := #[], guard := none }).run Tryz.prog W) := by
  obtain ⟨b29, rfl, s29⟩ := r29
  obtain ⟨hW, h2, h4⟩ := hC
  have c2 := h2.cells
  have c4 := h4.cells
  have hCW : C52 w B2 B4 W := ⟨hW, h2, h4⟩
  have hba : ∀ o : Obj, Below W.heap.size W (W.alloc o) := fun o => (Below.refl _ _).alloc (Nat.le_refl _) _
  go_simp
  exact (f101_any 2 b29 0 2 (two (Num.w 0) (Num.w 4)) W (by decide) s29.lt (num2 (x := (Num.w 0)) (y := (Num.w 4)) s29)).mono fun e w' ⟨he, hF, hb⟩ => ⟨_, he, hCW.grow hb, Grow.of_below hb, _, _, rfl, hF.mat (by decide)⟩
set_option maxHeartbeats 1000000 in
set_option maxRecDepth 100000 in
theorem st52_18 {w W : World} {B2 B4 : Nat} {m : Value} {ρ : Operand → Value} (hC : C52 w B2 B4 W) (hc : ∀ v, ρ (.const v) = v) (hf : ∀ f, ρ (.func f) = .func (.func f) #[] #[]) (e15 : ρ (.tmp 15) = m) (r15 : (.map0 : Kind).saysV w.heap.size m m W) (v30 : Value) (e30 : ρ (.tmp 30) = v30) (r30 : (.good 3 : Kind).saysV w.heap.size v30 m W) :
    St52 w B2 B4 m (.ins 3) W ((execOp ρ { dst := none, op := Go.Op.insert 100 (Go.Operand.tmp 15) (Go.Operand.const (Go.Value.int Go.IntKind.i64 3)) (Go.Operand.tmp 30), type := 0, pos := "", after := #[], guard := none }).run Tryz.prog W) := by
  obtain ⟨hW, h2, h4⟩ := hC
  have c2 := h2.cells
  have c4 := h4.cells
  have hCW : C52 w B2 B4 W := ⟨hW, h2, h4⟩
  have hba : ∀ o : Obj, Below W.heap.size W (W.alloc o) := fun o => (Below.refl _ _).alloc (Nat.le_refl _) _
  have r15' : MapAt w.heap.size m W := r15
  obtain ⟨b, es', c', hm, hN, hrun, hg, hkey, hlt⟩ := r15'.insert (k := 3) (by decide) (by decide) r30
  subst hm
  have hrun' : (Instr.mapUpdate 100 (.map (some b)) (.int .i64 3) v30).run Tryz.prog W = .ok () (W.putObj b (.map es' c')) := hrun
  go_simp
  exact ⟨⟨hW.grown (grownBy_putObj' W b _) hW.size (fun k e => by cases e; exact hN), hg.blk h2, hg.blk h4⟩, hg, hkey⟩
set_option maxHeartbeats 1000000 in
set_option maxRecDepth 100000 in
theorem st52_19 {w W : World} {B2 B4 : Nat} {m : Value} {ρ : Operand → Value} (hC : C52 w B2 B4 W) (hc : ∀ v, ρ (.const v) = v) (hf : ∀ f, ρ (.func f) = .func (.func f) #[] #[]) (e2 : ρ (.tmp 2) = .pointer (some ⟨B2, 0, none⟩)) :
    St52 w B2 B4 m (.val (.agg #[.int .i64 1, .int .i64 0, .int .i64 0, .int .i64 0, .int .i64 1])) W ((execOp ρ { dst := some 31, op := Go.Op.load 38 (Go.Operand.tmp 2), type := 38, pos := "", after := #[], guard := none }).run Tryz.prog W) := by
  obtain ⟨hW, h2, h4⟩ := hC
  have c2 := h2.cells
  have c4 := h4.cells
  have hCW : C52 w B2 B4 W := ⟨hW, h2, h4⟩
  have hba : ∀ o : Obj, Below W.heap.size W (W.alloc o) := fun o => (Below.refl _ _).alloc (Nat.le_refl _) _
  go_simp
  exact ⟨hCW, Grow.refl _, rfl⟩
set_option maxHeartbeats 1000000 in
set_option maxRecDepth 100000 in
theorem st52_20 {w W : World} {B2 B4 : Nat} {m : Value} {ρ : Operand → Value} (hC : C52 w B2 B4 W) (hc : ∀ v, ρ (.const v) = v) (hf : ∀ f, ρ (.func f) = .func (.func f) #[] #[]) (e2 : ρ (.tmp 2) = .pointer (some ⟨B2, 0, none⟩)) :
    St52 w B2 B4 m (.val (.agg #[.int .i64 1, .int .i64 0, .int .i64 0, .int .i64 0, .int .i64 1])) W ((execOp ρ { dst := some 32, op := Go.Op.load 38 (Go.Operand.tmp 2), type := 38, pos := "", after := #[], guard := none }).run Tryz.prog W) := by
  obtain ⟨hW, h2, h4⟩ := hC
  have c2 := h2.cells
  have c4 := h4.cells
  have hCW : C52 w B2 B4 W := ⟨hW, h2, h4⟩
  have hba : ∀ o : Obj, Below W.heap.size W (W.alloc o) := fun o => (Below.refl _ _).alloc (Nat.le_refl _) _
  go_simp
  exact ⟨hCW, Grow.refl _, rfl⟩
set_option maxHeartbeats 1000000 in
set_option maxRecDepth 100000 in
theorem st52_21 {w W : World} {B2 B4 : Nat} {m : Value} {ρ : Operand → Value} (hC : C52 w B2 B4 W) (hc : ∀ v, ρ (.const v) = v) (hf : ∀ f, ρ (.func f) = .func (.func f) #[] #[]) (v31 : Value) (e31 : ρ (.tmp 31) = v31) (r31 : (.val (.agg #[.int .i64 1, .int .i64 0, .int .i64 0, .int .i64 0, .int .i64 1]) : Kind).saysV w.heap.size v31 m W) (v32 : Value) (e32 : ρ (.tmp 32) = v32) (r32 : (.val (.agg #[.int .i64 1, .int .i64 0, .int .i64 0, .int .i64 0, .int .i64 1]) : Kind).saysV w.heap.size v32 m W) :
    St52 w B2 B4 m (.sl 2 #[.int .i64 1, .int .i64 0, .int .i64 0, .int .i64 0, .int .i64 1, .int .i64 1, .int .i64 0, .int .i64 0, .int .i64 0, .int .i64 1]) W ((execOp ρ { dst := some 33, op := Go.Op.buildSlice 72 2 #[(0, Go.Operand.tmp 31), (1, Go.Operand.tmp 32)], type := 72, pos := "", after := #[], guard := none }).run Tryz.prog W) := by
  obtain rfl := r31
  obtain rfl := r32
  obtain ⟨hW, h2, h4⟩ := hC
  have c2 := h2.cells
  have c4 := h4.cells
  have hCW : C52 w B2 B4 W := ⟨hW, h2, h4⟩
  have hba : ∀ o : Obj, Below W.heap.size W (W.alloc o) := fun o => (Below.refl _ _).alloc (Nat.le_refl _) _
  go_simp
  exact ⟨hCW.grow (hba _), Grow.of_below (hba _), W.heap.size, rfl, Blk.new W 38 _⟩
set_option maxHeartbeats 1000000 in
set_option maxRecDepth 100000 in
theorem st52_22 {w W : World} {B2 B4 : Nat} {m : Value} {ρ : Operand → Value} (hC : C52 w B2 B4 W) (hc : ∀ v, ρ (.const v) = v) (hf : ∀ f, ρ (.func f) = .func (.func f) #[] #[]) (e2 : ρ (.tmp 2) = .pointer (some ⟨B2, 0, none⟩)) :
    St52 w B2 B4 m (.val (.agg #[.int .i64 1, .int .i64 0, .int .i64 0, .int .i64 0, .int .i64 1])) W ((execOp ρ { dst := some 34, op := Go.Op.load 38 (Go.Operand.tmp 2), type := 38, pos := "", after := #[], guard := none }).run Tryz.prog W) := by
  obtain ⟨hW, h2, h4⟩ := hC
  have c2 := h2.cells
  have c4 := h4.cells
  have hCW : C52 w B2 B4 W := ⟨hW, h2, h4⟩
  have hba : ∀ o : Obj, Below W.heap.size W (W.alloc o) := fun o => (Below.refl _ _).alloc (Nat.le_refl _) _
  go_simp
  exact ⟨hCW, Grow.refl _, rfl⟩
set_option maxHeartbeats 1000000 in
set_option maxRecDepth 100000 in
theorem st52_23 {w W : World} {B2 B4 : Nat} {m : Value} {ρ : Operand → Value} (hC : C52 w B2 B4 W) (hc : ∀ v, ρ (.const v) = v) (hf : ∀ f, ρ (.func f) = .func (.func f) #[] #[]) (e4 : ρ (.tmp 4) = .pointer (some ⟨B4, 0, none⟩)) :
    St52 w B2 B4 m (.val (.agg #[.int .i64 (-1), .int .i64 0, .int .i64 0, .int .i64 0, .int .i64 1])) W ((execOp ρ { dst := some 35, op := Go.Op.load 38 (Go.Operand.tmp 4), type := 38, pos := "", after := #[], guard := none }).run Tryz.prog W) := by
  obtain ⟨hW, h2, h4⟩ := hC
  have c2 := h2.cells
  have c4 := h4.cells
  have hCW : C52 w B2 B4 W := ⟨hW, h2, h4⟩
  have hba : ∀ o : Obj, Below W.heap.size W (W.alloc o) := fun o => (Below.refl _ _).alloc (Nat.le_refl _) _
  go_simp
  exact ⟨hCW, Grow.refl _, rfl⟩
set_option maxHeartbeats 1000000 in
set_option maxRecDepth 100000 in
theorem st52_24 {w W : World} {B2 B4 : Nat} {m : Value} {ρ : Operand → Value} (hC : C52 w B2 B4 W) (hc : ∀ v, ρ (.const v) = v) (hf : ∀ f, ρ (.func f) = .func (.func f) #[] #[]) (v34 : Value) (e34 : ρ (.tmp 34) = v34) (r34 : (.val (.agg #[.int .i64 1, .int .i64 0, .int .i64 0, .int .i64 0, .int .i64 1]) : Kind).saysV w.heap.size v34 m W) (v35 : Value) (e35 : ρ (.tmp 35) = v35) (r35 : (.val (.agg #[.int .i64 (-1), .int .i64 0, .int .i64 0, .int .i64 0, .int .i64 1]) : Kind).saysV w.heap.size v35 m W) :
    St52 w B2 B4 m (.sl 2 #[.int .i64 1, .int .i64 0, .int .i64 0, .int .i64 0, .int .i64 1, .int .i64 (-1), .int .i64 0, .int .i64 0, .int .i64 0, .int .i64 1]) W ((execOp ρ { dst := some 36, op := Go.Op.buildSlice 72 2 #[(0, Go.Operand.tmp 34), (1, Go.Operand.tmp 35)], type := 72, pos := "", after := #[], guard := none }).run Tryz.prog W) := by
  obtain rfl := r34
  obtain rfl := r35
  obtain ⟨hW, h2, h4⟩ := hC
  have c2 := h2.cells
  have c4 := h4.cells
  have hCW : C52 w B2 B4 W := ⟨hW, h2, h4⟩
  have hba : ∀ o : Obj, Below W.heap.size W (W.alloc o) := fun o => (Below.refl _ _).alloc (Nat.le_refl _) _
  go_simp
  exact ⟨hCW.grow (hba _), Grow.of_below (hba _), W.heap.size, rfl, Blk.new W 38 _⟩
set_option maxHeartbeats 1000000 in
set_option maxRecDepth 100000 in
theorem st52_25 {w W : World} {B2 B4 : Nat} {m : Value} {ρ : Operand → Value} (hC : C52 w B2 B4 W) (hc : ∀ v, ρ (.const v) = v) (hf : ∀ f, ρ (.func f) = .func (.func f) #[] #[]) (v33 : Value) (e33 : ρ (.tmp 33) = v33) (r33 : (.sl 2 #[.int .i64 1, .int .i64 0, .int .i64 0, .int .i64 0, .int .i64 1, .int .i64 1, .int .i64 0, .int .i64 0, .int .i64 0, .int .i64 1] : Kind).saysV w.heap.size v33 m W) (v36 : Value) (e36 : ρ (.tmp 36) = v36) (r36 : (.sl 2 #[.int .i64 1, .int .i64 0, .int .i64 0, .int .i64 0, .int .i64 1, .int .i64 (-1), .int .i64 0, .int .i64 0, .int .i64 0, .int .i64 1] : Kind).saysV w.heap.size v36 m W) :
    St52 w B2 B4 m (.good 4) W ((execOp ρ { dst := some 37, op := Go.Op.buildSlice 88 2 #[(0, Go.Operand.tmp 33), (1, Go.Operand.tmp 36)], type := 88, pos := "", after := #[], guard := none }).run Tryz.prog W) := by
  obtain ⟨b33, rfl, s33⟩ := r33
  obtain ⟨b36, rfl, s36⟩ := r36
  obtain ⟨hW, h2, h4⟩ := hC
  have c2 := h2.cells
  have c4 := h4.cells
  have hCW : C52 w B2 B4 W := ⟨hW, h2, h4⟩
  have hba : ∀ o : Obj, Below W.heap.size W (W.alloc o) := fun o => (Below.refl _ _).alloc (Nat.le_refl _) _
  go_simp
  exact ⟨hCW.grow (hba _), Grow.of_below (hba _), W.heap.size, 0, rfl, mat2 (x00 := Num.rt) (x01 := Num.rt) (x10 := Num.rt) (x11 := Num.mn) (Blk.new W 72 _) (s33.alloc _) (s36.alloc _) rfl rfl rfl rfl⟩
set_option maxHeartbeats 1000000 in
set_option maxRecDepth 100000 in
theorem st52_26 {w W : World} {B2 B4 : Nat} {m : Value} {ρ : Operand → Value} (hC : C52 w B2 B4 W) (hc : ∀ v, ρ (.const v) = v) (hf : ∀ f, ρ (.func f) = .func (.func f) #[] #[]) (e15 : ρ (.tmp 15) = m) (r15 : (.map0 : Kind).saysV w.heap.size m m W) (v37 : Value) (e37 : ρ (.tmp 37) = v37) (r37 : (.good 4 : Kind).saysV w.heap.size v37 m W) :
    St52 w B2 B4 m (.ins 4) W ((execOp ρ { dst := none, op := Go.Op.insert 100 (Go.Operand.tmp 15) (Go.Operand.const (Go.Value.int Go.IntKind.i64 4)) (Go.Operand.tmp 37), type := 0, pos := "", after := #[], guard := none }).run Tryz.prog W) := by
  obtain ⟨hW, h2, h4⟩ := hC
  have c2 := h2.cells
  have c4 := h4.cells
  have hCW : C52 w B2 B4 W := ⟨hW, h2, h4⟩
  have hba : ∀ o : Obj, Below W.heap.size W (W.alloc o) := fun o => (Below.refl _ _).alloc (Nat.le_refl _) _
  have r15' : MapAt w.heap.size m W := r15
  obtain ⟨b, es', c', hm, hN, hrun, hg, hkey, hlt⟩ := r15'.insert (k := 4) (by decide) (by decide) r37
  subst hm
  have hrun' : (Instr.mapUpdate 100 (.map (some b)) (.int .i64 4) v37).run Tryz.prog W = .ok () (W.putObj b (.map es' c')) := hrun
  go_simp
  exact ⟨⟨hW.grown (grownBy_putObj' W b _) hW.size (fun k e => by cases e; exact hN), hg.blk h2, hg.blk h4⟩, hg, hkey⟩
set_option maxHeartbeats 1000000 in
set_option maxRecDepth 100000 in
theorem st52_27 {w W : World} {B2 B4 : Nat} {m : Value} {ρ : Operand → Value} (hC : C52 w B2 B4 W) (hc : ∀ v, ρ (.const v) = v) (hf : ∀ f, ρ (.func f) = .func (.func f) #[] #[]) :
    St52 w B2 B4 m (.val (.agg #[.int .i64 1, .int .i64 0, .int .i64 0, .int .i64 0, .int .i64 0])) W ((execOp ρ { dst := some 38, op := Go.Op.call { callee := Go.Callee.value (Go.Operand.func 65), args := #[], argTypes := #[] }, type := 38, pos := "", after := #[], guard := none }).run Tryz.prog W) := by
  obtain ⟨hW, h2, h4⟩ := hC
  have c2 := h2.cells
  have c4 := h4.cells
  have hCW : C52 w B2 B4 W := ⟨hW, h2, h4⟩
  have hba : ∀ o : Obj, Below W.heap.size W (W.alloc o) := fun o => (Below.refl _ _).alloc (Nat.le_refl _) _
  go_simp
  exact (f65_any W).mono fun e w' ⟨he, hb⟩ => ⟨_, he, hCW.grow hb, Grow.of_below hb, rfl⟩
set_option maxHeartbeats 1000000 in
set_option maxRecDepth 100000 in
theorem st52_28 {w W : World} {B2 B4 : Nat} {m : Value} {ρ : Operand → Value} (hC : C52 w B2 B4 W) (hc : ∀ v, ρ (.const v) = v) (hf : ∀ f, ρ (.func f) = .func (.func f) #[] #[]) (e1 : ρ (.tmp 1) = .func (.func 61) #[] #[]) :
    St52 w B2 B4 m (.val (.func (.func 61) #[] #[])) W ((execOp ρ { dst := some 39, op := Go.Op.move (Go.Operand.tmp 1), type := 109, pos := "", after := #[], guard := none }).run Tryz.prog W) := by
  obtain ⟨hW, h2, h4⟩ := hC
  have c2 := h2.cells
  have c4 := h4.cells
  have hCW : C52 w B2 B4 W := ⟨hW, h2, h4⟩
  have hba : ∀ o : Obj, Below W.heap.size W (W.alloc o) := fun o => (Below.refl _ _).alloc (Nat.le_refl _) _
  go_simp
  exact ⟨hCW, Grow.refl _, rfl⟩
set_option maxHeartbeats 1000000 in
set_option maxRecDepth 100000 in
theorem st52_29 {w W : World} {B2 B4 : Nat} {m : Value} {ρ : Operand → Value} (hC : C52 w B2 B4 W) (hc : ∀ v, ρ (.const v) = v) (hf : ∀ f, ρ (.func f) = .func (.func f) #[] #[]) (v39 : Value) (e39 : ρ (.tmp 39) = v39) (r39 : (.val (.func (.func 61) #[] #[]) : Kind).saysV w.heap.size v39 m W) :
    St52 w B2 B4 m (.val (.agg #[.int .i64 0, .int .i64 0, .int .i64 1, .int .i64 0, .int .i64 0])) W ((execOp ρ { dst := some 40, op := Go.Op.call { callee := Go.Callee.value (Go.Operand.tmp 39), args := #[Go.Operand.const (Go.Value.int Go.IntKind.i64 2)], argTypes := #[3] }, type := 38, pos := "", after := #[], guard := none }).run Tryz.prog W) := by
  obtain rfl := r39
  obtain ⟨hW, h2, h4⟩ := hC
  have c2 := h2.cells
  have c4 := h4.cells
  have hCW : C52 w B2 B4 W := ⟨hW, h2, h4⟩
  have hba : ∀ o : Obj, Below W.heap.size W (W.alloc o) := fun o => (Below.refl _ _).alloc (Nat.le_refl _) _
  have H : Calls Tryz.prog 61 #[.int .i64 2] W fun e w' => e = .returned (.agg #[.int .i64 0, .int .i64 0, .int .i64 1, .int .i64 0, .int .i64 0]) ∧ Below W.heap.size W w' := f61_any 2 W (by decide)
  go_simp
  exact H.mono fun e w' ⟨he, hb⟩ => ⟨_, he, hCW.grow hb, Grow.of_below hb, rfl⟩
set_option maxHeartbeats 1000000 in
set_option maxRecDepth 100000 in
theorem st52_30 {w W : World} {B2 B4 : Nat} {m : Value} {ρ : Operand → Value} (hC : C52 w B2 B4 W) (hc : ∀ v, ρ (.const v) = v) (hf : ∀ f, ρ (.func f) = .func (.func f) #[] #[]) (v38 : Value) (e38 : ρ (.tmp 38) = v38) (r38 : (.val (.agg #[.int .i64 1, .int .i64 0, .int .i64 0, .int .i64 0, .int .i64 0]) : Kind).saysV w.heap.size v38 m W) (v40 : Value) (e40 : ρ (.tmp 40) = v40) (r40 : (.val (.agg #[.int .i64 0, .int .i64 0, .int .i64 1, .int .i64 0, .int .i64 0]) : Kind).saysV w.heap.size v40 m W) :
    St52 w B2 B4 m (.sl 2 #[.int .i64 1, .int .i64 0, .int .i64 0, .int .i64 0, .int .i64 0, .int .i64 0, .int .i64 0, .int .i64 1, .int .i64 0, .int .i64 0]) W ((execOp ρ { dst := some 41, op := Go.Op.buildSlice 72 2 #[(0, Go.Operand.tmp 38), (1, Go.Operand.tmp 40)], type := 72, pos := "", after := #[], guard := none }).run Tryz.prog W) := by
  obtain rfl := r38
  obtain rfl := r40
  obtain ⟨hW, h2, h4⟩ := hC
  have c2 := h2.cells
  have c4 := h4.cells
  have hCW : C52 w B2 B4 W := ⟨hW, h2, h4⟩
  have hba : ∀ o : Obj, Below W.heap.size W (W.alloc o) := fun o => (Below.refl _ _).alloc (Nat.le_refl _) _
  go_simp
  exact ⟨hCW.grow (hba _), Grow.of_below (hba _), W.heap.size, rfl, Blk.new W 38 _⟩
set_option maxHeartbeats 1000000 in
set_option maxRecDepth 100000 in
theorem st52_31 {w W : World} {B2 B4 : Nat} {m : Value} {ρ : Operand → Value} (hC : C52 w B2 B4 W) (hc : ∀ v, ρ (.const v) = v) (hf : ∀ f, ρ (.func f) = .func (.func f) #[] #[]) (v41 : Value) (e41 : ρ (.tmp 41) = v41) (r41 : (.sl 2 #[.int .i64 1, .int .i64 0, .int .i64 0, .int .i64 0, .int .i64 0, .int .i64 0, .int .i64 0, .int .i64 1, .int .i64 0, .int .i64 0] : Kind).saysV w.heap.size v41 m W) :
    St52 w B2 B4 m (.good 5) W ((execOp ρ { dst := some 42, op := Go.Op.call { callee := Go.Callee.value (Go.Operand.func 101), args := #[Go.Operand.tmp 41], argTypes := #[72] }, type := 88, pos := "", after := #[], guard := none }).run Tryz.prog W) := by
  obtain ⟨b41, rfl, s41⟩ := r41
  obtain ⟨hW, h2, h4⟩ := hC
  have c2 := h2.cells
  have c4 := h4.cells
  have hCW : C52 w B2 B4 W := ⟨hW, h2, h4⟩
  have hba : ∀ o : Obj, Below W.heap.size W (W.alloc o) := fun o => (Below.refl _ _).alloc (Nat.le_refl _) _
  go_simp
  exact (f101_any 2 b41 0 2 (two (Num.w 0) (Num.w 2)) W (by decide) s41.lt (num2 (x := (Num.w 0)) (y := (Num.w 2)) s41)).mono fun e w' ⟨he, hF, hb⟩ => ⟨_, he, hCW.grow hb, Grow.of_below hb, _, _, rfl, hF.mat (by decide)⟩
set_option maxHeartbeats 1000000 in
set_option maxRecDepth 100000 in
theorem st52_32 {w W : World} {B2 B4 : Nat} {m : Value} {ρ : Operand → Value} (hC : C52 w B2 B4 W) (hc : ∀ v, ρ (.const v) = v) (hf : ∀ f, ρ (.func f) = .func (.func f) #[] #[]) (e15 : ρ (.tmp 15) = m) (r15 : (.map0 : Kind).saysV w.heap.size m m W) (v42 : Value) (e42 : ρ (.tmp 42) = v42) (r42 : (.good 5 : Kind).saysV w.heap.size v42 m W) :
    St52 w B2 B4 m (.ins 5) W ((execOp ρ { dst := none, op := Go.Op.insert 100 (Go.Operand.tmp 15) (Go.Operand.const (Go.Value.int Go.IntKind.i64 5)) (Go.Operand.tmp 42), type := 0, pos := "", after := #[], guard := none }).run Tryz.prog W) := by
  obtain ⟨hW, h2, h4⟩ := hC
  have c2 := h2.cells
  have c4 := h4.cells
  have hCW : C52 w B2 B4 W := ⟨hW, h2, h4⟩
  have hba : ∀ o : Obj, Below W.heap.size W (W.alloc o) := fun o => (Below.refl _ _).alloc (Nat.le_refl _) _
  have r15' : MapAt w.heap.size m W := r15
  obtain ⟨b, es', c', hm, hN, hrun, hg, hkey, hlt⟩ := r15'.insert (k := 5) (by decide) (by decide) r42
  subst hm
  have hrun' : (Instr.mapUpdate 100 (.map (some b)) (.int .i64 5) v42).run Tryz.prog W = .ok () (W.putObj b (.map es' c')) := hrun
  go_simp
  exact ⟨⟨hW.grown (grownBy_putObj' W b _) hW.size (fun k e => by cases e; exact hN), hg.blk h2, hg.blk h4⟩, hg, hkey⟩
set_option maxHeartbeats 1000000 in
set_option maxRecDepth 100000 in
theorem st52_33 {w W : World} {B2 B4 : Nat} {m : Value} {ρ : Operand → Value} (hC : C52 w B2 B4 W) (hc : ∀ v, ρ (.const v) = v) (hf : ∀ f, ρ (.func f) = .func (.func f) #[] #[]) :
    St52 w B2 B4 m (.val (.agg #[.int .i64 1, .int .i64 0, .int .i64 0, .int .i64 0, .int .i64 0])) W ((execOp ρ { dst := some 43, op := Go.Op.call { callee := Go.Callee.value (Go.Operand.func 65), args := #[], argTypes := #[] }, type := 38, pos := "", after := #[], guard := none }).run Tryz.prog W) := by
  obtain ⟨hW, h2, h4⟩ := hC
  have c2 := h2.cells
  have c4 := h4.cells
  have hCW : C52 w B2 B4 W := ⟨hW, h2, h4⟩
  have hba : ∀ o : Obj, Below W.heap.size W (W.alloc o) := fun o => (Below.refl _ _).alloc (Nat.le_refl _) _
  go_simp
  exact (f65_any W).mono fun e w' ⟨he, hb⟩ => ⟨_, he, hCW.grow hb, Grow.of_below hb, rfl⟩
set_option maxHeartbeats 1000000 in
set_option maxRecDepth 100000 in
theorem st52_34 {w W : World} {B2 B4 : Nat} {m : Value} {ρ : Operand → Value} (hC : C52 w B2 B4 W) (hc : ∀ v, ρ (.const v) = v) (hf : ∀ f, ρ (.func f) = .func (.func f) #[] #[]) (e1 : ρ (.tmp 1) = .func (.func 61) #[] #[]) :
    St52 w B2 B4 m (.val (.func (.func 61) #[] #[])) W ((execOp ρ { dst := some 44, op := Go.Op.move (Go.Operand.tmp 1), type := 109, pos := "", after := #[], guard := none }).run Tryz.prog W) := by
  obtain ⟨hW, h2, h4⟩ := hC
  have c2 := h2.cells
  have c4 := h4.cells
  have hCW : C52 w B2 B4 W := ⟨hW, h2, h4⟩
  have hba : ∀ o : Obj, Below W.heap.size W (W.alloc o) := fun o => (Below.refl _ _).alloc (Nat.le_refl _) _
  go_simp
  exact ⟨hCW, Grow.refl _, rfl⟩
set_option maxHeartbeats 1000000 in
set_option maxRecDepth 100000 in
theorem st52_35 {w W : World} {B2 B4 : Nat} {m : Value} {ρ : Operand → Value} (hC : C52 w B2 B4 W) (hc : ∀ v, ρ (.const v) = v) (hf : ∀ f, ρ (.func f) = .func (.func f) #[] #[]) (v44 : Value) (e44 : ρ (.tmp 44) = v44) (r44 : (.val (.func (.func 61) #[] #[]) : Kind).saysV w.heap.size v44 m W) :
    St52 w B2 B4 m (.val (.agg #[.int .i64 0, .int .i64 0, .int .i64 (-1), .int .i64 0, .int .i64 0])) W ((execOp ρ { dst := some 45, op := Go.Op.call { callee := Go.Callee.value (Go.Operand.tmp 44), args := #[Go.Operand.const (Go.Value.int Go.IntKind.i64 6)], argTypes := #[3] }, type := 38, pos := "", after := #[], guard := none }).run Tryz.prog W) := by
  obtain rfl := r44
  obtain ⟨hW, h2, h4⟩ := hC
  have c2 := h2.cells
  have c4 := h4.cells
  have hCW : C52 w B2 B4 W := ⟨hW, h2, h4⟩
  have hba : ∀ o : Obj, Below W.heap.size W (W.alloc o) := fun o => (Below.refl _ _).alloc (Nat.le_refl _) _
  have H : Calls Tryz.prog 61 #[.int .i64 6] W fun e w' => e = .returned (.agg #[.int .i64 0, .int .i64 0, .int .i64 (-1), .int .i64 0, .int .i64 0]) ∧ Below W.heap.size W w' := f61_any 6 W (by decide)
  go_simp
  exact H.mono fun e w' ⟨he, hb⟩ => ⟨_, he, hCW.grow hb, Grow.of_below hb, rfl⟩
set_option maxHeartbeats 1000000 in
set_option maxRecDepth 100000 in
theorem st52_36 {w W : World} {B2 B4 : Nat} {m : Value} {ρ : Operand → Value} (hC : C52 w B2 B4 W) (hc : ∀ v, ρ (.const v) = v) (hf : ∀ f, ρ (.func f) = .func (.func f) #[] #[]) (v43 : Value) (e43 : ρ (.tmp 43) = v43) (r43 : (.val (.agg #[.int .i64 1, .int .i64 0, .int .i64 0, .int .i64 0, .int .i64 0]) : Kind).saysV w.heap.size v43 m W) (v45 : Value) (e45 : ρ (.tmp 45) = v45) (r45 : (.val (.agg #[.int .i64 0, .int .i64 0, .int .i64 (-1), .int .i64 0, .int .i64 0]) : Kind).saysV w.heap.size v45 m W) :
    St52 w B2 B4 m (.sl 2 #[.int .i64 1, .int .i64 0, .int .i64 0, .int .i64 0, .int .i64 0, .int .i64 0, .int .i64 0, .int .i64 (-1), .int .i64 0, .int .i64 0]) W ((execOp ρ { dst := some 46, op := Go.Op.buildSlice 72 2 #[(0, Go.Operand.tmp 43), (1, Go.Operand.tmp 45)], type := 72, pos := "", after := #[], guard := none }).run Tryz.prog W) := by
  obtain rfl := r43
  obtain rfl := r45
  obtain ⟨hW, h2, h4⟩ := hC
  have c2 := h2.cells
  have c4 := h4.cells
  have hCW : C52 w B2 B4 W := ⟨hW, h2, h4⟩
  have hba : ∀ o : Obj, Below W.heap.size W (W.alloc o) := fun o => (Below.refl _ _).alloc (Nat.le_refl _) _
  go_simp
  exact ⟨hCW.grow (hba _), Grow.of_below (hba _), W.heap.size, rfl, Blk.new W 38 _⟩
set_option maxHeartbeats 1000000 in
set_option maxRecDepth 100000 in
theorem st52_37 {w W : World} {B2 B4 : Nat} {m : Value} {ρ : Operand → Value} (hC : C52 w B2 B4 W) (hc : ∀ v, ρ (.const v) = v) (hf : ∀ f, ρ (.func f) = .func (.func f) #[] #[]) (v46 : Value) (e46 : ρ (.tmp 46) = v46) (r46 : (.sl 2 #[.int .i64 1, .int .i64 0, .int .i64 0, .int .i64 0, .int .i64 0, .int .i64 0, .int .i64 0, .int .i64 (-1), .int .i64 0, .int .i64 0] : Kind).saysV w.heap.size v46 m W) :
    St52 w B2 B4 m (.good 6) W ((execOp ρ { dst := some 47, op := Go.Op.call { callee := Go.Callee.value (Go.Operand.func 101), args := #[Go.Operand.tmp 46], argTypes := #[72] }, type := 88, pos := "", after := #[], guard := none }).run Tryz.prog W) := by
  obtain ⟨b46, rfl, s46⟩ := r46
  obtain ⟨hW, h2, h4⟩ := hC
  have c2 := h2.cells
  have c4 := h4.cells
  have hCW : C52 w B2 B4 W := ⟨hW, h2, h4⟩
  have hba : ∀ o : Obj, Below W.heap.size W (W.alloc o) := fun o => (Below.refl _ _).alloc (Nat.le_refl _) _
  go_simp
  exact (f101_any 2 b46 0 2 (two (Num.w 0) (Num.w 6)) W (by decide) s46.lt (num2 (x := (Num.w 0)) (y := (Num.w 6)) s46)).mono fun e w' ⟨he, hF, hb⟩ => ⟨_, he, hCW.grow hb, Grow.of_below hb, _, _, rfl, hF.mat (by decide)⟩
set_option maxHeartbeats 1000000 in
set_option maxRecDepth 100000 in
theorem st52_38 {w W : World} {B2 B4 : Nat} {m : Value} {ρ : Operand → Value} (hC : C52 w B2 B4 W) (hc : ∀ v, ρ (.const v) = v) (hf : ∀ f, ρ (.func f) = .func (.func f) #[] #[]) (e15 : ρ (.tmp 15) = m) (r15 : (.map0 : Kind).saysV w.heap.size m m W) (v47 : Value) (e47 : ρ (.tmp 47) = v47) (r47 : (.good 6 : Kind).saysV w.heap.size v47 m W) :
    St52 w B2 B4 m (.ins 6) W ((execOp ρ { dst := none, op := Go.Op.insert 100 (Go.Operand.tmp 15) (Go.Operand.const (Go.Value.int Go.IntKind.i64 6)) (Go.Operand.tmp 47), type := 0, pos := "", after := #[], guard := none }).run Tryz.prog W) := by
  obtain ⟨hW, h2, h4⟩ := hC
  have c2 := h2.cells
  have c4 := h4.cells
  have hCW : C52 w B2 B4 W := ⟨hW, h2, h4⟩
  have hba : ∀ o : Obj, Below W.heap.size W (W.alloc o) := fun o => (Below.refl _ _).alloc (Nat.le_refl _) _
  have r15' : MapAt w.heap.size m W := r15
  obtain ⟨b, es', c', hm, hN, hrun, hg, hkey, hlt⟩ := r15'.insert (k := 6) (by decide) (by decide) r47
  subst hm
  have hrun' : (Instr.mapUpdate 100 (.map (some b)) (.int .i64 6) v47).run Tryz.prog W = .ok () (W.putObj b (.map es' c')) := hrun
  go_simp
  exact ⟨⟨hW.grown (grownBy_putObj' W b _) hW.size (fun k e => by cases e; exact hN), hg.blk h2, hg.blk h4⟩, hg, hkey⟩
set_option maxHeartbeats 1000000 in
set_option maxRecDepth 100000 in
theorem st52_39 {w W : World} {B2 B4 : Nat} {m : Value} {ρ : Operand → Value} (hC : C52 w B2 B4 W) (hc : ∀ v, ρ (.const v) = v) (hf : ∀ f, ρ (.func f) = .func (.func f) #[] #[]) :
    St52 w B2 B4 m (.val (.agg #[.int .i64 1, .int .i64 0, .int .i64 0, .int .i64 0, .int .i64 0])) W ((execOp ρ { dst := some 48, op := Go.Op.call { callee := Go.Callee.value (Go.Operand.func 65), args := #[], argTypes := #[] }, type := 38, pos := "", after := #[], guard := none }).run Tryz.prog W) := by
  obtain ⟨hW, h2, h4⟩ := hC
  have c2 := h2.cells
  have c4 := h4.cells
  have hCW : C52 w B2 B4 W := ⟨hW, h2, h4⟩
  have hba : ∀ o : Obj, Below W.heap.size W (W.alloc o) := fun o => (Below.refl _ _).alloc (Nat.le_refl _) _
  go_simp
  exact (f65_any W).mono fun e w' ⟨he, hb⟩ => ⟨_, he, hCW.grow hb, Grow.of_below hb, rfl⟩
set_option maxHeartbeats 1000000 in
set_option maxRecDepth 100000 in
theorem st52_40 {w W : World} {B2 B4 : Nat} {m : Value} {ρ : Operand → Value} (hC : C52 w B2 B4 W) (hc : ∀ v, ρ (.const v) = v) (hf : ∀ f, ρ (.func f) = .func (.func f) #[] #[]) (e1 : ρ (.tmp 1) = .func (.func 61) #[] #[]) :
    St52 w B2 B4 m (.val (.func (.func 61) #[] #[])) W ((execOp ρ { dst := some 49, op := Go.Op.move (Go.Operand.tmp 1), type := 109, pos := "", after := #[], guard := none }).run Tryz.prog W) := by
  obtain ⟨hW, h2, h4⟩ := hC
  have c2 := h2.cells
  have c4 := h4.cells
  have hCW : C52 w B2 B4 W := ⟨hW, h2, h4⟩
  have hba : ∀ o : Obj, Below W.heap.size W (W.alloc o) := fun o => (Below.refl _ _).alloc (Nat.le_refl _) _
  go_simp
  exact ⟨hCW, Grow.refl _, rfl⟩
set_option maxHeartbeats 1000000 in
set_option maxRecDepth 100000 in
theorem st52_41 {w W : World} {B2 B4 : Nat} {m : Value} {ρ : Operand → Value} (hC : C52 w B2 B4 W) (hc : ∀ v, ρ (.const v) = v) (hf : ∀ f, ρ (.func f) = .func (.func f) #[] #[]) (v49 : Value) (e49 : ρ (.tmp 49) = v49) (r49 : (.val (.func (.func 61) #[] #[]) : Kind).saysV w.heap.size v49 m W) :
    St52 w B2 B4 m (.val (.agg #[.int .i64 0, .int .i64 1, .int .i64 0, .int .i64 0, .int .i64 0])) W ((execOp ρ { dst := some 50, op := Go.Op.call { callee := Go.Callee.value (Go.Operand.tmp 49), args := #[Go.Operand.const (Go.Value.int Go.IntKind.i64 1)], argTypes := #[3] }, type := 38, pos := "", after := #[], guard := none }).run Tryz.prog W) := by
  obtain rfl := r49
  obtain ⟨hW, h2, h4⟩ := hC
  have c2 := h2.cells
  have c4 := h4.cells
  have hCW : C52 w B2 B4 W := ⟨hW, h2, h4⟩
  have hba : ∀ o : Obj, Below W.heap.size W (W.alloc o) := fun o => (Below.refl _ _).alloc (Nat.le_refl _) _
  have H : Calls Tryz.prog 61 #[.int .i64 1] W fun e w' => e = .returned (.agg #[.int .i64 0, .int .i64 1, .int .i64 0, .int .i64 0, .int .i64 0]) ∧ Below W.heap.size W w' := f61_any 1 W (by decide)
  go_simp
  exact H.mono fun e w' ⟨he, hb⟩ => ⟨_, he, hCW.grow hb, Grow.of_below hb, rfl⟩
set_option maxHeartbeats 1000000 in
set_option maxRecDepth 100000 in
theorem st52_42 {w W : World} {B2 B4 : Nat} {m : Value} {ρ : Operand → Value} (hC : C52 w B2 B4 W) (hc : ∀ v, ρ (.const v) = v) (hf : ∀ f, ρ (.func f) = .func (.func f) #[] #[]) (v48 : Value) (e48 : ρ (.tmp 48) = v48) (r48 : (.val (.agg #[.int .i64 1, .int .i64 0, .int .i64 0, .int .i64 0, .int .i64 0]) : Kind).saysV w.heap.size v48 m W) (v50 : Value) (e50 : ρ (.tmp 50) = v50) (r50 : (.val (.agg #[.int .i64 0, .int .i64 1, .int .i64 0, .int .i64 0, .int .i64 0]) : Kind).saysV w.heap.size v50 m W) :
    St52 w B2 B4 m (.sl 2 #[.int .i64 1, .int .i64 0, .int .i64 0, .int .i64 0, .int .i64 0, .int .i64 0, .int .i64 1, .int .i64 0, .int .i64 0, .int .i64 0]) W ((execOp ρ { dst := some 51, op := Go.Op.buildSlice 72 2 #[(0, Go.Operand.tmp 48), (1, Go.Operand.tmp 50)], type := 72, pos := "", after := #[], guard := none }).run Tryz.prog W) := by
  obtain rfl := r48
  obtain rfl := r50
  obtain ⟨hW, h2, h4⟩ := hC
  have c2 := h2.cells
  have c4 := h4.cells
  have hCW : C52 w B2 B4 W := ⟨hW, h2, h4⟩
  have hba : ∀ o : Obj, Below W.heap.size W (W.alloc o) := fun o => (Below.refl _ _).alloc (Nat.le_refl _) _
  go_simp
  exact ⟨hCW.grow (hba _), Grow.of_below (hba _), W.heap.size, rfl, Blk.new W 38 _⟩
set_option maxHeartbeats 1000000 in
set_option maxRecDepth 100000 in
theorem st52_43 {w W : World} {B2 B4 : Nat} {m : Value} {ρ : Operand → Value} (hC : C52 w B2 B4 W) (hc : ∀ v, ρ (.const v) = v) (hf : ∀ f, ρ (.func f) = .func (.func f) #[] #[]) (v51 : Value) (e51 : ρ (.tmp 51) = v51) (r51 : (.sl 2 #[.int .i64 1, .int .i64 0, .int .i64 0, .int .i64 0, .int .i64 0, .int .i64 0, .int .i64 1, .int .i64 0, .int .i64 0, .int .i64 0] : Kind).saysV w.heap.size v51 m W) :
    St52 w B2 B4 m (.good 7) W ((execOp ρ { dst := some 52, op := Go.Op.call { callee := Go.Callee.value (Go.Operand.func 101), args := #[Go.Operand.tmp 51], argTypes := #[72] }, type := 88, pos := "", after := #[], guard := none }).run Tryz.prog W) := by
  obtain ⟨b51, rfl, s51⟩ := r51
  obtain ⟨hW, h2, h4⟩ := hC
  have c2 := h2.cells
  have c4 := h4.cells
  have hCW : C52 w B2 B4 W := ⟨hW, h2, h4⟩
  have hba : ∀ o : Obj, Below W.heap.size W (W.alloc o) := fun o => (Below.refl _ _).alloc (Nat.le_refl _) _
  go_simp
  exact (f101_any 2 b51 0 2 (two (Num.w 0) (Num.w 1)) W (by decide) s51.lt (num2 (x := (Num.w 0)) (y := (Num.w 1)) s51)).mono fun e w' ⟨he, hF, hb⟩ => ⟨_, he, hCW.grow hb, Grow.of_below hb, _, _, rfl, hF.mat (by decide)⟩
set_option maxHeartbeats 1000000 in
set_option maxRecDepth 100000 in
theorem st52_44 {w W : World} {B2 B4 : Nat} {m : Value} {ρ : Operand → Value} (hC : C52 w B2 B4 W) (hc : ∀ v, ρ (.const v) = v) (hf : ∀ f, ρ (.func f) = .func (.func f) #[] #[]) (e15 : ρ (.tmp 15) = m) (r15 : (.map0 : Kind).saysV w.heap.size m m W) (v52 : Value) (e52 : ρ (.tmp 52) = v52) (r52 : (.good 7 : Kind).saysV w.heap.size v52 m W) :
    St52 w B2 B4 m (.ins 7) W ((execOp ρ { dst := none, op := Go.Op.insert 100 (Go.Operand.tmp 15) (Go.Operand.const (Go.Value.int Go.IntKind.i64 7)) (Go.Operand.tmp 52), type := 0, pos := "", after := #[], guard := none }).run Tryz.prog W) := by
  obtain ⟨hW, h2, h4⟩ := hC
  have c2 := h2.cells
  have c4 := h4.cells
  have hCW : C52 w B2 B4 W := ⟨hW, h2, h4⟩
  have hba : ∀ o : Obj, Below W.heap.size W (W.alloc o) := fun o => (Below.refl _ _).alloc (Nat.le_refl _) _
  have r15' : MapAt w.heap.size m W := r15
  obtain ⟨b, es', c', hm, hN, hrun, hg, hkey, hlt⟩ := r15'.insert (k := 7) (by decide) (by decide) r52
  subst hm
  have hrun' : (Instr.mapUpdate 100 (.map (some b)) (.int .i64 7) v52).run Tryz.prog W = .ok () (W.putObj b (.map es' c')) := hrun
  go_simp
  exact ⟨⟨hW.grown (grownBy_putObj' W b _) hW.size (fun k e => by cases e; exact hN), hg.blk h2, hg.blk h4⟩, hg, hkey⟩
set_option maxHeartbeats 1000000 in
set_option maxRecDepth 100000 in
theorem st52_45 {w W : World} {B2 B4 : Nat} {m : Value} {ρ : Operand → Value} (hC : C52 w B2 B4 W) (hc : ∀ v, ρ (.const v) = v) (hf : ∀ f, ρ (.func f) = .func (.func f) #[] #[]) :
    St52 w B2 B4 m (.val (.agg #[.int .i64 1, .int .i64 0, .int .i64 0, .int .i64 0, .int .i64 0])) W ((execOp ρ { dst := some 53, op := Go.Op.call { callee := Go.Callee.value (Go.Operand.func 65), args := #[], argTypes := #[] }, type := 38, pos := "", after := #[], guard := none }).run Tryz.prog W) := by
  obtain ⟨hW, h2, h4⟩ := hC
  have c2 := h2.cells
  have c4 := h4.cells
  have hCW : C52 w B2 B4 W := ⟨hW, h2, h4⟩
  have hba : ∀ o : Obj, Below W.heap.size W (W.alloc o) := fun o => (Below.refl _ _).alloc (Nat.le_refl _) _
  go_simp
  exact (f65_any W).mono fun e w' ⟨he, hb⟩ => ⟨_, he, hCW.grow hb, Grow.of_below hb, rfl⟩
set_option maxHeartbeats 1000000 in
set_option maxRecDepth 100000 in
theorem st52_46 {w W : World} {B2 B4 : Nat} {m : Value} {ρ : Operand → Value} (hC : C52 w B2 B4 W) (hc : ∀ v, ρ (.const v) = v) (hf : ∀ f, ρ (.func f) = .func (.func f) #[] #[]) (e1 : ρ (.tmp 1) = .func (.func 61) #[] #[]) :
    St52 w B2 B4 m (.val (.func (.func 61) #[] #[])) W ((execOp ρ { dst := some 54, op := Go.Op.move (Go.Operand.tmp 1), type := 109, pos := "", after := #[], guard := none }).run Tryz.prog W) := by
  obtain ⟨hW, h2, h4⟩ := hC
  have c2 := h2.cells
  have c4 := h4.cells
  have hCW : C52 w B2 B4 W := ⟨hW, h2, h4⟩
  have hba : ∀ o : Obj, Below W.heap.size W (W.alloc o) := fun o => (Below.refl _ _).alloc (Nat.le_refl _) _
  go_simp
  exact ⟨hCW, Grow.refl _, rfl⟩
set_option maxHeartbeats 1000000 in
set_option maxRecDepth 100000 in
theorem st52_47 {w W : World} {B2 B4 : Nat} {m : Value} {ρ : Operand → Value} (hC : C52 w B2 B4 W) (hc : ∀ v, ρ (.const v) = v) (hf : ∀ f, ρ (.func f) = .func (.func f) #[] #[]) (v54 : Value) (e54 : ρ (.tmp 54) = v54) (r54 : (.val (.func (.func 61) #[] #[]) : Kind).saysV w.heap.size v54 m W) :
    St52 w B2 B4 m (.val (.agg #[.int .i64 0, .int .i64 0, .int .i64 0, .int .i64 (-1), .int .i64 0])) W ((execOp ρ { dst := some 55, op := Go.Op.call { callee := Go.Callee.value (Go.Operand.tmp 54), args := #[Go.Operand.const (Go.Value.int Go.IntKind.i64 7)], argTypes := #[3] }, type := 38, pos := "", after := #[], guard := none }).run Tryz.prog W) := by
  obtain rfl := r54
  obtain ⟨hW, h2, h4⟩ := hC
  have c2 := h2.cells
  have c4 := h4.cells
  have hCW : C52 w B2 B4 W := ⟨hW, h2, h4⟩
  have hba : ∀ o : Obj, Below W.heap.size W (W.alloc o) := fun o => (Below.refl _ _).alloc (Nat.le_refl _) _
  have H : Calls Tryz.prog 61 #[.int .i64 7] W fun e w' => e = .returned (.agg #[.int .i64 0, .int .i64 0, .int .i64 0, .int .i64 (-1), .int .i64 0]) ∧ Below W.heap.size W w' := f61_any 7 W (by decide)
  go_simp
  exact H.mono fun e w' ⟨he, hb⟩ => ⟨_, he, hCW.grow hb, Grow.of_below hb, rfl⟩
set_option maxHeartbeats 1000000 in
set_option maxRecDepth 100000 in
theorem st52_48 {w W : World} {B2 B4 : Nat} {m : Value} {ρ : Operand → Value} (hC : C52 w B2 B4 W) (hc : ∀ v, ρ (.const v) = v) (hf : ∀ f, ρ (.func f) = .func (.func f) #[] #[]) (v53 : Value) (e53 : ρ (.tmp 53) = v53) (r53 : (.val (.agg #[.int .i64 1, .int .i64 0, .int .i64 0, .int .i64 0, .int .i64 0]) : Kind).saysV w.heap.size v53 m W) (v55 : Value) (e55 : ρ (.tmp 55) = v55) (r55 : (.val (.agg #[.int .i64 0, .int .i64 0, .int .i64 0, .int .i64 (-1), .int .i64 0]) : Kind).saysV w.heap.size v55 m W) :
    St52 w B2 B4 m (.sl 2 #[.int .i64 1, .int .i64 0, .int .i64 0, .int .i64 0, .int .i64 0, .int .i64 0, .int .i64 0, .int .i64 0, .int .i64 (-1), .int .i64 0]) W ((execOp ρ { dst := some 56, op := Go.Op.buildSlice 72 2 #[(0, Go.Operand.tmp 53), (1, Go.Operand.tmp 55)], type := 72, pos := "", after := #[], guard := none }).run Tryz.prog W) := by
  obtain rfl := r53
  obtain rfl := r55
  obtain ⟨hW, h2, h4⟩ := hC
  have c2 := h2.cells
  have c4 := h4.cells
  have hCW : C52 w B2 B4 W := ⟨hW, h2, h4⟩
  have hba : ∀ o : Obj, Below W.heap.size W (W.alloc o) := fun o => (Below.refl _ _).alloc (Nat.le_refl _) _
  go_simp
  exact ⟨hCW.grow (hba _), Grow.of_below (hba _), W.heap.size, rfl, Blk.new W 38 _⟩
set_option maxHeartbeats 1000000 in
set_option maxRecDepth 100000 in
theorem st52_49 {w W : World} {B2 B4 : Nat} {m : Value} {ρ : Operand → Value} (hC : C52 w B2 B4 W) (hc : ∀ v, ρ (.const v) = v) (hf : ∀ f, ρ (.func f) = .func (.func f) #[] #[]) (v56 : Value) (e56 : ρ (.tmp 56) = v56) (r56 : (.sl 2 #[.int .i64 1, .int .i64 0, .int .i64 0, .int .i64 0, .int .i64 0, .int .i64 0, .int .i64 0, .int .i64 0, .int .i64 (-1), .int .i64 0] : Kind).saysV w.heap.size v56 m W) :
    St52 w B2 B4 m (.good 8) W ((execOp ρ { dst := some 57, op := Go.Op.call { callee := Go.Callee.value (Go.Operand.func 101), args := #[Go.Operand.tmp 56], argTypes := #[72] }, type := 88, pos := "", after := #[], guard := none }).run Tryz.prog W) := by
  obtain ⟨b56, rfl, s56⟩ := r56
  obtain ⟨hW, h2, h4⟩ := hC
  have c2 := h2.cells
  have c4 := h4.cells
  have hCW : C52 w B2 B4 W := ⟨hW, h2, h4⟩
  have hba : ∀ o : Obj, Below W.heap.size W (W.alloc o) := fun o => (Below.refl _ _).alloc (Nat.le_refl _) _
  go_simp
  exact (f101_any 2 b56 0 2 (two (Num.w 0) (Num.w 7)) W (by decide) s56.lt (num2 (x := (Num.w 0)) (y := (Num.w 7)) s56)).mono fun e w' ⟨he, hF, hb⟩ => ⟨_, he, hCW.grow hb, Grow.of_below hb, _, _, rfl, hF.mat (by decide)⟩
set_option maxHeartbeats 1000000 in
set_option maxRecDepth 100000 in
theorem st52_50 {w W : World} {B2 B4 : Nat} {m : Value} {ρ : Operand → Value} (hC : C52 w B2 B4 W) (hc : ∀ v, ρ (.const v) = v) (hf : ∀ f, ρ (.func f) = .func (.func f) #[] #[]) (e15 : ρ (.tmp 15) = m) (r15 : (.map0 : Kind).saysV w.heap.size m m W) (v57 : Value) (e57 : ρ (.tmp 57) = v57) (r57 : (.good 8 : Kind).saysV w.heap.size v57 m W) :
    St52 w B2 B4 m (.ins 8) W ((execOp ρ { dst := none, op := Go.Op.insert 100 (Go.Operand.tmp 15) (Go.Operand.const (Go.Value.int Go.IntKind.i64 8)) (Go.Operand.tmp 57), type := 0, pos := "", after := #[], guard := none }).run Tryz.prog W) := by
  obtain ⟨hW, h2, h4⟩ := hC
  have c2 := h2.cells
  have c4 := h4.cells
  have hCW : C52 w B2 B4 W := ⟨hW, h2, h4⟩
  have hba : ∀ o : Obj, Below W.heap.size W (W.alloc o) := fun o => (Below.refl _ _).alloc (Nat.le_refl _) _
  have r15' : MapAt w.heap.size m W := r15
  obtain ⟨b, es', c', hm, hN, hrun, hg, hkey, hlt⟩ := r15'.insert (k := 8) (by decide) (by decide) r57
  subst hm
  have hrun' : (Instr.mapUpdate 100 (.map (some b)) (.int .i64 8) v57).run Tryz.prog W = .ok () (W.putObj b (.map es' c')) := hrun
  go_simp
  exact ⟨⟨hW.grown (grownBy_putObj' W b _) hW.size (fun k e => by cases e; exact hN), hg.blk h2, hg.blk h4⟩, hg, hkey⟩
set_option maxHeartbeats 1000000 in
set_option maxRecDepth 100000 in
theorem st52_51 {w W : World} {B2 B4 : Nat} {m : Value} {ρ : Operand → Value} (hC : C52 w B2 B4 W) (hc : ∀ v, ρ (.const v) = v) (hf : ∀ f, ρ (.func f) = .func (.func f) #[] #[]) :
    St52 w B2 B4 m (.good 9) W ((execOp ρ { dst := some 58, op := Go.Op.call { callee := Go.Callee.value (Go.Operand.func 87), args := #[Go.Operand.const (Go.Value.int Go.IntKind.i64 4), Go.Operand.func 102], argTypes := #[3, 26] }, type := 88, pos := "", after := #[], guard := none }).run Tryz.prog W) := by
  obtain ⟨hW, h2, h4⟩ := hC
  have c2 := h2.cells
  have c4 := h4.cells
  have hCW : C52 w B2 B4 W := ⟨hW, h2, h4⟩
  have hba : ∀ o : Obj, Below W.heap.size W (W.alloc o) := fun o => (Below.refl _ _).alloc (Nat.le_refl _) _
  go_simp
  exact (f87_any 102 #[] (enters_of Tryz.func102 (by kernel_rfl) rfl) 4 mvCX W (by decide) (by decide) (fun W k hk => f102_any k W hk)).mono fun e w' ⟨he, hF, hb⟩ => ⟨_, he, hCW.grow hb, Grow.of_below hb, _, _, rfl, hF.mat (by decide)⟩
set_option maxHeartbeats 1000000 in
set_option maxRecDepth 100000 in
theorem st52_52 {w W : World} {B2 B4 : Nat} {m : Value} {ρ : Operand → Value} (hC : C52 w B2 B4 W) (hc : ∀ v, ρ (.const v) = v) (hf : ∀ f, ρ (.func f) = .func (.func f) #[] #[]) (e15 : ρ (.tmp 15) = m) (r15 : (.map0 : Kind).saysV w.heap.size m m W) (v58 : Value) (e58 : ρ (.tmp 58) = v58) (r58 : (.good 9 : Kind).saysV w.heap.size v58 m W) :
    St52 w B2 B4 m (.ins 9) W ((execOp ρ { dst := none, op := Go.Op.insert 100 (Go.Operand.tmp 15) (Go.Operand.const (Go.Value.int Go.IntKind.i64 9)) (Go.Operand.tmp 58), type := 0, pos := "", after := #[], guard := none }).run Tryz.prog W) := by
  obtain ⟨hW, h2, h4⟩ := hC
  have c2 := h2.cells
  have c4 := h4.cells
  have hCW : C52 w B2 B4 W := ⟨hW, h2, h4⟩
  have hba : ∀ o : Obj, Below W.heap.size W (W.alloc o) := fun o => (Below.refl _ _).alloc (Nat.le_refl _) _
  have r15' : MapAt w.heap.size m W := r15
  obtain ⟨b, es', c', hm, hN, hrun, hg, hkey, hlt⟩ := r15'.insert (k := 9) (by decide) (by decide) r58
  subst hm
  have hrun' : (Instr.mapUpdate 100 (.map (some b)) (.int .i64 9) v58).run Tryz.prog W = .ok () (W.putObj b (.map es' c')) := hrun
  go_simp
  exact ⟨⟨hW.grown (grownBy_putObj' W b _) hW.size (fun k e => by cases e; exact hN), hg.blk h2, hg.blk h4⟩, hg, hkey⟩
set_option maxHeartbeats 1000000 in
set_option maxRecDepth 100000 in
theorem st52_53 {w W : World} {B2 B4 : Nat} {m : Value} {ρ : Operand → Value} (hC : C52 w B2 B4 W) (hc : ∀ v, ρ (.const v) = v) (hf : ∀ f, ρ (.func f) = .func (.func f) #[] #[]) :
    St52 w B2 B4 m (.val (.agg #[.int .i64 1, .int .i64 0, .int .i64 0, .int .i64 0, .int .i64 0])) W ((execOp ρ { dst := some 59, op := Go.Op.call { callee := Go.Callee.value (Go.Operand.func 65), args := #[], argTypes := #[] }, type := 38, pos := "", after := #[], guard := none }).run Tryz.prog W) := by
  obtain ⟨hW, h2, h4⟩ := hC
  have c2 := h2.cells
  have c4 := h4.cells
  have hCW : C52 w B2 B4 W := ⟨hW, h2, h4⟩
  have hba : ∀ o : Obj, Below W.heap.size W (W.alloc o) := fun o => (Below.refl _ _).alloc (Nat.le_refl _) _
  go_simp
  exact (f65_any W).mono fun e w' ⟨he, hb⟩ => ⟨_, he, hCW.grow hb, Grow.of_below hb, rfl⟩
set_option maxHeartbeats 1000000 in
set_option maxRecDepth 100000 in
theorem st52_54 {w W : World} {B2 B4 : Nat} {m : Value} {ρ : Operand → Value} (hC : C52 w B2 B4 W) (hc : ∀ v, ρ (.const v) = v) (hf : ∀ f, ρ (.func f) = .func (.func f) #[] #[]) :
    St52 w B2 B4 m (.val (.agg #[.int .i64 1, .int .i64 0, .int .i64 0, .int .i64 0, .int .i64 0])) W ((execOp ρ { dst := some 60, op := Go.Op.call { callee := Go.Callee.value (Go.Operand.func 65), args := #[], argTypes := #[] }, type := 38, pos := "", after := #[], guard := none }).run Tryz.prog W) := by
  obtain ⟨hW, h2, h4⟩ := hC
  have c2 := h2.cells
  have c4 := h4.cells
  have hCW : C52 w B2 B4 W := ⟨hW, h2, h4⟩
  have hba : ∀ o : Obj, Below W.heap.size W (W.alloc o) := fun o => (Below.refl _ _).alloc (Nat.le_refl _) _
  go_simp
  exact (f65_any W).mono fun e w' ⟨he, hb⟩ => ⟨_, he, hCW.grow hb, Grow.of_below hb, rfl⟩
set_option maxHeartbeats 1000000 in
set_option maxRecDepth 100000 in
theorem st52_55 {w W : World} {B2 B4 : Nat} {m : Value} {ρ : Operand → Value} (hC : C52 w B2 B4 W) (hc : ∀ v, ρ (.const v) = v) (hf : ∀ f, ρ (.func f) = .func (.func f) #[] #[]) :
    St52 w B2 B4 m (.val (.agg #[.int .i64 1, .int .i64 0, .int .i64 0, .int .i64 0, .int .i64 0])) W ((execOp ρ { dst := some 61, op := Go.Op.call { callee := Go.Callee.value (Go.Operand.func 65), args := #[], argTypes := #[] }, type := 38, pos := "", after := #[], guard := none }).run Tryz.prog W) := by
  obtain ⟨hW, h2, h4⟩ := hC
  have c2 := h2.cells
  have c4 := h4.cells
  have hCW : C52 w B2 B4 W := ⟨hW, h2, h4⟩
  have hba : ∀ o : Obj, Below W.heap.size W (W.alloc o) := fun o => (Below.refl _ _).alloc (Nat.le_refl _) _
  go_simp
  exact (f65_any W).mono fun e w' ⟨he, hb⟩ => ⟨_, he, hCW.grow hb, Grow.of_below hb, rfl⟩
set_option maxHeartbeats 1000000 in
set_option maxRecDepth 100000 in
theorem st52_56 {w W : World} {B2 B4 : Nat} {m : Value} {ρ : Operand → Value} (hC : C52 w B2 B4 W) (hc : ∀ v, ρ (.const v) = v) (hf : ∀ f, ρ (.func f) = .func (.func f) #[] #[]) (e1 : ρ (.tmp 1) = .func (.func 61) #[] #[]) :
    St52 w B2 B4 m (.val (.func (.func 61) #[] #[])) W ((execOp ρ { dst := some 62, op := Go.Op.move (Go.Operand.tmp 1), type := 109, pos := "", after := #[], guard := none }).run Tryz.prog W) := by
  obtain ⟨hW, h2, h4⟩ := hC
  have c2 := h2.cells
  have c4 := h4.cells
  have hCW : C52 w B2 B4 W := ⟨hW, h2, h4⟩
  have hba : ∀ o : Obj, Below W.heap.size W (W.alloc o) := fun o => (Below.refl _ _).alloc (Nat.le_refl _) _
  go_simp
  exact ⟨hCW, Grow.refl _, rfl⟩
set_option maxHeartbeats 1000000 in
set_option maxRecDepth 100000 in
theorem st52_57 {w W : World} {B2 B4 : Nat} {m : Value} {ρ : Operand → Value} (hC : C52 w B2 B4 W) (hc : ∀ v, ρ (.const v) = v) (hf : ∀ f, ρ (.func f) = .func (.func f) #[] #[]) (v62 : Value) (e62 : ρ (.tmp 62) = v62) (r62 : (.val (.func (.func 61) #[] #[]) : Kind).saysV w.heap.size v62 m W) :
    St52 w B2 B4 m (.val (.agg #[.int .i64 (-1), .int .i64 0, .int .i64 0, .int .i64 0, .int .i64 0])) W ((execOp ρ { dst := some 63, op := Go.Op.call { callee := Go.Callee.value (Go.Operand.tmp 62), args := #[Go.Operand.const (Go.Value.int Go.IntKind.i64 4)], argTypes := #[3] }, type := 38, pos := "", after := #[], guard := none }).run Tryz.prog W) := by
  obtain rfl := r62
  obtain ⟨hW, h2, h4⟩ := hC
  have c2 := h2.cells
  have c4 := h4.cells
  have hCW : C52 w B2 B4 W := ⟨hW, h2, h4⟩
  have hba : ∀ o : Obj, Below W.heap.size W (W.alloc o) := fun o => (Below.refl _ _).alloc (Nat.le_refl _) _
  have H : Calls Tryz.prog 61 #[.int .i64 4] W fun e w' => e = .returned (.agg #[.int .i64 (-1), .int .i64 0, .int .i64 0, .int .i64 0, .int .i64 0]) ∧ Below W.heap.size W w' := f61_any 4 W (by decide)
  go_simp
  exact H.mono fun e w' ⟨he, hb⟩ => ⟨_, he, hCW.grow hb, Grow.of_below hb, rfl⟩
set_option maxHeartbeats 1000000 in
set_option maxRecDepth 100000 in
theorem st52_58 {w W : World} {B2 B4 : Nat} {m : Value} {ρ : Operand → Value} (hC : C52 w B2 B4 W) (hc : ∀ v, ρ (.const v) = v) (hf : ∀ f, ρ (.func f) = .func (.func f) #[] #[]) (v59 : Value) (e59 : ρ (.tmp 59) = v59) (r59 : (.val (.agg #[.int .i64 1, .int .i64 0, .int .i64 0, .int .i64 0, .int .i64 0]) : Kind).saysV w.heap.size v59 m W) (v60 : Value) (e60 : ρ (.tmp 60) = v60) (r60 : (.val (.agg #[.int .i64 1, .int .i64 0, .int .i64 0, .int .i64 0, .int .i64 0]) : Kind).saysV w.heap.size v60 m W) (v61 : Value) (e61 : ρ (.tmp 61) = v61) (r61 : (.val (.agg #[.int .i64 1, .int .i64 0, .int .i64 0, .int .i64 0, .int .i64 0]) : Kind).saysV w.heap.size v61 m W) (v63 : Value) (e63 : ρ (.tmp 63) = v63) (r63 : (.val (.agg #[.int .i64 (-1), .int .i64 0, .int .i64 0, .int .i64 0, .int .i64 0]) : Kind).saysV w.heap.size v63 m W) :
    St52 w B2 B4 m (.sl 4 #[.int .i64 1, .int .i64 0, .int .i64 0, .int .i64 0, .int .i64 0, .int .i64 1, .int .i64 0, .int .i64 0, .int .i64 0, .int .i64 0, .int .i64 1, .int .i64 0, .int .i64 0, .int .i64 0, .int .i64 0, .int .i64 (-1), .int .i64 0, .int .i64 0, .int .i64 0, .int .i64 0]) W ((execOp ρ { dst := some 64, op := Go.Op.buildSlice 72 4 #[(0, Go.Operand.tmp 59), (1, Go.Operand.tmp 60), (2, Go.Operand.tmp 61), (3, Go.Operand.tmp 63)], type := 72, pos := "", after := #[], guard := none }).run Tryz.prog W) := by
  obtain rfl := r59
  obtain rfl := r60
  obtain rfl := r61
  obtain rfl := r63
  obtain ⟨hW, h2, h4⟩ := hC
  have c2 := h2.cells
  have c4 := h4.cells
  have hCW : C52 w B2 B4 W := ⟨hW, h2, h4⟩
  have hba : ∀ o : Obj, Below W.heap.size W (W.alloc o) := fun o => (Below.refl _ _).alloc (Nat.le_refl _) _
  go_simp
  exact ⟨hCW.grow (hba _), Grow.of_below (hba _), W.heap.size, rfl, Blk.new W 38 _⟩
set_option maxHeartbeats 1000000 in
set_option maxRecDepth 100000 in
theorem st52_59 {w W : World} {B2 B4 : Nat} {m : Value} {ρ : Operand → Value} (hC : C52 w B2 B4 W) (hc : ∀ v, ρ (.const v) = v) (hf : ∀ f, ρ (.func f) = .func (.func f) #[] #[]) (v64 : Value) (e64 : ρ (.tmp 64) = v64) (r64 : (.sl 4 #[.int .i64 1, .int .i64 0, .int .i64 0, .int .i64 0, .int .i64 0, .int .i64 1, .int .i64 0, .int .i64 0, .int .i64 0, .int .i64 0, .int .i64 1, .int .i64 0, .int .i64 0, .int .i64 0, .int .i64 0, .int .i64 (-1), .int .i64 0, .int .i64 0, .int .i64 0, .int .i64 0] : Kind).saysV w.heap.size v64 m W) :
    St52 w B2 B4 m (.good 10) W ((execOp ρ { dst := some 65, op := Go.Op.call { callee := Go.Callee.value (Go.Operand.func 101), args := #[Go.Operand.tmp 64], argTypes := #[72] }, type := 88, pos := "", after := #[], guard := none }).run Tryz.prog W) := by
  obtain ⟨b64, rfl, s64⟩ := r64
  obtain ⟨hW, h2, h4⟩ := hC
  have c2 := h2.cells
  have c4 := h4.cells
  have hCW : C52 w B2 B4 W := ⟨hW, h2, h4⟩
  have hba : ∀ o : Obj, Below W.heap.size W (W.alloc o) := fun o => (Below.refl _ _).alloc (Nat.le_refl _) _
  go_simp
  exact (f101_any 4 b64 0 4 czD W (by decide) s64.lt (num4 (x := (Num.w 0)) (y := (Num.w 0)) (z := (Num.w 0)) (u := (Num.w 4)) s64 rfl rfl rfl rfl)).mono fun e w' ⟨he, hF, hb⟩ => ⟨_, he, hCW.grow hb, Grow.of_below hb, _, _, rfl, hF.mat (by decide)⟩
set_option maxHeartbeats 1000000 in
set_option maxRecDepth 100000 in
theorem st52_60 {w W : World} {B2 B4 : Nat} {m : Value} {ρ : Operand → Value} (hC : C52 w B2 B4 W) (hc : ∀ v, ρ (.const v) = v) (hf : ∀ f, ρ (.func f) = .func (.func f) #[] #[]) (e15 : ρ (.tmp 15) = m) (r15 : (.map0 : Kind).saysV w.heap.size m m W) (v65 : Value) (e65 : ρ (.tmp 65) = v65) (r65 : (.good 10 : Kind).saysV w.heap.size v65 m W) :
    St52 w B2 B4 m (.ins 10) W ((execOp ρ { dst := none, op := Go.Op.insert 100 (Go.Operand.tmp 15) (Go.Operand.const (Go.Value.int Go.IntKind.i64 10)) (Go.Operand.tmp 65), type := 0, pos := "", after := #[], guard := none }).run Tryz.prog W) := by
  obtain ⟨hW, h2, h4⟩ := hC
  have c2 := h2.cells
  have c4 := h4.cells
  have hCW : C52 w B2 B4 W := ⟨hW, h2, h4⟩
  have hba : ∀ o : Obj, Below W.heap.size W (W.alloc o) := fun o => (Below.refl _ _).alloc (Nat.le_refl _) _
  have r15' : MapAt w.heap.size m W := r15
  obtain ⟨b, es', c', hm, hN, hrun, hg, hkey, hlt⟩ := r15'.insert (k := 10) (by decide) (by decide) r65
  subst hm
  have hrun' : (Instr.mapUpdate 100 (.map (some b)) (.int .i64 10) v65).run Tryz.prog W = .ok () (W.putObj b (.map es' c')) := hrun
  go_simp
  exact ⟨⟨hW.grown (grownBy_putObj' W b _) hW.size (fun k e => by cases e; exact hN), hg.blk h2, hg.blk h4⟩, hg, hkey⟩
set_option maxHeartbeats 1000000 in
set_option maxRecDepth 100000 in
theorem st52_61 {w W : World} {B2 B4 : Nat} {m : Value} {ρ : Operand → Value} (hC : C52 w B2 B4 W) (hc : ∀ v, ρ (.const v) = v) (hf : ∀ f, ρ (.func f) = .func (.func f) #[] #[]) :
    St52 w B2 B4 m (.good 11) W ((execOp ρ { dst := some 66, op := Go.Op.call { callee := Go.Callee.value (Go.Operand.func 87), args := #[Go.Operand.const (Go.Value.int Go.IntKind.i64 4), Go.Operand.func 103], argTypes := #[3, 26] }, type := 88, pos := "", after := #[], guard := none }).run Tryz.prog W) := by
  obtain ⟨hW, h2, h4⟩ := hC
  have c2 := h2.cells
  have c4 := h4.cells
  have hCW : C52 w B2 B4 W := ⟨hW, h2, h4⟩
  have hba : ∀ o : Obj, Below W.heap.size W (W.alloc o) := fun o => (Below.refl _ _).alloc (Nat.le_refl _) _
  go_simp
  exact (f87_any 103 #[] (enters_of Tryz.func103 (by kernel_rfl) rfl) 4 mvSwap W (by decide) (by decide) (fun W k hk => f103_any k W hk)).mono fun e w' ⟨he, hF, hb⟩ => ⟨_, he, hCW.grow hb, Grow.of_below hb, _, _, rfl, hF.mat (by decide)⟩
set_option maxHeartbeats 1000000 in
set_option maxRecDepth 100000 in
theorem st52_62 {w W : World} {B2 B4 : Nat} {m : Value} {ρ : Operand → Value} (hC : C52 w B2 B4 W) (hc : ∀ v, ρ (.const v) = v) (hf : ∀ f, ρ (.func f) = .func (.func f) #[] #[]) (e15 : ρ (.tmp 15) = m) (r15 : (.map0 : Kind).saysV w.heap.size m m W) (v66 : Value) (e66 : ρ (.tmp 66) = v66) (r66 : (.good 11 : Kind).saysV w.heap.size v66 m W) :
    St52 w B2 B4 m (.ins 11) W ((execOp ρ { dst := none, op := Go.Op.insert 100 (Go.Operand.tmp 15) (Go.Operand.const (Go.Value.int Go.IntKind.i64 11)) (Go.Operand.tmp 66), type := 0, pos := "", after := #[], guard := none }).run Tryz.prog W) := by
  obtain ⟨hW, h2, h4⟩ := hC
  have c2 := h2.cells
  have c4 := h4.cells
  have hCW : C52 w B2 B4 W := ⟨hW, h2, h4⟩
  have hba : ∀ o : Obj, Below W.heap.size W (W.alloc o) := fun o => (Below.refl _ _).alloc (Nat.le_refl _) _
  have r15' : MapAt w.heap.size m W := r15
  obtain ⟨b, es', c', hm, hN, hrun, hg, hkey, hlt⟩ := r15'.insert (k := 11) (by decide) (by decide) r66
  subst hm
  have hrun' : (Instr.mapUpdate 100 (.map (some b)) (.int .i64 11) v66).run Tryz.prog W = .ok () (W.putObj b (.map es' c')) := hrun
  go_simp
  exact ⟨⟨hW.grown (grownBy_putObj' W b _) hW.size (fun k e => by cases e; exact hN), hg.blk h2, hg.blk h4⟩, hg, hkey⟩
set_option maxHeartbeats 1000000 in
set_option maxRecDepth 100000 in
theorem st52_63 {w W : World} {B2 B4 : Nat} {m : Value} {ρ : Operand → Value} (hC : C52 w B2 B4 W) (hc : ∀ v, ρ (.const v) = v) (hf : ∀ f, ρ (.func f) = .func (.func f) #[] #[]) :
    St52 w B2 B4 m (.good 12) W ((execOp ρ { dst := some 67, op := Go.Op.call { callee := Go.Callee.value (Go.Operand.func 87), args := #[Go.Operand.const (Go.Value.int Go.IntKind.i64 8), Go.Operand.func 104], argTypes := #[3, 26] }, type := 88, pos := "", after := #[], guard := none }).run Tryz.prog W) := by
  obtain ⟨hW, h2, h4⟩ := hC
  have c2 := h2.cells
  have c4 := h4.cells
  have hCW : C52 w B2 B4 W := ⟨hW, h2, h4⟩
  have hba : ∀ o : Obj, Below W.heap.size W (W.alloc o) := fun o => (Below.refl _ _).alloc (Nat.le_refl _) _
  go_simp
  exact (f87_any 104 #[] (enters_of Tryz.func104 (by kernel_rfl) rfl) 8 mvCCX W (by decide) (by decide) (fun W k hk => f104_any k W hk)).mono fun e w' ⟨he, hF, hb⟩ => ⟨_, he, hCW.grow hb, Grow.of_below hb, _, _, rfl, hF.mat (by decide)⟩
set_option maxHeartbeats 1000000 in
set_option maxRecDepth 100000 in
theorem st52_64 {w W : World} {B2 B4 : Nat} {m : Value} {ρ : Operand → Value} (hC : C52 w B2 B4 W) (hc : ∀ v, ρ (.const v) = v) (hf : ∀ f, ρ (.func f) = .func (.func f) #[] #[]) (e15 : ρ (.tmp 15) = m) (r15 : (.map0 : Kind).saysV w.heap.size m m W) (v67 : Value) (e67 : ρ (.tmp 67) = v67) (r67 : (.good 12 : Kind).saysV w.heap.size v67 m W) :
    St52 w B2 B4 m (.ins 12) W ((execOp ρ { dst := none, op := Go.Op.insert 100 (Go.Operand.tmp 15) (Go.Operand.const (Go.Value.int Go.IntKind.i64 12)) (Go.Operand.tmp 67), type := 0, pos := "", after := #[], guard := none }).run Tryz.prog W) := by
  obtain ⟨hW, h2, h4⟩ := hC
  have c2 := h2.cells
  have c4 := h4.cells
  have hCW : C52 w B2 B4 W := ⟨hW, h2, h4⟩
  have hba : ∀ o : Obj, Below W.heap.size W (W.alloc o) := fun o => (Below.refl _ _).alloc (Nat.le_refl _) _
  have r15' : MapAt w.heap.size m W := r15
  obtain ⟨b, es', c', hm, hN, hrun, hg, hkey, hlt⟩ := r15'.insert (k := 12) (by decide) (by decide) r67
  subst hm
  have hrun' : (Instr.mapUpdate 100 (.map (some b)) (.int .i64 12) v67).run Tryz.prog W = .ok () (W.putObj b (.map es' c')) := hrun
  go_simp
  exact ⟨⟨hW.grown (grownBy_putObj' W b _) hW.size (fun k e => by cases e; exact hN), hg.blk h2, hg.blk h4⟩, hg, hkey⟩
set_option maxHeartbeats 1000000 in
set_option maxRecDepth 100000 in
theorem st52_65 {w W : World} {B2 B4 : Nat} {m : Value} {ρ : Operand → Value} (hC : C52 w B2 B4 W) (hc : ∀ v, ρ (.const v) = v) (hf : ∀ f, ρ (.func f) = .func (.func f) #[] #[]) (e15 : ρ (.tmp 15) = m) (r15 : (.map0 : Kind).saysV w.heap.size m m W) :
    St52 w B2 B4 m (.same) W ((execOp ρ { dst := some 68, op := Go.Op.move (Go.Operand.tmp 15), type := 100, pos := "", after := #[], guard := none }).run Tryz.prog W) := by
  obtain ⟨hW, h2, h4⟩ := hC
  have c2 := h2.cells
  have c4 := h4.cells
  have hCW : C52 w B2 B4 W := ⟨hW, h2, h4⟩
  have hba : ∀ o : Obj, Below W.heap.size W (W.alloc o) := fun o => (Below.refl _ _).alloc (Nat.le_refl _) _
  go_simp
  exact ⟨hCW, Grow.refl _, rfl⟩
set_option maxHeartbeats 1000000 in
set_option maxRecDepth 100000 in
theorem st52_66 {w W : World} {B2 B4 : Nat} {m : Value} {ρ : Operand → Value} (hC : C52 w B2 B4 W) (hc : ∀ v, ρ (.const v) = v) (hf : ∀ f, ρ (.func f) = .func (.func f) #[] #[]) (v68 : Value) (e68 : ρ (.tmp 68) = v68) (r68 : (.same : Kind).saysV w.heap.size v68 m W) :
    St52 w B2 B4 m (.same) W ((execOp ρ { dst := some 0, op := Go.Op.assign (Go.Operand.tmp 68), type := 100, pos := "", after := #[], guard := none }).run Tryz.prog W) := by
  have r68' : v68 = m := r68
  subst r68'
  obtain ⟨hW, h2, h4⟩ := hC
  have c2 := h2.cells
  have c4 := h4.cells
  have hCW : C52 w B2 B4 W := ⟨hW, h2, h4⟩
  have hba : ∀ o : Obj, Below W.heap.size W (W.alloc o) := fun o => (Below.refl _ _).alloc (Nat.le_refl _) _
  go_simp
  exact ⟨hCW, Grow.refl _, rfl⟩
end Go.Proofs.YtdfgmmjcamhdjaaGreatDoor
