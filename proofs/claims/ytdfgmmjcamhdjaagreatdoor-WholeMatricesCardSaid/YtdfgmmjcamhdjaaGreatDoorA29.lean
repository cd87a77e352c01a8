/- Steps to WholeMatrices' card; what each asks stands in it. -/
import Derived.WideKeyRuns
import Derived.Test.YtdfgmmjcamhdjaaGreatDoorA27
set_option linter.unusedVariables false
set_option linter.unusedSimpArgs false
namespace Go.Proofs.YtdfgmmjcamhdjaaGreatDoor
section
open Go.RowKit
attribute [local go_sem ↓] Go.wp_at_zero Go.wp_at_succ
/-- a pair of letters, or what it makes -/
def kv (a b : Nat) : Value := .agg #[.int .i64 a, .int .i64 b]
theorem und184 : Tryz.prog.underlying 184 = some (.map 187 176) := by kernel_rfl
theorem run_eqK (a b c d : Int) (w : World) : (Op.equalIn 10000 187 (.agg #[.int .i64 a, .int .i64 b]) (.agg #[.int .i64 c, .int .i64 d])).run Tryz.prog w = .ok (a == c && b == d) w := by
  have h0 : ∀ (x y : Int) (w : World), (Op.equalIn 9999 3 (.int .i64 x) (.int .i64 y)).run Tryz.prog w = .ok (x == y) w := fun x y w => run_equalIn_int w 9998 3 .i64 .i64 x y Tryz.underlying3
  rw [show (10000 : Nat) = 9999 + 1 from rfl, Op.equalIn]
  simp [go_sem, Tryz.underlying187, h0]
  cases h1 : a == c <;> cases h2 : b == d <;> simp [go_sem, h0, h1, h2] <;> simp_all
theorem run_eqK' (a b c d : Nat) (w : World) : (Op.equal 187 (kv a b) (kv c d)).run Tryz.prog w = .ok (decide (a = c ∧ b = d)) w := by
  have h := run_eqK a b c d w
  rw [show ((a : Int) == (c : Int) && (b : Int) == (d : Int)) = decide (a = c ∧ b = d) from by
    by_cases h1 : a = c <;> by_cases h2 : b = d <;> simp [h1, h2] <;> omega] at h
  exact h
theorem run_checkK (e : Bool) (a b : Nat) (w : World) : (Instr.checkKey e 10000 187 (kv a b)).run Tryz.prog w = .ok () w := by
  have h0 : ∀ (x : Int) (w : World), (Instr.checkKey e 9999 3 (.int .i64 x)).run Tryz.prog w = .ok () w := fun x w => run_checkKey_int e 9998 x w
  rw [show (10000 : Nat) = 9999 + 1 from rfl, Instr.checkKey]
  unfold kv
  simp [go_sem, Tryz.underlying187, h0]
/-- each entry of the table is right where it is asked for -/
def KvGood (es : Array MapEntry) : Prop := ∀ e ∈ es.toList, ∃ a b : Nat, e.key = kv a b ∧ (a = 3 ∧ b = 1 → e.val = kv 2 1)
def Has31 (es : Array MapEntry) : Prop := ∃ e ∈ es.toList, e.key = kv 3 1
theorem kv_inj {a b c d : Nat} (h : kv a b = kv c d) : a = c ∧ b = d := by
  unfold kv at h
  injection h with h
  injection h with h
  injection h with h1 h2
  injection h1 with _ h1
  injection h2 with h2 _
  injection h2 with _ h2
  exact ⟨by omega, by omega⟩
theorem run_findK (a b : Nat) (w : World) : ∀ (es : List MapEntry) (i : Nat), (∀ e ∈ es, ∃ a b : Nat, e.key = kv a b) →
    ((Instr.findAsking 187 (kv a b) es i).run Tryz.prog w = .ok none w ∧ ∀ e ∈ es, e.key ≠ kv a b) ∨
    ∃ j e, es[j]? = some e ∧ e.key = kv a b ∧ (Instr.findAsking 187 (kv a b) es i).run Tryz.prog w = .ok (some (i + j, e.val)) w
  | [], i, _ => .inl ⟨by simp [Instr.findAsking], fun e he => by cases he⟩
  | e :: es, i, h => by
    obtain ⟨c, d, hk⟩ := h e (by simp)
    have he := run_eqK' a b c d w
    rw [Instr.findAsking, hk]
    by_cases hh : a = c ∧ b = d
    · obtain ⟨rfl, rfl⟩ := hh
      refine .inr ⟨0, e, by simp, hk, ?_⟩
      simp [he]
    · rcases run_findK a b w es (i + 1) (fun e' h' => h e' (by simp [h'])) with ⟨h1, h2⟩ | ⟨j, e', h1, h2, h3⟩
      · refine .inl ⟨by simp [he, hh, h1], fun e' he' => ?_⟩
        rcases List.mem_cons.1 he' with rfl | he'
        · rw [hk]
          intro e2
          obtain ⟨q1, q2⟩ := kv_inj e2
          exact hh ⟨q1.symm, q2.symm⟩
        · exact h2 e' he'
      · exact .inr ⟨j + 1, e', by simpa using h1, h2, by simp [he, hh, h3]; omega⟩
theorem run_findKey_kv (a b : Nat) (w : World) (es : List MapEntry) (h : ∀ e ∈ es, ∃ a b : Nat, e.key = kv a b) :
    ((Instr.findKey 187 (kv a b) es).run Tryz.prog w = .ok none w ∧ ∀ e ∈ es, e.key ≠ kv a b) ∨
    ∃ j e, es[j]? = some e ∧ e.key = kv a b ∧ (Instr.findKey 187 (kv a b) es).run Tryz.prog w = .ok (some (j, e.val)) w := by
  rw [run_findKey_eq w (by kernel_rfl) (kv a b) es]
  rcases run_findK a b w es 0 h with h | ⟨j, e, h1, h2, h3⟩
  · exact .inl h
  · exact .inr ⟨j, e, h1, h2, by rw [h3, Nat.zero_add]⟩
theorem KvGood.keys {es : Array MapEntry} (h : KvGood es) : ∀ e ∈ es.toList, ∃ a b : Nat, e.key = kv a b := fun e he => by
  obtain ⟨a, b, h1, _⟩ := h e he
  exact ⟨a, b, h1⟩
theorem run_lookupK (w : World) (b : Nat) (es : Array MapEntry) (c : Nat) (hb : w.heap[b]? = some (.map es c)) (hg : KvGood es) (h31 : Has31 es) :
    (Instr.lookup 184 (.map (some b)) (kv 3 1) false).run Tryz.prog w = .ok (kv 2 1) w := by
  have hc := run_checkK es.isEmpty 3 1 w
  rcases run_findKey_kv 3 1 w es.toList hg.keys with ⟨_, h2⟩ | ⟨j, e, h1, h2, h3⟩
  · obtain ⟨e, he, hk⟩ := h31
    exact absurd hk (h2 e he)
  · have hv : e.val = kv 2 1 := by
      obtain ⟨a, b', q1, q2⟩ := hg e (List.mem_of_getElem? h1)
      obtain ⟨r1, r2⟩ := kv_inj (q1.symm.trans h2)
      exact q2 ⟨r1, r2⟩
    rw [hv] at h3
    simp [Instr.lookup, run_underlying und184, MapKept.run_getObj_map hb, hc, h3, Result.andThen]
theorem sameBits_kv (a b : Nat) : Instr.sameBits 10000 (kv a b) (kv a b) = true := by
  unfold kv
  simp [Instr.sameBits]
theorem run_insertK (w : World) (b : Nat) (es : Array MapEntry) (c : Nat) (x y p q : Nat) (hb : w.heap[b]? = some (.map es c)) (hg : KvGood es) (hv : x = 3 ∧ y = 1 → kv p q = kv 2 1) :
    ∃ es' c', (Instr.mapUpdate 184 (.map (some b)) (kv x y) (kv p q)).run Tryz.prog w = .ok () (w.putObj b (.map es' c')) ∧ KvGood es' ∧ (Has31 es → Has31 es') ∧ (x = 3 ∧ y = 1 → Has31 es') := by
  have hc := run_checkK false x y w
  rcases run_findKey_kv x y w es.toList hg.keys with ⟨h1, h2⟩ | ⟨j, e, h1, h2, h3⟩
  · refine ⟨es.push { key := kv x y, val := kv p q, born := c }, c + 1, ?_, ?_, ?_, ?_⟩
    · simp [Instr.mapUpdate, run_underlying und184, MapKept.run_getObj_map hb, hc, h1, MapKept.run_setObj_map _ hb, Result.andThen, World.putObj]
    · intro e he
      simp only [Array.toList_push, List.mem_append, List.mem_singleton] at he
      rcases he with he | rfl
      · exact hg e he
      · exact ⟨x, y, rfl, hv⟩
    · rintro ⟨e, he, hk⟩
      exact ⟨e, by simp [he], hk⟩
    · rintro ⟨rfl, rfl⟩
      exact ⟨{ key := kv 3 1, val := kv p q, born := c }, by simp, rfl⟩
  · have hj := (List.getElem?_eq_some_iff.1 h1).1
    have hes : es[j]? = some e := by simpa using h1
    refine ⟨es.modify j fun e => { e with key := kv x y, val := kv p q }, c, ?_, ?_, ?_, ?_⟩
    · have hs : (Instr.keyThatStays (kv x y) (kv x y)).run Tryz.prog w = .ok (kv x y) w := by simp [Instr.keyThatStays, sameBits_kv]
      simp [Instr.mapUpdate, run_underlying und184, MapKept.run_getObj_map hb, hc, h3, hes, h2, hs, MapKept.run_setObj_map _ hb, Result.andThen, World.putObj]
    all_goals have hat : ∀ i, (es.modify j fun e => { e with key := kv x y, val := kv p q }).toList[i]? = if j = i then (es.toList[i]?).map (fun e => { e with key := kv x y, val := kv p q }) else es.toList[i]? := fun i => (by
      rw [Array.getElem?_toList, Array.getElem?_modify, Array.getElem?_toList])
    · intro e' he'
      obtain ⟨i, hi⟩ := List.mem_iff_getElem?.1 he'
      rw [hat] at hi
      split at hi
      · obtain ⟨e0, _, rfl⟩ := Option.map_eq_some_iff.1 hi
        exact ⟨x, y, rfl, hv⟩
      · exact hg e' (List.mem_of_getElem? hi)
    · rintro ⟨e', he', hk'⟩
      obtain ⟨i, hi⟩ := List.mem_iff_getElem?.1 he'
      by_cases hji : j = i
      · subst hji
        rw [h1] at hi
        cases hi
        refine ⟨{ e with key := kv x y, val := kv p q }, List.mem_iff_getElem?.2 ⟨j, by rw [hat, if_pos rfl, h1]; rfl⟩, ?_⟩
        exact h2.symm.trans hk'
      · exact ⟨e', List.mem_iff_getElem?.2 ⟨i, by rw [hat, if_neg hji]; exact hi⟩, hk'⟩
    · rintro ⟨rfl, rfl⟩
      exact ⟨{ e with key := kv 3 1, val := kv p q }, List.mem_iff_getElem?.2 ⟨j, by rw [hat, if_pos rfl, h1]; rfl⟩, rfl⟩
/-- worlds go along: maps that are right stay so, and keep what they have -/
structure GrowK (W W' : World) : Prop where
  size : W.heap.size ≤ W'.heap.size
  map : ∀ (b : Nat) (es : Array MapEntry) (c : Nat), W.heap[b]? = some (.map es c) → KvGood es → ∃ es' c', W'.heap[b]? = some (.map es' c') ∧ KvGood es' ∧ (Has31 es → Has31 es')
theorem GrowK.refl (W : World) : GrowK W W := ⟨Nat.le_refl _, fun b es c h hg => ⟨es, c, h, hg, id⟩⟩
theorem GrowK.alloc (W : World) (o : Obj) : GrowK W (W.alloc o) := ⟨by simp, fun b es c h hg => ⟨es, c, (Below.heap_alloc _ _ _ (Array.getElem?_eq_some_iff.1 h).1).trans h, hg, id⟩⟩
def MapK (N0 : Nat) (v : Value) (W : World) (h31 : Bool) : Prop := ∃ b es c, v = .map (some b) ∧ N0 ≤ b ∧ W.heap[b]? = some (.map es c) ∧ KvGood es ∧ (h31 = true → Has31 es)
theorem MapK.grow {N0 : Nat} {v : Value} {W W' : World} {h31 : Bool} (g : GrowK W W') (h : MapK N0 v W h31) : MapK N0 v W' h31 := by
  obtain ⟨b, es, c, e, h0, h1, h2, h3⟩ := h
  obtain ⟨es', c', a1, a2, a3⟩ := g.map b es c h1 h2
  exact ⟨b, es', c', e, h0, a1, a2, fun hh => a3 (h3 hh)⟩
theorem MapK.insert {N0 x y p q : Nat} {m : Value} {W : World} {is31 : Bool} (w0 : World) (h : MapK N0 m W false) (hv : x = 3 ∧ y = 1 → kv p q = kv 2 1) (hi : is31 = true → x = 3 ∧ y = 1) :
    ∃ b W', m = .map (some b) ∧ N0 ≤ b ∧ (Instr.mapUpdate 184 m (kv x y) (kv p q)).run Tryz.prog W = .ok () W' ∧ GrowK W W' ∧ MapK N0 m W' is31 ∧ (∀ k, Below k w0 W → k ≤ N0 → Below k w0 W') := by
  obtain ⟨b, es, c, rfl, h0, h1, h2, h3⟩ := h
  obtain ⟨es', c', hrun, g1, g2, g3⟩ := run_insertK W b es c x y p q h1 h2 hv
  have hlt := (Array.getElem?_eq_some_iff.1 h1).1
  have hnew : (W.putObj b (.map es' c')).heap[b]? = some (.map es' c') := by simp [World.putObj, hlt]
  have hoth : ∀ b', b' ≠ b → (W.putObj b (.map es' c')).heap[b']? = W.heap[b']? := fun b' hne => World.putObj_heap_other (fun e => hne e)
  refine ⟨b, _, rfl, h0, hrun, ⟨by simp [World.putObj], fun b' es1 c1 hb' hg' => ?_⟩, ⟨b, es', c', rfl, h0, hnew, g1, fun hh => g3 (hi hh)⟩, fun k hB hk => ?_⟩
  · by_cases e : b' = b
    · subst e
      rw [h1] at hb'
      cases hb'
      exact ⟨es', c', hnew, g1, g2⟩
    · exact ⟨es1, c1, (hoth _ e).trans hb', hg', id⟩
  · exact ⟨hB.os, hB.tape, hB.output, Nat.le_trans hB.size (by simp [World.putObj]), fun i hi => (hoth i (by omega)).trans (hB.block i hi)⟩
inductive KindK where
  | val (v : Value)
  | map0
  | ins (is31 : Bool)
  | same
def KindK.saysV (N0 : Nat) (v m : Value) (W : World) : KindK → Prop
  | .val u => v = u
  | .map0 => MapK N0 v W false
  | .ins h => MapK N0 m W h
  | .same => v = m
def listK : List KindK := [.map0, .val (kv 1 2), .val (kv 3 1), .ins false, .val (kv 2 1), .val (kv 3 3), .ins false, .val (kv 2 3), .val (kv 1 1), .ins false, .val (kv 3 2), .val (kv 1 3), .ins false, .val (kv 3 1), .val (kv 2 1), .ins true, .val (kv 1 3), .val (kv 2 3), .ins false, .same, .same]
def kindsK (i : Nat) : KindK := listK.getD i (.val undef)
def KindK.says (N0 : Nat) (i : Nat) (vs : Nat → Value) (W : World) (k : KindK) : Prop := k.saysV N0 (vs i) (vs 0) W
def KindK.elder : KindK → Bool
  | .ins _ => true
  | .same => true
  | _ => false
theorem saysK_grow {N0 : Nat} {v m : Value} {W W' : World} (g : GrowK W W') : ∀ k : KindK, k.saysV N0 v m W → k.saysV N0 v m W'
  | .val _, h => h
  | .map0, h => MapK.grow g h
  | .ins _, h => MapK.grow g h
  | .same, h => h
theorem saysK_loc {N0 : Nat} {v m m' : Value} {W : World} : ∀ k : KindK, (k.elder = true → m = m') → k.saysV N0 v m W → k.saysV N0 v m' W
  | .val _, _, h => h
  | .map0, _, h => h
  | .ins _, h0, h => by unfold KindK.saysV at *; rw [← h0 rfl]; exact h
  | .same, h0, h => by unfold KindK.saysV at *; rw [← h0 rfl]; exact h
def eldersK (ops : Array Oper) : Bool := (List.range 21).all fun i => !(kindsK i).elder || (Calm.direct ops i).contains 0
theorem eldersK_spec {ops : Array Oper} (h : eldersK ops = true) {i : Nat} (hs : (kindsK i).elder = true) : 0 ∈ Calm.direct ops i := by
  unfold eldersK at h
  simp only [List.all_eq_true, List.mem_range, Bool.or_eq_true] at h
  by_cases hi : i < 21
  · rcases h i hi with h | h
    · rw [hs] at h; cases h
    · simpa using h
  · have : kindsK i = .val undef := by unfold kindsK; rw [List.getD_eq_getElem?_getD, List.getElem?_eq_none (by simpa [listK] using Nat.le_of_not_lt hi)]; rfl
    rw [this] at hs
    cases hs
end
section
open Go.RowKit
attribute [local go_sem ↓] Go.wp_at_zero Go.wp_at_succ
theorem lt21 (i : Nat) (h : i < 21) : i = 0 ∨ i = 1 ∨ i = 2 ∨ i = 3 ∨ i = 4 ∨ i = 5 ∨ i = 6 ∨ i = 7 ∨ i = 8 ∨ i = 9 ∨ i = 10 ∨ i = 11 ∨ i = 12 ∨ i = 13 ∨ i = 14 ∨ i = 15 ∨ i = 16 ∨ i = 17 ∨ i = 18 ∨ i = 19 ∨ i = 20 := by omega
def StK (w0 : World) (m : Value) (k : KindK) (W : World) (r : Result Next) : Prop := Rely.StepR Tryz.prog (fun W => Below w0.heap.size w0 W) GrowK (fun v W' => k.saysV w0.heap.size v m W') W r
set_option maxRecDepth 100000
section
variable {w0 W : World} {m : Value} {ρ : Operand → Value}
theorem stK_make {d : Option Tmp} {p : String} {af} (hC : Below w0.heap.size w0 W) :
    StK w0 m .map0 W ((execOp ρ { dst := d, op := Go.Op.makeMap 184 none, type := 184, pos := p, after := af, guard := none }).run Tryz.prog W) := by
  have hmm := @run_makeMap Tryz.prog
  go_simp
  exact ⟨hC.alloc hC.size _, GrowK.alloc _ _, W.heap.size, #[], 0, rfl, hC.size, World.alloc_heap_new W _, fun e he => (by simp at he), fun h => by cases h⟩
theorem stK_key {d : Option Tmp} {p : String} {af} (a b : Nat) (hC : Below w0.heap.size w0 W) (hc : ∀ v, ρ (.const v) = v) :
    StK w0 m (.val (kv a b)) W ((execOp ρ { dst := d, op := Go.Op.build 187 #[(0, Go.Operand.const (Go.Value.int Go.IntKind.i64 a)), (1, Go.Operand.const (Go.Value.int Go.IntKind.i64 b))], type := 187, pos := p, after := af, guard := none }).run Tryz.prog W) := by
  go_simp
  exact ⟨hC, GrowK.refl _, rfl⟩
theorem stK_val {d : Option Tmp} {p : String} {af} (a b : Nat) (hC : Below w0.heap.size w0 W) (hc : ∀ v, ρ (.const v) = v) :
    StK w0 m (.val (kv a b)) W ((execOp ρ { dst := d, op := Go.Op.build 176 #[(0, Go.Operand.const (Go.Value.int Go.IntKind.i64 a)), (1, Go.Operand.const (Go.Value.int Go.IntKind.i64 b))], type := 176, pos := p, after := af, guard := none }).run Tryz.prog W) := by
  go_simp
  exact ⟨hC, GrowK.refl _, rfl⟩
theorem stK_ins {p : String} {af} (x y a b : Nat) (is31 : Bool) (t2 t3 : Nat) (hC : Below w0.heap.size w0 W) (e1 : ρ (.tmp 1) = m) (e2 : ρ (.tmp t2) = kv x y) (e3 : ρ (.tmp t3) = kv a b) (hM : MapK w0.heap.size m W false) (hv : x = 3 ∧ y = 1 → kv a b = kv 2 1) (hi : is31 = true → x = 3 ∧ y = 1) :
    StK w0 m (.ins is31) W ((execOp ρ { dst := none, op := Go.Op.insert 184 (Go.Operand.tmp 1) (Go.Operand.tmp t2) (Go.Operand.tmp t3), type := 0, pos := p, after := af, guard := none }).run Tryz.prog W) := by
  obtain ⟨b', W', hm, hN, hrun, hg, hkey, hB⟩ := hM.insert w0 hv hi
  clear hM
  subst hm
  go_simp
  exact ⟨hB _ hC (Nat.le_refl _), hg, hkey⟩
theorem stK_move {d : Option Tmp} {p : String} {af} (t : Nat) (hC : Below w0.heap.size w0 W) (e1 : ρ (.tmp t) = m) :
    StK w0 m .same W ((execOp ρ { dst := d, op := Go.Op.move (Go.Operand.tmp t), type := 184, pos := p, after := af, guard := none }).run Tryz.prog W) := by
  go_simp
  exact ⟨hC, GrowK.refl _, rfl⟩
theorem stK_assign {d : Option Tmp} {p : String} {af} (t : Nat) (hC : Below w0.heap.size w0 W) (e1 : ρ (.tmp t) = m) :
    StK w0 m .same W ((execOp ρ { dst := d, op := Go.Op.assign (Go.Operand.tmp t), type := 184, pos := p, after := af, guard := none }).run Tryz.prog W) := by
  go_simp
  exact ⟨hC, GrowK.refl _, rfl⟩
end
def TablePost (w : World) (e : Ending) (w' : World) : Prop := ∃ b es c, e = .returned (.map (some b)) ∧ w'.heap[b]? = some (.map es c) ∧ KvGood es ∧ Has31 es ∧ Below w.heap.size w w'
set_option maxHeartbeats 4000000 in
set_option maxRecDepth 100000 in
theorem f157_any (w : World) : Calls Tryz.prog 157 #[] w (TablePost w) := by
  go_enter Tryz.func157, Tryz.ntmps157
  go_wp2_with (fail)
  refine Rely.wp_region (C := (fun W => Below w.heap.size w W)) (T := GrowK) (R := (fun i vs W => (kindsK i).says w.heap.size i vs W)) (N := 15) (by kernel_rfl) (by kernel_rfl) (by kernel_rfl) (fun i vs W W' g h => saysK_grow g _ h) (fun i vs vs' W hi hd h => ?hloc) ((Below.refl _ _).drew) (fun i o ho ρ vs W hC hk => ?hstep) (fun vs W hC hR => ?hQ)
  case hloc =>
    have h2 : (kindsK i).saysV w.heap.size (vs' i) (vs 0) W := by rw [← hi]; exact h
    exact saysK_loc _ (fun hs => hd 0 (eldersK_spec (by kernel_rfl) hs)) h2
  case hQ =>
    have k20 : vs 20 = vs 0 := hR 20 (by decide)
    have i15 : MapK w.heap.size (vs 0) W true := hR 15 (by decide)
    clear hR
    generalize hA : Rely.putL _ _ vs _ _ = A
    have hA0 : A.eval (.tmp 0) = vs 20 := by
      rw [← hA]
      exact Rely.eval_some (d := 20) (L := fun _ => true) rfl (by kernel_rfl) (show 0 < 15 by decide) _ (by decide) (onlyDst_spec (by kernel_rfl))
    have hAd : A.defers = [] := by
      rw [← hA]
      exact (defers_putL _).trans rfl
    clear hA
    obtain ⟨tm, df⟩ := A
    obtain rfl : df = [] := hAd
    have hA1 : tm.getD 0 undef = vs 0 := (show _ = _ from hA0).trans k20
    obtain ⟨b, es, c, hm, _, h1, h2, h3⟩ := i15
    have hA2 : tm[0]?.getD undef = vs 0 := by simpa using hA1
    clear hA0
    go_wp2
    exact bodyPost_ret (v := vs 0) (by simp [results, Tryz.results157, go_sem, hA1, hA2]) rfl ⟨b, es, c, by rw [hm], h1, h2, h3 (by first | rfl | trivial), hC⟩
  case hstep =>
    have hc : ∀ v, ρ (.const v) = v := fun v => hk.2 (.const v) (fun _ _ _ _ e => by cases e)
    replace hk := hk.1
    have hi : i < 21 := (Array.getElem?_eq_some_iff.1 ho).1
    obtain rfl | rfl | rfl | rfl | rfl | rfl | rfl | rfl | rfl | rfl | rfl | rfl | rfl | rfl | rfl | rfl | rfl | rfl | rfl | rfl | rfl := lt21 i hi
    · obtain rfl : _ = o := Option.some.inj ho
      exact stK_make (m := vs 0) hC
    · obtain rfl : _ = o := Option.some.inj ho
      exact stK_key (m := vs 0) 1 2 hC hc
    · obtain rfl : _ = o := Option.some.inj ho
      exact stK_val (m := vs 0) 3 1 hC hc
    · obtain rfl : _ = o := Option.some.inj ho
      exact stK_ins (m := vs 0) 1 2 3 1 false 2 3 hC ((hk 0 (mem_direct (by kernel_rfl))).2 1 (by kernel_rfl)) (((hk 1 (mem_direct (by kernel_rfl))).2 2 (by kernel_rfl)).trans (hk 1 (mem_direct (by kernel_rfl))).1) (((hk 2 (mem_direct (by kernel_rfl))).2 3 (by kernel_rfl)).trans (hk 2 (mem_direct (by kernel_rfl))).1) (hk 0 (mem_direct (by kernel_rfl))).1 (by exact fun h => absurd h (by decide)) (by decide)
    · obtain rfl : _ = o := Option.some.inj ho
      exact stK_key (m := vs 0) 2 1 hC hc
    · obtain rfl : _ = o := Option.some.inj ho
      exact stK_val (m := vs 0) 3 3 hC hc
    · obtain rfl : _ = o := Option.some.inj ho
      exact stK_ins (m := vs 0) 2 1 3 3 false 4 5 hC ((hk 0 (mem_direct (by kernel_rfl))).2 1 (by kernel_rfl)) (((hk 4 (mem_direct (by kernel_rfl))).2 4 (by kernel_rfl)).trans (hk 4 (mem_direct (by kernel_rfl))).1) (((hk 5 (mem_direct (by kernel_rfl))).2 5 (by kernel_rfl)).trans (hk 5 (mem_direct (by kernel_rfl))).1) (hk 0 (mem_direct (by kernel_rfl))).1 (by exact fun h => absurd h (by decide)) (by decide)
    · obtain rfl : _ = o := Option.some.inj ho
      exact stK_key (m := vs 0) 2 3 hC hc
    · obtain rfl : _ = o := Option.some.inj ho
      exact stK_val (m := vs 0) 1 1 hC hc
    · obtain rfl : _ = o := Option.some.inj ho
      exact stK_ins (m := vs 0) 2 3 1 1 false 6 7 hC ((hk 0 (mem_direct (by kernel_rfl))).2 1 (by kernel_rfl)) (((hk 7 (mem_direct (by kernel_rfl))).2 6 (by kernel_rfl)).trans (hk 7 (mem_direct (by kernel_rfl))).1) (((hk 8 (mem_direct (by kernel_rfl))).2 7 (by kernel_rfl)).trans (hk 8 (mem_direct (by kernel_rfl))).1) (hk 0 (mem_direct (by kernel_rfl))).1 (by exact fun h => absurd h (by decide)) (by decide)
    · obtain rfl : _ = o := Option.some.inj ho
      exact stK_key (m := vs 0) 3 2 hC hc
    · obtain rfl : _ = o := Option.some.inj ho
      exact stK_val (m := vs 0) 1 3 hC hc
    · obtain rfl : _ = o := Option.some.inj ho
      exact stK_ins (m := vs 0) 3 2 1 3 false 8 9 hC ((hk 0 (mem_direct (by kernel_rfl))).2 1 (by kernel_rfl)) (((hk 10 (mem_direct (by kernel_rfl))).2 8 (by kernel_rfl)).trans (hk 10 (mem_direct (by kernel_rfl))).1) (((hk 11 (mem_direct (by kernel_rfl))).2 9 (by kernel_rfl)).trans (hk 11 (mem_direct (by kernel_rfl))).1) (hk 0 (mem_direct (by kernel_rfl))).1 (by exact fun h => absurd h (by decide)) (by decide)
    · obtain rfl : _ = o := Option.some.inj ho
      exact stK_key (m := vs 0) 3 1 hC hc
    · obtain rfl : _ = o := Option.some.inj ho
      exact stK_val (m := vs 0) 2 1 hC hc
    · obtain rfl : _ = o := Option.some.inj ho
      exact stK_ins (m := vs 0) 3 1 2 1 true 10 11 hC ((hk 0 (mem_direct (by kernel_rfl))).2 1 (by kernel_rfl)) (((hk 13 (mem_direct (by kernel_rfl))).2 10 (by kernel_rfl)).trans (hk 13 (mem_direct (by kernel_rfl))).1) (((hk 14 (mem_direct (by kernel_rfl))).2 11 (by kernel_rfl)).trans (hk 14 (mem_direct (by kernel_rfl))).1) (hk 0 (mem_direct (by kernel_rfl))).1 (by intro _; rfl) (by decide)
    · obtain rfl : _ = o := Option.some.inj ho
      exact stK_key (m := vs 0) 1 3 hC hc
    · obtain rfl : _ = o := Option.some.inj ho
      exact stK_val (m := vs 0) 2 3 hC hc
    · obtain rfl : _ = o := Option.some.inj ho
      exact stK_ins (m := vs 0) 1 3 2 3 false 12 13 hC ((hk 0 (mem_direct (by kernel_rfl))).2 1 (by kernel_rfl)) (((hk 16 (mem_direct (by kernel_rfl))).2 12 (by kernel_rfl)).trans (hk 16 (mem_direct (by kernel_rfl))).1) (((hk 17 (mem_direct (by kernel_rfl))).2 13 (by kernel_rfl)).trans (hk 17 (mem_direct (by kernel_rfl))).1) (hk 0 (mem_direct (by kernel_rfl))).1 (by exact fun h => absurd h (by decide)) (by decide)
    · obtain rfl : _ = o := Option.some.inj ho
      exact stK_move (m := vs 0) 1 hC ((hk 0 (mem_direct (by kernel_rfl))).2 1 (by kernel_rfl))
    · obtain rfl : _ = o := Option.some.inj ho
      exact stK_assign (m := vs 0) 14 hC (((hk 19 (mem_direct (by kernel_rfl))).2 14 (by kernel_rfl)).trans (hk 19 (mem_direct (by kernel_rfl))).1)
end
end Go.Proofs.YtdfgmmjcamhdjaaGreatDoor
