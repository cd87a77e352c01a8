/- Steps to WholeMatrices' card; what each asks stands in it. -/
import Derived.MapKept
import Derived.Test.YtdfgmmjcamhdjaaGreatDoorA11
set_option linter.unusedVariables false
set_option linter.unusedSimpArgs false
namespace Go.Proofs.YtdfgmmjcamhdjaaGreatDoor
section
open Go.RowKit Go.Shelf
attribute [local go_sem] Oper.semAt_some
/-- w^k -/
def wq : Nat → Q
  | 0 => ⟨1, 0, 0, 0⟩
  | 1 => ⟨0, 1, 0, 0⟩
  | 2 => ⟨0, 0, 1, 0⟩
  | 3 => ⟨0, 0, 0, 1⟩
  | 4 => ⟨-1, 0, 0, 0⟩
  | 5 => ⟨0, -1, 0, 0⟩
  | 6 => ⟨0, 0, -1, 0⟩
  | _ => ⟨0, 0, 0, -1⟩
def wval (k : Nat) : Value := .agg #[.int .i64 (wq k).a, .int .i64 (wq k).b, .int .i64 (wq k).c, .int .i64 (wq k).d, .int .i64 0]
def kval : Nat → Value
  | 0 => .int .i64 0
  | 1 => .int .i64 1
  | 2 => .int .i64 2
  | 3 => .int .i64 3
  | 4 => .int .i64 4
  | 5 => .int .i64 5
  | 6 => .int .i64 6
  | _ => .int .i64 7
theorem kval_eq : ∀ k, k < 8 → kval k = .int .i64 (k : Int)
  | 0, _ | 1, _ | 2, _ | 3, _ | 4, _ | 5, _ | 6, _ | 7, _ => rfl
abbrev P8 := { k : Nat // k < 8 }
def encW (k : P8) : Array Value := #[kval k.1, wval k.1]
def Any8 (ys : List P8) : Prop := ∀ k, k ∈ ys
set_option maxRecDepth 100000 in
set_option maxHeartbeats 4000000 in
theorem f143_in (m : Nat) (hm : 1 ≤ m) (l : Nat) (J Jx : List P8 → World → Prop) (n0 : Nat) (hJ : AbidesFrom n0 J)
    (hY : ∀ pre x W, J pre W → pre.length < 8 → YieldAt Fence.wide (m - 1) Tryz.prog l (encW x) W fun e W' =>
      (e = .returned (.bool true) ∧ J (pre ++ [x]) W' ∧ True) ∨ (e = .returned (.bool false) ∧ Jx (pre ++ [x]) W'))
    (W : World) (h0 : J [] W) :
    CallsIn Fence.wide m Tryz.prog 143 #[.func (.yield l) #[] #[]] W fun e W' => (∃ v, e = .returned v) ∧
      ((∃ ys : List P8, Any8 ys ∧ J ys W') ∨ (∃ pre, True ∧ Jx pre W')) := by
  refine callsIn_of_wp Tryz.func143 rfl trivial ?_ rfl
  simp only [Tryz.ntmps143, List.size_toArray, List.length_cons, List.length_nil, Nat.reduceAdd, Nat.reduceSub, Array.replicate_succ, Array.replicate_zero, List.push_toArray, List.append_toArray, List.nil_append, List.cons_append]
  gi_wp2
  gi_loopw [4] (fun i wr => ∃ k : Nat, k ≤ 8 ∧ i = .int .i64 k ∧ ∃ pre : List P8, pre.length = k ∧ (∀ p : P8, p.1 < k → p ∈ pre) ∧ J pre wr)
    (fun i _ => 8 - (intOf i).toNat)
  case atStart => exact ⟨0, by omega, rfl, [], rfl, fun p hp => absurd hp (Nat.not_lt_zero _), h0⟩
  case round =>
    obtain ⟨k, hk, rfl, pre, hlen, hall, hJr⟩ := hrel
    have hbelow : ∀ w' : World, Below wr.heap.size wr w' → J pre w' := fun w' hb => hJ pre wr w' none hJr ⟨hb.os, hb.tape, hb.output, hb.size, fun k hk _ => hb.block k hk⟩ (fun r e => by cases e)
    by_cases hlt : k < 8
    · have hk8 : k = 0 ∨ k = 1 ∨ k = 2 ∨ k = 3 ∨ k = 4 ∨ k = 5 ∨ k = 6 ∨ k = 7 := by omega
      obtain rfl | rfl | rfl | rfl | rfl | rfl | rfl | rfl := hk8
      · gi_wp2_with (refine ⟨trivial, ?_⟩; gi_at_call 124; refine (callsIn_wide.2 (f124_any ⟨_, _, _, _⟩ 0 _)).mono ?_; rintro e w1 ⟨rfl, hb1⟩; have hbw := bt ((Below.refl _ wr).alloc (Nat.le_refl _) _) hb1; obtain ⟨fn, tmps, assign, body, hy, hR⟩ := hY pre ⟨0, by decide⟩ w1 (hbelow w1 hbw) (by omega); simp only [encW, kval, wval, wq] at hy hR)
        refine hR.mono ?_
        rintro e W3 (⟨rfl, hJ3, _⟩ | ⟨rfl, hJx3⟩)
        · gi_wp2
          go_roundw
          case rel => exact ⟨1, by omega, by rfl, pre ++ [⟨0, by decide⟩], by simp [hlen], fun p hp => (by
            by_cases e : p.1 = 0
            · exact List.mem_append_right _ (by simp; exact Subtype.ext e)
            · exact List.mem_append_left _ (hall p (by omega))), hJ3⟩
          case measure => simp [intOf]
        · gi_wp2
          refine bodyPost_ret (results_none rfl _ _ _) rfl ?_
          exact ⟨⟨_, rfl⟩, .inr ⟨_, trivial, hJx3⟩⟩
      · gi_wp2_with (refine ⟨trivial, ?_⟩; gi_at_call 124; refine (callsIn_wide.2 (f124_any ⟨_, _, _, _⟩ 0 _)).mono ?_; rintro e w1 ⟨rfl, hb1⟩; have hbw := bt ((Below.refl _ wr).alloc (Nat.le_refl _) _) hb1; obtain ⟨fn, tmps, assign, body, hy, hR⟩ := hY pre ⟨1, by decide⟩ w1 (hbelow w1 hbw) (by omega); simp only [encW, kval, wval, wq] at hy hR)
        refine hR.mono ?_
        rintro e W3 (⟨rfl, hJ3, _⟩ | ⟨rfl, hJx3⟩)
        · gi_wp2
          go_roundw
          case rel => exact ⟨2, by omega, by rfl, pre ++ [⟨1, by decide⟩], by simp [hlen], fun p hp => (by
            by_cases e : p.1 = 1
            · exact List.mem_append_right _ (by simp; exact Subtype.ext e)
            · exact List.mem_append_left _ (hall p (by omega))), hJ3⟩
          case measure => simp [intOf]
        · gi_wp2
          refine bodyPost_ret (results_none rfl _ _ _) rfl ?_
          exact ⟨⟨_, rfl⟩, .inr ⟨_, trivial, hJx3⟩⟩
      · gi_wp2_with (refine ⟨trivial, ?_⟩; gi_at_call 124; refine (callsIn_wide.2 (f124_any ⟨_, _, _, _⟩ 0 _)).mono ?_; rintro e w1 ⟨rfl, hb1⟩; have hbw := bt ((Below.refl _ wr).alloc (Nat.le_refl _) _) hb1; obtain ⟨fn, tmps, assign, body, hy, hR⟩ := hY pre ⟨2, by decide⟩ w1 (hbelow w1 hbw) (by omega); simp only [encW, kval, wval, wq] at hy hR)
        refine hR.mono ?_
        rintro e W3 (⟨rfl, hJ3, _⟩ | ⟨rfl, hJx3⟩)
        · gi_wp2
          go_roundw
          case rel => exact ⟨3, by omega, by rfl, pre ++ [⟨2, by decide⟩], by simp [hlen], fun p hp => (by
            by_cases e : p.1 = 2
            · exact List.mem_append_right _ (by simp; exact Subtype.ext e)
            · exact List.mem_append_left _ (hall p (by omega))), hJ3⟩
          case measure => simp [intOf]
        · gi_wp2
          refine bodyPost_ret (results_none rfl _ _ _) rfl ?_
          exact ⟨⟨_, rfl⟩, .inr ⟨_, trivial, hJx3⟩⟩
      · gi_wp2_with (refine ⟨trivial, ?_⟩; gi_at_call 124; refine (callsIn_wide.2 (f124_any ⟨_, _, _, _⟩ 0 _)).mono ?_; rintro e w1 ⟨rfl, hb1⟩; have hbw := bt ((Below.refl _ wr).alloc (Nat.le_refl _) _) hb1; obtain ⟨fn, tmps, assign, body, hy, hR⟩ := hY pre ⟨3, by decide⟩ w1 (hbelow w1 hbw) (by omega); simp only [encW, kval, wval, wq] at hy hR)
        refine hR.mono ?_
        rintro e W3 (⟨rfl, hJ3, _⟩ | ⟨rfl, hJx3⟩)
        · gi_wp2
          go_roundw
          case rel => exact ⟨4, by omega, by rfl, pre ++ [⟨3, by decide⟩], by simp [hlen], fun p hp => (by
            by_cases e : p.1 = 3
            · exact List.mem_append_right _ (by simp; exact Subtype.ext e)
            · exact List.mem_append_left _ (hall p (by omega))), hJ3⟩
          case measure => simp [intOf]
        · gi_wp2
          refine bodyPost_ret (results_none rfl _ _ _) rfl ?_
          exact ⟨⟨_, rfl⟩, .inr ⟨_, trivial, hJx3⟩⟩
      · gi_wp2_with (refine ⟨trivial, ?_⟩; gi_at_call 124; refine (callsIn_wide.2 (f124_any ⟨_, _, _, _⟩ 0 _)).mono ?_; rintro e w1 ⟨rfl, hb1⟩; have hbw := bt ((Below.refl _ wr).alloc (Nat.le_refl _) _) hb1; obtain ⟨fn, tmps, assign, body, hy, hR⟩ := hY pre ⟨4, by decide⟩ w1 (hbelow w1 hbw) (by omega); simp only [encW, kval, wval, wq] at hy hR)
        refine hR.mono ?_
        rintro e W3 (⟨rfl, hJ3, _⟩ | ⟨rfl, hJx3⟩)
        · gi_wp2
          go_roundw
          case rel => exact ⟨5, by omega, by rfl, pre ++ [⟨4, by decide⟩], by simp [hlen], fun p hp => (by
            by_cases e : p.1 = 4
            · exact List.mem_append_right _ (by simp; exact Subtype.ext e)
            · exact List.mem_append_left _ (hall p (by omega))), hJ3⟩
          case measure => simp [intOf]
        · gi_wp2
          refine bodyPost_ret (results_none rfl _ _ _) rfl ?_
          exact ⟨⟨_, rfl⟩, .inr ⟨_, trivial, hJx3⟩⟩
      · gi_wp2_with (refine ⟨trivial, ?_⟩; gi_at_call 124; refine (callsIn_wide.2 (f124_any ⟨_, _, _, _⟩ 0 _)).mono ?_; rintro e w1 ⟨rfl, hb1⟩; have hbw := bt ((Below.refl _ wr).alloc (Nat.le_refl _) _) hb1; obtain ⟨fn, tmps, assign, body, hy, hR⟩ := hY pre ⟨5, by decide⟩ w1 (hbelow w1 hbw) (by omega); simp only [encW, kval, wval, wq] at hy hR)
        refine hR.mono ?_
        rintro e W3 (⟨rfl, hJ3, _⟩ | ⟨rfl, hJx3⟩)
        · gi_wp2
          go_roundw
          case rel => exact ⟨6, by omega, by rfl, pre ++ [⟨5, by decide⟩], by simp [hlen], fun p hp => (by
            by_cases e : p.1 = 5
            · exact List.mem_append_right _ (by simp; exact Subtype.ext e)
            · exact List.mem_append_left _ (hall p (by omega))), hJ3⟩
          case measure => simp [intOf]
        · gi_wp2
          refine bodyPost_ret (results_none rfl _ _ _) rfl ?_
          exact ⟨⟨_, rfl⟩, .inr ⟨_, trivial, hJx3⟩⟩
      · gi_wp2_with (refine ⟨trivial, ?_⟩; gi_at_call 124; refine (callsIn_wide.2 (f124_any ⟨_, _, _, _⟩ 0 _)).mono ?_; rintro e w1 ⟨rfl, hb1⟩; have hbw := bt ((Below.refl _ wr).alloc (Nat.le_refl _) _) hb1; obtain ⟨fn, tmps, assign, body, hy, hR⟩ := hY pre ⟨6, by decide⟩ w1 (hbelow w1 hbw) (by omega); simp only [encW, kval, wval, wq] at hy hR)
        refine hR.mono ?_
        rintro e W3 (⟨rfl, hJ3, _⟩ | ⟨rfl, hJx3⟩)
        · gi_wp2
          go_roundw
          case rel => exact ⟨7, by omega, by rfl, pre ++ [⟨6, by decide⟩], by simp [hlen], fun p hp => (by
            by_cases e : p.1 = 6
            · exact List.mem_append_right _ (by simp; exact Subtype.ext e)
            · exact List.mem_append_left _ (hall p (by omega))), hJ3⟩
          case measure => simp [intOf]
        · gi_wp2
          refine bodyPost_ret (results_none rfl _ _ _) rfl ?_
          exact ⟨⟨_, rfl⟩, .inr ⟨_, trivial, hJx3⟩⟩
      · gi_wp2_with (refine ⟨trivial, ?_⟩; gi_at_call 124; refine (callsIn_wide.2 (f124_any ⟨_, _, _, _⟩ 0 _)).mono ?_; rintro e w1 ⟨rfl, hb1⟩; have hbw := bt ((Below.refl _ wr).alloc (Nat.le_refl _) _) hb1; obtain ⟨fn, tmps, assign, body, hy, hR⟩ := hY pre ⟨7, by decide⟩ w1 (hbelow w1 hbw) (by omega); simp only [encW, kval, wval, wq] at hy hR)
        refine hR.mono ?_
        rintro e W3 (⟨rfl, hJ3, _⟩ | ⟨rfl, hJx3⟩)
        · gi_wp2
          go_roundw
          case rel => exact ⟨8, by omega, by rfl, pre ++ [⟨7, by decide⟩], by simp [hlen], fun p hp => (by
            by_cases e : p.1 = 7
            · exact List.mem_append_right _ (by simp; exact Subtype.ext e)
            · exact List.mem_append_left _ (hall p (by omega))), hJ3⟩
          case measure => simp [intOf]
        · gi_wp2
          refine bodyPost_ret (results_none rfl _ _ _) rfl ?_
          exact ⟨⟨_, rfl⟩, .inr ⟨_, trivial, hJx3⟩⟩
    · obtain rfl : k = 8 := by omega
      gi_wp2
      go_end0
      exact ⟨⟨_, rfl⟩, .inl ⟨pre, fun p => hall p p.2, hJr⟩⟩
theorem f143_stops (m : Nat) (hm : 1 ≤ m) (w : World) : SeqStopsK Fence.wide m Tryz.prog 143 #[] encW (fun _ _ => True) Any8 (fun _ => True) 8 w := fun l J Jx W hW hJ _ hY h0 =>
  f143_in m hm l J Jx W.heap.size hJ hY W h0
theorem f114_any (w : World) : Calls Tryz.prog 114 #[] w fun e w' => e = .returned (.func (.func 143) #[] #[]) ∧ Below w.heap.size w w' := by
  go_enter Tryz.func114, Tryz.ntmps114
  go_wp2
  go_ret
  exact ⟨rfl, Below.refl _ _⟩
/-! ### maps with ints as keys, as the model lays them -/
def IntKeys (es : Array MapEntry) : Prop := ∀ e ∈ es.toList, ∃ k : Int, e.key = .int .i64 k
theorem findNow_int (k : Int) : ∀ (es : List MapEntry) (i : Nat), (∀ e ∈ es, ∃ k : Int, e.key = .int .i64 k) →
    (Instr.findNow (.int .i64) (.int .i64 k) es i = some none ∧ ∀ e ∈ es, e.key ≠ .int .i64 k) ∨
    (∃ j e, es[j]? = some e ∧ e.key = .int .i64 k ∧ Instr.findNow (.int .i64) (.int .i64 k) es i = some (some (i + j, e.val)))
  | [], i, _ => .inl ⟨rfl, fun e he => by cases he⟩
  | e :: es, i, h => by
    obtain ⟨k', hk'⟩ := h e (by simp)
    by_cases hkk : k = k'
    · subst hkk
      refine .inr ⟨0, e, by simp, hk', ?_⟩
      simp [Instr.findNow, hk', Instr.sameNow]
    · have hne : Instr.findNow (.int .i64) (.int .i64 k) (e :: es) i = Instr.findNow (.int .i64) (.int .i64 k) es (i + 1) := by
        have hf : (k == k') = false := by simpa using hkk
        simp [Instr.findNow, hk', Instr.sameNow, hf]
      rw [hne]
      rcases findNow_int k es (i + 1) (fun e he => h e (by simp [he])) with ⟨h1, h2⟩ | ⟨j, e', h1, h2, h3⟩
      · refine .inl ⟨h1, fun e' he' => ?_⟩
        rcases List.mem_cons.1 he' with rfl | he'
        · rw [hk']; intro hh; cases hh; exact hkk rfl
        · exact h2 e' he'
      · exact .inr ⟨j + 1, e', by simpa using h1, h2, by rw [h3]; congr 3; omega⟩
theorem und3 : Tryz.prog.underlying 3 = some (.int .i64) := by kernel_rfl
theorem und152 : Tryz.prog.underlying 152 = some (.map 3 38) := by kernel_rfl
theorem run_checkKey_int (e : Bool) (n : Nat) (k : Int) (w : World) : (Instr.checkKey e (n + 1) 3 (.int .i64 k)).run Tryz.prog w = .ok () w := by
  simp [Instr.checkKey, run_underlying und3]
theorem run_keyThatStays_int (k : Int) (w : World) : (Instr.keyThatStays (.int .i64 k) (.int .i64 k)).run Tryz.prog w = .ok (.int .i64 k) w := by
  simp [Instr.keyThatStays, Instr.sameBits]
theorem run_lookup_int {T E : TypeId} (hT : Tryz.prog.underlying T = some (.map 3 E)) (w : World) (b : Nat) (es : Array MapEntry) (c : Nat) (k : Int) (v : Value) (hb : w.heap[b]? = some (.map es c)) (hk : IntKeys es)
    (hex : ∃ e ∈ es.toList, e.key = .int .i64 k) (hv : ∀ e ∈ es.toList, e.key = .int .i64 k → e.val = v) : (Instr.lookup T (.map (some b)) (.int .i64 k) false).run Tryz.prog w = .ok v w := by
  rcases findNow_int k es.toList 0 hk with ⟨h1, h2⟩ | ⟨j, e, h1, h2, h3⟩
  · obtain ⟨e, he, hke⟩ := hex
    exact absurd hke (h2 e he)
  · have hval := hv e (List.mem_of_getElem? h1) h2
    subst hval
    have hc := run_checkKey_int es.isEmpty 9999 k w
    simp [Instr.lookup, run_underlying hT, MapKept.run_getObj_map hb, hc, MapKept.run_findKey und3 h3, Result.andThen]
theorem run_mapUpdate_int {T E : TypeId} (hT : Tryz.prog.underlying T = some (.map 3 E)) (w : World) (b : Nat) (es : Array MapEntry) (c : Nat) (k : Int) (v : Value) (hb : w.heap[b]? = some (.map es c)) (hk : IntKeys es) :
    ∃ es' c', (Instr.mapUpdate T (.map (some b)) (.int .i64 k) v).run Tryz.prog w = .ok () (w.putObj b (.map es' c')) ∧ IntKeys es' ∧ (∃ e ∈ es'.toList, e.key = .int .i64 k) ∧
      (∀ e ∈ es'.toList, (e.key = .int .i64 k ∧ e.val = v) ∨ e ∈ es.toList) ∧ (∀ e ∈ es.toList, ∃ e' ∈ es'.toList, e'.key = e.key) := by
  rcases findNow_int k es.toList 0 hk with ⟨h1, h2⟩ | ⟨j, e, h1, h2, h3⟩
  · refine ⟨es.push { key := .int .i64 k, val := v, born := c }, c + 1, ?_, ?_, ?_, ?_, ?_⟩
    · have hc := run_checkKey_int false 9999 k w
      simp [Instr.mapUpdate, run_underlying hT, MapKept.run_getObj_map hb, hc, MapKept.run_findKey und3 h1, MapKept.run_setObj_map _ hb, Result.andThen, World.putObj]
    · intro e he
      simp only [Array.toList_push, List.mem_append, List.mem_singleton] at he
      rcases he with he | rfl
      · exact hk e he
      · exact ⟨k, rfl⟩
    · exact ⟨_, by simp only [Array.toList_push, List.mem_append, List.mem_singleton]; exact .inr rfl, rfl⟩
    · intro e he
      simp only [Array.toList_push, List.mem_append, List.mem_singleton] at he
      rcases he with he | rfl
      · exact .inr he
      · exact .inl ⟨rfl, rfl⟩
    · intro e he
      exact ⟨e, by simp only [Array.toList_push, List.mem_append]; exact .inl he, rfl⟩
  · refine ⟨es.modify j fun e => { e with key := .int .i64 k, val := v }, c, ?_, ?_, ?_, ?_, ?_⟩
    · have hj : es[j]? = some e := by simpa using h1
      have hc := run_checkKey_int false 9999 k w
      rw [Nat.zero_add] at h3
      simp [Instr.mapUpdate, run_underlying hT, MapKept.run_getObj_map hb, hc, MapKept.run_findKey und3 h3, MapKept.run_setObj_map _ hb, Result.andThen, World.putObj, hj, h2, run_keyThatStays_int]
    all_goals obtain ⟨hjlt, hje⟩ := List.getElem?_eq_some_iff.1 h1
    all_goals have hat : ∀ i, (es.modify j fun e => { e with key := .int .i64 k, val := v }).toList[i]? = if j = i then (es.toList[i]?).map (fun e => { e with key := .int .i64 k, val := v }) else es.toList[i]? := fun i => (by
      rw [Array.getElem?_toList, Array.getElem?_modify, Array.getElem?_toList])
    · intro e' he'
      obtain ⟨i, hi⟩ := List.mem_iff_getElem?.1 he'
      rw [hat] at hi
      split at hi
      · obtain ⟨e0, _, rfl⟩ := Option.map_eq_some_iff.1 hi
        exact ⟨k, rfl⟩
      · exact hk e' (List.mem_of_getElem? hi)
    · refine ⟨{ e with key := .int .i64 k, val := v }, List.mem_iff_getElem?.2 ⟨j, ?_⟩, rfl⟩
      rw [hat, if_pos rfl, h1]
      rfl
    · intro e' he'
      obtain ⟨i, hi⟩ := List.mem_iff_getElem?.1 he'
      rw [hat] at hi
      split at hi
      · obtain ⟨e0, _, rfl⟩ := Option.map_eq_some_iff.1 hi
        exact .inl ⟨rfl, rfl⟩
      · exact .inr (List.mem_of_getElem? hi)
    · intro e' he'
      obtain ⟨i, hi⟩ := List.mem_iff_getElem?.1 he'
      by_cases hij : j = i
      · subst hij
        rw [h1] at hi
        cases hi
        exact ⟨{ e with key := .int .i64 k, val := v }, List.mem_iff_getElem?.2 ⟨j, by rw [hat, if_pos rfl, h1]; rfl⟩, h2.symm⟩
      · exact ⟨e', List.mem_iff_getElem?.2 ⟨i, by rw [hat, if_neg hij]; exact hi⟩, rfl⟩
end
section
open Go.RowKit Go.Shelf
attribute [local go_sem] Oper.semAt_some
theorem Blk.putObj {W : World} {b' b : Nat} {T : TypeId} {cs : Array Value} (h : Blk W b' T cs) (hne : b' ≠ b) (o : Obj) : Blk (W.putObj b o) b' T cs := (World.putObj_heap_other (fun e => hne e)).trans h
/-- a map that has found the powers of some numbers -/
def Powers (W : World) (b : Nat) (pre : List P8) : Prop := ∃ es c, W.heap[b]? = some (.map es c) ∧ IntKeys es ∧ (∀ e ∈ es.toList, ∃ k, k < 8 ∧ e.key = .int .i64 ((k : Nat) : Int) ∧ e.val = wval k) ∧ ∀ p ∈ pre, ∃ e ∈ es.toList, e.key = .int .i64 ((p.1 : Nat) : Int)
theorem Powers.at_ {W : World} {b : Nat} {pre : List P8} (h : Powers W b pre) (hall : Any8 pre) (k : Nat) (hk : k < 8) : (Instr.lookup 152 (.map (some b)) (.int .i64 (k : Int)) false).run Tryz.prog W = .ok (wval k) W := by
  obtain ⟨es, c, h1, h2, h3, h4⟩ := h
  refine run_lookup_int und152 W b es c k (wval k) h1 h2 (h4 ⟨k, hk⟩ (hall _)) (fun e he hke => ?_)
  obtain ⟨k', hk', e1, e2⟩ := h3 e he
  rw [hke] at e1
  have : k = k' := by injection e1 with _ e3; omega
  rw [e2, this]
set_option maxRecDepth 100000 in
set_option maxHeartbeats 4000000 in
theorem f61_any (k : Nat) (w : World) (hk : k < 8) :
    Calls Tryz.prog 61 #[.int .i64 k] w fun e w' => e = .returned (.agg #[.int .i64 (wq k).a, .int .i64 (wq k).b, .int .i64 (wq k).c, .int .i64 (wq k).d, .int .i64 0]) ∧ Below w.heap.size w w' := by
  have hmm := @run_makeMap Tryz.prog
  refine (callsIn_wide (n := 6)).1 ?_
  refine callsIn_of_wp_marks Tryz.func61 rfl trivial ?_ rfl
  simp only [Tryz.ntmps61, List.size_toArray, List.length_cons, List.length_nil, Nat.reduceAdd, Nat.reduceSub, Array.replicate_succ, Array.replicate_zero, List.push_toArray, List.append_toArray, List.nil_append, List.cons_append]
  have hb0 : Below w.heap.size w (((w.alloc (.cells #[.int .i64 0, .int .i64 0, .int .i64 0, .int .i64 0, .int .i64 0] 38)).alloc (.map #[] 0)).alloc (.cells #[.map (some (w.heap.size + 1))] 152)) := (((Below.refl _ w).alloc (Nat.le_refl _) _).alloc (by simp) _).alloc (by simp; omega) _
  have hR0 : Blk (((w.alloc (.cells #[.int .i64 0, .int .i64 0, .int .i64 0, .int .i64 0, .int .i64 0] 38)).alloc (.map #[] 0)).alloc (.cells #[.map (some (w.heap.size + 1))] 152)) w.heap.size 38 #[.int .i64 0, .int .i64 0, .int .i64 0, .int .i64 0, .int .i64 0] := ((Blk.new' _ _ (by simp)).alloc _).alloc _
  have hX0 : Blk (((w.alloc (.cells #[.int .i64 0, .int .i64 0, .int .i64 0, .int .i64 0, .int .i64 0] 38)).alloc (.map #[] 0)).alloc (.cells #[.map (some (w.heap.size + 1))] 152)) (w.heap.size + 1 + 1) 152 #[.map (some (w.heap.size + 1))] := Blk.new' _ _ (by simp)
  have hM0 : (((w.alloc (.cells #[.int .i64 0, .int .i64 0, .int .i64 0, .int .i64 0, .int .i64 0] 38)).alloc (.map #[] 0)).alloc (.cells #[.map (some (w.heap.size + 1))] 152)).heap[w.heap.size + 1]? = some (.map #[] 0) := by
    rw [Below.heap_alloc _ _ _ (by simp)]
    have := World.alloc_heap_new (w.alloc (.cells #[.int .i64 0, .int .i64 0, .int .i64 0, .int .i64 0, .int .i64 0] 38)) (.map #[] 0)
    rwa [World.size_alloc] at this
  gi_wp2_with (refine ⟨trivial, ?_⟩; gi_at_call 114; refine (callsIn_wide.2 (f114_any _)).mono ?_; rintro e w1 ⟨rfl, hb1⟩)
  have hR1 := hR0.below hb1
  have hX1 := hX0.below hb1
  have hM1 := (hb1.block (w.heap.size + 1) (by simp)).trans hM0
  have hB1 := bt hb0 hb1
  refine wpIn_rangeFunc_ownH rfl (by omega) (gf := 143) (lb := #[]) rfl trivial (enters_of Tryz.func143 (by kernel_rfl) rfl)
    (f143_stops _ (by omega) w1) (fun _ _ => trivial) (fun _ _ _ _ _ _ _ _ => trivial) (Below.refl _ _) (fun _ => rfl)
    (fun pre W => (Blk W (w.heap.size + 1 + 1) 152 #[.map (some (w.heap.size + 1))] ∧ Blk W w.heap.size 38 #[.int .i64 0, .int .i64 0, .int .i64 0, .int .i64 0, .int .i64 0]) ∧ Powers W (w.heap.size + 1) pre ∧ Below w.heap.size w W)
    (fun _ _ _ => False)
    (OwnFrom.and (OwnFrom.and (Own.from (blk_own _ _ _) _) (Own.from (blk_own _ _ _) _)) (OwnFrom.and (fun s X Y row hs hg hr => by
      obtain ⟨es, c, h1, h2⟩ := hs
      exact ⟨es, c, (hg.block _ (Array.getElem?_eq_some_iff.1 h1).1 (fun e => by have := (hr _ e.symm).1; have := hX1.lt; omega)).trans h1, h2⟩) (ownFrom_below (Nat.le_refl _) hB1.size)))
    (fun _ _ _ _ _ hs _ _ => hs)
    ⟨⟨hX1, hR1⟩, ⟨#[], 0, hM1, fun e he => (by simp at he), fun e he => (by simp at he), fun p hp => (by simp at hp)⟩, hB1⟩
    (fun x a' W => ∃ Bx, w.heap.size + 1 + 1 < Bx ∧ Blk W Bx 38 #[.int .i64 (wq x.1).a, .int .i64 (wq x.1).b, .int .i64 (wq x.1).c, .int .i64 (wq x.1).d, .int .i64 0] ∧ a' = { tmps := #[Value.int IntKind.i64 ↑k, undef, Value.pointer (some { block := w.heap.size, off := 0 }), Value.pointer (some { block := w.heap.size + 1 + 1, off := 0 }), Value.int IntKind.i64 ↑x.val, Value.pointer (some { block := Bx, off := 0 }), Value.map (some (w.heap.size + 1)), Value.func (Fn.func 143) #[] #[], Value.int IntKind.i64 ↑x.val, Value.agg #[Value.int IntKind.i64 (wq x.val).a, Value.int IntKind.i64 (wq x.val).b, Value.int IntKind.i64 (wq x.val).c, Value.int IntKind.i64 (wq x.val).d, Value.int IntKind.i64 0], undef, undef, undef, undef, undef, undef, undef, undef, undef], defers := [] })
    (fun x a' _ X Y row hs hg hr => by obtain ⟨Bx, h1, h2, h3⟩ := hs; exact ⟨Bx, h1, blk_own Bx 38 (fun (_ : Unit) => #[.int .i64 (wq x.1).a, .int .i64 (wq x.1).b, .int .i64 (wq x.1).c, .int .i64 (wq x.1).d, .int .i64 0]) () X Y row h2 hg (fun r e => (hr r e).2), h3⟩)
    ?assign ?body ?done ?stop
  case assign =>
    rintro l pre x W K ⟨⟨hX, hR⟩, hP, hB⟩ hK
    simp only [encW, wval, kval_eq x.1 x.2]
    gi_wp2
    exact hK _ _ ((KeepsOthers.alloc _ _).from _) trivial ⟨⟨hX.alloc _, hR.alloc _⟩, (by
      obtain ⟨es, c, h1, h2⟩ := hP
      exact ⟨es, c, (Below.heap_alloc _ _ _ (Array.getElem?_eq_some_iff.1 h1).1).trans h1, h2⟩), hB.alloc hB.size _⟩ ⟨W.heap.size, hX.lt, Blk.new W 38 _, rfl⟩
  case body =>
    rintro l pre x a' W hl ⟨r, hr⟩ ⟨⟨hX, hR⟩, hP, hB⟩ ⟨Bx, hBx, bX, rfl⟩ hlt
    obtain ⟨es, c, h1, h2, h3, h4⟩ := hP
    obtain ⟨es', c', hrun, g1, g2, g3, g4⟩ := run_mapUpdate_int und152 W (w.heap.size + 1) es c (x.1 : Int) (.agg #[.int .i64 (wq x.1).a, .int .i64 (wq x.1).b, .int .i64 (wq x.1).c, .int .i64 (wq x.1).d, .int .i64 0]) h1 h2
    have cX := hX.cells
    have cY := bX.cells
    gi_wp2
    have hg := grownBy_putObj' W (w.heap.size + 1) (.map es' c')
    have hlm := (Array.getElem?_eq_some_iff.1 h1).1
    refine ⟨KeepsFrom.of_grownBy hg (fun j e => by cases e; have := hX1.lt; omega), trivial, ⟨⟨hX.putObj (by omega) _, hR.putObj (by omega) _⟩, ⟨es', c', by simp [World.putObj, hlm], g1, fun e he => ?_, fun p hp => ?_⟩, hB.grown hg hB.size (fun k e => by cases e; omega)⟩⟩
    · rcases g3 e he with ⟨e1, e2⟩ | he'
      · exact ⟨x.1, x.2, e1, e2⟩
      · exact h3 e he'
    · rcases List.mem_append.1 hp with hp | hp
      · obtain ⟨e, he, hke⟩ := h4 p hp
        obtain ⟨e', he', hke'⟩ := g4 e he
        exact ⟨e', he', hke'.trans hke⟩
      · have hpx : p = x := by simpa using hp
        subst hpx
        exact g2
  case done =>
    rintro D ys W hD hfull ⟨⟨hX, hR⟩, hP, hB⟩ hK
    have cX := hX.cells
    have cR := hR.cells
    have fR := hR.frozen
    have hk8 : k = 0 ∨ k = 1 ∨ k = 2 ∨ k = 3 ∨ k = 4 ∨ k = 5 ∨ k = 6 ∨ k = 7 := by omega
    obtain rfl | rfl | rfl | rfl | rfl | rfl | rfl | rfl := hk8
    · have hl : (Instr.lookup 152 (.map (some (w.heap.size + 1))) (.int .i64 0) false).run Tryz.prog W = .ok (.agg #[.int .i64 (1 : Int), .int .i64 (0 : Int), .int .i64 (0 : Int), .int .i64 (0 : Int), .int .i64 (0 : Int)]) W := hP.at_ hfull 0 (by omega)
      gi_wp2
      have hK1 := ((KeepsOthers.setCell ((((W.setCell ⟨w.heap.size, 0, none⟩ (.int .i64 (1 : Int))).setCell ⟨w.heap.size, 1, none⟩ (.int .i64 (0 : Int))).setCell ⟨w.heap.size, 2, none⟩ (.int .i64 (0 : Int))).setCell ⟨w.heap.size, 3, none⟩ (.int .i64 (0 : Int))) ⟨w.heap.size, 4, none⟩ (.int .i64 (0 : Int))).same D _ ((KeepsOthers.setCell (((W.setCell ⟨w.heap.size, 0, none⟩ (.int .i64 (1 : Int))).setCell ⟨w.heap.size, 1, none⟩ (.int .i64 (0 : Int))).setCell ⟨w.heap.size, 2, none⟩ (.int .i64 (0 : Int))) ⟨w.heap.size, 3, none⟩ (.int .i64 (0 : Int))).same D _ ((KeepsOthers.setCell ((W.setCell ⟨w.heap.size, 0, none⟩ (.int .i64 (1 : Int))).setCell ⟨w.heap.size, 1, none⟩ (.int .i64 (0 : Int))) ⟨w.heap.size, 2, none⟩ (.int .i64 (0 : Int))).same D _ ((KeepsOthers.setCell (W.setCell ⟨w.heap.size, 0, none⟩ (.int .i64 (1 : Int))) ⟨w.heap.size, 1, none⟩ (.int .i64 (0 : Int))).same D _ ((KeepsOthers.setCell W ⟨w.heap.size, 0, none⟩ (.int .i64 (1 : Int))).same D _ hK rfl) rfl) rfl) rfl) rfl)
      refine ⟨by simp, .inl ⟨_, _, rfl, run_takeDeferred hK1, ?_⟩⟩
      have hF1 := (((((hR.set 0 (.int .i64 (1 : Int))).set 1 (.int .i64 (0 : Int))).set 2 (.int .i64 (0 : Int))).set 3 (.int .i64 (0 : Int))).set 4 (.int .i64 (0 : Int)))
      have cF := (blk_own w.heap.size 38 (fun (_ : Unit) => _) () _ _ _ hF1 (grownBy_putObj' _ D (.deferred none)) (fun r e => by cases e; exact ⟨_, hK1, rfl⟩)).cells
      refine ⟨.agg #[.int .i64 (1 : Int), .int .i64 (0 : Int), .int .i64 (0 : Int), .int .i64 (0 : Int), .int .i64 (0 : Int)], by simp [results, Tryz.results61, go_sem, cF], rfl, ?_⟩
      exact (((((hB.setCell (by first | (simp; done) | (simp; omega) | omega) _).setCell (by first | (simp; done) | (simp; omega) | omega) _).setCell (by first | (simp; done) | (simp; omega) | omega) _).setCell (by first | (simp; done) | (simp; omega) | omega) _).setCell (by first | (simp; done) | (simp; omega) | omega) _).trans (belowK_b (w := w) (Nat.le_refl _) _ D _ _ (Nat.le_trans hB1.size hD) hK1 rfl rfl)
    · have hl : (Instr.lookup 152 (.map (some (w.heap.size + 1))) (.int .i64 1) false).run Tryz.prog W = .ok (.agg #[.int .i64 (0 : Int), .int .i64 (1 : Int), .int .i64 (0 : Int), .int .i64 (0 : Int), .int .i64 (0 : Int)]) W := hP.at_ hfull 1 (by omega)
      gi_wp2
      have hK1 := ((KeepsOthers.setCell ((((W.setCell ⟨w.heap.size, 0, none⟩ (.int .i64 (0 : Int))).setCell ⟨w.heap.size, 1, none⟩ (.int .i64 (1 : Int))).setCell ⟨w.heap.size, 2, none⟩ (.int .i64 (0 : Int))).setCell ⟨w.heap.size, 3, none⟩ (.int .i64 (0 : Int))) ⟨w.heap.size, 4, none⟩ (.int .i64 (0 : Int))).same D _ ((KeepsOthers.setCell (((W.setCell ⟨w.heap.size, 0, none⟩ (.int .i64 (0 : Int))).setCell ⟨w.heap.size, 1, none⟩ (.int .i64 (1 : Int))).setCell ⟨w.heap.size, 2, none⟩ (.int .i64 (0 : Int))) ⟨w.heap.size, 3, none⟩ (.int .i64 (0 : Int))).same D _ ((KeepsOthers.setCell ((W.setCell ⟨w.heap.size, 0, none⟩ (.int .i64 (0 : Int))).setCell ⟨w.heap.size, 1, none⟩ (.int .i64 (1 : Int))) ⟨w.heap.size, 2, none⟩ (.int .i64 (0 : Int))).same D _ ((KeepsOthers.setCell (W.setCell ⟨w.heap.size, 0, none⟩ (.int .i64 (0 : Int))) ⟨w.heap.size, 1, none⟩ (.int .i64 (1 : Int))).same D _ ((KeepsOthers.setCell W ⟨w.heap.size, 0, none⟩ (.int .i64 (0 : Int))).same D _ hK rfl) rfl) rfl) rfl) rfl)
      refine ⟨by simp, .inl ⟨_, _, rfl, run_takeDeferred hK1, ?_⟩⟩
      have hF1 := (((((hR.set 0 (.int .i64 (0 : Int))).set 1 (.int .i64 (1 : Int))).set 2 (.int .i64 (0 : Int))).set 3 (.int .i64 (0 : Int))).set 4 (.int .i64 (0 : Int)))
      have cF := (blk_own w.heap.size 38 (fun (_ : Unit) => _) () _ _ _ hF1 (grownBy_putObj' _ D (.deferred none)) (fun r e => by cases e; exact ⟨_, hK1, rfl⟩)).cells
      refine ⟨.agg #[.int .i64 (0 : Int), .int .i64 (1 : Int), .int .i64 (0 : Int), .int .i64 (0 : Int), .int .i64 (0 : Int)], by simp [results, Tryz.results61, go_sem, cF], rfl, ?_⟩
      exact (((((hB.setCell (by first | (simp; done) | (simp; omega) | omega) _).setCell (by first | (simp; done) | (simp; omega) | omega) _).setCell (by first | (simp; done) | (simp; omega) | omega) _).setCell (by first | (simp; done) | (simp; omega) | omega) _).setCell (by first | (simp; done) | (simp; omega) | omega) _).trans (belowK_b (w := w) (Nat.le_refl _) _ D _ _ (Nat.le_trans hB1.size hD) hK1 rfl rfl)
    · have hl : (Instr.lookup 152 (.map (some (w.heap.size + 1))) (.int .i64 2) false).run Tryz.prog W = .ok (.agg #[.int .i64 (0 : Int), .int .i64 (0 : Int), .int .i64 (1 : Int), .int .i64 (0 : Int), .int .i64 (0 : Int)]) W := hP.at_ hfull 2 (by omega)
      gi_wp2
      have hK1 := ((KeepsOthers.setCell ((((W.setCell ⟨w.heap.size, 0, none⟩ (.int .i64 (0 : Int))).setCell ⟨w.heap.size, 1, none⟩ (.int .i64 (0 : Int))).setCell ⟨w.heap.size, 2, none⟩ (.int .i64 (1 : Int))).setCell ⟨w.heap.size, 3, none⟩ (.int .i64 (0 : Int))) ⟨w.heap.size, 4, none⟩ (.int .i64 (0 : Int))).same D _ ((KeepsOthers.setCell (((W.setCell ⟨w.heap.size, 0, none⟩ (.int .i64 (0 : Int))).setCell ⟨w.heap.size, 1, none⟩ (.int .i64 (0 : Int))).setCell ⟨w.heap.size, 2, none⟩ (.int .i64 (1 : Int))) ⟨w.heap.size, 3, none⟩ (.int .i64 (0 : Int))).same D _ ((KeepsOthers.setCell ((W.setCell ⟨w.heap.size, 0, none⟩ (.int .i64 (0 : Int))).setCell ⟨w.heap.size, 1, none⟩ (.int .i64 (0 : Int))) ⟨w.heap.size, 2, none⟩ (.int .i64 (1 : Int))).same D _ ((KeepsOthers.setCell (W.setCell ⟨w.heap.size, 0, none⟩ (.int .i64 (0 : Int))) ⟨w.heap.size, 1, none⟩ (.int .i64 (0 : Int))).same D _ ((KeepsOthers.setCell W ⟨w.heap.size, 0, none⟩ (.int .i64 (0 : Int))).same D _ hK rfl) rfl) rfl) rfl) rfl)
      refine ⟨by simp, .inl ⟨_, _, rfl, run_takeDeferred hK1, ?_⟩⟩
      have hF1 := (((((hR.set 0 (.int .i64 (0 : Int))).set 1 (.int .i64 (0 : Int))).set 2 (.int .i64 (1 : Int))).set 3 (.int .i64 (0 : Int))).set 4 (.int .i64 (0 : Int)))
      have cF := (blk_own w.heap.size 38 (fun (_ : Unit) => _) () _ _ _ hF1 (grownBy_putObj' _ D (.deferred none)) (fun r e => by cases e; exact ⟨_, hK1, rfl⟩)).cells
      refine ⟨.agg #[.int .i64 (0 : Int), .int .i64 (0 : Int), .int .i64 (1 : Int), .int .i64 (0 : Int), .int .i64 (0 : Int)], by simp [results, Tryz.results61, go_sem, cF], rfl, ?_⟩
      exact (((((hB.setCell (by first | (simp; done) | (simp; omega) | omega) _).setCell (by first | (simp; done) | (simp; omega) | omega) _).setCell (by first | (simp; done) | (simp; omega) | omega) _).setCell (by first | (simp; done) | (simp; omega) | omega) _).setCell (by first | (simp; done) | (simp; omega) | omega) _).trans (belowK_b (w := w) (Nat.le_refl _) _ D _ _ (Nat.le_trans hB1.size hD) hK1 rfl rfl)
    · have hl : (Instr.lookup 152 (.map (some (w.heap.size + 1))) (.int .i64 3) false).run Tryz.prog W = .ok (.agg #[.int .i64 (0 : Int), .int .i64 (0 : Int), .int .i64 (0 : Int), .int .i64 (1 : Int), .int .i64 (0 : Int)]) W := hP.at_ hfull 3 (by omega)
      gi_wp2
      have hK1 := ((KeepsOthers.setCell ((((W.setCell ⟨w.heap.size, 0, none⟩ (.int .i64 (0 : Int))).setCell ⟨w.heap.size, 1, none⟩ (.int .i64 (0 : Int))).setCell ⟨w.heap.size, 2, none⟩ (.int .i64 (0 : Int))).setCell ⟨w.heap.size, 3, none⟩ (.int .i64 (1 : Int))) ⟨w.heap.size, 4, none⟩ (.int .i64 (0 : Int))).same D _ ((KeepsOthers.setCell (((W.setCell ⟨w.heap.size, 0, none⟩ (.int .i64 (0 : Int))).setCell ⟨w.heap.size, 1, none⟩ (.int .i64 (0 : Int))).setCell ⟨w.heap.size, 2, none⟩ (.int .i64 (0 : Int))) ⟨w.heap.size, 3, none⟩ (.int .i64 (1 : Int))).same D _ ((KeepsOthers.setCell ((W.setCell ⟨w.heap.size, 0, none⟩ (.int .i64 (0 : Int))).setCell ⟨w.heap.size, 1, none⟩ (.int .i64 (0 : Int))) ⟨w.heap.size, 2, none⟩ (.int .i64 (0 : Int))).same D _ ((KeepsOthers.setCell (W.setCell ⟨w.heap.size, 0, none⟩ (.int .i64 (0 : Int))) ⟨w.heap.size, 1, none⟩ (.int .i64 (0 : Int))).same D _ ((KeepsOthers.setCell W ⟨w.heap.size, 0, none⟩ (.int .i64 (0 : Int))).same D _ hK rfl) rfl) rfl) rfl) rfl)
      refine ⟨by simp, .inl ⟨_, _, rfl, run_takeDeferred hK1, ?_⟩⟩
      have hF1 := (((((hR.set 0 (.int .i64 (0 : Int))).set 1 (.int .i64 (0 : Int))).set 2 (.int .i64 (0 : Int))).set 3 (.int .i64 (1 : Int))).set 4 (.int .i64 (0 : Int)))
      have cF := (blk_own w.heap.size 38 (fun (_ : Unit) => _) () _ _ _ hF1 (grownBy_putObj' _ D (.deferred none)) (fun r e => by cases e; exact ⟨_, hK1, rfl⟩)).cells
      refine ⟨.agg #[.int .i64 (0 : Int), .int .i64 (0 : Int), .int .i64 (0 : Int), .int .i64 (1 : Int), .int .i64 (0 : Int)], by simp [results, Tryz.results61, go_sem, cF], rfl, ?_⟩
      exact (((((hB.setCell (by first | (simp; done) | (simp; omega) | omega) _).setCell (by first | (simp; done) | (simp; omega) | omega) _).setCell (by first | (simp; done) | (simp; omega) | omega) _).setCell (by first | (simp; done) | (simp; omega) | omega) _).setCell (by first | (simp; done) | (simp; omega) | omega) _).trans (belowK_b (w := w) (Nat.le_refl _) _ D _ _ (Nat.le_trans hB1.size hD) hK1 rfl rfl)
    · have hl : (Instr.lookup 152 (.map (some (w.heap.size + 1))) (.int .i64 4) false).run Tryz.prog W = .ok (.agg #[.int .i64 (-1 : Int), .int .i64 (0 : Int), .int .i64 (0 : Int), .int .i64 (0 : Int), .int .i64 (0 : Int)]) W := hP.at_ hfull 4 (by omega)
      gi_wp2
      have hK1 := ((KeepsOthers.setCell ((((W.setCell ⟨w.heap.size, 0, none⟩ (.int .i64 (-1 : Int))).setCell ⟨w.heap.size, 1, none⟩ (.int .i64 (0 : Int))).setCell ⟨w.heap.size, 2, none⟩ (.int .i64 (0 : Int))).setCell ⟨w.heap.size, 3, none⟩ (.int .i64 (0 : Int))) ⟨w.heap.size, 4, none⟩ (.int .i64 (0 : Int))).same D _ ((KeepsOthers.setCell (((W.setCell ⟨w.heap.size, 0, none⟩ (.int .i64 (-1 : Int))).setCell ⟨w.heap.size, 1, none⟩ (.int .i64 (0 : Int))).setCell ⟨w.heap.size, 2, none⟩ (.int .i64 (0 : Int))) ⟨w.heap.size, 3, none⟩ (.int .i64 (0 : Int))).same D _ ((KeepsOthers.setCell ((W.setCell ⟨w.heap.size, 0, none⟩ (.int .i64 (-1 : Int))).setCell ⟨w.heap.size, 1, none⟩ (.int .i64 (0 : Int))) ⟨w.heap.size, 2, none⟩ (.int .i64 (0 : Int))).same D _ ((KeepsOthers.setCell (W.setCell ⟨w.heap.size, 0, none⟩ (.int .i64 (-1 : Int))) ⟨w.heap.size, 1, none⟩ (.int .i64 (0 : Int))).same D _ ((KeepsOthers.setCell W ⟨w.heap.size, 0, none⟩ (.int .i64 (-1 : Int))).same D _ hK rfl) rfl) rfl) rfl) rfl)
      refine ⟨by simp, .inl ⟨_, _, rfl, run_takeDeferred hK1, ?_⟩⟩
      have hF1 := (((((hR.set 0 (.int .i64 (-1 : Int))).set 1 (.int .i64 (0 : Int))).set 2 (.int .i64 (0 : Int))).set 3 (.int .i64 (0 : Int))).set 4 (.int .i64 (0 : Int)))
      have cF := (blk_own w.heap.size 38 (fun (_ : Unit) => _) () _ _ _ hF1 (grownBy_putObj' _ D (.deferred none)) (fun r e => by cases e; exact ⟨_, hK1, rfl⟩)).cells
      refine ⟨.agg #[.int .i64 (-1 : Int), .int .i64 (0 : Int), .int .i64 (0 : Int), .int .i64 (0 : Int), .int .i64 (0 : Int)], by simp [results, Tryz.results61, go_sem, cF], rfl, ?_⟩
      exact (((((hB.setCell (by first | (simp; done) | (simp; omega) | omega) _).setCell (by first | (simp; done) | (simp; omega) | omega) _).setCell (by first | (simp; done) | (simp; omega) | omega) _).setCell (by first | (simp; done) | (simp; omega) | omega) _).setCell (by first | (simp; done) | (simp; omega) | omega) _).trans (belowK_b (w := w) (Nat.le_refl _) _ D _ _ (Nat.le_trans hB1.size hD) hK1 rfl rfl)
    · have hl : (Instr.lookup 152 (.map (some (w.heap.size + 1))) (.int .i64 5) false).run Tryz.prog W = .ok (.agg #[.int .i64 (0 : Int), .int .i64 (-1 : Int), .int .i64 (0 : Int), .int .i64 (0 : Int), .int .i64 (0 : Int)]) W := hP.at_ hfull 5 (by omega)
      gi_wp2
      have hK1 := ((KeepsOthers.setCell ((((W.setCell ⟨w.heap.size, 0, none⟩ (.int .i64 (0 : Int))).setCell ⟨w.heap.size, 1, none⟩ (.int .i64 (-1 : Int))).setCell ⟨w.heap.size, 2, none⟩ (.int .i64 (0 : Int))).setCell ⟨w.heap.size, 3, none⟩ (.int .i64 (0 : Int))) ⟨w.heap.size, 4, none⟩ (.int .i64 (0 : Int))).same D _ ((KeepsOthers.setCell (((W.setCell ⟨w.heap.size, 0, none⟩ (.int .i64 (0 : Int))).setCell ⟨w.heap.size, 1, none⟩ (.int .i64 (-1 : Int))).setCell ⟨w.heap.size, 2, none⟩ (.int .i64 (0 : Int))) ⟨w.heap.size, 3, none⟩ (.int .i64 (0 : Int))).same D _ ((KeepsOthers.setCell ((W.setCell ⟨w.heap.size, 0, none⟩ (.int .i64 (0 : Int))).setCell ⟨w.heap.size, 1, none⟩ (.int .i64 (-1 : Int))) ⟨w.heap.size, 2, none⟩ (.int .i64 (0 : Int))).same D _ ((KeepsOthers.setCell (W.setCell ⟨w.heap.size, 0, none⟩ (.int .i64 (0 : Int))) ⟨w.heap.size, 1, none⟩ (.int .i64 (-1 : Int))).same D _ ((KeepsOthers.setCell W ⟨w.heap.size, 0, none⟩ (.int .i64 (0 : Int))).same D _ hK rfl) rfl) rfl) rfl) rfl)
      refine ⟨by simp, .inl ⟨_, _, rfl, run_takeDeferred hK1, ?_⟩⟩
      have hF1 := (((((hR.set 0 (.int .i64 (0 : Int))).set 1 (.int .i64 (-1 : Int))).set 2 (.int .i64 (0 : Int))).set 3 (.int .i64 (0 : Int))).set 4 (.int .i64 (0 : Int)))
      have cF := (blk_own w.heap.size 38 (fun (_ : Unit) => _) () _ _ _ hF1 (grownBy_putObj' _ D (.deferred none)) (fun r e => by cases e; exact ⟨_, hK1, rfl⟩)).cells
      refine ⟨.agg #[.int .i64 (0 : Int), .int .i64 (-1 : Int), .int .i64 (0 : Int), .int .i64 (0 : Int), .int .i64 (0 : Int)], by simp [results, Tryz.results61, go_sem, cF], rfl, ?_⟩
      exact (((((hB.setCell (by first | (simp; done) | (simp; omega) | omega) _).setCell (by first | (simp; done) | (simp; omega) | omega) _).setCell (by first | (simp; done) | (simp; omega) | omega) _).setCell (by first | (simp; done) | (simp; omega) | omega) _).setCell (by first | (simp; done) | (simp; omega) | omega) _).trans (belowK_b (w := w) (Nat.le_refl _) _ D _ _ (Nat.le_trans hB1.size hD) hK1 rfl rfl)
    · have hl : (Instr.lookup 152 (.map (some (w.heap.size + 1))) (.int .i64 6) false).run Tryz.prog W = .ok (.agg #[.int .i64 (0 : Int), .int .i64 (0 : Int), .int .i64 (-1 : Int), .int .i64 (0 : Int), .int .i64 (0 : Int)]) W := hP.at_ hfull 6 (by omega)
      gi_wp2
      have hK1 := ((KeepsOthers.setCell ((((W.setCell ⟨w.heap.size, 0, none⟩ (.int .i64 (0 : Int))).setCell ⟨w.heap.size, 1, none⟩ (.int .i64 (0 : Int))).setCell ⟨w.heap.size, 2, none⟩ (.int .i64 (-1 : Int))).setCell ⟨w.heap.size, 3, none⟩ (.int .i64 (0 : Int))) ⟨w.heap.size, 4, none⟩ (.int .i64 (0 : Int))).same D _ ((KeepsOthers.setCell (((W.setCell ⟨w.heap.size, 0, none⟩ (.int .i64 (0 : Int))).setCell ⟨w.heap.size, 1, none⟩ (.int .i64 (0 : Int))).setCell ⟨w.heap.size, 2, none⟩ (.int .i64 (-1 : Int))) ⟨w.heap.size, 3, none⟩ (.int .i64 (0 : Int))).same D _ ((KeepsOthers.setCell ((W.setCell ⟨w.heap.size, 0, none⟩ (.int .i64 (0 : Int))).setCell ⟨w.heap.size, 1, none⟩ (.int .i64 (0 : Int))) ⟨w.heap.size, 2, none⟩ (.int .i64 (-1 : Int))).same D _ ((KeepsOthers.setCell (W.setCell ⟨w.heap.size, 0, none⟩ (.int .i64 (0 : Int))) ⟨w.heap.size, 1, none⟩ (.int .i64 (0 : Int))).same D _ ((KeepsOthers.setCell W ⟨w.heap.size, 0, none⟩ (.int .i64 (0 : Int))).same D _ hK rfl) rfl) rfl) rfl) rfl)
      refine ⟨by simp, .inl ⟨_, _, rfl, run_takeDeferred hK1, ?_⟩⟩
      have hF1 := (((((hR.set 0 (.int .i64 (0 : Int))).set 1 (.int .i64 (0 : Int))).set 2 (.int .i64 (-1 : Int))).set 3 (.int .i64 (0 : Int))).set 4 (.int .i64 (0 : Int)))
      have cF := (blk_own w.heap.size 38 (fun (_ : Unit) => _) () _ _ _ hF1 (grownBy_putObj' _ D (.deferred none)) (fun r e => by cases e; exact ⟨_, hK1, rfl⟩)).cells
      refine ⟨.agg #[.int .i64 (0 : Int), .int .i64 (0 : Int), .int .i64 (-1 : Int), .int .i64 (0 : Int), .int .i64 (0 : Int)], by simp [results, Tryz.results61, go_sem, cF], rfl, ?_⟩
      exact (((((hB.setCell (by first | (simp; done) | (simp; omega) | omega) _).setCell (by first | (simp; done) | (simp; omega) | omega) _).setCell (by first | (simp; done) | (simp; omega) | omega) _).setCell (by first | (simp; done) | (simp; omega) | omega) _).setCell (by first | (simp; done) | (simp; omega) | omega) _).trans (belowK_b (w := w) (Nat.le_refl _) _ D _ _ (Nat.le_trans hB1.size hD) hK1 rfl rfl)
    · have hl : (Instr.lookup 152 (.map (some (w.heap.size + 1))) (.int .i64 7) false).run Tryz.prog W = .ok (.agg #[.int .i64 (0 : Int), .int .i64 (0 : Int), .int .i64 (0 : Int), .int .i64 (-1 : Int), .int .i64 (0 : Int)]) W := hP.at_ hfull 7 (by omega)
      gi_wp2
      have hK1 := ((KeepsOthers.setCell ((((W.setCell ⟨w.heap.size, 0, none⟩ (.int .i64 (0 : Int))).setCell ⟨w.heap.size, 1, none⟩ (.int .i64 (0 : Int))).setCell ⟨w.heap.size, 2, none⟩ (.int .i64 (0 : Int))).setCell ⟨w.heap.size, 3, none⟩ (.int .i64 (-1 : Int))) ⟨w.heap.size, 4, none⟩ (.int .i64 (0 : Int))).same D _ ((KeepsOthers.setCell (((W.setCell ⟨w.heap.size, 0, none⟩ (.int .i64 (0 : Int))).setCell ⟨w.heap.size, 1, none⟩ (.int .i64 (0 : Int))).setCell ⟨w.heap.size, 2, none⟩ (.int .i64 (0 : Int))) ⟨w.heap.size, 3, none⟩ (.int .i64 (-1 : Int))).same D _ ((KeepsOthers.setCell ((W.setCell ⟨w.heap.size, 0, none⟩ (.int .i64 (0 : Int))).setCell ⟨w.heap.size, 1, none⟩ (.int .i64 (0 : Int))) ⟨w.heap.size, 2, none⟩ (.int .i64 (0 : Int))).same D _ ((KeepsOthers.setCell (W.setCell ⟨w.heap.size, 0, none⟩ (.int .i64 (0 : Int))) ⟨w.heap.size, 1, none⟩ (.int .i64 (0 : Int))).same D _ ((KeepsOthers.setCell W ⟨w.heap.size, 0, none⟩ (.int .i64 (0 : Int))).same D _ hK rfl) rfl) rfl) rfl) rfl)
      refine ⟨by simp, .inl ⟨_, _, rfl, run_takeDeferred hK1, ?_⟩⟩
      have hF1 := (((((hR.set 0 (.int .i64 (0 : Int))).set 1 (.int .i64 (0 : Int))).set 2 (.int .i64 (0 : Int))).set 3 (.int .i64 (-1 : Int))).set 4 (.int .i64 (0 : Int)))
      have cF := (blk_own w.heap.size 38 (fun (_ : Unit) => _) () _ _ _ hF1 (grownBy_putObj' _ D (.deferred none)) (fun r e => by cases e; exact ⟨_, hK1, rfl⟩)).cells
      refine ⟨.agg #[.int .i64 (0 : Int), .int .i64 (0 : Int), .int .i64 (0 : Int), .int .i64 (-1 : Int), .int .i64 (0 : Int)], by simp [results, Tryz.results61, go_sem, cF], rfl, ?_⟩
      exact (((((hB.setCell (by first | (simp; done) | (simp; omega) | omega) _).setCell (by first | (simp; done) | (simp; omega) | omega) _).setCell (by first | (simp; done) | (simp; omega) | omega) _).setCell (by first | (simp; done) | (simp; omega) | omega) _).setCell (by first | (simp; done) | (simp; omega) | omega) _).trans (belowK_b (w := w) (Nat.le_refl _) _ D _ _ (Nat.le_trans hB1.size hD) hK1 rfl rfl)
  case stop =>
    rintro D c pre W _ _ h _
    exact h.elim
end
section
open Go.RowKit
attribute [local go_sem ↓] Go.wp_at_zero Go.wp_at_succ
def Num.w (k : Nat) : Num := ⟨wq k, 0⟩
theorem Filled.drew {w : World} {B h n : Nat} {M : Nat → Nat → Num} (H : Filled w B h n M) : Filled w.drew B h n M := ⟨H.head, H.row⟩
set_option maxHeartbeats 1000000 in
set_option maxRecDepth 100000 in
theorem f65_any (w : World) : Calls Tryz.prog 65 #[] w fun e w' => e = .returned (.agg #[.int .i64 1, .int .i64 0, .int .i64 0, .int .i64 0, .int .i64 0]) ∧ Below w.heap.size w w' := by
  have H : ∀ W, Calls Tryz.prog 61 #[.int .i64 0] W fun e w' => e = .returned (.agg #[.int .i64 1, .int .i64 0, .int .i64 0, .int .i64 0, .int .i64 0]) ∧ Below W.heap.size W w' := fun W => f61_any 0 W (by decide)
  go_enter Tryz.func65, Tryz.ntmps65
  go_wp2_with (go_at_call 61; refine (H _).mono ?_; rintro e w1 ⟨rfl, hb1⟩; have hR := Blk.below (b := w.heap.size) (T := 38) (cs := #[.int .i64 0, .int .i64 0, .int .i64 0, .int .i64 0, .int .i64 0]) (Blk.new' _ _ (by simp)) hb1; have cR := hR.cells; have fR := hR.frozen)
  have hF := (((((hR.set 0 (.int .i64 (1 : Int))).set 1 (.int .i64 (0 : Int))).set 2 (.int .i64 (0 : Int))).set 3 (.int .i64 (0 : Int))).set 4 (.int .i64 (0 : Int)))
  have cF := hF.cells
  refine bodyPost_ret (v := .agg #[.int .i64 1, .int .i64 0, .int .i64 0, .int .i64 0, .int .i64 0]) (by simp [results, Tryz.results65, go_sem, cF]) rfl ⟨rfl, ?_⟩
  have hb := bt ((Below.refl _ _).alloc (Nat.le_refl _) _) hb1
  exact (((((hb.setCell (by first | (simp; done) | (simp; omega) | omega) _).setCell (by first | (simp; done) | (simp; omega) | omega) _).setCell (by first | (simp; done) | (simp; omega) | omega) _).setCell (by first | (simp; done) | (simp; omega) | omega) _).setCell (by first | (simp; done) | (simp; omega) | omega) _)
/-- what the operator that moves has, of which k columns are made -/
def movN (mv : Nat → Nat) (k : Nat) (i j : Nat) : Num := if j < k ∧ i = mv j then Num.w 0 else Num.zero
theorem movN_put (mv : Nat → Nat) (k : Nat) : put2 (movN mv k) (mv k) k (Num.w 0) = movN mv (k + 1) := by
  funext i j
  unfold put2 put1 movN
  by_cases h1 : i = mv k
  · subst h1
    by_cases h2 : j = k
    · subst h2; simp
    · have : (j < k + 1) = (j < k) := by simp; omega
      simp [h2, this]
  · by_cases h2 : j = k
    · subst h2; simp [h1]
    · have : (j < k + 1) = (j < k) := by simp; omega
      simp [h1, this]
theorem movN_zero (mv : Nat → Nat) : movN mv 0 = fun _ _ => Num.zero := by
  funext i j
  simp [movN]
set_option maxHeartbeats 4000000 in
set_option maxRecDepth 100000 in
theorem f87_any (g : Nat) (lb : Array Value) (eg : ∀ args w, (callFunc g args).run Tryz.prog w = .ok (.enter g args) w) (s : Nat) (mv : Nat → Nat) (w : World) (hs : s ≤ 64) (hlt0 : ∀ k, k < s → mv k < s)
    (hto : ∀ (W : World) (k : Nat), k < s → Calls Tryz.prog g (#[.int .i64 k] ++ lb) W fun e w' => e = .returned (.int .i64 (mv k)) ∧ Below W.heap.size W w') :
    Calls Tryz.prog 87 #[.int .i64 s, .func (.func g) #[] lb] w fun e w' => e = .returned (.slice (some ⟨w.heap.size, 0, none⟩) s s) ∧ Filled w' w.heap.size s s (movN mv s) ∧ Below w.heap.size w w' := by
  go_enter Tryz.func87, Tryz.ntmps87
  go_wp2_with (go_at_call 64; refine (f64_any s s _ hs hs).mono ?_; rintro e w1 ⟨rfl, hs1, hH1, hR1, hb1⟩)
  have hF1 : Filled w1 w.heap.size s s (movN mv 0) := by rw [movN_zero]; exact ⟨hH1, fun i hi => RowB.zero (hR1 i hi)⟩
  clear hH1 hR1 hs1
  go_loopg [11] s (fun gg s11 wr => ∃ kk : Nat, kk ≤ s ∧ s - kk ≤ gg ∧ s11 = .int .i64 kk ∧ Aside (Filled wr w.heap.size s s (movN mv kk)) ∧ Aside (Below w.heap.size w wr))
  case atStart => exact ⟨0, Nat.zero_le _, by omega, rfl, hF1, hb1⟩
  case round =>
    obtain ⟨kk, hkk, hg, rfl, FW, BW⟩ := hrel
    by_cases hlt : kk < s
    · have hltz : (kk : Int) < (s : Int) := by omega
      have htk := hlt0 kk hlt
      have htz : (mv kk : Int) < (s : Int) := by omega
      go_wp2
      refine Calm.wp_region_calm 9 [] (by kernel_rfl) (by kernel_rfl) (by decide) (fun w' => Filled w' w.heap.size s s (movN mv kk) ∧ Below w.heap.size w w') (0) (fun _ _ => Nat.zero_le _) ⟨FW.out.drew, BW.out.drew⟩ ?_
      show Calm.WalkI _ _ _ _ _ _ [0, 1, 2, 3, 4, 5, 6, 7, 8] _ _
      refine Calm.calm_step rfl rfl rfl ?_; apply Exists.intro; refine ⟨fun w' hw' => ?_, ?_⟩
      · obtain ⟨hF, hW⟩ := hw'
        have hd := hF.head_at htk
        apply Calm.calm_value
        go_simp
        exact rfl
      intro K hK; go_simp; refine hK _ ?_; clear hK K
      refine Calm.calm_step rfl rfl rfl ?_; apply Exists.intro; refine ⟨fun w' hw' => ?_, ?_⟩
      · obtain ⟨hF, hW⟩ := hw'
        have hd := hF.head_at htk
        apply Calm.calm_value
        go_simp
        exact rfl
      intro K hK; go_simp; refine hK _ ?_; clear hK K
      refine Calm.calm_step rfl rfl rfl ?_; apply Exists.intro; refine ⟨fun w' hw' => ?_, ?_⟩
      · obtain ⟨hF, hW⟩ := hw'
        have hd := hF.head_at htk
        apply Calm.calm_value
        go_simp
        exact rfl
      intro K hK; go_simp; refine hK _ ?_; clear hK K
      refine Calm.calm_step rfl rfl rfl ?_; apply Exists.intro; refine ⟨fun w' hw' => ?_, ?_⟩
      · obtain ⟨hF, hW⟩ := hw'
        have hd := hF.head_at htk
        apply Calm.calm_call
        · go_simp
          exact ⟨rfl, rfl⟩
        refine (hto _ kk hlt).mono ?_
        rintro e w'' ⟨rfl, hb⟩
        exact ⟨rfl, hb, hF.below hb, bt hW hb⟩
      intro K hK; go_simp; refine hK _ ?_; clear hK K
      refine Calm.calm_step rfl rfl rfl ?_; apply Exists.intro; refine ⟨fun w' hw' => ?_, ?_⟩
      · obtain ⟨hF, hW⟩ := hw'
        have hd := hF.head_at htk
        apply Calm.calm_value
        go_simp
        exact rfl
      intro K hK; go_simp; refine hK _ ?_; clear hK K
      refine Calm.calm_step rfl rfl rfl ?_; apply Exists.intro; refine ⟨fun w' hw' => ?_, ?_⟩
      · obtain ⟨hF, hW⟩ := hw'
        have hd := hF.head_at htk
        apply Calm.calm_value
        go_simp
        exact rfl
      intro K hK; go_simp; refine hK _ ?_; clear hK K
      refine Calm.calm_step rfl rfl rfl ?_; apply Exists.intro; refine ⟨fun w' hw' => ?_, ?_⟩
      · obtain ⟨hF, hW⟩ := hw'
        have hd := hF.head_at htk
        apply Calm.calm_value
        go_simp
        exact rfl
      intro K hK; go_simp; refine hK _ ?_; clear hK K
      refine Calm.calm_step rfl rfl rfl ?_; apply Exists.intro; refine ⟨fun w' hw' => ?_, ?_⟩
      · obtain ⟨hF, hW⟩ := hw'
        have hd := hF.head_at htk
        apply Calm.calm_call
        · go_simp
          exact ⟨rfl, rfl⟩
        refine (f65_any _).mono ?_
        rintro e w'' ⟨rfl, hb⟩
        exact ⟨rfl, hb, hF.below hb, bt hW hb⟩
      intro K hK; go_simp; refine hK _ ?_; clear hK K
      refine Calm.calm_step rfl rfl rfl ?_; apply Exists.intro; refine ⟨fun w' hw' => ?_, ?_⟩
      · obtain ⟨hF, hW⟩ := hw'
        have hd := hF.head_at htk
        apply Calm.calm_value
        go_simp
        exact rfl
      intro K hK; go_simp; refine hK _ ?_; clear hK K
      refine Calm.calm_end_lit (fun wk hk => ?_)
      simp only [List.drop_succ_cons, List.drop_zero]
      obtain ⟨⟨hF, hW⟩, _, _⟩ := hk
      have fB := (hF.row _ htk).frozen
      obtain ⟨n0, n1, n2, n3, n4⟩ := (hF.row _ htk).numAt hlt
      have hF2 := hF.put htk hlt (Num.w 0)
      rw [movN_put] at hF2
      go_wp2
      go_roundg (s - (kk + 1))
      case measure => omega
      case rel =>
        refine ⟨kk + 1, by omega, by omega, by go_num, (show Aside _ from hF2), (show Aside _ from ?_)⟩
        exact (((((hW.setCell (by first | (simp; done) | (simp; omega) | omega) _).setCell (by first | (simp; done) | (simp; omega) | omega) _).setCell (by first | (simp; done) | (simp; omega) | omega) _).setCell (by first | (simp; done) | (simp; omega) | omega) _).setCell (by first | (simp; done) | (simp; omega) | omega) _)
    · have hltz : ¬ (kk : Int) < (s : Int) := by omega
      obtain rfl : kk = s := by omega
      clear hlt
      go_wp2
      go_ret
      exact ⟨rfl, FW.out, BW.out⟩
def diaN (f : Nat → Num) (k : Nat) (i j : Nat) : Num := if i < k ∧ i = j then f i else Num.zero
theorem diaN_put (f : Nat → Num) (k : Nat) : put2 (diaN f k) k k (f k) = diaN f (k + 1) := by
  funext i j
  unfold put2 put1 diaN
  by_cases h1 : i = k
  · subst h1
    by_cases h2 : j = i
    · subst h2; simp
    · simp [h2, Ne.symm h2]
  · have : (i < k + 1) = (i < k) := by simp; omega
    simp [h1, this]
theorem diaN_zero (f : Nat → Num) : diaN f 0 = fun _ _ => Num.zero := by
  funext i j
  simp [diaN]
set_option maxHeartbeats 4000000 in
set_option maxRecDepth 100000 in
theorem f101_any (s b off cap : Nat) (f : Nat → Num) (w : World) (hs : s ≤ 64) (hlb : b < w.heap.size) (hx : ∀ i, i < s → NumAt w b (off + i * 5) (f i)) :
    Calls Tryz.prog 101 #[.slice (some ⟨b, off, none⟩) s cap] w fun e w' => e = .returned (.slice (some ⟨w.heap.size, 0, none⟩) s s) ∧ Filled w' w.heap.size s s (diaN f s) ∧ Below w.heap.size w w' := by
  go_enter Tryz.func101, Tryz.ntmps101
  go_wp2_with (go_at_call 64; refine (f64_any s s _ hs hs).mono ?_; rintro e w1 ⟨rfl, hs1, hH1, hR1, hb1⟩)
  have hF1 : Filled w1 w.heap.size s s (diaN f 0) := by rw [diaN_zero]; exact ⟨hH1, fun i hi => RowB.zero (hR1 i hi)⟩
  have hsz0 : w.heap.size + 1 + s ≤ w1.heap.size := by omega
  clear hH1 hR1 hs1
  go_loopg [13] s (fun gg s13 wr => ∃ kk : Nat, kk ≤ s ∧ s - kk ≤ gg ∧ s13 = .int .i64 kk ∧ Aside (Filled wr w.heap.size s s (diaN f kk)) ∧ Aside (Below w.heap.size w wr) ∧ Aside (w.heap.size + 1 + s ≤ wr.heap.size))
  case atStart => exact ⟨0, Nat.zero_le _, by omega, rfl, hF1, hb1, hsz0⟩
  case round =>
    obtain ⟨kk, hkk, hg, rfl, FW, BW, SW⟩ := hrel
    by_cases hlt : kk < s
    · have hltz : (kk : Int) < (s : Int) := by omega
      obtain ⟨x, hxe⟩ : ∃ x, f kk = x := ⟨_, rfl⟩
      have hxn := (hx kk hlt).below BW.out hlb
      rw [hxe] at hxn
      obtain ⟨x0, x1, x2, x3, x4⟩ := hxn
      go_wp2
      have hF6 := FW.out.alloc (.cells #[.int .i64 x.q.a, .int .i64 x.q.b, .int .i64 x.q.c, .int .i64 x.q.d, .int .i64 x.k] 38)
      have hY6 := Blk.new wr 38 #[.int .i64 x.q.a, .int .i64 x.q.b, .int .i64 x.q.c, .int .i64 x.q.d, .int .i64 x.k]
      have hB6 : Below w.heap.size w (wr.alloc (.cells #[.int .i64 x.q.a, .int .i64 x.q.b, .int .i64 x.q.c, .int .i64 x.q.d, .int .i64 x.k] 38)) := BW.out.alloc BW.out.size _
      have hs6 : w.heap.size + 1 + s ≤ (wr.alloc (.cells #[.int .i64 x.q.a, .int .i64 x.q.b, .int .i64 x.q.c, .int .i64 x.q.d, .int .i64 x.k] 38)).heap.size := by have := SW.out; simp; omega
      obtain ⟨W6, hW6⟩ : ∃ W6, wr.alloc (.cells #[.int .i64 x.q.a, .int .i64 x.q.b, .int .i64 x.q.c, .int .i64 x.q.d, .int .i64 x.k] 38) = W6 := ⟨_, rfl⟩
      obtain ⟨By, hBy⟩ : ∃ By, wr.heap.size = By := ⟨_, rfl⟩
      rw [hW6] at hF6 hY6 hB6 hs6 ⊢
      rw [hBy] at hY6 ⊢
      clear hW6 hBy x0 x1 x2 x3 x4 FW BW SW
      have cY := hY6.cells
      have hd := hF6.head_at hlt
      refine Calm.wp_region_calm 7 [] (by kernel_rfl) (by kernel_rfl) (by decide) (fun w' => w' = W6.drew) (0) (fun _ _ => Nat.zero_le _) rfl ?_
      show Calm.WalkI _ _ _ _ _ _ [0, 1, 2, 3, 4, 5, 6] _ _
      refine Calm.calm_step rfl rfl rfl ?_; apply Exists.intro; refine ⟨fun w' hw' => ?_, ?_⟩
      · obtain rfl := hw'
        apply Calm.calm_value
        go_simp
        exact rfl
      intro K hK; go_simp; refine hK _ ?_; clear hK K
      refine Calm.calm_step rfl rfl rfl ?_; apply Exists.intro; refine ⟨fun w' hw' => ?_, ?_⟩
      · obtain rfl := hw'
        apply Calm.calm_value
        go_simp
        exact rfl
      intro K hK; go_simp; refine hK _ ?_; clear hK K
      refine Calm.calm_step rfl rfl rfl ?_; apply Exists.intro; refine ⟨fun w' hw' => ?_, ?_⟩
      · obtain rfl := hw'
        apply Calm.calm_value
        go_simp
        exact rfl
      intro K hK; go_simp; refine hK _ ?_; clear hK K
      refine Calm.calm_step rfl rfl rfl ?_; apply Exists.intro; refine ⟨fun w' hw' => ?_, ?_⟩
      · obtain rfl := hw'
        apply Calm.calm_value
        go_simp
        exact rfl
      intro K hK; go_simp; refine hK _ ?_; clear hK K
      refine Calm.calm_step rfl rfl rfl ?_; apply Exists.intro; refine ⟨fun w' hw' => ?_, ?_⟩
      · obtain rfl := hw'
        apply Calm.calm_value
        go_simp
        exact rfl
      intro K hK; go_simp; refine hK _ ?_; clear hK K
      refine Calm.calm_step rfl rfl rfl ?_; apply Exists.intro; refine ⟨fun w' hw' => ?_, ?_⟩
      · obtain rfl := hw'
        apply Calm.calm_value
        go_simp
        exact rfl
      intro K hK; go_simp; refine hK _ ?_; clear hK K
      refine Calm.calm_step rfl rfl rfl ?_; apply Exists.intro; refine ⟨fun w' hw' => ?_, ?_⟩
      · obtain rfl := hw'
        apply Calm.calm_value
        go_simp
        exact rfl
      intro K hK; go_simp; refine hK _ ?_; clear hK K
      refine Calm.calm_end_lit (fun wk hk => ?_)
      simp only [List.drop_succ_cons, List.drop_zero]
      obtain ⟨rfl, _, _⟩ := hk
      have fB := (hF6.row _ hlt).frozen
      obtain ⟨n0, n1, n2, n3, n4⟩ := (hF6.row _ hlt).numAt hlt
      have hF2 := hF6.put hlt hlt x
      rw [← hxe, diaN_put, hxe] at hF2
      go_wp2
      go_roundg (s - (kk + 1))
      case measure => omega
      case rel =>
        refine ⟨kk + 1, by omega, by omega, by go_num, (show Aside _ from hF2.drew), (show Aside _ from ?_), (by unfold Aside; simpa using hs6)⟩
        exact (((((hB6.setCell (by first | (simp; done) | (simp; omega) | omega) _).setCell (by first | (simp; done) | (simp; omega) | omega) _).setCell (by first | (simp; done) | (simp; omega) | omega) _).setCell (by first | (simp; done) | (simp; omega) | omega) _).setCell (by first | (simp; done) | (simp; omega) | omega) _).drew
    · have hltz : ¬ (kk : Int) < (s : Int) := by omega
      obtain rfl : kk = s := by omega
      clear hlt
      go_wp2
      go_ret
      exact ⟨rfl, FW.out, BW.out⟩
end
section
open Go.RowKit
attribute [local go_sem ↓] Go.wp_at_zero Go.wp_at_succ
def mvX (k : Nat) : Nat := 1 - k
def mvCX (k : Nat) : Nat := [0, 3, 2, 1].getD k 0
def mvSwap (k : Nat) : Nat := [0, 2, 1, 3].getD k 0
def mvCCX (k : Nat) : Nat := [0, 1, 2, 7, 4, 5, 6, 3].getD k 0
set_option maxHeartbeats 1000000 in
set_option maxRecDepth 100000 in
theorem f100_any (k : Nat) (w : World) (hk : k < 2) : Calls Tryz.prog 100 #[.int .i64 k] w fun e w' => e = .returned (.int .i64 ((mvX k : Nat) : Int)) ∧ Below w.heap.size w w' := by
  have hk8 : k = 0 ∨ k = 1 := by omega
  obtain rfl | rfl := hk8
  all_goals
    go_enter Tryz.func100, Tryz.ntmps100
    go_wp2
    go_ret
    exact ⟨(show Ending.returned (.int .i64 _) = _ from ret_int (by first | rfl | kernel_rfl | (simp [bits]; done))), Below.refl _ _⟩
set_option maxHeartbeats 1000000 in
set_option maxRecDepth 100000 in
theorem f102_any (k : Nat) (w : World) (hk : k < 4) : Calls Tryz.prog 102 #[.int .i64 k] w fun e w' => e = .returned (.int .i64 ((mvCX k : Nat) : Int)) ∧ Below w.heap.size w w' := by
  have hk8 : k = 0 ∨ k = 1 ∨ k = 2 ∨ k = 3 := by omega
  obtain rfl | rfl | rfl | rfl := hk8
  all_goals
    go_enter Tryz.func102, Tryz.ntmps102
    go_wp2
    go_ret
    exact ⟨(show Ending.returned (.int .i64 _) = _ from ret_int (by first | rfl | kernel_rfl | (simp [bits]; done))), Below.refl _ _⟩
set_option maxHeartbeats 1000000 in
set_option maxRecDepth 100000 in
theorem f103_any (k : Nat) (w : World) (hk : k < 4) : Calls Tryz.prog 103 #[.int .i64 k] w fun e w' => e = .returned (.int .i64 ((mvSwap k : Nat) : Int)) ∧ Below w.heap.size w w' := by
  have hk8 : k = 0 ∨ k = 1 ∨ k = 2 ∨ k = 3 := by omega
  obtain rfl | rfl | rfl | rfl := hk8
  all_goals
    go_enter Tryz.func103, Tryz.ntmps103
    go_wp2
    go_ret
    exact ⟨(show Ending.returned (.int .i64 _) = _ from ret_int (by first | rfl | kernel_rfl | (simp [bits]; done))), Below.refl _ _⟩
set_option maxHeartbeats 1000000 in
set_option maxRecDepth 100000 in
theorem f104_any (k : Nat) (w : World) (hk : k < 8) : Calls Tryz.prog 104 #[.int .i64 k] w fun e w' => e = .returned (.int .i64 ((mvCCX k : Nat) : Int)) ∧ Below w.heap.size w w' := by
  have hk8 : k = 0 ∨ k = 1 ∨ k = 2 ∨ k = 3 ∨ k = 4 ∨ k = 5 ∨ k = 6 ∨ k = 7 := by omega
  obtain rfl | rfl | rfl | rfl | rfl | rfl | rfl | rfl := hk8
  all_goals
    go_enter Tryz.func104, Tryz.ntmps104
    go_wp2
    go_ret
    exact ⟨(show Ending.returned (.int .i64 _) = _ from ret_int (by first | rfl | kernel_rfl | (simp [bits]; done))), Below.refl _ _⟩
end
section
open Go.RowKit
attribute [local go_sem ↓] Go.wp_at_zero Go.wp_at_succ
/-! ### the operators' map: what it holds, in whatever order it was filled -/
def Num.rt : Num := ⟨⟨1, 0, 0, 0⟩, 1⟩
def Num.mn : Num := ⟨⟨-1, 0, 0, 0⟩, 1⟩
def dimK (k : Nat) : Nat := if k ≤ 8 then 2 else if k = 12 then 8 else 4
def yM (i j : Nat) : Num := if i = 0 ∧ j = 1 then Num.w 6 else if i = 1 ∧ j = 0 then Num.w 2 else Num.zero
def hM (i j : Nat) : Num := if i = 1 ∧ j = 1 then Num.mn else Num.rt
def two (x y : Num) (i : Nat) : Num := if i = 0 then x else y
def czD (i : Nat) : Num := if i = 3 then Num.w 4 else Num.w 0
def opM : Nat → Nat → Nat → Num
  | 1 => movN mvX 2
  | 2 => yM
  | 3 => diaN (two (Num.w 0) (Num.w 4)) 2
  | 4 => hM
  | 5 => diaN (two (Num.w 0) (Num.w 2)) 2
  | 6 => diaN (two (Num.w 0) (Num.w 6)) 2
  | 7 => diaN (two (Num.w 0) (Num.w 1)) 2
  | 8 => diaN (two (Num.w 0) (Num.w 7)) 2
  | 9 => movN mvCX 4
  | 10 => diaN czD 4
  | 11 => movN mvSwap 4
  | _ => movN mvCCX 8
def GoodV (k : Nat) (v : Value) (W : World) : Prop := ∃ b off, v = .slice (some ⟨b, off, none⟩) (dimK k) (dimK k) ∧ Mat W (some ⟨b, off, none⟩) (dimK k) (dimK k) (opM k)
def AllGood (W : World) (es : Array MapEntry) : Prop := ∀ e ∈ es.toList, ∃ k : Nat, 1 ≤ k ∧ k ≤ 12 ∧ e.key = .int .i64 (k : Int) ∧ GoodV k e.val W
/-- all that is no map lies as it lay; maps have grown by good entries -/
structure Grow (W W' : World) : Prop where
  size : W.heap.size ≤ W'.heap.size
  same : ∀ (b : Nat) (o : Obj), W.heap[b]? = some o → (∀ es c, o ≠ .map es c) → W'.heap[b]? = some o
  map : ∀ (b : Nat) (es : Array MapEntry) (c : Nat), W.heap[b]? = some (.map es c) → IntKeys es → AllGood W es → ∃ es' c', W'.heap[b]? = some (.map es' c') ∧ IntKeys es' ∧ AllGood W' es' ∧ ∀ e ∈ es.toList, ∃ e' ∈ es'.toList, e'.key = e.key
theorem cells_of_cell {W : World} {p : Addr} {v : Value} (h : W.cell? p = some v) : ∃ cs T f, W.heap[p.block]? = some (.cells cs T f) := by
  unfold World.cell? at h
  cases ho : W.heap[p.block]? with
  | none => simp [ho] at h
  | some o =>
    rw [ho] at h
    cases o <;> simp at h
    exact ⟨_, _, _, rfl⟩
theorem Grow.cell {W W' : World} (g : Grow W W') {p : Addr} {v : Value} (h : W.cell? p = some v) : W'.cell? p = some v := by
  obtain ⟨cs, T, f, hb⟩ := cells_of_cell h
  have := g.same _ _ hb (fun es c e => by cases e)
  unfold World.cell? at h ⊢
  rw [this]
  rw [hb] at h
  exact h
theorem Grow.blk {W W' : World} (g : Grow W W') {b : Nat} {T : TypeId} {cs : Array Value} (h : Blk W b T cs) : Blk W' b T cs := g.same _ _ h (fun es c e => by cases e)
theorem NumAt.grow {W W' : World} (g : Grow W W') {b o : Nat} {x : Num} (h : NumAt W b o x) : NumAt W' b o x := ⟨g.cell h.1, g.cell h.2.1, g.cell h.2.2.1, g.cell h.2.2.2.1, g.cell h.2.2.2.2⟩
theorem Mat.grow {W W' : World} (g : Grow W W') {A : Option Addr} {h n : Nat} {M : Nat → Nat → Num} (H : Mat W A h n M) : Mat W' A h n M := by
  obtain ⟨b, off, rb, ro, rc, e, H⟩ := H
  exact ⟨b, off, rb, ro, rc, e, H.dims, Nat.lt_of_lt_of_le H.lt g.size, fun i hi => ⟨g.cell (H.row i hi).1, Nat.lt_of_lt_of_le (H.row i hi).2 g.size⟩, fun i j hi hj => (H.num i j hi hj).grow g⟩
theorem GoodV.grow {W W' : World} (g : Grow W W') {k : Nat} {v : Value} (h : GoodV k v W) : GoodV k v W' := by
  obtain ⟨b, off, e, H⟩ := h
  exact ⟨b, off, e, H.grow g⟩
theorem AllGood.grow {W W' : World} (g : Grow W W') {es : Array MapEntry} (h : AllGood W es) : AllGood W' es := fun e he => by
  obtain ⟨k, h1, h2, h3, h4⟩ := h e he
  exact ⟨k, h1, h2, h3, h4.grow g⟩
theorem Grow.of_below {W W' : World} (hb : Below W.heap.size W W') : Grow W W' := by
  have hsame : ∀ (b : Nat) (o : Obj), W.heap[b]? = some o → W'.heap[b]? = some o := fun b o h => (hb.block b (Array.getElem?_eq_some_iff.1 h).1).trans h
  have hcell : ∀ {p : Addr} {v : Value}, W.cell? p = some v → W'.cell? p = some v := fun {p v} h => by
    obtain ⟨cs, T, f, hc⟩ := cells_of_cell h
    exact (hb.cell (p := p) (Array.getElem?_eq_some_iff.1 hc).1).trans h
  refine ⟨hb.size, fun b o h _ => hsame b o h, fun b es c h hk hg => ⟨es, c, hsame b _ h, hk, fun e he => ?_, fun e he => ⟨e, he, rfl⟩⟩⟩
  obtain ⟨k, h1, h2, h3, b', off, e', H⟩ := hg e he
  exact ⟨k, h1, h2, h3, b', off, e', H.below hb⟩
theorem Grow.refl (W : World) : Grow W W := Grow.of_below (Below.refl _ _)
theorem Grow.trans {A B D : World} (g : Grow A B) (k : Grow B D) : Grow A D := ⟨Nat.le_trans g.size k.size, fun b o h hn => k.same b o (g.same b o h hn) hn, fun b es c h hk hg => by
  obtain ⟨es1, c1, a1, a2, a3, a4⟩ := g.map b es c h hk hg
  obtain ⟨es2, c2, b1, b2, b3, b4⟩ := k.map b es1 c1 a1 a2 a3
  refine ⟨es2, c2, b1, b2, b3, fun e he => ?_⟩
  obtain ⟨e1, h1, k1⟩ := a4 e he
  obtain ⟨e2, h2, k2⟩ := b4 e1 h1
  exact ⟨e2, h2, k2.trans k1⟩⟩
def MapAt (N0 : Nat) (v : Value) (W : World) : Prop := ∃ b es c, v = .map (some b) ∧ N0 ≤ b ∧ W.heap[b]? = some (.map es c) ∧ IntKeys es ∧ AllGood W es
def HasKey (N0 k : Nat) (v : Value) (W : World) : Prop := ∃ b es c, v = .map (some b) ∧ N0 ≤ b ∧ W.heap[b]? = some (.map es c) ∧ IntKeys es ∧ AllGood W es ∧ ∃ e ∈ es.toList, e.key = .int .i64 (k : Int)
theorem MapAt.grow {N0 : Nat} {v : Value} {W W' : World} (g : Grow W W') (h : MapAt N0 v W) : MapAt N0 v W' := by
  obtain ⟨b, es, c, e, h0, h1, h2, h3⟩ := h
  obtain ⟨es', c', a1, a2, a3, _⟩ := g.map b es c h1 h2 h3
  exact ⟨b, es', c', e, h0, a1, a2, a3⟩
theorem HasKey.grow {N0 k : Nat} {v : Value} {W W' : World} (g : Grow W W') (h : HasKey N0 k v W) : HasKey N0 k v W' := by
  obtain ⟨b, es, c, e, h0, h1, h2, h3, e0, he0, hk0⟩ := h
  obtain ⟨es', c', a1, a2, a3, a4⟩ := g.map b es c h1 h2 h3
  obtain ⟨e1, he1, hk1⟩ := a4 e0 he0
  exact ⟨b, es', c', e, h0, a1, a2, a3, e1, he1, hk1.trans hk0⟩
theorem und100 : Tryz.prog.underlying 100 = some (.map 3 88) := by kernel_rfl
/-- one more entry -/
theorem MapAt.insert {N0 k : Nat} {v m : Value} {W : World} (h : MapAt N0 m W) (hk1 : 1 ≤ k) (hk2 : k ≤ 12) (hv : GoodV k v W) :
    ∃ b es' c', m = .map (some b) ∧ N0 ≤ b ∧ (Instr.mapUpdate 100 m (.int .i64 (k : Int)) v).run Tryz.prog W = .ok () (W.putObj b (.map es' c')) ∧ Grow W (W.putObj b (.map es' c')) ∧ HasKey N0 k m (W.putObj b (.map es' c')) ∧ b < W.heap.size := by
  obtain ⟨b, es, c, rfl, h0, h1, h2, h3⟩ := h
  obtain ⟨es', c', hrun, g1, g2, g3, g4⟩ := run_mapUpdate_int und100 W b es c (k : Int) v h1 h2
  have hlt := (Array.getElem?_eq_some_iff.1 h1).1
  have hnew : (W.putObj b (.map es' c')).heap[b]? = some (.map es' c') := by simp [World.putObj, hlt]
  have hoth : ∀ b', b' ≠ b → (W.putObj b (.map es' c')).heap[b']? = W.heap[b']? := fun b' hne => World.putObj_heap_other (fun e => hne e)
  have hcell : ∀ {p : Addr} {v : Value}, W.cell? p = some v → (W.putObj b (.map es' c')).cell? p = some v := fun {p v} hp => by
    obtain ⟨cs, T, f, hc⟩ := cells_of_cell hp
    have hne : p.block ≠ b := fun e => by rw [e, h1] at hc; cases hc
    unfold World.cell? at hp ⊢
    rw [hoth _ hne]
    exact hp
  have hsz : (W.putObj b (.map es' c')).heap.size = W.heap.size := by simp [World.putObj]
  have hgood : ∀ k v, GoodV k v W → GoodV k v (W.putObj b (.map es' c')) := by
    rintro k v ⟨b1, off, e, b2, off2, rb, ro, rc, e2, H⟩
    exact ⟨b1, off, e, b2, off2, rb, ro, rc, e2, H.dims, by rw [hsz]; exact H.lt, fun i hi => ⟨hcell (H.row i hi).1, by rw [hsz]; exact (H.row i hi).2⟩, fun i j hi hj => ⟨hcell (H.num i j hi hj).1, hcell (H.num i j hi hj).2.1, hcell (H.num i j hi hj).2.2.1, hcell (H.num i j hi hj).2.2.2.1, hcell (H.num i j hi hj).2.2.2.2⟩⟩
  have hag : AllGood (W.putObj b (.map es' c')) es' := by
    intro e he
    rcases g3 e he with ⟨e1, e2⟩ | he'
    · exact ⟨k, hk1, hk2, e1, by rw [e2]; exact hgood k v hv⟩
    · obtain ⟨k', a1, a2, a3, a4⟩ := h3 e he'
      exact ⟨k', a1, a2, a3, hgood _ _ a4⟩
  refine ⟨b, es', c', rfl, h0, hrun, ⟨by rw [hsz]; exact Nat.le_refl _, fun b' o hb' hn => ?_, fun b' es1 c1 hb' hk' hg' => ?_⟩, ⟨b, es', c', rfl, h0, hnew, g1, hag, g2⟩, hlt⟩
  · have hne : b' ≠ b := fun e => by rw [e, h1] at hb'; cases hb'; exact hn _ _ rfl
    rw [hoth _ hne]
    exact hb'
  · by_cases e : b' = b
    · subst e
      rw [h1] at hb'
      cases hb'
      exact ⟨es', c', hnew, g1, hag, g4⟩
    · refine ⟨es1, c1, by rw [hoth _ e]; exact hb', hk', fun e he => ?_, fun e he => ⟨e, he, rfl⟩⟩
      obtain ⟨k', a1, a2, a3, a4⟩ := hg' e he
      exact ⟨k', a1, a2, a3, hgood _ _ a4⟩
end
end Go.Proofs.YtdfgmmjcamhdjaaGreatDoor
