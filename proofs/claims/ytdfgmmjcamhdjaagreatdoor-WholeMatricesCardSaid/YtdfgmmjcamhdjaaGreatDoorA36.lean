/- Steps to WholeMatrices' card; what each asks stands in it. -/
import Derived.Test.YtdfgmmjcamhdjaaGreatDoorA31
import Derived.Test.YtdfgmmjcamhdjaaGreatDoorA35
set_option linter.unusedVariables false
set_option linter.unusedSimpArgs false
namespace Go.Proofs.YtdfgmmjcamhdjaaGreatDoor
section
open Go.RowKit
def PT (b o : Nat) : Value := .pointer (some ⟨b, o, none⟩)
structure GXok (W : World) (T B n : Nat) (gv : Value) (x : GX) : Prop where
  ok : Gt.ok x.g n
  lo : T + 1 ≤ x.b
  ne : x.b ≠ B
  own : gv.ownBlock ≠ some x.b
  at_ : OwnI W x.b x.c (zInts x.g.ws)
/-- the promises of the operations that append a gate -/
def gateR (T B n : Nat) (gv : Value) (xs : List GX) (i : Nat) (v : Value) (W : World) : Prop :=
  match i with
  | 0 => v = PT T 0
  | 1 => v = PT T 0
  | 2 => v = PT T 0
  | 3 => v = PT T 3
  | 4 => v = PT T 5
  | 5 => v = gv
  | 6 => v = PT B 0
  | 7 => v = .int .i64 n
  | 8 => ∃ kb, v = .slice (some ⟨kb, 0, none⟩) 12 12 ∧ Blk W kb 3 kinds3 ∧ kb ≠ B ∧ gv.ownBlock ≠ some kb
  | 9 => ∃ x : GX, v = .agg #[.int .i64 x.g.k, .slice (some ⟨x.b, 0, none⟩) x.g.ws.length x.c, .int .i64 0, .int .i64 0] ∧ GXok W T B n gv x
  | 10 => ∃ (x : GX) (bS : Nat), v = .slice (some ⟨bS, 0, none⟩) 1 1 ∧ Blk W bS 45 #[.int .i64 x.g.k, .slice (some ⟨x.b, 0, none⟩) x.g.ws.length x.c, .int .i64 0, .int .i64 0] ∧ gv.ownBlock ≠ some bS ∧ bS ≠ B ∧ GXok W T B n gv x
  | 11 => ∃ (x : GX) (g cap : Nat), v = .slice (some ⟨g, 0, none⟩) (xs.length + 1 : Nat) cap ∧ OwnG W (T + 1) B v (xs ++ [x]) ∧ Gt.ok x.g n
  | 12 => v = PT T 0
  | 13 => v = PT T 3
  | 14 => v = PT T 5
  | _ => True
def gateT (B : Nat) (gv : Value) (j : Nat) (W W' : World) : Prop := if j = 11 then W.grownBy W' gv.ownBlock else KeepX B W W'
theorem OwnI.grown {w w' : World} {b c : Nat} {zs : List Int} {row : Option Nat} (h : OwnI w b c zs) (hg : w.grownBy w' row) (hr : row ≠ some b) : OwnI w' b c zs := h.heap (hg.block b h.lt (fun e => hr e.symm))
theorem GXok.keepX {W W' : World} {T B n : Nat} {gv : Value} {x : GX} (h : GXok W T B n gv x) (hk : KeepX B W W') : GXok W' T B n gv x := ⟨h.ok, h.lo, h.ne, h.own, h.at_.keepX hk h.ne⟩
theorem GXok.grown {W W' : World} {T B n : Nat} {gv : Value} {x : GX} (h : GXok W T B n gv x) (hk : W.grownBy W' gv.ownBlock) : GXok W' T B n gv x := ⟨h.ok, h.lo, h.ne, h.own, h.at_.grown hk h.own⟩
theorem gateR_stable {T B n : Nat} {gv : Value} {xs : List GX} {i j : Nat} {v : Value} {W W' : World} (hB : B < T) (hij : i = 11 → j ≠ 11) (hT : gateT B gv j W W') (h : gateR T B n gv xs i v W) : gateR T B n gv xs i v W' := by
  unfold gateT at hT
  unfold gateR at *
  by_cases hj : j = 11
  · rw [if_pos hj] at hT
    split at h
    case h_9 =>
      obtain ⟨kb, h1, h2, h3, h4⟩ := h
      exact ⟨kb, h1, h2.grown hT h4, h3, h4⟩
    case h_10 =>
      obtain ⟨x, h1, h2⟩ := h
      exact ⟨x, h1, h2.grown hT⟩
    case h_11 =>
      obtain ⟨x, bS, h1, h2, h3, h4, h5⟩ := h
      exact ⟨x, bS, h1, h2.grown hT h3, h3, h4, h5.grown hT⟩
    case h_12 => exact absurd hj (hij rfl)
    all_goals exact h
  · rw [if_neg hj] at hT
    split at h
    case h_9 =>
      obtain ⟨kb, h1, h2, h3, h4⟩ := h
      exact ⟨kb, h1, h2.keepX hT h3, h3, h4⟩
    case h_10 =>
      obtain ⟨x, h1, h2⟩ := h
      exact ⟨x, h1, h2.keepX hT⟩
    case h_11 =>
      obtain ⟨x, bS, h1, h2, h3, h4, h5⟩ := h
      exact ⟨x, bS, h1, h2.keepX hT h4, h3, h4, h5.keepX hT⟩
    case h_12 =>
      obtain ⟨x, g, cap, h1, h2, h3⟩ := h
      exact ⟨x, g, cap, h1, h2.keepX (by omega) hT, h3⟩
    all_goals exact h
structure GateC (w : World) (T B n nx z : Nat) (gv : Value) (xs : List GX) (D : Nat → Bool) (W : World) : Prop where
  t : Blk W T 61 #[.int .i64 n, .slice none 0 0, .slice none 0 0, .int .i64 n, .int .i64 0, gv]
  s : StoreAt W B (nx + if D 9 = true then 10 else 0)
  k : KeepX B w W
  sz : z ≤ W.heap.size
  o : D 11 = false → OwnG W (T + 1) B gv xs
theorem GateC.upd {w W : World} {T B n nx z : Nat} {gv : Value} {xs : List GX} {D : Nat → Bool} (h : GateC w T B n nx z gv xs D W) {i : Nat} (h9 : i ≠ 9) : GateC w T B n nx z gv xs (fun j => if j = i then true else D j) W := by
  refine ⟨h.t, ?_, h.k, h.sz, fun h11 => h.o ?_⟩
  · show StoreAt W B (nx + if (if 9 = i then true else D 9) = true then 10 else 0)
    have e9 : (if 9 = i then true else D 9) = D 9 := if_neg (fun e => h9 e.symm)
    rw [e9]
    exact h.s
  · have h11' : (if 11 = i then true else D 11) = false := h11
    by_cases e : 11 = i
    · rw [if_pos e] at h11'; cases h11'
    · rw [if_neg e] at h11'; exact h11'
theorem GateC.updB {w W : World} {T B n nx z : Nat} {gv : Value} {xs : List GX} {D : Nat → Bool} (h : GateC w T B n nx z gv xs D W) {i : Nat} (h9 : i ≠ 9) : GateC w T B n nx z gv xs (fun j => decide (j = i) || D j) W := by
  have e : (fun j => decide (j = i) || D j) = fun j => if j = i then true else D j := by
    funext j
    by_cases hj : j = i <;> simp [hj]
  rw [e]
  exact h.upd h9
theorem GateC.below {w W W' : World} {T B n nx z : Nat} {gv : Value} {xs : List GX} {D : Nat → Bool} (h : GateC w T B n nx z gv xs D W) (hB : B < T) (hb : Below W.heap.size W W') : GateC w T B n nx z gv xs D W' :=
  ⟨h.t.below hb, h.s.below hb, h.k.below hb, Nat.le_trans h.sz hb.size, fun h11 => (h.o h11).below (by omega) hb⟩
theorem exec_app {P : Program} {ρ : Operand → Value} {o : Oper} {w w' : World} {u : Value} (s x : Operand) (t ty : TypeId) (ho : o.op = .call { callee := .builtin .append, args := #[s, x], argTypes := #[t, t] }) (hty : o.type = ty) (v sl : Value) (hs : ρ s = v) (hx : ρ x = sl)
    (hr : (Builtin.append_ #[t, t] ty #[v, sl]).run P w = .ok u w') : (execOp ρ o).run P w = .ok (.value u) w' := by
  subst hty
  unfold execOp
  simp only [ho, resolve, invoke, builtin, Sem.run_bind, Sem.run_pure, Result.andThen_ok, List.map_toArray, List.map_cons, List.map_nil, hs, hx, hr]
theorem putS {ops : Array Oper} {a0 : Act} {vs : Nat → Value} (k : Nat) {d : Option Tmp} (h : Rely.dstOf ops k = d) : Rely.putL ops a0 vs (fun _ => true) (k + 1) = (Rely.putL ops a0 vs (fun _ => true) k).put d (vs k) := by
  rw [← h]
  rfl
def setsL (ops : Array Oper) (vs : Nat → Value) : Nat → List Value → List Value
  | 0, l => l
  | k + 1, l => match Rely.dstOf ops k with
    | some t => (setsL ops vs k l).set t (vs k)
    | none => setsL ops vs k l
theorem putL_list {ops : Array Oper} {a0 : Act} {vs : Nat → Value} : ∀ k, (Rely.putL ops a0 vs (fun _ => true) k).tmps.toList = setsL ops vs k a0.tmps.toList
  | 0 => rfl
  | k + 1 => by
    have ih := putL_list (ops := ops) (a0 := a0) (vs := vs) k
    show (Act.put (Rely.putL ops a0 vs (fun _ => true) k) (Rely.dstOf ops k) (vs k)).tmps.toList = _
    unfold setsL
    cases Rely.dstOf ops k with
    | none => exact ih
    | some t =>
      dsimp only [Act.put]
      rw [Array.toList_setIfInBounds, ih]
theorem act_lit {A : Act} {l : List Value} {d : List Deferred} (h : A.tmps.toList = l) (hd : A.defers = d) : A = { tmps := l.toArray, defers := d } := by
  obtain ⟨t, d'⟩ := A
  dsimp only at h hd
  subst h hd
  rfl
def segOk (ops : Array Oper) (p m' m : Nat) : Bool := ((List.range m').all fun k => Rely.dstOf ops k == some (p + k)) && ((List.range m).all fun k => decide (k < m') || Rely.dstOf ops k == none)
theorem seg_set (l : List Value) (vs : Nat → Value) (p k : Nat) (h : p + k < l.length) : (l.take p ++ (List.range k).map vs ++ l.drop (p + k)).set (p + k) (vs k) = l.take p ++ (List.range (k + 1)).map vs ++ l.drop (p + (k + 1)) := by
  have h1 : (l.take p ++ (List.range k).map vs).length = p + k := by simp; omega
  rw [List.set_append_right _ _ (by omega), h1, Nat.sub_self, List.drop_eq_getElem_cons h, List.set_cons_zero, List.range_succ, List.map_append]
  simp [Nat.add_assoc]
theorem setsL_seg {ops : Array Oper} {vs : Nat → Value} {l : List Value} {p : Nat} : ∀ m', (∀ k, k < m' → Rely.dstOf ops k = some (p + k)) → p + m' ≤ l.length → setsL ops vs m' l = l.take p ++ (List.range m').map vs ++ l.drop (p + m')
  | 0, _, _ => by simp [setsL]
  | k + 1, h, hl => by
    unfold setsL
    rw [h k (Nat.lt_succ_self _)]
    dsimp only
    rw [setsL_seg k (fun j hj => h j (by omega)) (by omega), seg_set l vs p k (by omega)]
theorem setsL_none {ops : Array Oper} {vs : Nat → Value} {l : List Value} {m' : Nat} : ∀ m, m' ≤ m → (∀ k, m' ≤ k → k < m → Rely.dstOf ops k = none) → setsL ops vs m l = setsL ops vs m' l
  | 0, h, _ => by
    obtain rfl : m' = 0 := by omega
    rfl
  | k + 1, h, hn => by
    by_cases e : m' = k + 1
    · rw [e]
    · conv => lhs; unfold setsL
      rw [hn k (by omega) (Nat.lt_succ_self _)]
      exact setsL_none k (by omega) (fun j h1 h2 => hn j h1 (by omega))
theorem putL_seg {ops : Array Oper} {a0 : Act} {vs : Nat → Value} (p m' m : Nat) (h : segOk ops p m' m = true) (hm : m' ≤ m) (hl : p + m' ≤ a0.tmps.toList.length) :
    Rely.putL ops a0 vs (fun _ => true) m = { tmps := (a0.tmps.toList.take p ++ (List.range m').map vs ++ a0.tmps.toList.drop (p + m')).toArray, defers := a0.defers } := by
  simp only [segOk, Bool.and_eq_true, List.all_eq_true, List.mem_range, beq_iff_eq, Bool.or_eq_true, decide_eq_true_eq] at h
  refine act_lit ?_ (defers_putL _)
  rw [putL_list, setsL_none m hm (fun k h1 h2 => (h.2 k h2).resolve_left (by omega)), setsL_seg m' h.1 hl]
theorem wp_named {P : Program} {c : Code} {Q : Exit → Act → World → Prop} {a : Act} {w : World} (h : ∀ a0, a0 = a → c.wp P Q a0 w) : c.wp P Q a w := h a rfl
theorem tailJ_lit {P : Program} {m : Nat} {ol : List Oper} {Q : Exit → Act → World → Prop} {a : Act} {w : World} (h : wpList P ol.toArray Q (ol.drop m) a w) : wpOps P ol.toArray Q (List.range' m (ol.toArray.size - m)) a w := by
  rw [show ol.toArray.size - m = (ol.drop m).length from by simp, wpOps_eq_wpList (ol.drop m) m (fun j => by simp)]
  exact h
end
section
open Go.RowKit
def intsN (f : Nat → Nat) (k : Nat) : List Value := (List.range k).map fun i => .int .i64 ((f i : Nat) : Int)
theorem intsN_succ (f : Nat → Nat) (k : Nat) : intsN f (k + 1) = intsN f k ++ [.int .i64 ((f k : Nat) : Int)] := by
  unfold intsN
  rw [List.range_succ, List.map_append]
  rfl
/-- the rows of the table lie apart from one another and from the gates -/
structure Sep (tv pv gv : Value) (xs : List GX) : Prop where
  tp : ∀ b, tv.ownBlock = some b → pv.ownBlock ≠ some b ∧ gv.ownBlock ≠ some b ∧ ∀ x ∈ xs, x.b ≠ b
  pg : ∀ b, pv.ownBlock = some b → gv.ownBlock ≠ some b ∧ ∀ x ∈ xs, x.b ≠ b
theorem OwnG.grownOff {w w' : World} {lo B : Nat} {gv : Value} {xs : List GX} {row : Option Nat} (h : OwnG w lo B gv xs) (hg : w.grownBy w' row) (h1 : ∀ b, row = some b → gv.ownBlock ≠ some b ∧ ∀ x ∈ xs, x.b ≠ b) : OwnG w' lo B gv xs :=
  ⟨ownsRow_keep h.row (fun k hk => hg.block k (ownsRow_block h.row k hk).2 (fun e => (h1 k e.symm).1 hk)), fun x hx => by
    obtain ⟨a, b, c, d⟩ := h.ws x hx
    exact ⟨a, b, c, d.grown hg (fun e => (h1 _ e).2 x hx rfl)⟩⟩
theorem OwnG.setFar {w : World} {lo B T i : Nat} {gv : Value} {xs : List GX} (h : OwnG w lo B gv xs) (hB : B < lo) (hT : T < lo) (u : Value) : OwnG (w.setCell ⟨T, i, none⟩ u) lo B gv xs :=
  h.keep hB (fun b hb _ => Below.heap_setCell w ⟨T, i, none⟩ u b (by show b ≠ T; omega))
theorem ownsRow_setFar {w : World} {lo T i n : Nat} {v : Value} {ys : List Value} (h : w.ownsRow lo 3 1 v n ys) (hT : T < lo) (u : Value) : (w.setCell ⟨T, i, none⟩ u).ownsRow lo 3 1 v n ys :=
  ownsRow_keep h (fun b hb => Below.heap_setCell w ⟨T, i, none⟩ u b (by have := (ownsRow_block h b hb).1; show b ≠ T; omega))
theorem ownsRow_grownOff {w w' : World} {lo n : Nat} {v : Value} {ys : List Value} {row : Option Nat} (h : w.ownsRow lo 3 1 v n ys) (hg : w.grownBy w' row) (hr : ∀ b, v.ownBlock = some b → row ≠ some b) : w'.ownsRow lo 3 1 v n ys :=
  ownsRow_keep h (fun b hb => hg.block b (ownsRow_block h b hb).2 (fun e => hr b hb e.symm))
/-- a block that none of the rows is -/
structure FreeB (T : Nat) (tv pv : Value) (b : Nat) : Prop where
  t : tv.ownBlock ≠ some b
  p : pv.ownBlock ≠ some b
  n : b ≠ T
def OffG (gv : Value) (xs : List GX) (g : Nat) : Prop := gv.ownBlock ≠ some g ∧ ∀ x ∈ xs, x.b ≠ g
def tabR (T Db n x' p' k : Nat) (tv pv gv : Value) (xs : List GX) (tq pq : List Value) (i : Nat) (v v9 : Value) (W : World) : Prop :=
  match i with
  | 0 => v = PT T 0
  | 1 => v = PT T 0
  | 2 => v = PT T 0
  | 3 => v = PT T 0
  | 4 => v = PT T 1
  | 5 => v = tv
  | 6 => v = PT Db 0
  | 7 => v = .int .i64 x'
  | 8 => ∃ b, v = .slice (some ⟨b, 0, none⟩) 1 1 ∧ Blk W b 3 #[.int .i64 x'] ∧ FreeB T tv pv b
  | 9 => ∃ g cap, v = .slice (some ⟨g, 0, none⟩) (k + 1 : Nat) cap ∧ W.ownsRow (T + 1) 3 1 v (k + 1) (tq ++ [.int .i64 x']) ∧ pv.ownBlock ≠ some g ∧ OffG gv xs g
  | 10 => v = PT T 0
  | 11 => v = PT T 0
  | 12 => v = PT T 2
  | 13 => v = pv
  | 14 => v = PT Db 1
  | 15 => v = .int .i64 p'
  | 16 => ∃ b, v = .slice (some ⟨b, 0, none⟩) 1 1 ∧ Blk W b 3 #[.int .i64 p'] ∧ FreeB T tv pv b
  | 17 => ∃ g cap, v = .slice (some ⟨g, 0, none⟩) (k + 1 : Nat) cap ∧ W.ownsRow (T + 1) 3 1 v (k + 1) (pq ++ [.int .i64 p']) ∧ v9.ownBlock ≠ some g ∧ OffG gv xs g
  | 18 => v = PT T 0
  | 19 => v = PT T 1
  | 20 => Blk W T 61 #[.int .i64 n, v9, pv, .int .i64 n, .int .i64 0, gv]
  | _ => True
def tabT (T : Nat) (tv pv : Value) (j : Nat) (W W' : World) : Prop := if j = 9 then W.grownBy W' tv.ownBlock else if j = 17 then W.grownBy W' pv.ownBlock else if j = 20 then ∃ u, W' = W.setCell ⟨T, 1, none⟩ u else Below W.heap.size W W'
theorem tabR_stable {T Db n x' p' k : Nat} {tv pv gv : Value} {xs : List GX} {tq pq : List Value} {i j : Nat} {v v9 : Value} {W W' : World} (htv : ∀ b, tv.ownBlock = some b → T < b) (hpv : ∀ b, pv.ownBlock = some b → T < b) (hij : j ≠ i) (h179 : i = 17 → j ≠ 9)
    (hT : tabT T tv pv j W W') (h : tabR T Db n x' p' k tv pv gv xs tq pq i v v9 W) : tabR T Db n x' p' k tv pv gv xs tq pq i v v9 W' := by
  unfold tabT at hT
  unfold tabR at *
  by_cases h9 : j = 9
  · rw [if_pos h9] at hT
    split at h
    case h_9 =>
      obtain ⟨b, h1, h2, h3⟩ := h
      exact ⟨b, h1, h2.grown hT h3.t, h3⟩
    case h_10 => exact absurd h9 hij
    case h_17 =>
      obtain ⟨b, h1, h2, h3⟩ := h
      exact ⟨b, h1, h2.grown hT h3.t, h3⟩
    case h_18 => exact absurd h9 (h179 rfl)
    case h_21 => exact h.grown hT (fun e => by have := htv _ e; omega)
    all_goals exact h
  · rw [if_neg h9] at hT
    by_cases h17 : j = 17
    · rw [if_pos h17] at hT
      split at h
      case h_9 =>
        obtain ⟨b, h1, h2, h3⟩ := h
        exact ⟨b, h1, h2.grown hT h3.p, h3⟩
      case h_10 =>
        obtain ⟨g, cap, rfl, h2, h3, h4⟩ := h
        exact ⟨g, cap, rfl, ownsRow_grownOff h2 hT (fun b hb e => h3 (by rw [e]; exact hb.symm)), h3, h4⟩
      case h_17 =>
        obtain ⟨b, h1, h2, h3⟩ := h
        exact ⟨b, h1, h2.grown hT h3.p, h3⟩
      case h_18 => exact absurd h17 hij
      case h_21 => exact h.grown hT (fun e => by have := hpv _ e; omega)
      all_goals exact h
    · rw [if_neg h17] at hT
      by_cases h20 : j = 20
      · rw [if_pos h20] at hT
        obtain ⟨u, rfl⟩ := hT
        split at h
        case h_9 =>
          obtain ⟨b, h1, h2, h3⟩ := h
          exact ⟨b, h1, h2.far h3.n u, h3⟩
        case h_10 =>
          obtain ⟨g, cap, h1, h2, h3⟩ := h
          exact ⟨g, cap, h1, ownsRow_setFar h2 (Nat.lt_succ_self _) u, h3⟩
        case h_17 =>
          obtain ⟨b, h1, h2, h3⟩ := h
          exact ⟨b, h1, h2.far h3.n u, h3⟩
        case h_18 =>
          obtain ⟨g, cap, h1, h2, h3⟩ := h
          exact ⟨g, cap, h1, ownsRow_setFar h2 (Nat.lt_succ_self _) u, h3⟩
        case h_21 => exact absurd h20 hij
        all_goals exact h
      · rw [if_neg h20] at hT
        split at h
        case h_9 =>
          obtain ⟨b, h1, h2, h3⟩ := h
          exact ⟨b, h1, h2.below hT, h3⟩
        case h_10 =>
          obtain ⟨g, cap, h1, h2, h3⟩ := h
          exact ⟨g, cap, h1, ownsRow_below h2 hT, h3⟩
        case h_17 =>
          obtain ⟨b, h1, h2, h3⟩ := h
          exact ⟨b, h1, h2.below hT, h3⟩
        case h_18 =>
          obtain ⟨g, cap, h1, h2, h3⟩ := h
          exact ⟨g, cap, h1, ownsRow_below h2 hT, h3⟩
        case h_21 => exact h.below hT
        all_goals exact h
structure TabC (w : World) (T B Db n x' p' m z k : Nat) (tv pv gv : Value) (xs : List GX) (tq pq : List Value) (D : Nat → Bool) (W : World) : Prop where
  t : D 20 = false → Blk W T 61 #[.int .i64 n, tv, pv, .int .i64 n, .int .i64 0, gv]
  tl : T < W.heap.size
  d : Blk W Db 64 (wkC x' p')
  g : OwnG W (T + 1) B gv xs
  tq : D 9 = false → W.ownsRow (T + 1) 3 1 tv k tq
  pq : D 17 = false → W.ownsRow (T + 1) 3 1 pv k pq
  s : StoreAt W B m
  k : KeepX B w W
  sz : z ≤ W.heap.size
section
variable {w W W' : World} {T B Db n x' p' m z k : Nat} {tv pv gv : Value} {xs : List GX} {tq pq : List Value} {D : Nat → Bool}
theorem upd_false {D : Nat → Bool} {i a : Nat} (h : (fun j => decide (j = i) || D j) a = false) : D a = false := by
  have h' : (decide (a = i) || D a) = false := h
  cases hD : D a with
  | false => rfl
  | true => rw [hD] at h'; simp at h'
theorem upd_false' {D : Nat → Bool} {i a : Nat} (h : (fun j => if j = i then true else D j) a = false) : D a = false := by
  have h' : (if a = i then true else D a) = false := h
  by_cases e : a = i
  · rw [if_pos e] at h'; cases h'
  · rw [if_neg e] at h'; exact h'
theorem tabR_loc {T Db n x' p' k : Nat} {tv pv gv : Value} {xs : List GX} {tq pq : List Value} {i : Nat} {v v9 v9' : Value} {W : World} (h1 : i ≠ 17) (h2 : i ≠ 20) (h : tabR T Db n x' p' k tv pv gv xs tq pq i v v9 W) : tabR T Db n x' p' k tv pv gv xs tq pq i v v9' W := by
  unfold tabR at *
  split at h
  case h_18 => exact absurd rfl h1
  case h_21 => exact absurd rfl h2
  all_goals exact h
theorem TabC.updB (h : TabC w T B Db n x' p' m z k tv pv gv xs tq pq D W) {i : Nat} : TabC w T B Db n x' p' m z k tv pv gv xs tq pq (fun j => decide (j = i) || D j) W :=
  ⟨fun e => h.t (upd_false e), h.tl, h.d, h.g, fun e => h.tq (upd_false e), fun e => h.pq (upd_false e), h.s, h.k, h.sz⟩
theorem TabC.below (h : TabC w T B Db n x' p' m z k tv pv gv xs tq pq D W) (hB : B < T) (hb : Below W.heap.size W W') : TabC w T B Db n x' p' m z k tv pv gv xs tq pq D W' :=
  ⟨fun e => (h.t e).below hb, Nat.lt_of_lt_of_le h.tl hb.size, h.d.below hb, h.g.below (by omega) hb, fun e => ownsRow_below (h.tq e) hb, fun e => ownsRow_below (h.pq e) hb, h.s.below hb, h.k.below hb, Nat.le_trans h.sz hb.size⟩
end
end
section
open Go.RowKit
attribute [local go_sem ↓] Go.wp_at_zero Go.wp_at_succ
/-- the gates that have been made -/
def GatesMade (w : World) (T B n nx k : Nat) (W : World) : Prop := ∃ gv xs, xs.length = k ∧ (∀ x ∈ xs, Gt.ok x.g n) ∧ OwnG W (T + 1) B gv xs ∧ Blk W T 61 #[.int .i64 n, .slice none 0 0, .slice none 0 0, .int .i64 n, .int .i64 0, gv] ∧ StoreAt W B (nx + 10 * k) ∧ KeepX B w W
/-- the table, of the first k basis states -/
structure TabMade (w : World) (T B n m L : Nat) (gs : List Gt) (k : Nat) (gv : Value) (xs : List GX) (tv pv : Value) (W : World) : Prop where
  e : xs.map (·.g) = gs
  len : xs.length = L
  g : OwnG W (T + 1) B gv xs
  t : Blk W T 61 #[.int .i64 n, tv, pv, .int .i64 n, .int .i64 0, gv]
  tq : W.ownsRow (T + 1) 3 1 tv k (intsN (fun j => (runG gs (j, 0)).1) k)
  pq : W.ownsRow (T + 1) 3 1 pv k (intsN (fun j => (runG gs (j, 0)).2) k)
  sep : Sep tv pv gv xs
  s : StoreAt W B m
  k : KeepX B w W
theorem TabMade.below {w W W' : World} {T B n m L k : Nat} {gs : List Gt} {gv tv pv : Value} {xs : List GX} (h : TabMade w T B n m L gs k gv xs tv pv W) (hB : B < T) (hb : Below W.heap.size W W') : TabMade w T B n m L gs k gv xs tv pv W' :=
  ⟨h.e, h.len, h.g.below (by omega) hb, h.t.below hb, ownsRow_below h.tq hb, ownsRow_below h.pq hb, h.sep, h.s.below hb, h.k.below hb⟩
def TableOfPost (B n N nx : Nat) (w : World) (e : Ending) (w' : World) : Prop := ∃ T gs, e = .returned (.pointer (some ⟨T, 0, none⟩)) ∧ (∀ g ∈ gs, Gt.ok g n) ∧ gs.length ≤ 23 ∧ TableAt w' w.heap.size T n N (fun j => (runG gs (j, 0)).1) (fun j => (runG gs (j, 0)).2) gs ∧ StoreAt w' B (nx + 300) ∧ KeepX B w w'
set_option maxHeartbeats 4000000 in
set_option maxRecDepth 100000 in
theorem f6_any (B n N nx : Nat) (w : World) (hS : StoreAt w B nx) (hx : nx ≤ 999970000) (hn1 : 1 ≤ n) (hn : n ≤ 6) (hN : Hid (2 ^ n = N)) :
    Calls Tryz.prog 6 #[.pointer (some ⟨B, 0, none⟩), .int .i64 n] w (TableOfPost B n N nx w) := by
  have hBl := hS.lt
  have hb0 : Below w.heap.size w (w.alloc (.cells #[.int .i64 n, .slice none 0 0, .slice none 0 0, .int .i64 n, .int .i64 0, .slice none 0 0] 61)) := (Below.refl _ _).alloc (Nat.le_refl _) _
  have hT0 := Blk.new w 61 #[.int .i64 n, .slice none 0 0, .slice none 0 0, .int .i64 n, .int .i64 0, .slice none 0 0]
  have H5 := f5_any B nx 24 _ (hS.below hb0) (by omega) (by omega) (by omega)
  have H23 : ∀ k, k < 24 → ∀ W kb, StoreAt W B (nx + 1 + 10 * k) → Blk W kb 3 kinds3 → kb ≠ B → Calls Tryz.prog 23 #[.pointer (some ⟨B, 0, none⟩), .int .i64 n, .slice (some ⟨kb, 0, none⟩) 12 12] W fun e w' => ∃ g, Gt.ok g n ∧ ∃ b c, e = .returned (.agg #[.int .i64 g.k, .slice (some ⟨b, 0, none⟩) g.ws.length c, .int .i64 0, .int .i64 0]) ∧ OwnI w' b c (zInts g.ws) ∧ W.heap.size ≤ b ∧ StoreAt w' B (nx + 1 + 10 * k + 10) ∧ KeepX B W w' := fun k hk W kb h1 h2 h3 => f23_any B _ n kb W h1 (by omega) hn1 hn h2 h3
  clear hx hS
  have hNb := pow6 n hn1 hn
  have hwN := w64s n hn
  have hNb' := hNb
  rw [hN.out] at hNb hwN
  have hwN2 : IntKind.i64.wrap (2 ^ n) = (N : Int) := by rw [IntKind.wrap_i64]; have h := hwN; unfold wrap64 at h; exact h
  go_enter Tryz.func6, Tryz.ntmps6
  go_wp2_with (go_at_call 5; refine H5.mono ?_; clear H5; rintro e w1 ⟨L, hL, rfl, hS1, hK1⟩; have hT1 := hT0.keepX hK1 (by omega); have hK01 := (KeepX.of_below (B := B) hb0).trans hK1)
  have hM0 : GatesMade w w.heap.size B n (nx + 1) 0 w1 := ⟨.slice none 0 0, [], rfl, fun x h => by simp at h, ⟨⟨rfl, .inl ⟨rfl, rfl⟩⟩, fun x h => by simp at h⟩, hT1, hS1, hK01⟩
  clear hT0 hT1 hS1 hK01 hK1 hb0
  go_loopg [17] L (fun gg s17 wr => ∃ k : Nat, k ≤ L ∧ L - k ≤ gg ∧ s17 = .int .i64 k ∧ Aside (GatesMade w w.heap.size B n (nx + 1) k wr))
  case atStart => exact ⟨0, Nat.zero_le _, by omega, rfl, (show Aside _ from hM0)⟩
  case round =>
    obtain ⟨k, hk, hg, rfl, AM⟩ := hrel
    obtain ⟨gv, xs, hxs, hok, hG0, hT0, hS0, hK0⟩ := AM.out
    clear AM hM0
    by_cases hlt : k < L
    · as_aux_lemma =>
      have hltz : (k : Int) < (L : Int) := by omega
      have H23 := H23 k (by omega)
      have hxl : xs.length ≤ 1000000 := by omega
      obtain ⟨nx', hnx'⟩ : ∃ m, nx + 1 + 10 * k = m := ⟨_, rfl⟩
      have hnx2 : nx + 1 + 10 * (k + 1) = nx' + 10 := by omega
      rw [hnx'] at H23 hS0
      have hnxH := Lib.hid hnx2
      have hxsH := Lib.hid hxs
      clear hxs
      clear hnx' hnx2
      obtain ⟨nx, rfl⟩ : ∃ m, m = nx' := ⟨_, rfl⟩
      obtain ⟨T, hT⟩ : ∃ T, w.heap.size = T := ⟨_, rfl⟩
      have hBT : B < T := by omega
      have hTH := Lib.hid hT
      rw [hT] at hG0 hT0
      have hbl := fun k h => ownsRow_block hG0.row k h
      have hown : ∀ W1 {D : Nat → Bool}, GateC w T B n nx wr.heap.size gv xs D W1 → (∀ b, gv.ownBlock = some b → b < W1.heap.size) ∧ True := fun W1 D h => ⟨fun b hb => Nat.lt_of_lt_of_le (hbl b hb).2 h.sz, trivial⟩
      go_wp2_with (fail)
      rw [hT]
      clear hT
      refine wp_named (fun a0 ha0 => ?_)
      refine Rely.wp_region_tailJ (C := GateC w T B n nx wr.heap.size gv xs) (T := gateT B gv) (R := fun i vs W1 => gateR T B n gv xs i (vs i) W1) (N := 80) (m := 15) (by kernel_rfl) (by kernel_rfl) (by rw [ha0]; rfl) (fun i j vs A A' _ _ _ hji hT h => gateR_stable hBT (fun e => by rw [← e]; exact hji) hT h) (fun i vs vs' A hi _ h => by rw [← hi]; exact h) (fun D hD => ⟨hT0.drew, by rw [hD 9 (by decide), if_neg (by decide), Nat.add_zero]; exact hS0.below ((Below.refl _ _).drew), hK0.drew, Nat.le_refl _, fun _ => hG0.below (by omega) ((Below.refl _ _).drew)⟩) (fun j o hj ho D ρ vs W1 hD0 hDd hdn hC hk => ?hstep) (fun D vs W1 hD hC hR => ?hQ)
      case hQ => as_aux_lemma =>
        obtain ⟨x, g, cap, e11, hO, hx⟩ : ∃ (x : GX) (g cap : Nat), vs 11 = .slice (some ⟨g, 0, none⟩) (xs.length + 1 : Nat) cap ∧ OwnG W1 (T + 1) B (vs 11) (xs ++ [x]) ∧ Gt.ok x.g n := hR 11 (by decide)
        have e14 : vs 14 = .pointer (some ⟨T, 5, none⟩) := hR 14 (by decide)
        have hs9 := hC.s
        rw [hD 9 (by decide), if_pos rfl] at hs9
        have hok' : ∀ y ∈ xs ++ [x], Gt.ok y.g n := fun y hy => by
          rcases List.mem_append.1 hy with hy | hy
          · exact hok y hy
          · obtain rfl : y = x := by simpa using hy
            exact hx
        have hT := hC.t
        have hKw := hC.k
        have hlT := hT.lt
        refine tailJ_lit ?_
        simp only [List.drop_succ_cons, List.drop_zero]
        generalize hA : Rely.putL _ a0 vs (fun _ => true) 15 = A
        have hA2 : A = { tmps := #[.pointer (some ⟨B, 0, none⟩), .int .i64 n, undef, undef, .pointer none, .pointer (some ⟨T, 0, none⟩), undef, undef, undef, undef, .int .i64 n, .int .i64 n, .agg #[.int .i64 n, .int .i64 0, .slice none 0 0], .agg #[.int .i64 n, .slice none 0 0, .slice none 0 0, .int .i64 n, .int .i64 0, .slice none 0 0], .pointer (some ⟨T, 0, none⟩), .pointer (some ⟨B, 0, none⟩), .int .i64 L, .int .i64 k, .bool true, vs 0, vs 1, vs 2, vs 3, vs 4, vs 5, vs 6, vs 7, vs 8, vs 9, vs 10, vs 11, vs 12, vs 13, vs 14, u34, undef, undef, undef, undef, undef, undef, undef, undef, undef, undef, undef, undef, undef, undef, undef, undef, undef, undef, undef, undef, undef, undef, undef, undef, undef, undef, undef, undef, undef, undef, undef, undef, undef, undef, undef, undef, undef, undef, undef, undef, undef, undef, undef, undef, undef], defers := [] } := by rw [← hA, putL_seg 19 15 15 (by kernel_rfl) (by decide) (by rw [ha0]; exact Nat.le_of_ble_eq_true (by kernel_rfl)), ha0]; kernel_rfl
        rw [hA2]
        clear hA hA2 ha0
        rw [e11] at hO ⊢
        rw [e14]
        have cT := hT.cells
        have fT := hT.frozen
        clear hR hC hD
        clear hok
        go_wp2_with (fail)
        have hTn : Blk (W1.setCell ⟨T, 5, none⟩ (.slice (some ⟨g, 0, none⟩) (xs.length + 1 : Nat) cap)) T 61 #[.int .i64 n, .slice none 0 0, .slice none 0 0, .int .i64 n, .int .i64 0, .slice (some ⟨g, 0, none⟩) (xs.length + 1 : Nat) cap] := hT.set 5 (.slice (some ⟨g, 0, none⟩) (xs.length + 1 : Nat) cap)
        have hOn := hO.keep (w' := W1.setCell ⟨T, 5, none⟩ (.slice (some ⟨g, 0, none⟩) (xs.length + 1 : Nat) cap)) (by omega) (fun b hb _ => Below.heap_setCell W1 ⟨T, 5, none⟩ _ b (by show b ≠ T; omega))
        have hSn := hs9.far (p := ⟨T, 5, none⟩) hBT (.slice (some ⟨g, 0, none⟩) (xs.length + 1 : Nat) cap)
        have hKn := hKw.setOwn (p := ⟨T, 5, none⟩) (Nat.le_of_eq hTH.out) (.slice (some ⟨g, 0, none⟩) (xs.length + 1 : Nat) cap)
        obtain rfl := hTH.out
        go_roundg (L - (k + 1))
        case measure => omega
        case rel => exact ⟨k + 1, by omega, by omega, by go_num, (show Aside _ from ⟨_, xs ++ [x], by rw [List.length_append, hxsH.out]; rfl, hok', hOn, hTn, by rw [hnxH.out]; exact hSn, hKn⟩)⟩
      case hstep =>
        obtain rfl | rfl | rfl | rfl | rfl | rfl | rfl | rfl | rfl | rfl | rfl | rfl | rfl | rfl | rfl : j = 0 ∨ j = 1 ∨ j = 2 ∨ j = 3 ∨ j = 4 ∨ j = 5 ∨ j = 6 ∨ j = 7 ∨ j = 8 ∨ j = 9 ∨ j = 10 ∨ j = 11 ∨ j = 12 ∨ j = 13 ∨ j = 14 := by omega
        · obtain rfl : _ = o := Option.some.inj ho
          have e5 : ρ (.tmp 5) = (.pointer (some ⟨T, 0, none⟩)) := (hk.2 (.tmp 5) (notDstM_spec (by kernel_rfl))).trans (by rw [ha0]; rfl)
          clear hk
          go_simp
          exact ⟨hC.updB (by decide), KeepX.refl _ _, rfl⟩
        · obtain rfl : _ = o := Option.some.inj ho
          have e5 : ρ (.tmp 5) = (.pointer (some ⟨T, 0, none⟩)) := (hk.2 (.tmp 5) (notDstM_spec (by kernel_rfl))).trans (by rw [ha0]; rfl)
          clear hk
          go_simp
          exact ⟨hC.updB (by decide), KeepX.refl _ _, rfl⟩
        · obtain rfl : _ = o := Option.some.inj ho
          have e20 : ρ (.tmp 20) = (.pointer (some ⟨T, 0, none⟩)) := ((hk.1 1 (mem_direct (by kernel_rfl))).2 20 (by kernel_rfl)).trans (hk.1 1 (mem_direct (by kernel_rfl))).1
          clear hk
          go_simp
          exact ⟨hC.updB (by decide), KeepX.refl _ _, rfl⟩
        · obtain rfl : _ = o := Option.some.inj ho
          have e21 : ρ (.tmp 21) = (.pointer (some ⟨T, 0, none⟩)) := ((hk.1 2 (mem_direct (by kernel_rfl))).2 21 (by kernel_rfl)).trans (hk.1 2 (mem_direct (by kernel_rfl))).1
          clear hk
          go_simp
          exact ⟨hC.updB (by decide), KeepX.refl _ _, rfl⟩
        · obtain rfl : _ = o := Option.some.inj ho
          have e22 : ρ (.tmp 22) = (.pointer (some ⟨T, 3, none⟩)) := ((hk.1 3 (mem_direct (by kernel_rfl))).2 22 (by kernel_rfl)).trans (hk.1 3 (mem_direct (by kernel_rfl))).1
          clear hk
          go_simp
          exact ⟨hC.updB (by decide), KeepX.refl _ _, rfl⟩
        · obtain rfl : _ = o := Option.some.inj ho
          have e23 : ρ (.tmp 23) = (.pointer (some ⟨T, 5, none⟩)) := ((hk.1 4 (mem_direct (by kernel_rfl))).2 23 (by kernel_rfl)).trans (hk.1 4 (mem_direct (by kernel_rfl))).1
          have cT := hC.t.cells
          clear hk
          go_simp
          exact ⟨hC.updB (by decide), KeepX.refl _ _, rfl⟩
        · obtain rfl : _ = o := Option.some.inj ho
          have e0 : ρ (.tmp 0) = (.pointer (some ⟨B, 0, none⟩)) := (hk.2 (.tmp 0) (notDstM_spec (by kernel_rfl))).trans (by rw [ha0]; rfl)
          clear hk
          go_simp
          exact ⟨hC.updB (by decide), KeepX.refl _ _, rfl⟩
        · obtain rfl : _ = o := Option.some.inj ho
          have e1 : ρ (.tmp 1) = (.int .i64 (n : Int)) := (hk.2 (.tmp 1) (notDstM_spec (by kernel_rfl))).trans (by rw [ha0]; rfl)
          clear hk
          go_simp
          exact ⟨hC.updB (by decide), KeepX.refl _ _, rfl⟩
        · obtain rfl : _ = o := Option.some.inj ho
          have ef : ρ (.func 24) = .func (.func 24) #[] #[] := hk.2 (.func 24) (fun _ _ _ _ e => by cases e)
          have ec : ρ (.const (.int .i64 3)) = .int .i64 3 := hk.2 (.const (.int .i64 3)) (fun _ _ _ _ e => by cases e)
          clear hk
          go_simp
          refine (f24_3 W1).mono ?_
          rintro e w' ⟨rfl, rfl⟩
          have hbK : Below W1.heap.size W1 (W1.alloc (.cells kinds3 3)) := (Below.refl _ _).alloc (Nat.le_refl _) _
          exact ⟨_, rfl, (hC.below hBT hbK).updB (by decide), KeepX.of_below hbK, W1.heap.size, rfl, Blk.new _ _ _, by have := hC.s.lt; omega, fun e => by
            have := (hown W1 hC).1 _ e
            omega⟩
        · obtain rfl : _ = o := Option.some.inj ho
          have e25 : ρ (.tmp 25) = (.pointer (some ⟨B, 0, none⟩)) := ((hk.1 6 (mem_direct (by kernel_rfl))).2 25 (by kernel_rfl)).trans (hk.1 6 (mem_direct (by kernel_rfl))).1
          have e26 : ρ (.tmp 26) = (.int .i64 (n : Int)) := ((hk.1 7 (mem_direct (by kernel_rfl))).2 26 (by kernel_rfl)).trans (hk.1 7 (mem_direct (by kernel_rfl))).1
          obtain ⟨kb, q8, q9, q10, _⟩ : ∃ kb, vs 8 = .slice (some ⟨kb, 0, none⟩) 12 12 ∧ Blk W1 kb 3 kinds3 ∧ kb ≠ B ∧ gv.ownBlock ≠ some kb := (hk.1 8 (mem_direct (by kernel_rfl))).1
          have e27 : ρ (.tmp 27) = .slice (some ⟨kb, 0, none⟩) 12 12 := ((hk.1 8 (mem_direct (by kernel_rfl))).2 27 (by kernel_rfl)).trans q8
          have ef : ρ (.func 23) = .func (.func 23) #[] #[] := hk.2 (.func 23) (fun _ _ _ _ e => by cases e)
          have hS9 := hC.s
          rw [hD0] at hS9
          rw [if_neg (by decide), Nat.add_zero] at hS9
          have ho11 : D 11 = false := by
            cases h11 : D 11 with
            | false => rfl
            | true =>
              have h10 := hdn 11 (by decide) h11 10 (mem_direct (by kernel_rfl))
              have h9 := hdn 10 (by decide) h10 9 (mem_direct (by kernel_rfl))
              rw [hD0] at h9
              cases h9
          have hG := hC.o ho11
          have hlT := hC.t.lt
          clear hk q8
          go_simp
          refine (H23 W1 kb hS9 q9 q10).mono ?_
          rintro e w' ⟨g, hg, b, c, rfl, hOw, hbl, hSn, hKn⟩
          refine ⟨_, rfl, ⟨hC.t.keepX hKn (by omega), by show StoreAt w' B (nx + if (decide (9 = 9) || D 9) = true then 10 else 0); exact hSn, hC.k.trans hKn, Nat.le_trans hC.sz hKn.size, fun _ => hG.keepX (by omega) hKn⟩, hKn, ⟨g, b, c⟩, rfl, hg, by show T + 1 ≤ b; omega, by show b ≠ B; omega, fun e => ?_, hOw⟩
          have : b < W1.heap.size := (hown W1 hC).1 b e
          omega
        · obtain rfl : _ = o := Option.some.inj ho
          obtain ⟨x, q9, hx⟩ : ∃ x : GX, vs 9 = .agg #[.int .i64 x.g.k, .slice (some ⟨x.b, 0, none⟩) x.g.ws.length x.c, .int .i64 0, .int .i64 0] ∧ GXok W1 T B n gv x := (hk.1 9 (mem_direct (by kernel_rfl))).1
          have e28 : ρ (.tmp 28) = .agg #[.int .i64 x.g.k, .slice (some ⟨x.b, 0, none⟩) x.g.ws.length x.c, .int .i64 0, .int .i64 0] := ((hk.1 9 (mem_direct (by kernel_rfl))).2 28 (by kernel_rfl)).trans q9
          clear hk q9
          go_simp
          have hbK : Below W1.heap.size W1 (W1.alloc (.cells #[.int .i64 x.g.k, .slice (some ⟨x.b, 0, none⟩) x.g.ws.length x.c, .int .i64 0, .int .i64 0] 45)) := (Below.refl _ _).alloc (Nat.le_refl _) _
          exact ⟨(hC.below hBT hbK).updB (by decide), KeepX.of_below hbK, x, W1.heap.size, rfl, Blk.new _ _ _, fun e => by
            have := (hown W1 hC).1 _ e
            omega, by have := hC.s.lt; omega, hx.keepX (KeepX.of_below hbK)⟩
        · obtain rfl : _ = o := Option.some.inj ho
          have q5 : vs 5 = gv := (hk.1 5 (mem_direct (by kernel_rfl))).1
          have e24 : ρ (.tmp 24) = gv := ((hk.1 5 (mem_direct (by kernel_rfl))).2 24 (by kernel_rfl)).trans q5
          obtain ⟨x, bS, q10, hbS, hne, _, hx⟩ : ∃ (x : GX) (bS : Nat), vs 10 = .slice (some ⟨bS, 0, none⟩) 1 1 ∧ Blk W1 bS 45 #[.int .i64 x.g.k, .slice (some ⟨x.b, 0, none⟩) x.g.ws.length x.c, .int .i64 0, .int .i64 0] ∧ gv.ownBlock ≠ some bS ∧ bS ≠ B ∧ GXok W1 T B n gv x := (hk.1 10 (mem_direct (by kernel_rfl))).1
          have e29 : ρ (.tmp 29) = .slice (some ⟨bS, 0, none⟩) 1 1 := ((hk.1 10 (mem_direct (by kernel_rfl))).2 29 (by kernel_rfl)).trans q10
          have hG := hC.o hD0
          have hlT := hC.t.lt
          obtain ⟨g, cap, w', hrun, hO, hgr, hat, _⟩ := run_app 41 41 (T + 1) 45 _ 4 48 und41 info45 rfl (by decide) (by decide) gv xs.length (flatG xs) hG.row bS 45 _ hbS rfl (by simp [Value.oneCell']) hxl (by omega)
          have happ := hG.app (x := x) hO hgr hat rfl ⟨hx.lo, hx.ne, hx.own, hx.at_⟩
          have hTk : Blk w' T 61 #[.int .i64 n, .slice none 0 0, .slice none 0 0, .int .i64 n, .int .i64 0, gv] := hC.t.grown hgr (fun e => by have := (ownsRow_block hG.row T e).1; omega)
          have hSk := hC.s.grown hgr (fun k e => by have := (ownsRow_block hG.row k e).1; omega)
          have hKk : KeepX B w w' := ⟨hgr.os.trans hC.k.os, hgr.tape.trans hC.k.tape, hgr.output.trans hC.k.output, Nat.le_trans hC.k.size hgr.size, fun k hk1 hk2 => (hgr.block k (Nat.lt_of_lt_of_le hk1 hC.k.size) (fun e => by have := (ownsRow_block hG.row k e.symm).1; have := hTH.out; omega)).trans (hC.k.block k hk1 hk2)⟩
          clear hk q5 q10
          rw [exec_app (.tmp 24) (.tmp 29) 41 41 rfl rfl _ _ e24 e29 hrun]
          exact ⟨⟨hTk, hSk, hKk, Nat.le_trans hC.sz hgr.size, fun h => by simp at h⟩, hgr, x, g, cap, rfl, happ, hx.ok⟩
        · obtain rfl : _ = o := Option.some.inj ho
          have e19 : ρ (.tmp 19) = (.pointer (some ⟨T, 0, none⟩)) := ((hk.1 0 (mem_direct (by kernel_rfl))).2 19 (by kernel_rfl)).trans (hk.1 0 (mem_direct (by kernel_rfl))).1
          clear hk
          go_simp
          exact ⟨hC.updB (by decide), KeepX.refl _ _, rfl⟩
        · obtain rfl : _ = o := Option.some.inj ho
          have e31 : ρ (.tmp 31) = (.pointer (some ⟨T, 0, none⟩)) := ((hk.1 12 (mem_direct (by kernel_rfl))).2 31 (by kernel_rfl)).trans (hk.1 12 (mem_direct (by kernel_rfl))).1
          clear hk
          go_simp
          exact ⟨hC.updB (by decide), KeepX.refl _ _, rfl⟩
        · obtain rfl : _ = o := Option.some.inj ho
          have e32 : ρ (.tmp 32) = (.pointer (some ⟨T, 3, none⟩)) := ((hk.1 13 (mem_direct (by kernel_rfl))).2 32 (by kernel_rfl)).trans (hk.1 13 (mem_direct (by kernel_rfl))).1
          clear hk
          go_simp
          exact ⟨hC.updB (by decide), KeepX.refl _ _, rfl⟩
    · as_aux_lemma =>
      obtain rfl : k = L := by omega
      have hltz : ¬ (k : Int) < (k : Int) := by omega
      clear hlt H23
      obtain ⟨gs, hgs⟩ : ∃ gs, xs.map (·.g) = gs := ⟨_, rfl⟩
      have hgl : gs.length = k := by rw [← hgs, List.length_map]; exact hxs
      have hgok : ∀ g ∈ gs, Gt.ok g n := by
        intro g hgm
        rw [← hgs] at hgm
        obtain ⟨x, hx, rfl⟩ := List.mem_map.1 hgm
        exact hok x hx
      obtain ⟨m, hm⟩ : ∃ m, nx + 1 + 10 * k = m := ⟨_, rfl⟩
      rw [hm] at hS0
      have hmb : m ≤ nx + 300 := by omega
      have hTm : TabMade w w.heap.size B n m k gs 0 gv xs (.slice none 0 0) (.slice none 0 0) wr := ⟨hgs, hxs, hG0, hT0, ⟨rfl, .inl ⟨rfl, rfl⟩⟩, ⟨rfl, .inl ⟨rfl, rfl⟩⟩, ⟨fun b h => (by cases h), fun b h => (by cases h)⟩, hS0, hK0⟩
      have hxsH := Lib.hid hxs
      have hglH := Lib.hid hgl
      clear hm hgs hgl hxs hok hG0 hT0 hS0 hK0 hg hk
      go_wp2_with (fail)
      go_loopg [37] N (fun gg s37 wr => ∃ x : Nat, x ≤ N ∧ N - x ≤ gg ∧ s37 = .int .i64 x ∧ Aside (∃ tv pv, TabMade w w.heap.size B n m k gs x gv xs tv pv wr))
      case atStart => exact ⟨0, Nat.zero_le _, by omega, rfl, (show Aside _ from ⟨_, _, hTm⟩)⟩
      case round =>
        obtain ⟨x, hx, hg, rfl, AT⟩ := hrel
        obtain ⟨tv, pv, hM⟩ := AT.out
        clear AT hTm
        by_cases hlt : x < N
        · as_aux_lemma =>
          have hltz : (x : Int) < (N : Int) := by omega
          obtain ⟨wo, rfl⟩ : ∃ wo, wo = wr := ⟨_, rfl⟩
          obtain ⟨Db, hDb⟩ : ∃ Db, wo.heap.size = Db := ⟨_, rfl⟩
          have hbD : Below wo.heap.size wo (wo.alloc (.cells #[.int .i64 x, .int .i64 0, .int .i64 0, .slice none 0 0] 64)) := (Below.refl _ _).alloc (Nat.le_refl _) _
          have hD3 : Blk (wo.alloc (.cells #[.int .i64 x, .int .i64 0, .int .i64 0, .slice none 0 0] 64)) Db 64 (wkC (runG (gs.take 0) (x, 0)).1 (runG (gs.take 0) (x, 0)).2) := by rw [← hDb]; exact Blk.new _ _ _
          have hDbH := Lib.hid hDb
          clear hDb
          have hM3 := hM.below hBl hbD
          have cT3 := hM3.t.cells
          have hGs := hM.g.gates (Nat.le_succ w.heap.size)
          rw [hM.e] at hGs
          obtain ⟨A, c, hgv, hat⟩ := hGs.at_
          rw [hglH.out] at hgv
          rw [hgv] at cT3
          have hgvH := Lib.hid hgv
          clear hgv hGs
          go_wp2_with (fail)
          clear cT3
          generalize wo.alloc (.cells #[.int .i64 x, .int .i64 0, .int .i64 0, .slice none 0 0] 64) = w3 at hbD hD3 hM3 ⊢
          rw [hDbH.out]
          go_loopg [48] k (fun gg s48 wr => ∃ i : Nat, i ≤ k ∧ k - i ≤ gg ∧ s48 = .int .i64 i ∧ Aside (Blk wr Db 64 (wkC (runG (gs.take i) (x, 0)).1 (runG (gs.take i) (x, 0)).2)) ∧ Aside (KeepX Db w3 wr))
          case atStart => exact ⟨0, Nat.zero_le _, by omega, rfl, (show Aside _ from hD3), (show Aside _ from KeepX.refl _ _)⟩
          case round =>
            obtain ⟨i, hi, hgi, rfl, AD, AK⟩ := hrel
            have hD := AD.out
            have hK := AK.out
            clear AD AK hD3
            have hst := runG_bd n (gs.take i) (x, 0) (fun g hgm => hgok g (List.mem_of_mem_take hgm)) (by rw [hN.out]; exact hlt) (by show 0 < 8; decide)
            rw [hN.out] at hst
            have hBq : Below wo.heap.size wo wr := KeepX.toBelow hbD hK (Nat.le_of_eq hDbH.out)
            by_cases hlti : i < k
            · as_aux_lemma =>
              have hltiz : (i : Int) < (k : Int) := by omega
              obtain ⟨gt, hgt⟩ : ∃ gt, gs[i]? = some gt := ⟨_, List.getElem?_eq_getElem (by rw [hglH.out]; exact hlti)⟩
              obtain ⟨g, b, cc, rfl, _, a5, a1, a2, a3, a4, _, a6, a7⟩ := hat i gt hgt
              have hok := hgok gt (List.mem_of_getElem? hgt)
              have hrun := runG_succ gs (x, 0) hgt
              have d1 := (hBq.cell (p := ⟨g, i * 4, none⟩) a5).trans a1
              have d2 := (hBq.cell (p := ⟨g, i * 4 + 1, none⟩) a5).trans a2
              have d3 := (hBq.cell (p := ⟨g, i * 4 + 2, none⟩) a5).trans a3
              have d4 := (hBq.cell (p := ⟨g, i * 4 + 3, none⟩) a5).trans a4
              have hbG : Below wr.heap.size wr (wr.alloc (.cells #[.int .i64 gt.k, .slice (some ⟨b, 0, none⟩) gt.ws.length cc, .int .i64 0, .int .i64 0] 45)) := (Below.refl _ _).alloc (Nat.le_refl _) _
              have hWg : WiresAt (wr.alloc (.cells #[.int .i64 gt.k, .slice (some ⟨b, 0, none⟩) gt.ws.length cc, .int .i64 0, .int .i64 0] 45)) b gt.ws := (a7.below hBq a7.1).below hbG (a7.below hBq a7.1).1
              obtain ⟨X, hX⟩ : ∃ X, (runG (gs.take i) (x, 0)).1 = X := ⟨_, rfl⟩
              obtain ⟨Y, hY⟩ : ∃ Y, (runG (gs.take i) (x, 0)).2 = Y := ⟨_, rfl⟩
              rw [hX, hY] at hD hst hrun
              have H25 := f25_any gt n b cc X Y _ hn hok (by omega) hst.2 hWg
              unfold gtV wkC at H25
              unfold wkC at hD
              obtain ⟨X2, hX2⟩ : ∃ X2, stepG gt X = X2 := ⟨_, rfl⟩
              obtain ⟨Y2, hY2⟩ : ∃ Y2, stepP gt X Y = Y2 := ⟨_, rfl⟩
              rw [hX2, hY2] at H25 hrun
              have hrunH := Lib.hid hrun
              obtain ⟨gl, hgl⟩ : ∃ gl, gt.ws.length = gl := ⟨_, rfl⟩
              obtain ⟨gk', hgk⟩ : ∃ gk', gt.k = gk' := ⟨_, rfl⟩
              rw [hgl] at d2 H25
              rw [hgk] at d1 H25
              rw [hgl, hgk] at hbG
              have cD := (hD.below hbG).cells
              have lD := hD.lt
              clear hX hY hX2 hY2 hrun hgl hgk hat hgok a1 a2 a3 a4 a5 a6 a7 hok hgt hWg hM hM3 hst
              go_wp2_with (go_at_call 25; refine H25.mono ?_; clear H25; rintro e w5 ⟨rfl, hb5⟩; have hD5 := (hD.below hbG).below hb5; have cD5 := hD5.cells; have fD5 := hD5.frozen; have hK5 := (hK.below hbG).below hb5)
              have hD6 := hD5.set4 (.int .i64 X2) (.int .i64 Y2) (.int .i64 0) (.slice none 0 0)
              have hK6 := (((hK5.setCell 0 (.int .i64 X2)).setCell 1 (.int .i64 Y2)).setCell 2 (.int .i64 0)).setCell 3 (.slice none 0 0)
              go_roundg (k - (i + 1))
              case measure => omega
              case rel => exact ⟨i + 1, by omega, by omega, by go_num, (show Aside _ from by rw [hrunH.out]; exact hD6), (show Aside _ from hK6)⟩
            · as_aux_lemma =>
              obtain rfl : i = k := by omega
              have hltiz : ¬ (i : Int) < (i : Int) := by omega
              have htk : gs.take i = gs := by rw [← hglH.out, List.take_length]
              rw [htk] at hD hst
              have hMw := hM.below hBl hBq
              obtain ⟨X, hX⟩ : ∃ X, (runG gs (x, 0)).1 = X := ⟨_, rfl⟩
              obtain ⟨Y, hY⟩ : ∃ Y, (runG gs (x, 0)).2 = Y := ⟨_, rfl⟩
              rw [hX, hY] at hD hst
              have hXH := Lib.hid hX
              have hYH := Lib.hid hY
              have hM0 := hM
              clear htk hlti hat hX hY hK hM hM3 hi hgi hbD
              go_wp2_with (fail)
              have hBTw : w.heap.size < Db := by have := hM0.t.lt; have := hDbH.out; omega
              have htv : ∀ b, tv.ownBlock = some b → w.heap.size < b := fun b hb => by have := (ownsRow_block hM0.tq b hb).1; omega
              have hpv : ∀ b, pv.ownBlock = some b → w.heap.size < b := fun b hb => by have := (ownsRow_block hM0.pq b hb).1; omega
              have htv2 : ∀ b, tv.ownBlock = some b → b < Db := fun b hb => by have := (ownsRow_block hM0.tq b hb).2; have := hDbH.out; omega
              have hpv2 : ∀ b, pv.ownBlock = some b → b < Db := fun b hb => by have := (ownsRow_block hM0.pq b hb).2; have := hDbH.out; omega
              have hsep := hM0.sep
              have hszw : Db ≤ wr.heap.size := by rw [← hDbH.out]; exact hBq.size
              have hxl : x ≤ 1000000 := by omega
              obtain ⟨T, hT⟩ : ∃ T, w.heap.size = T := ⟨_, rfl⟩
              have hBT : B < T := by omega
              have hTH := Lib.hid hT
              rw [hT] at hMw htv hpv hBTw
              have hMe := Lib.hid hM0.e
              have hMl := Lib.hid hM0.len
              clear hM0
              rw [hT]
              clear hT
              refine wp_named (fun a0 ha0 => ?_)
              refine Rely.wp_region_tailJ (C := TabC w T B Db n X Y m Db x tv pv gv xs (intsN (fun j => (runG gs (j, 0)).1) x) (intsN (fun j => (runG gs (j, 0)).2) x)) (T := tabT T tv pv) (R := fun i vs W1 => tabR T Db n X Y x tv pv gv xs (intsN (fun j => (runG gs (j, 0)).1) x) (intsN (fun j => (runG gs (j, 0)).2) x) i (vs i) (vs 9) W1) (N := 80) (m := 21) (by kernel_rfl) (by kernel_rfl) (by rw [ha0]; rfl)
                (fun i j vs A A' _ _ hcl hji hT h => tabR_stable htv hpv hji (fun e1 e2 => by subst e1 e2; exact absurd hcl (by decide +kernel)) hT h)
                (fun i vs vs' A hi hd h => ?hloc)
                (fun D hDD => ⟨fun _ => hMw.t.drew, hMw.t.lt, hD.drew, hMw.g.below (by omega) ((Below.refl _ _).drew), fun _ => ownsRow_below hMw.tq ((Below.refl _ _).drew), fun _ => ownsRow_below hMw.pq ((Below.refl _ _).drew), hMw.s.below ((Below.refl _ _).drew), hMw.k.drew, hszw⟩)
                (fun j o hj ho D ρ vs W1 hD0 hDd hdn hC hk => ?hstep) (fun D vs W1 hD hC hR => ?hQ)
              case hloc =>
                rw [← hi]
                by_cases e17 : i = 17
                · subst e17
                  rw [← hd 9 (mem_direct (by kernel_rfl))]
                  exact h
                · by_cases e20 : i = 20
                  · subst e20
                    rw [← hd 9 (mem_direct (by kernel_rfl))]
                    exact h
                  · exact tabR_loc e17 e20 h
              case hQ => as_aux_lemma =>
                obtain ⟨g9, c9, v9e, hO9, _, ho9⟩ : ∃ g cap, vs 9 = .slice (some ⟨g, 0, none⟩) (x + 1 : Nat) cap ∧ W1.ownsRow (T + 1) 3 1 (vs 9) (x + 1) (intsN (fun j => (runG gs (j, 0)).1) x ++ [Value.int .i64 (X : Int)]) ∧ pv.ownBlock ≠ some g ∧ OffG gv xs g := hR 9 (by decide)
                obtain ⟨g17, c17, v17e, hO17, h917, ho17⟩ : ∃ g cap, vs 17 = .slice (some ⟨g, 0, none⟩) (x + 1 : Nat) cap ∧ W1.ownsRow (T + 1) 3 1 (vs 17) (x + 1) (intsN (fun j => (runG gs (j, 0)).2) x ++ [Value.int .i64 (Y : Int)]) ∧ (vs 9).ownBlock ≠ some g ∧ OffG gv xs g := hR 17 (by decide)
                have r1 : vs 1 = .pointer (some ⟨T, 0, none⟩) := hR 1 (by decide)
                have r20 : Blk W1 T 61 #[.int .i64 n, vs 9, pv, .int .i64 n, .int .i64 0, gv] := hR 20 (by decide)
                have hCg := hC.g
                have hCs := hC.s
                have hCk := hC.k
                have hCl := hC.tl
                refine tailJ_lit ?_
                simp only [List.drop_succ_cons, List.drop_zero]
                generalize hA : Rely.putL _ a0 vs (fun _ => true) 21 = AC
                have hA2 : AC = { tmps := #[Value.pointer (some { block := B, off := 0 }), Value.int IntKind.i64 ↑n, undef, undef, Value.pointer none, Value.pointer (some { block := T, off := 0 }), Value.int IntKind.i64 ↑x, Value.pointer (some { block := Db, off := 0 }), undef, u9, Value.int IntKind.i64 ↑n, Value.int IntKind.i64 ↑n, Value.agg #[Value.int IntKind.i64 ↑n, Value.int IntKind.i64 0, Value.slice none 0 0], Value.agg #[Value.int IntKind.i64 ↑n, Value.slice none 0 0, Value.slice none 0 0, Value.int IntKind.i64 ↑n, Value.int IntKind.i64 0, Value.slice none 0 0], Value.pointer (some { block := T, off := 0 }), Value.pointer (some { block := B, off := 0 }), Value.int IntKind.i64 ↑i, Value.int IntKind.i64 ↑i, Value.bool false, u19, u20, u21, u22, u23, u24, u25, u26, u27, u28, u29, u30, u31, u32, u33, u34, Value.int IntKind.i64 ↑n, Value.int IntKind.i64 ↑N, Value.int IntKind.i64 ↑x, Value.bool true, Value.int IntKind.i64 ↑x, Value.int IntKind.i64 ↑x, Value.agg #[Value.int IntKind.i64 ↑x, Value.int IntKind.i64 0, Value.int IntKind.i64 0, Value.slice none 0 0], Value.pointer (some { block := T, off := 0 }), Value.pointer (some { block := T, off := 0 }), Value.pointer (some { block := T, off := 3 }), Value.pointer (some { block := T, off := 5 }), Value.slice A i c, Value.int IntKind.i64 ↑i, Value.int IntKind.i64 ↑i, Value.bool false, u50, u51, u52, u53, u54, u55, vs 0, vs 1, vs 2, vs 3, vs 4, vs 5, vs 6, vs 7, vs 8, vs 9, vs 10, vs 11, vs 12, vs 13, vs 14, vs 15, vs 16, vs 17, vs 18, vs 19, u76, u77, u78, undef], defers := [] } := by rw [← hA, putL_seg 56 20 21 (by kernel_rfl) (by decide) (by rw [ha0]; exact Nat.le_of_ble_eq_true (by kernel_rfl)), ha0]; kernel_rfl
                rw [hA2]
                clear hA hA2 ha0 hR hC hD
                have hsepN : Sep (vs 9) (vs 17) gv xs := by
                  refine ⟨fun b hb => ?_, fun b hb => ?_⟩
                  · rw [v9e] at hb
                    obtain rfl : g9 = b := Option.some.inj hb
                    refine ⟨fun e => ?_, ho9⟩
                    rw [v17e] at e
                    obtain rfl : g17 = g9 := Option.some.inj e
                    exact h917 (by rw [v9e]; rfl)
                  · rw [v17e] at hb
                    obtain rfl : g17 = b := Option.some.inj hb
                    exact ho17
                have HO9 := Lib.hid hO9
                have HO17 := Lib.hid hO17
                have HS := Lib.hid hsepN
                rw [r1, v17e]
                rw [v9e] at r20
                have H9 := Lib.hid v9e
                have H17 := Lib.hid v17e
                have cT := r20.cells
                have fT := r20.frozen
                clear hO9 hO17 hsepN h917 r1 v9e v17e htv hpv hgok ho9 ho17
                go_wp2_with (fail)
                have hTn : Blk (W1.setCell ⟨T, 2, none⟩ (.slice (some ⟨g17, 0, none⟩) (x + 1 : Nat) c17)) T 61 #[.int .i64 n, .slice (some ⟨g9, 0, none⟩) (x + 1 : Nat) c9, .slice (some ⟨g17, 0, none⟩) (x + 1 : Nat) c17, .int .i64 n, .int .i64 0, gv] := r20.set 2 (.slice (some ⟨g17, 0, none⟩) (x + 1 : Nat) c17)
                have hMn : TabMade w T B n m i gs (x + 1) gv xs (vs 9) (vs 17) (W1.setCell ⟨T, 2, none⟩ (.slice (some ⟨g17, 0, none⟩) (x + 1 : Nat) c17)) :=
                  ⟨hMe.out, hMl.out, hCg.setFar (by omega) (Nat.lt_succ_self _) _, by rw [H9.out, H17.out]; exact hTn, by
                    rw [intsN_succ, hXH.out]
                    exact ownsRow_setFar HO9.out (Nat.lt_succ_self _) _, by
                    rw [intsN_succ, hYH.out]
                    exact ownsRow_setFar HO17.out (Nat.lt_succ_self _) _, HS.out, hCs.far (by show B < T; omega) _, hCk.setOwn (by show w.heap.size ≤ T; exact Nat.le_of_eq hTH.out) _⟩
                clear cT fT hTn
                obtain rfl := hTH.out
                go_roundg (N - (x + 1))
                case measure => omega
                case rel => exact ⟨x + 1, by omega, by omega, by go_num, (show Aside _ from ⟨_, _, hMn⟩)⟩
              case hstep =>
                obtain rfl | rfl | rfl | rfl | rfl | rfl | rfl | rfl | rfl | rfl | rfl | rfl | rfl | rfl | rfl | rfl | rfl | rfl | rfl | rfl | rfl : j = 0 ∨ j = 1 ∨ j = 2 ∨ j = 3 ∨ j = 4 ∨ j = 5 ∨ j = 6 ∨ j = 7 ∨ j = 8 ∨ j = 9 ∨ j = 10 ∨ j = 11 ∨ j = 12 ∨ j = 13 ∨ j = 14 ∨ j = 15 ∨ j = 16 ∨ j = 17 ∨ j = 18 ∨ j = 19 ∨ j = 20 := by omega
                · obtain rfl : _ = o := Option.some.inj ho
                  have e5 : ρ (.tmp 5) = (.pointer (some ⟨T, 0, none⟩)) := (hk.2 (.tmp 5) (notDstM_spec (by kernel_rfl))).trans (by rw [ha0]; rfl)
                  clear hk
                  go_simp
                  exact ⟨hC.updB, Below.refl _ _, rfl⟩
                · obtain rfl : _ = o := Option.some.inj ho
                  have e5 : ρ (.tmp 5) = (.pointer (some ⟨T, 0, none⟩)) := (hk.2 (.tmp 5) (notDstM_spec (by kernel_rfl))).trans (by rw [ha0]; rfl)
                  clear hk
                  go_simp
                  exact ⟨hC.updB, Below.refl _ _, rfl⟩
                · obtain rfl : _ = o := Option.some.inj ho
                  have e5 : ρ (.tmp 5) = (.pointer (some ⟨T, 0, none⟩)) := (hk.2 (.tmp 5) (notDstM_spec (by kernel_rfl))).trans (by rw [ha0]; rfl)
                  clear hk
                  go_simp
                  exact ⟨hC.updB, Below.refl _ _, rfl⟩
                · obtain rfl : _ = o := Option.some.inj ho
                  have e58 : ρ (.tmp 58) = (.pointer (some ⟨T, 0, none⟩)) := ((hk.1 2 (mem_direct (by kernel_rfl))).2 58 (by kernel_rfl)).trans (hk.1 2 (mem_direct (by kernel_rfl))).1
                  clear hk
                  go_simp
                  exact ⟨hC.updB, Below.refl _ _, rfl⟩
                · obtain rfl : _ = o := Option.some.inj ho
                  have e59 : ρ (.tmp 59) = (.pointer (some ⟨T, 0, none⟩)) := ((hk.1 3 (mem_direct (by kernel_rfl))).2 59 (by kernel_rfl)).trans (hk.1 3 (mem_direct (by kernel_rfl))).1
                  clear hk
                  go_simp
                  exact ⟨hC.updB, Below.refl _ _, rfl⟩
                · obtain rfl : _ = o := Option.some.inj ho
                  have e60 : ρ (.tmp 60) = (.pointer (some ⟨T, 1, none⟩)) := ((hk.1 4 (mem_direct (by kernel_rfl))).2 60 (by kernel_rfl)).trans (hk.1 4 (mem_direct (by kernel_rfl))).1
                  have h20 : D 20 = false := by
                    cases h : D 20 with
                    | false => rfl
                    | true => exact absurd (hdn 20 (by decide) h 5 (mem_direct (by kernel_rfl))) (by rw [hD0]; decide)
                  have cT := (hC.t h20).cells
                  clear hk
                  go_simp
                  exact ⟨hC.updB, Below.refl _ _, rfl⟩
                · obtain rfl : _ = o := Option.some.inj ho
                  have e7 : ρ (.tmp 7) = (.pointer (some ⟨Db, 0, none⟩)) := (hk.2 (.tmp 7) (notDstM_spec (by kernel_rfl))).trans (by rw [ha0]; rfl)
                  clear hk
                  go_simp
                  exact ⟨hC.updB, Below.refl _ _, rfl⟩
                · obtain rfl : _ = o := Option.some.inj ho
                  have e62 : ρ (.tmp 62) = (.pointer (some ⟨Db, 0, none⟩)) := ((hk.1 6 (mem_direct (by kernel_rfl))).2 62 (by kernel_rfl)).trans (hk.1 6 (mem_direct (by kernel_rfl))).1
                  have cD := hC.d.cells
                  clear hk
                  go_simp
                  exact ⟨hC.updB, Below.refl _ _, rfl⟩
                · obtain rfl : _ = o := Option.some.inj ho
                  have e63 : ρ (.tmp 63) = (.int .i64 (X : Int)) := ((hk.1 7 (mem_direct (by kernel_rfl))).2 63 (by kernel_rfl)).trans (hk.1 7 (mem_direct (by kernel_rfl))).1
                  clear hk
                  go_simp
                  have hbK : Below W1.heap.size W1 (W1.alloc (.cells #[.int .i64 (X : Int)] 3)) := (Below.refl _ _).alloc (Nat.le_refl _) _
                  exact ⟨(hC.below hBT hbK).updB, hbK, W1.heap.size, rfl, Blk.new _ _ _, fun e => by have := htv2 _ e; have := hC.sz; omega, fun e => by have := hpv2 _ e; have := hC.sz; omega, by have := hC.tl; omega⟩
                · obtain rfl : _ = o := Option.some.inj ho
                  have e61 : ρ (.tmp 61) = tv := ((hk.1 5 (mem_direct (by kernel_rfl))).2 61 (by kernel_rfl)).trans (hk.1 5 (mem_direct (by kernel_rfl))).1
                  obtain ⟨bS, q8, hbS, hfr⟩ : ∃ b, vs 8 = .slice (some ⟨b, 0, none⟩) 1 1 ∧ Blk W1 b 3 #[.int .i64 (X : Int)] ∧ FreeB T tv pv b := (hk.1 8 (mem_direct (by kernel_rfl))).1
                  have e64 : ρ (.tmp 64) = .slice (some ⟨bS, 0, none⟩) 1 1 := ((hk.1 8 (mem_direct (by kernel_rfl))).2 64 (by kernel_rfl)).trans q8
                  have hDo : ∀ (_ : tv.ownBlock = some Db), False := fun hb => by have := htv2 _ hb; omega
                  have hsepO : ∀ b, tv.ownBlock = some b → gv.ownBlock ≠ some b ∧ ∀ x ∈ xs, x.b ≠ b := fun b hb => (hsep.tp b hb).2
                  have hrow := hC.tq hD0
                  have hlT := hC.tl
                  obtain ⟨g, cap, w', hrun, hO, hgr, hat, _⟩ := run_app 25 25 (T + 1) 3 _ 1 8 und25 info3 rfl (by decide) (by decide) tv x _ hrow bS 3 _ hbS rfl (by simp [Value.oneCell']) hxl (by omega)
                  have hrT : ∀ b, tv.ownBlock = some b → T < b := fun b hb => by have := (ownsRow_block hrow b hb).1; omega
                  clear hk q8
                  rw [exec_app (.tmp 61) (.tmp 64) 25 25 rfl rfl _ _ e61 e64 hrun]
                  have hfg : pv.ownBlock ≠ some g ∧ OffG gv xs g := by
                    rcases hat with h | h
                    · exact ⟨(hsep.tp g h).1, (hsep.tp g h).2⟩
                    · refine ⟨fun e => ?_, fun e => ?_, fun y hy e => ?_⟩
                      · have := hpv2 g e; have := hC.sz; omega
                      · have := (ownsRow_block hC.g.row g e).2; omega
                      · have := (hC.g.ws y hy).2.2.2.lt; omega
                  exact ⟨⟨fun e => (hC.t (upd_false' e)).grown hgr (fun e => by have := hrT _ e; omega), Nat.lt_of_lt_of_le hC.tl hgr.size, hC.d.grown hgr (fun e => hDo e), hC.g.grownOff hgr (fun b hb => hsepO b hb), fun e => by simp at e, fun e => ownsRow_grownOff (hC.pq (upd_false' e)) hgr (fun b hb e2 => (hsep.tp b e2).1 hb), hC.s.grown hgr (fun b hb => by have := hrT b hb; omega), ⟨hgr.os.trans hC.k.os, hgr.tape.trans hC.k.tape, hgr.output.trans hC.k.output, Nat.le_trans hC.k.size hgr.size, fun b h1 h2 => (hgr.block b (Nat.lt_of_lt_of_le h1 hC.k.size) (fun e => by have := hrT b e.symm; have := hTH.out; omega)).trans (hC.k.block b h1 h2)⟩, Nat.le_trans hC.sz hgr.size⟩, hgr, g, cap, rfl, hO, hfg.1, hfg.2⟩
                · obtain rfl : _ = o := Option.some.inj ho
                  have e5 : ρ (.tmp 5) = (.pointer (some ⟨T, 0, none⟩)) := (hk.2 (.tmp 5) (notDstM_spec (by kernel_rfl))).trans (by rw [ha0]; rfl)
                  clear hk
                  go_simp
                  exact ⟨hC.updB, Below.refl _ _, rfl⟩
                · obtain rfl : _ = o := Option.some.inj ho
                  have e66 : ρ (.tmp 66) = (.pointer (some ⟨T, 0, none⟩)) := ((hk.1 10 (mem_direct (by kernel_rfl))).2 66 (by kernel_rfl)).trans (hk.1 10 (mem_direct (by kernel_rfl))).1
                  clear hk
                  go_simp
                  exact ⟨hC.updB, Below.refl _ _, rfl⟩
                · obtain rfl : _ = o := Option.some.inj ho
                  have e67 : ρ (.tmp 67) = (.pointer (some ⟨T, 0, none⟩)) := ((hk.1 11 (mem_direct (by kernel_rfl))).2 67 (by kernel_rfl)).trans (hk.1 11 (mem_direct (by kernel_rfl))).1
                  clear hk
                  go_simp
                  exact ⟨hC.updB, Below.refl _ _, rfl⟩
                · obtain rfl : _ = o := Option.some.inj ho
                  have e68 : ρ (.tmp 68) = (.pointer (some ⟨T, 2, none⟩)) := ((hk.1 12 (mem_direct (by kernel_rfl))).2 68 (by kernel_rfl)).trans (hk.1 12 (mem_direct (by kernel_rfl))).1
                  have h20 : D 20 = false := by
                    cases h : D 20 with
                    | false => rfl
                    | true => exact absurd (hdn 20 (by decide) h 13 (mem_direct (by kernel_rfl))) (by rw [hD0]; decide)
                  have cT := (hC.t h20).cells
                  clear hk
                  go_simp
                  exact ⟨hC.updB, Below.refl _ _, rfl⟩
                · obtain rfl : _ = o := Option.some.inj ho
                  have e7 : ρ (.tmp 7) = (.pointer (some ⟨Db, 0, none⟩)) := (hk.2 (.tmp 7) (notDstM_spec (by kernel_rfl))).trans (by rw [ha0]; rfl)
                  clear hk
                  go_simp
                  exact ⟨hC.updB, Below.refl _ _, rfl⟩
                · obtain rfl : _ = o := Option.some.inj ho
                  have e70 : ρ (.tmp 70) = (.pointer (some ⟨Db, 1, none⟩)) := ((hk.1 14 (mem_direct (by kernel_rfl))).2 70 (by kernel_rfl)).trans (hk.1 14 (mem_direct (by kernel_rfl))).1
                  have cD := hC.d.cells
                  clear hk
                  go_simp
                  exact ⟨hC.updB, Below.refl _ _, rfl⟩
                · obtain rfl : _ = o := Option.some.inj ho
                  have e71 : ρ (.tmp 71) = (.int .i64 (Y : Int)) := ((hk.1 15 (mem_direct (by kernel_rfl))).2 71 (by kernel_rfl)).trans (hk.1 15 (mem_direct (by kernel_rfl))).1
                  clear hk
                  go_simp
                  have hbK : Below W1.heap.size W1 (W1.alloc (.cells #[.int .i64 (Y : Int)] 3)) := (Below.refl _ _).alloc (Nat.le_refl _) _
                  exact ⟨(hC.below hBT hbK).updB, hbK, W1.heap.size, rfl, Blk.new _ _ _, fun e => by have := htv2 _ e; have := hC.sz; omega, fun e => by have := hpv2 _ e; have := hC.sz; omega, by have := hC.tl; omega⟩
                · obtain rfl : _ = o := Option.some.inj ho
                  have e69 : ρ (.tmp 69) = pv := ((hk.1 13 (mem_direct (by kernel_rfl))).2 69 (by kernel_rfl)).trans (hk.1 13 (mem_direct (by kernel_rfl))).1
                  obtain ⟨bS, q8, hbS, hfr⟩ : ∃ b, vs 16 = .slice (some ⟨b, 0, none⟩) 1 1 ∧ Blk W1 b 3 #[.int .i64 (Y : Int)] ∧ FreeB T tv pv b := (hk.1 16 (mem_direct (by kernel_rfl))).1
                  have e72 : ρ (.tmp 72) = .slice (some ⟨bS, 0, none⟩) 1 1 := ((hk.1 16 (mem_direct (by kernel_rfl))).2 72 (by kernel_rfl)).trans q8
                  obtain ⟨g9, c9, v9e, hO9, hp9, ho9⟩ : ∃ g cap, vs 9 = .slice (some ⟨g, 0, none⟩) (x + 1 : Nat) cap ∧ W1.ownsRow (T + 1) 3 1 (vs 9) (x + 1) (intsN (fun j => (runG gs (j, 0)).1) x ++ [Value.int .i64 (X : Int)]) ∧ pv.ownBlock ≠ some g ∧ OffG gv xs g := (hk.1 9 (mem_direct (by kernel_rfl))).1
                  have hD9 : D 9 = true := hDd 9 (mem_direct (by kernel_rfl))
                  have hDo : ∀ (_ : pv.ownBlock = some Db), False := fun hb => by have := hpv2 _ hb; omega
                  have hsepO : ∀ b, pv.ownBlock = some b → gv.ownBlock ≠ some b ∧ ∀ x ∈ xs, x.b ≠ b := fun b hb => hsep.pg b hb
                  have hrow := hC.pq hD0
                  have hlT := hC.tl
                  obtain ⟨g, cap, w', hrun, hO, hgr, hat, _⟩ := run_app 25 25 (T + 1) 3 _ 1 8 und25 info3 rfl (by decide) (by decide) pv x _ hrow bS 3 _ hbS rfl (by simp [Value.oneCell']) hxl (by omega)
                  have hrT : ∀ b, pv.ownBlock = some b → T < b := fun b hb => by have := (ownsRow_block hrow b hb).1; omega
                  clear hk q8
                  rw [exec_app (.tmp 69) (.tmp 72) 25 25 rfl rfl _ _ e69 e72 hrun]
                  have hb9 : g9 < W1.heap.size := (ownsRow_block hO9 g9 (by rw [v9e]; rfl)).2
                  have hfg : (vs 9).ownBlock ≠ some g ∧ OffG gv xs g := by
                    rw [v9e]
                    rcases hat with h | h
                    · refine ⟨fun e => ?_, hsep.pg g h⟩
                      have e2 : g9 = g := Option.some.inj e
                      exact hp9 (by rw [e2]; exact h)
                    · refine ⟨fun e => ?_, fun e => ?_, fun y hy e => ?_⟩
                      · have e2 : g9 = g := Option.some.inj e
                        omega
                      · have := (ownsRow_block hC.g.row g e).2; omega
                      · have := (hC.g.ws y hy).2.2.2.lt; omega
                  exact ⟨⟨fun e => (hC.t (upd_false' e)).grown hgr (fun e => by have := hrT _ e; omega), Nat.lt_of_lt_of_le hC.tl hgr.size, hC.d.grown hgr (fun e => hDo e), hC.g.grownOff hgr (fun b hb => hsepO b hb), fun e => absurd (upd_false' e) (by rw [hD9]; decide), fun e => by simp at e, hC.s.grown hgr (fun b hb => by have := hrT b hb; omega), ⟨hgr.os.trans hC.k.os, hgr.tape.trans hC.k.tape, hgr.output.trans hC.k.output, Nat.le_trans hC.k.size hgr.size, fun b h1 h2 => (hgr.block b (Nat.lt_of_lt_of_le h1 hC.k.size) (fun e => by have := hrT b e.symm; have := hTH.out; omega)).trans (hC.k.block b h1 h2)⟩, Nat.le_trans hC.sz hgr.size⟩, hgr, g, cap, rfl, hO, hfg.1, hfg.2⟩
                · obtain rfl : _ = o := Option.some.inj ho
                  have e56 : ρ (.tmp 56) = (.pointer (some ⟨T, 0, none⟩)) := ((hk.1 0 (mem_direct (by kernel_rfl))).2 56 (by kernel_rfl)).trans (hk.1 0 (mem_direct (by kernel_rfl))).1
                  clear hk
                  go_simp
                  exact ⟨hC.updB, Below.refl _ _, rfl⟩
                · obtain rfl : _ = o := Option.some.inj ho
                  have e74 : ρ (.tmp 74) = (.pointer (some ⟨T, 0, none⟩)) := ((hk.1 18 (mem_direct (by kernel_rfl))).2 74 (by kernel_rfl)).trans (hk.1 18 (mem_direct (by kernel_rfl))).1
                  clear hk
                  go_simp
                  exact ⟨hC.updB, Below.refl _ _, rfl⟩
                · obtain rfl : _ = o := Option.some.inj ho
                  have e75 : ρ (.tmp 75) = (.pointer (some ⟨T, 1, none⟩)) := ((hk.1 19 (mem_direct (by kernel_rfl))).2 75 (by kernel_rfl)).trans (hk.1 19 (mem_direct (by kernel_rfl))).1
                  have e65 : ρ (.tmp 65) = vs 9 := (hk.1 9 (mem_direct (by kernel_rfl))).2 65 (by kernel_rfl)
                  obtain ⟨g9, c9, v9e, _⟩ : ∃ g cap, vs 9 = .slice (some ⟨g, 0, none⟩) (x + 1 : Nat) cap ∧ W1.ownsRow (T + 1) 3 1 (vs 9) (x + 1) (intsN (fun j => (runG gs (j, 0)).1) x ++ [Value.int .i64 (X : Int)]) ∧ pv.ownBlock ≠ some g ∧ OffG gv xs g := (hk.1 9 (mem_direct (by kernel_rfl))).1
                  rw [v9e] at e65
                  have hD9 : D 9 = true := hDd 9 (mem_direct (by kernel_rfl))
                  have hD17 : D 17 = true := hDd 17 (mem_direct (by kernel_rfl))
                  have hTb := hC.t hD0
                  have cT := hTb.cells
                  have fT := hTb.frozen
                  clear hk
                  go_simp
                  exact ⟨⟨fun e => by simp at e, by simpa using hC.tl, hC.d.far (by show Db ≠ T; omega) _, hC.g.setFar (by omega) (Nat.lt_succ_self _) _, fun e => absurd (upd_false e) (by rw [hD9]; decide), fun e => absurd (upd_false e) (by rw [hD17]; decide), hC.s.far (by show B < T; omega) _, hC.k.setOwn (by show w.heap.size ≤ T; exact Nat.le_of_eq hTH.out) _, by simpa using hC.sz⟩, ⟨_, rfl⟩, by
                    show Blk _ T 61 #[.int .i64 n, vs 9, pv, .int .i64 n, .int .i64 0, gv]
                    rw [v9e]
                    exact hTb.set 1 _⟩
        · as_aux_lemma =>
          obtain rfl : x = N := by omega
          have hltz : ¬ (x : Int) < (x : Int) := by omega
          clear hlt
          go_wp2_with (fail)
          obtain ⟨ta, tc, ht1, ht2, ht3⟩ := hM.tq.form (by omega)
          obtain ⟨pa, pc, hp1, hp2, hp3⟩ := hM.pq.form (by omega)
          have hcell : ∀ {f : Nat → Nat} {v : Value} {g c : Nat}, v = .slice (some ⟨g, 0, none⟩) x c → wr.ownsRow (w.heap.size + 1) 3 1 v x (intsN f x) → ∀ i, i < x → wr.cell? ⟨g, i, none⟩ = some (.int .i64 ((f i : Nat) : Int)) := by
            intro f v g c hv ho i hi
            have h8 := ho.cells (g := g) (by rw [hv]; rfl) i (.int .i64 ((f i : Nat) : Int)) (by simp [intsN, hi])
            rw [Addr.add_lit, Nat.zero_add] at h8
            exact h8
          have hG := hM.g.gates (Nat.le_succ w.heap.size)
          rw [hM.e] at hG
          have ht := hM.t
          rw [ht1, hp1] at ht
          exact bodyPost_ret (v := .pointer (some ⟨w.heap.size, 0, none⟩)) (by simp [results, Tryz.results6, go_sem]) rfl (show TableOfPost _ _ _ _ _ _ _ from ⟨w.heap.size, gs, rfl, hgok, by rw [hglH.out]; omega, ⟨⟨ta, tc, pa, pc, gv, Nat.le_refl _, by omega, by omega, ht3, hp3, ht, hcell ht1 hM.tq, hcell hp1 hM.pq, hG⟩⟩, hM.s.mono hmb, hM.k⟩)
end
end Go.Proofs.YtdfgmmjcamhdjaaGreatDoor
