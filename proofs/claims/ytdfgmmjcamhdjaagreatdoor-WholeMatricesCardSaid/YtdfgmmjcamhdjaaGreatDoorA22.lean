/- Steps to WholeMatrices' card; what each asks stands in it. -/
import Derived.Deep.AppendLies
import Derived.Test.YtdfgmmjcamhdjaaGreatDoorA21
set_option linter.unusedVariables false
set_option linter.unusedSimpArgs false
namespace Go.Proofs.YtdfgmmjcamhdjaaGreatDoor
section
open Go.RowKit
theorem wl_app {w : World} {ops : Array Oper} {rest : List Oper} {o : Oper} {a : Act} {Q : Exit → Act → World → Prop} (hgd : o.guard = none) (s x : Operand) (t : TypeId)
    (ho : o.op = .call { callee := .builtin .append, args := #[s, x], argTypes := #[t, t] })
    (base : Nat) (e : TypeId) (z : Value) (size bytes : Nat) (ht : Tryz.prog.underlying t = some (.slice e)) (hinfo : (Tryz.prog.info? e).map (fun i => (i.zero, i.size, i.bytes)) = some (some z, size, bytes))
    (hzs : z.cells.size = size) (hsz : 0 < size) (hby : bytes ≤ 1000)
    (v : Value) (n : Nat) (xs : List Value) (hs : a.eval s = v) (hown : w.ownsRow base e size v n xs)
    (b : Nat) (T : TypeId) (news : Array Value) (hx : a.eval x = .slice (some ⟨b, 0, none⟩) 1 1) (hB : Blk w b T news) (hl : news.size = size) (h1 : ∀ u ∈ news.toList, u.oneCell' = true) (hn : n ≤ 1000000) (hbase : base ≤ w.heap.size) (H : Nat) (hH : w.heap.size = H)
    (h : ∀ g cap w', w'.ownsRow base e size (.slice (some ⟨g, 0, none⟩) (n + 1 : Nat) cap) (n + 1) (xs ++ news.toList) → w.grownBy w' v.ownBlock → (v.ownBlock = some g ∨ g = H) → g < w'.heap.size → wpList Tryz.prog ops Q rest (a.put o.dst (.slice (some ⟨g, 0, none⟩) (n + 1) cap)) w') :
    wpList Tryz.prog ops Q (o :: rest) a w := by
  obtain ⟨i0, hi, hz0, hz1, hz2⟩ := info_parts hinfo
  refine wpList_append_lies w hgd s x t ho base e i0 z size bytes ht hi hz0 hz1 hz2 hzs hsz v n xs hs hown ⟨b, 0, none⟩ 1 1 news.toList hx (by simpa using hl) (fun j u hj => ?_) h1 (by omega) (by unfold maxLen; omega) ?_ hbase H hH h
  · rw [Addr.add_lit, hB.cells, Nat.zero_add, ← Array.getElem?_toList]
    exact hj
  · have := Nat.mul_le_mul (show n + 1 ≤ 1000001 by omega) hby
    omega
theorem st_app {w : World} {ops : Array Oper} {o : Oper} {a : Act} {K : Act → World → Prop} {Q : Exit → Act → World → Prop} {E : Prop} (hgd : o.guard = none) (s x : Operand) (t : TypeId)
    (ho : o.op = .call { callee := .builtin .append, args := #[s, x], argTypes := #[t, t] })
    (base : Nat) (e : TypeId) (z : Value) (size bytes : Nat) (ht : Tryz.prog.underlying t = some (.slice e)) (hinfo : (Tryz.prog.info? e).map (fun i => (i.zero, i.size, i.bytes)) = some (some z, size, bytes))
    (hzs : z.cells.size = size) (hsz : 0 < size) (hby : bytes ≤ 1000)
    (v : Value) (n : Nat) (xs : List Value) (hs : a.eval s = v) (hown : w.ownsRow base e size v n xs)
    (b : Nat) (T : TypeId) (news : Array Value) (hx : a.eval x = .slice (some ⟨b, 0, none⟩) 1 1) (hB : Blk w b T news) (hl : news.size = size) (h1 : ∀ u ∈ news.toList, u.oneCell' = true) (hn : n ≤ 1000000) (hbase : base ≤ w.heap.size) (H : Nat) (hH : w.heap.size = H)
    (h : ∀ g cap w', w'.ownsRow base e size (.slice (some ⟨g, 0, none⟩) (n + 1 : Nat) cap) (n + 1) (xs ++ news.toList) → w.grownBy w' v.ownBlock → (v.ownBlock = some g ∨ g = H) → g < w'.heap.size → K (a.put o.dst (.slice (some ⟨g, 0, none⟩) (n + 1) cap)) w') :
    if Region.wanted o (yielded ops a.tmps) = true then Oper.wp Tryz.prog o a w K Q else E := by
  obtain ⟨i0, hi, hz0, hz1, hz2⟩ := info_parts hinfo
  refine step_append_lies w hgd s x t ho base e i0 z size bytes ht hi hz0 hz1 hz2 hzs hsz v n xs hs hown ⟨b, 0, none⟩ 1 1 news.toList hx (by simpa using hl) (fun j u hj => ?_) h1 (by omega) (by unfold maxLen; omega) ?_ hbase H hH h
  · rw [Addr.add_lit, hB.cells, Nat.zero_add, ← Array.getElem?_toList]
    exact hj
  · have := Nat.mul_le_mul (show n + 1 ≤ 1000001 by omega) hby
    omega
/-- a row that holds numbers, known whole -/
def RowG (w : World) (b n : Nat) (f : Nat → Num) : Prop := ∃ cs : Array Value, Blk w b 38 cs ∧ ∀ j, j < n →
  cs[j * 5]? = some (.int .i64 (f j).q.a) ∧ cs[j * 5 + 1]? = some (.int .i64 (f j).q.b) ∧ cs[j * 5 + 2]? = some (.int .i64 (f j).q.c) ∧ cs[j * 5 + 3]? = some (.int .i64 (f j).q.d) ∧ cs[j * 5 + 4]? = some (.int .i64 (f j).k)
theorem RowG.of {w : World} {b n : Nat} {f : Nat → Num} (h : RowB w b n f) : RowG w b n f := by
  obtain ⟨cs, h1, _, h2⟩ := h
  exact ⟨cs, h1, h2⟩
theorem RowG.lt {w : World} {b n : Nat} {f : Nat → Num} (h : RowG w b n f) : b < w.heap.size := by
  obtain ⟨cs, h1, _⟩ := h
  exact h1.lt
theorem RowG.frozen {w : World} {b n : Nat} {f : Nat → Num} (h : RowG w b n f) (i : Nat) : w.frozen? ⟨b, i, none⟩ = false := by
  obtain ⟨cs, h1, _⟩ := h
  exact h1.frozen i
theorem RowG.numAt {w : World} {b n : Nat} {f : Nat → Num} (h : RowG w b n f) {j : Nat} (hj : j < n) : NumAt w b (j * 5) (f j) := by
  obtain ⟨cs, h1, h3⟩ := h
  obtain ⟨a0, a1, a2, a3, a4⟩ := h3 j hj
  exact ⟨(h1.cells _).trans a0, (h1.cells _).trans a1, (h1.cells _).trans a2, (h1.cells _).trans a3, (h1.cells _).trans a4⟩
theorem RowG.keep {w w' : World} {b n : Nat} {f : Nat → Num} (h : RowG w b n f) (hk : w'.heap[b]? = w.heap[b]?) : RowG w' b n f := by
  obtain ⟨cs, h1, h2⟩ := h
  exact ⟨cs, hk.trans h1, h2⟩
theorem RowG.put {w : World} {b n : Nat} {f : Nat → Num} (h : RowG w b n f) (j : Nat) (x : Num) :
    RowG (((((w.setCell ⟨b, j * 5, none⟩ (.int .i64 x.q.a)).setCell ⟨b, j * 5 + 1, none⟩ (.int .i64 x.q.b)).setCell ⟨b, j * 5 + 2, none⟩ (.int .i64 x.q.c)).setCell ⟨b, j * 5 + 3, none⟩ (.int .i64 x.q.d)).setCell ⟨b, j * 5 + 4, none⟩ (.int .i64 x.k)) b n (put1 f j x) := by
  obtain ⟨cs, h1, h3⟩ := h
  refine ⟨_, ((((h1.set _ _).set _ _).set _ _).set _ _).set _ _, fun k hk => ?_⟩
  obtain ⟨a0, a1, a2, a3, a4⟩ := h3 k hk
  have b0 := (Array.getElem?_eq_some_iff.1 a0).1
  have b4 := (Array.getElem?_eq_some_iff.1 a4).1
  unfold put1
  by_cases e : k = j
  · subst e
    simp only [if_true, Array.getElem?_setIfInBounds, Array.size_setIfInBounds]
    refine ⟨?_, ?_, ?_, ?_, ?_⟩
    all_goals (repeat (first | (rw [if_pos rfl]) | (rw [if_neg (by omega)])))
    all_goals (rw [if_pos (by omega)])
  · rw [if_neg e]
    simp only [Array.getElem?_setIfInBounds, Array.size_setIfInBounds]
    refine ⟨?_, ?_, ?_, ?_, ?_⟩
    all_goals (repeat (rw [if_neg (by omega)]))
    all_goals assumption
/-- a matrix of one's own, whose rows may be written -/
structure Grid (w : World) (lo b h n : Nat) (rb rc : Nat → Nat) (M : Nat → Nat → Num) : Prop where
  lob : lo ≤ b
  head : ∃ cs : Array Value, Blk w b 72 cs ∧ ∀ i, i < h → cs[i]? = some (.slice (some ⟨rb i, 0, none⟩) n (rc i))
  row : ∀ i, i < h → lo ≤ rb i ∧ RowG w (rb i) n (M i)
  inj : ∀ i j, i < h → j < h → rb i = rb j → i = j
section
variable {w w' : World} {lo b h n : Nat} {rb rc : Nat → Nat} {M : Nat → Nat → Num}
theorem Grid.lt (H : Grid w lo b h n rb rc M) : b < w.heap.size := by
  obtain ⟨cs, h1, _⟩ := H.head
  exact h1.lt
theorem Grid.head_at (H : Grid w lo b h n rb rc M) {i : Nat} (hi : i < h) : w.cell? ⟨b, i, none⟩ = some (.slice (some ⟨rb i, 0, none⟩) n (rc i)) := by
  obtain ⟨cs, h1, h2⟩ := H.head
  rw [h1.cells]
  exact h2 i hi
theorem Grid.keep (H : Grid w lo b h n rb rc M) (hk : ∀ k, lo ≤ k → k < w.heap.size → w'.heap[k]? = w.heap[k]?) : Grid w' lo b h n rb rc M := by
  obtain ⟨cs, h1, h2⟩ := H.head
  exact ⟨H.lob, ⟨cs, (hk b H.lob h1.lt).trans h1, h2⟩, fun i hi => ⟨(H.row i hi).1, (H.row i hi).2.keep (hk _ (H.row i hi).1 (H.row i hi).2.lt)⟩, H.inj⟩
theorem Grid.below (H : Grid w lo b h n rb rc M) (hb : Below w.heap.size w w') : Grid w' lo b h n rb rc M := H.keep fun k _ hk => hb.block k hk
theorem Grid.alloc (H : Grid w lo b h n rb rc M) (o : Obj) : Grid (w.alloc o) lo b h n rb rc M := H.below ((Below.refl _ _).alloc (Nat.le_refl _) o)
theorem Grid.keepX {B : Nat} (H : Grid w lo b h n rb rc M) (hk : KeepX B w w') (hB : B < lo) : Grid w' lo b h n rb rc M := H.keep fun k h1 h2 => hk.block k h2 (by omega)
theorem Grid.drew (H : Grid w lo b h n rb rc M) : Grid w.drew lo b h n rb rc M := H.keep fun _ _ _ => rfl
theorem Grid.ne_row (H : Grid w lo b h n rb rc M) {i : Nat} (hi : i < h) : b ≠ rb i := by
  intro e
  obtain ⟨cs, h1, _⟩ := H.head
  obtain ⟨cs', g1, _⟩ := (H.row i hi).2
  rw [← e] at g1
  unfold Blk at h1 g1
  rw [h1] at g1
  cases g1
theorem Grid.mat (H : Grid w lo b h n rb rc M) (hd : 1 ≤ h ∧ h ≤ 64 ∧ 1 ≤ n ∧ n ≤ 64) : Mat w (some ⟨b, 0, none⟩) h n M :=
  ⟨b, 0, rb, fun _ => 0, rc, rfl, hd, H.lt, fun i hi => ⟨by rw [Nat.zero_add]; exact H.head_at hi, (H.row i hi).2.lt⟩, fun i j hi hj => by rw [Nat.zero_add]; exact (H.row i hi).2.numAt hj⟩
/-- the five cells of a number -/
def setNum (w : World) (b j : Nat) (x : Num) : World := ((((w.setCell ⟨b, j * 5, none⟩ (.int .i64 x.q.a)).setCell ⟨b, j * 5 + 1, none⟩ (.int .i64 x.q.b)).setCell ⟨b, j * 5 + 2, none⟩ (.int .i64 x.q.c)).setCell ⟨b, j * 5 + 3, none⟩ (.int .i64 x.q.d)).setCell ⟨b, j * 5 + 4, none⟩ (.int .i64 x.k)
theorem setNum_far (w : World) {b j : Nat} (x : Num) {k : Nat} (hk : k ≠ b) : (setNum w b j x).heap[k]? = w.heap[k]? := by
  unfold setNum
  rw [Below.heap_setCell _ _ _ _ hk, Below.heap_setCell _ _ _ _ hk, Below.heap_setCell _ _ _ _ hk, Below.heap_setCell _ _ _ _ hk, Below.heap_setCell _ _ _ _ hk]
theorem Grid.put (H : Grid w lo b h n rb rc M) {i : Nat} (hi : i < h) (j : Nat) (x : Num) : Grid (setNum w (rb i) j x) lo b h n rb rc (put2 M i j x) := by
  obtain ⟨cs, h1, h2⟩ := H.head
  refine ⟨H.lob, ⟨cs, (setNum_far w x (H.ne_row hi)).trans h1, h2⟩, fun k hk => ⟨(H.row k hk).1, ?_⟩, H.inj⟩
  unfold put2
  by_cases e : k = i
  · subst e
    rw [if_pos rfl]
    exact (H.row k hk).2.put j x
  · rw [if_neg e]
    exact (H.row k hk).2.keep (setNum_far w x (fun e2 => e (H.inj k i hk hi e2)))
theorem Grid.congr {M' : Nat → Nat → Num} (H : Grid w lo b h n rb rc M) (e : ∀ i j, i < h → j < n → M i j = M' i j) : Grid w lo b h n rb rc M' := by
  refine ⟨H.lob, H.head, fun i hi => ⟨(H.row i hi).1, ?_⟩, H.inj⟩
  obtain ⟨cs, h1, h3⟩ := (H.row i hi).2
  exact ⟨cs, h1, fun j hj => by rw [← e i j hi hj]; exact h3 j hj⟩
end
theorem KeepX.setNum {B : Nat} {a w : World} (h : KeepX B a w) {b : Nat} (hb : a.heap.size ≤ b) (j : Nat) (x : Num) : KeepX B a (setNum w b j x) :=
  ((((h.setOwn (p := ⟨b, _, none⟩) hb _).setOwn (p := ⟨b, _, none⟩) hb _).setOwn (p := ⟨b, _, none⟩) hb _).setOwn (p := ⟨b, _, none⟩) hb _).setOwn (p := ⟨b, _, none⟩) hb _
theorem Below.setNum {B : Nat} {a w : World} (h : Below B a w) {b : Nat} (hb : B ≤ b) (j : Nat) (x : Num) : Below B a (setNum w b j x) :=
  ((((h.setCell (p := ⟨b, _, none⟩) hb _).setCell (p := ⟨b, _, none⟩) hb _).setCell (p := ⟨b, _, none⟩) hb _).setCell (p := ⟨b, _, none⟩) hb _).setCell (p := ⟨b, _, none⟩) hb _
theorem size_setNum (w : World) (b j : Nat) (x : Num) : (setNum w b j x).heap.size = w.heap.size := by simp [setNum]
end
section
open Go.RowKit
attribute [local go_sem ↓] Go.wp_at_zero Go.wp_at_succ
theorem ownsRow_ne {w : World} {base : Nat} {e T : TypeId} {size n b : Nat} {v : Value} {xs : List Value} {cs : Array Value} (h : w.ownsRow base e size v n xs) (hB : Blk w b T cs) (hT : T ≠ e) : v.ownBlock ≠ some b := by
  intro hk
  rcases h.2 with ⟨rfl, rfl⟩ | ⟨g, cap, cur, rfl, h1, h2, h3⟩
  · cases hk
  · cases hk
    unfold Blk at hB
    rw [h2] at hB
    cases hB
    exact hT rfl
theorem below_app {a w w' : World} {row : Option Nat} (h : Below a.heap.size a w) (hg : w.grownBy w' row) (hr : ∀ k, row = some k → a.heap.size ≤ k) : Below a.heap.size a w' := h.grown hg h.size hr
/-- a matrix of zeros of the call's own -/
def BlankPost (n : Nat) (w : World) (e : Ending) (w' : World) : Prop := ∃ b c rb rc, e = .returned (.slice (some ⟨b, 0, none⟩) n c) ∧ Grid w' w.heap.size b n n rb rc (fun _ _ => Num.zero) ∧ Below w.heap.size w w'
def hd1 (rb : Nat → Nat) (n i : Nat) : Value := .slice (some ⟨rb i, 0, none⟩) n n
set_option maxHeartbeats 1000000 in
set_option maxRecDepth 100000 in
theorem f49_any (n : Nat) (w : World) (h1 : 1 ≤ n) (h2 : n ≤ 64) :
    Calls Tryz.prog 49 #[.int .i64 n] w (BlankPost n w) := by
  have hm2 := fun w => mk72 n w (by omega)
  go_enter Tryz.func49, Tryz.ntmps49
  go_wp2
  go_loopg [3, 5] n (fun gg s3 s5 wr => ∃ kk : Nat, kk ≤ n ∧ n - kk ≤ gg ∧ s5 = .int .i64 kk ∧ Aside (∃ rb : Nat → Nat, wr.ownsRow w.heap.size 72 1 s3 kk ((List.range kk).map (hd1 rb n)) ∧ (∀ i, i < kk → w.heap.size ≤ rb i ∧ Blk wr (rb i) 38 (zrow n)) ∧ (∀ i j, i < kk → j < kk → rb i = rb j → i = j)) ∧ Aside (Below w.heap.size w wr))
  case atStart => exact ⟨0, Nat.zero_le _, by omega, rfl, ⟨fun _ => 0, World.ownsRow_nil _ _ _ _, fun i hi => absurd hi (Nat.not_lt_zero _), fun i j hi => absurd hi (Nat.not_lt_zero _)⟩, Below.refl _ _⟩
  case round =>
    obtain ⟨kk, hkk, hg, rfl, AR, AW⟩ := hrel
    obtain ⟨rb, hO, hRo, hinj⟩ := AR.out
    have hW := AW.out
    clear AR AW
    by_cases hlt : kk < n
    · have hltz : (kk : Int) < (n : Int) := by omega
      have hb1 : Below wr.heap.size wr ((wr.alloc (.cells (zrow n) 38)).alloc (.cells #[.slice (some ⟨wr.heap.size, 0, none⟩) n n] 72)) := ((Below.refl _ _).alloc (Nat.le_refl _) _).alloc (by simp) _
      have hZ : Blk ((wr.alloc (.cells (zrow n) 38)).alloc (.cells #[.slice (some ⟨wr.heap.size, 0, none⟩) n n] 72)) wr.heap.size 38 (zrow n) := (Blk.new _ _ _).alloc _
      have hN : Blk ((wr.alloc (.cells (zrow n) 38)).alloc (.cells #[.slice (some ⟨wr.heap.size, 0, none⟩) n n] 72)) (wr.heap.size + 1) 72 #[.slice (some ⟨wr.heap.size, 0, none⟩) n n] := Blk.new' _ _ (by simp)
      have hO1 := ownsRow_below hO hb1
      go_wp2_with (at_builtin; refine wl_app rfl _ _ 31 rfl w.heap.size 72 _ 1 24 und31 info72 rfl (by decide) (by decide) _ _ _ rfl hO1 (wr.heap.size + 1) 72 #[.slice (some ⟨wr.heap.size, 0, none⟩) n n] rfl hN rfl (by simp [Value.oneCell']) (by omega) (by have := hW.size; simp; omega) (wr.heap.size + 2) (by simp) ?_; intro g cap w2 hO2 hgr hat hlt2)
      have hWs := hW.size
      have hrow := ownsRow_block hO
      go_roundg (n - (kk + 1))
      case measure => omega
      case rel =>
        refine ⟨kk + 1, by omega, by omega, by go_num, (show Aside _ from ⟨fun i => if i < kk then rb i else wr.heap.size, ?_, fun i hi => ?_, fun i j hi hj he => ?_⟩), (show Aside _ from below_app (bt hW hb1) hgr (fun k hk => (hrow k hk).1))⟩
        · have e : (List.range (kk + 1)).map (hd1 (fun i => if i < kk then rb i else wr.heap.size) n) = (List.range kk).map (hd1 rb n) ++ [hd1 (fun _ => wr.heap.size) n kk] := by
            rw [List.range_succ, List.map_append]
            congr 1
            · refine List.map_congr_left fun i hi => ?_
              have : i < kk := by simpa using hi
              simp [hd1, this]
            · simp [hd1]
          rw [e]
          exact hO2
        · by_cases hik : i < kk
          · simp only [hik, if_true]
            exact ⟨(hRo i hik).1, (((hRo i hik).2.below hb1).grown hgr (ownsRow_ne hO (hRo i hik).2 (by decide)))⟩
          · simp only [hik, if_false]
            exact ⟨hWs, hZ.grown hgr (fun e => by have := (hrow _ e).2; omega)⟩
        · have hr := fun q hq => (hRo q hq).2.lt
          by_cases hik : i < kk <;> by_cases hjk : j < kk
          · simp only [hik, hjk, if_true] at he; exact hinj i j hik hjk he
          · simp only [hik, hjk, if_true, if_false] at he; have := hr i hik; omega
          · simp only [hik, hjk, if_true, if_false] at he; have := hr j hjk; omega
          · omega
    · have hltz : ¬ (kk : Int) < (n : Int) := by omega
      obtain rfl : kk = n := by omega
      clear hlt
      obtain ⟨b, c, rfl, hlo, hbl⟩ := World.ownsRow.form hO (by omega)
      have hO3 := hO.2
      go_wp2
      go_ret
      refine ⟨b, c, rb, fun _ => kk, rfl, ⟨hlo, ?_, fun i hi => ⟨(hRo i hi).1, RowG.of (RowB.zero (hRo i hi).2)⟩, hinj⟩, hW⟩
      rcases hO3 with ⟨h, _⟩ | ⟨g, cap, cur, he, g1, g2, g3, g4, g5, g6⟩
      · cases h
      · cases he
        refine ⟨cur, g2, fun i hi => ?_⟩
        have : ((List.range kk).map (hd1 rb kk))[i]? = some (hd1 rb kk i) := by simp [hi]
        rw [← g6, List.getElem?_take] at this
        split at this
        · rwa [Array.getElem?_toList] at this
        · cases this
end
section
open Go.RowKit
attribute [local go_sem ↓] Go.wp_at_zero Go.wp_at_succ
/-- one number of H on all of k wires -/
def wavE (k i j : Nat) : Num := ⟨wq ((4 * odd (j &&& i)) % 8), k⟩
/-- the numbers of E ahead of row a's place b -/
def upto (E : Nat → Nat → Num) (a b i j : Nat) : Num := if i < a ∨ i = a ∧ j < b then E i j else Num.zero
theorem upto_put (E : Nat → Nat → Num) (a b : Nat) : put2 (upto E a b) a b (E a b) = upto E a (b + 1) := by
  funext i j
  unfold put2 put1 upto
  by_cases h1 : i = a
  · subst h1
    by_cases h2 : j = b
    · subst h2; simp
    · rw [if_pos rfl, if_neg h2]
      by_cases h3 : j < b
      · rw [if_pos (.inr ⟨rfl, h3⟩), if_pos (.inr ⟨rfl, by omega⟩)]
      · rw [if_neg (by omega), if_neg (by omega)]
  · rw [if_neg h1]
    by_cases h3 : i < a
    · rw [if_pos (.inl h3), if_pos (.inl h3)]
    · rw [if_neg (by omega), if_neg (by omega)]
theorem pow6 (k : Nat) (h1 : 1 ≤ k) (h2 : k ≤ 6) : 2 ≤ 2 ^ k ∧ 2 ^ k ≤ 64 := by
  have a := Nat.pow_le_pow_right (n := 2) (by decide) h1
  have b := Nat.pow_le_pow_right (n := 2) (by decide) h2
  omega
theorem w64s (k : Nat) (h : k ≤ 6) : wrap64 (2 ^ k) = ((2 ^ k : Nat) : Int) := by
  have b := Nat.pow_le_pow_right (n := 2) (by decide) h
  rw [show (2 ^ k : Int) = ((2 ^ k : Nat) : Int) from by simp]
  exact w64n _ (by omega)
theorem odd_lt2 : ∀ m, m < 64 → odd m < 2 := by decide +kernel
theorem below_setNum {B : Nat} {a w : World} (h : Below B a w) {b : Nat} (hb : B ≤ b) (j : Nat) (x : Num) : Below B a (setNum w b j x) :=
  ((((h.setCell (p := ⟨b, _, none⟩) hb _).setCell (p := ⟨b, _, none⟩) hb _).setCell (p := ⟨b, _, none⟩) hb _).setCell (p := ⟨b, _, none⟩) hb _).setCell (p := ⟨b, _, none⟩) hb _
def WavePost (k N : Nat) (w : World) (e : Ending) (w' : World) : Prop := ∃ b c rb rc, e = .returned (.slice (some ⟨b, 0, none⟩) N c) ∧ Grid w' w.heap.size b N N rb rc (wavE k) ∧ Below w.heap.size w w'
set_option maxHeartbeats 1000000 in
set_option maxRecDepth 100000 in
theorem f15_any (k N : Nat) (w : World) (h1 : 1 ≤ k) (h2 : k ≤ 6) (hN : Hid (2 ^ k = N)) :
    Calls Tryz.prog 15 #[.int .i64 k] w (WavePost k N w) := by
  have hNb := pow6 k h1 h2
  have hw := w64s k h2
  have hodd := odd_lt2
  rw [hN.out] at hNb hw
  obtain ⟨hN2, hN6⟩ := hNb
  go_enter Tryz.func15, Tryz.ntmps15
  go_wp2_with (go_at_call 49; refine (f49_any N _ (by omega) hN6).mono ?_; rintro e w1 ⟨b, c, rb, rc, rfl, hG1, hb1⟩)
  go_loopg [12] N (fun gg s12 wr => ∃ ii : Nat, ii ≤ N ∧ N - ii ≤ gg ∧ s12 = .int .i64 ii ∧ Aside (Grid wr w.heap.size b N N rb rc (upto (wavE k) ii 0)) ∧ Aside (Below w.heap.size w wr))
  case atStart => exact ⟨0, Nat.zero_le _, by omega, rfl, (show Aside _ from hG1.congr fun i j hi hj => by unfold upto; rw [if_neg (by omega)]), hb1⟩
  case round =>
    obtain ⟨ii, hii, hg, rfl, AG, AW⟩ := hrel
    have hG := AG.out
    have hW := AW.out
    clear AG AW
    by_cases hlt : ii < N
    · have hltz : (ii : Int) < (N : Int) := by omega
      have hh := hG.head_at hlt
      go_wp2_with (fail)
      go_loopg [19] N (fun gg s19 wr => ∃ jj : Nat, jj ≤ N ∧ N - jj ≤ gg ∧ s19 = .int .i64 jj ∧ Aside (Grid wr w.heap.size b N N rb rc (upto (wavE k) ii jj)) ∧ Aside (Below w.heap.size w wr))
      case atStart => exact ⟨0, Nat.zero_le _, by omega, rfl, hG, hW⟩
      case round =>
        obtain ⟨jj, hjj, hg', rfl, AG, AW⟩ := hrel
        have hG' := AG.out
        have hW' := AW.out
        clear AG AW
        by_cases hlt' : jj < N
        · have hltz' : (jj : Int) < (N : Int) := by omega
          have e1 : bits BinOp.and IntKind.i64 (jj : Int) (ii : Int) = ((jj &&& ii : Nat) : Int) := i64_and jj ii (by omega) (by omega)
          have h64 : jj &&& ii < 64 := Nat.lt_of_le_of_lt Nat.and_le_left (by omega)
          obtain ⟨m, hm⟩ : ∃ m, jj &&& ii = m := ⟨_, rfl⟩
          rw [hm] at e1 h64
          have ho := hodd m h64
          have H18 := fun W => f18_any m W h64
          obtain ⟨o, hoo⟩ : ∃ o, odd m = o := ⟨_, rfl⟩
          rw [hoo] at ho
          simp only [hoo] at H18
          obtain ⟨x, hx⟩ : ∃ x, wavE k ii jj = x := ⟨_, rfl⟩
          have hxq : wq ((4 * o) % 8) = x.q := by rw [← hx, ← hoo, ← hm]; rfl
          have hxk : x.k = k := by rw [← hx]; rfl
          have H28 : ∀ W, Calls Tryz.prog 28 #[.int .i64 (4 * (o : Int)), .int .i64 k] W fun e w' => e = .returned (.agg #[.int .i64 x.q.a, .int .i64 x.q.b, .int .i64 x.q.c, .int .i64 x.q.d, .int .i64 x.k]) ∧ Below W.heap.size W w' := fun W => by
            have := f28_any x.q k (4 * o) ((4 * o) % 8) W (by omega) rfl hxq
            rw [hxk]
            rw [show (((4 * o : Nat) : Int)) = 4 * (o : Int) from by simp] at this
            exact this
          have hoz : (o : Int) < 2 := by omega
          have hxH : Hid (wavE k ii jj = x) := hx
          clear hoo hm hx hxq hxk hodd
          go_wp2_with (first
            | (go_at_call 18; refine (H18 _).mono ?_; rintro e w2 ⟨rfl, rfl⟩)
            | (go_at_call 28; refine (H28 _).mono ?_; rintro e w3 ⟨rfl, hb3⟩; have hG3 := hG'.below hb3; have hW3 := bt hW' hb3; have hR3 := (hG3.row ii hlt).2; have hn3 := hR3.numAt hlt'; have hf3 := hR3.frozen; have hl3 := hR3.lt; obtain ⟨y0, y1, y2, y3, y4⟩ := hn3))
          have hF : Grid (setNum w3 (rb ii) jj x) w.heap.size b N N rb rc (upto (wavE k) ii (jj + 1)) := by
            have h := hG3.put hlt jj x
            rw [← upto_put, hxH.out]
            exact h
          go_roundg (N - (jj + 1))
          case measure => omega
          case rel => exact ⟨jj + 1, by omega, by omega, by go_num, (show Aside _ from hF), (show Aside _ from below_setNum hW3 (hG3.row ii hlt).1 jj x)⟩
        · have hltz' : ¬ (jj : Int) < (N : Int) := by omega
          obtain rfl : jj = N := by omega
          go_wp2_with (fail)
          go_roundg (jj - (ii + 1))
          case measure => omega
          case rel => exact ⟨ii + 1, by omega, by omega, by go_num, (show Aside _ from hG'.congr fun i j hi hj => by unfold upto; by_cases h : i < ii ∨ i = ii ∧ j < jj; rw [if_pos h, if_pos (by omega)]; rw [if_neg h, if_neg (by omega)]), hW'⟩
    · have hltz : ¬ (ii : Int) < (N : Int) := by omega
      obtain rfl : ii = N := by omega
      clear hlt
      go_wp2_with (fail)
      go_ret
      exact ⟨b, c, rb, rc, rfl, hG.congr fun i j hi hj => by unfold upto; rw [if_pos (.inl hi)], hW⟩
end
section
open Go.RowKit
attribute [local go_sem ↓] Go.wp_at_zero Go.wp_at_succ
/-- gates that lie somewhere from lo on -/
def GatesR (w : World) (lo : Nat) (gv : Value) (gs : List Gt) : Prop := ∃ A c, gv = .slice A gs.length c ∧ (0 < gs.length → ∃ g, A = some ⟨g, 0, none⟩ ∧ lo ≤ g ∧ g < w.heap.size ∧ ∀ i gt, gs[i]? = some gt →
  ∃ b cc, w.cell? ⟨g, i * 4, none⟩ = some (.int .i64 gt.k) ∧ w.cell? ⟨g, i * 4 + 1, none⟩ = some (.slice (some ⟨b, 0, none⟩) gt.ws.length cc) ∧ w.cell? ⟨g, i * 4 + 2, none⟩ = some (.int .i64 0) ∧ w.cell? ⟨g, i * 4 + 3, none⟩ = some (.int .i64 0) ∧
    lo ≤ b ∧ b < w.heap.size ∧ gt.ws.length ≤ cc ∧ ∀ (j x : Nat), gt.ws[j]? = some x → w.cell? ⟨b, j, none⟩ = some (.int .i64 x))
theorem cell_keep {w w' : World} {b i : Nat} (h : w'.heap[b]? = w.heap[b]?) : w'.cell? ⟨b, i, none⟩ = w.cell? ⟨b, i, none⟩ := World.cell?_of_block (w := w) (a := ⟨b, i, none⟩) h
theorem GatesR.keep {w w' : World} {lo : Nat} {gv : Value} {gs : List Gt} (h : GatesR w lo gv gs) (hs : w.heap.size ≤ w'.heap.size) (hk : ∀ k, lo ≤ k → k < w.heap.size → w'.heap[k]? = w.heap[k]?) : GatesR w' lo gv gs := by
  obtain ⟨A, c, h1, h2⟩ := h
  refine ⟨A, c, h1, fun h0 => ?_⟩
  obtain ⟨g, h3, h4, h5, h6⟩ := h2 h0
  refine ⟨g, h3, h4, Nat.lt_of_lt_of_le h5 hs, fun i gt hi => ?_⟩
  obtain ⟨b, cc, g1, g2, g3, g4, g5, g6, g8, g7⟩ := h6 i gt hi
  have e := fun i => cell_keep (i := i) (hk g h4 h5)
  exact ⟨b, cc, (e _).trans g1, (e _).trans g2, (e _).trans g3, (e _).trans g4, g5, Nat.lt_of_lt_of_le g6 hs, g8, fun j x hj => (cell_keep (hk b g5 g6)).trans (g7 j x hj)⟩
/-- the table -/
structure TableAt (w : World) (lo T n N : Nat) (tw pw : Nat → Nat) (gs : List Gt) : Prop where
  out : ∃ ta tc pa pc gv, lo ≤ T ∧ lo ≤ ta ∧ lo ≤ pa ∧ ta < w.heap.size ∧ pa < w.heap.size ∧ Blk w T 61 #[.int .i64 n, .slice (some ⟨ta, 0, none⟩) N tc, .slice (some ⟨pa, 0, none⟩) N pc, .int .i64 n, .int .i64 0, gv] ∧
    (∀ i, i < N → w.cell? ⟨ta, i, none⟩ = some (.int .i64 (tw i))) ∧ (∀ i, i < N → w.cell? ⟨pa, i, none⟩ = some (.int .i64 (pw i))) ∧ GatesR w lo gv gs
theorem TableAt.keep {w w' : World} {lo T n N : Nat} {tw pw : Nat → Nat} {gs : List Gt} (h : TableAt w lo T n N tw pw gs) (hs : w.heap.size ≤ w'.heap.size) (hk : ∀ k, lo ≤ k → k < w.heap.size → w'.heap[k]? = w.heap[k]?) : TableAt w' lo T n N tw pw gs := by
  obtain ⟨⟨ta, tc, pa, pc, gv, h1, h2, h3, h4, h5, h6, h7, h8, h9⟩⟩ := h
  exact ⟨⟨ta, tc, pa, pc, gv, h1, h2, h3, Nat.lt_of_lt_of_le h4 hs, Nat.lt_of_lt_of_le h5 hs, (hk T h1 h6.lt).trans h6, fun i hi => (cell_keep (hk ta h2 h4)).trans (h7 i hi), fun i hi => (cell_keep (hk pa h3 h5)).trans (h8 i hi), h9.keep hs hk⟩⟩
theorem TableAt.below {w w' : World} {lo T n N : Nat} {tw pw : Nat → Nat} {gs : List Gt} (h : TableAt w lo T n N tw pw gs) (hb : Below w.heap.size w w') : TableAt w' lo T n N tw pw gs := h.keep hb.size fun k _ hk => hb.block k hk
theorem TableAt.keepX {w w' : World} {B lo T n N : Nat} {tw pw : Nat → Nat} {gs : List Gt} (h : TableAt w lo T n N tw pw gs) (hb : KeepX B w w') (hB : B < lo) : TableAt w' lo T n N tw pw gs := h.keep hb.size fun k h1 hk => hb.block k hk (by omega)
/-- the rows of the table, of the first kk basis states -/
def tabM (tw pw : Nat → Nat) (kk i j : Nat) : Num := if j < kk ∧ i = tw j then Num.w (pw j % 8) else Num.zero
theorem tabM_put (tw pw : Nat → Nat) (kk : Nat) : put2 (tabM tw pw kk) (tw kk) kk (Num.w (pw kk % 8)) = tabM tw pw (kk + 1) := by
  funext i j
  unfold put2 put1 tabM
  by_cases h1 : i = tw kk
  · subst h1
    rw [if_pos rfl]
    by_cases h2 : j = kk
    · subst h2; simp
    · rw [if_neg h2]
      by_cases h3 : j < kk ∧ tw kk = tw j
      · rw [if_pos h3, if_pos ⟨by omega, h3.2⟩]
      · rw [if_neg h3, if_neg (by omega)]
  · rw [if_neg h1]
    by_cases h3 : j < kk ∧ i = tw j
    · rw [if_pos h3, if_pos ⟨by omega, h3.2⟩]
    · rw [if_neg h3, if_neg (fun hh => by
        by_cases h2 : j = kk
        · subst h2; exact h1 hh.2
        · exact h3 ⟨by omega, hh.2⟩)]
def tabB (tw pw : Nat → Nat) (kk i j : Nat) : Num := if i < kk ∧ j = tw i then Num.w ((8 - pw i) % 8) else Num.zero
theorem tabB_put (tw pw : Nat → Nat) (kk : Nat) : put2 (tabB tw pw kk) kk (tw kk) (Num.w ((8 - pw kk) % 8)) = tabB tw pw (kk + 1) := by
  funext i j
  unfold put2 put1 tabB
  by_cases h1 : i = kk
  · subst h1
    rw [if_pos rfl]
    by_cases h2 : j = tw i
    · subst h2; simp
    · rw [if_neg h2, if_neg (by omega), if_neg (by omega)]
  · rw [if_neg h1]
    by_cases h3 : i < kk ∧ j = tw i
    · rw [if_pos h3, if_pos ⟨by omega, h3.2⟩]
    · rw [if_neg h3, if_neg (by omega)]
theorem of_drew {w w' : World} (h : Below w.drew.heap.size w.drew w') : Below w.heap.size w w' := ⟨h.os, h.tape, h.output, h.size, h.block⟩
theorem f28_w (p : Nat) (x : Num) (hp : p ≤ 1000) (hx : Num.w (p % 8) = x) (W : World) : Calls Tryz.prog 28 #[.int .i64 p, .int .i64 0] W fun e w' => e = .returned (.agg #[.int .i64 x.q.a, .int .i64 x.q.b, .int .i64 x.q.c, .int .i64 x.q.d, .int .i64 x.k]) ∧ Below W.heap.size W w' := by
  subst hx
  exact f28_any (wq (p % 8)) 0 p (p % 8) W hp rfl rfl
def RowsPost (N : Nat) (M : Nat → Nat → Num) (w : World) (e : Ending) (w' : World) : Prop := ∃ b c rb rc, e = .returned (.slice (some ⟨b, 0, none⟩) N c) ∧ Grid w' w.heap.size b N N rb rc M ∧ Below w.heap.size w w'
set_option maxHeartbeats 1000000 in
set_option maxRecDepth 100000 in
theorem f10_any (lo T n N : Nat) (tw pw : Nat → Nat) (gs : List Gt) (back : Bool) (w : World) (h1 : 1 ≤ n) (h2 : n ≤ 6) (hN : Hid (2 ^ n = N)) (hT : TableAt w lo T n N tw pw gs) (hto : ∀ i, i < N → tw i < N ∧ pw i < 8) :
    Calls Tryz.prog 10 #[.pointer (some ⟨T, 0, none⟩), .bool back] w (RowsPost N (if back then tabB tw pw N else tabM tw pw N) w) := by
  have hNb := pow6 n h1 h2
  have hw := w64s n h2
  rw [hN.out] at hNb hw
  obtain ⟨hN2, hN6⟩ := hNb
  obtain ⟨⟨ta, tc, pa, pc, gv, _, _, _, hta, hpa, hTB, hc1, hc2, _⟩⟩ := hT
  have cT := hTB.cells
  have lT := hTB.lt
  cases back
  · go_enter Tryz.func10, Tryz.ntmps10
    go_wp2_with (go_at_call 49; refine (f49_any N _ (by omega) hN6).mono ?_; rintro e w1 ⟨b, c, rb, rc, rfl, hG1, hb1⟩; have cT1 := (hTB.below hb1).cells)
    go_loopg [19] N (fun gg s19 wr => ∃ ii : Nat, ii ≤ N ∧ N - ii ≤ gg ∧ s19 = .int .i64 ii ∧ Aside (Grid wr w.heap.size b N N rb rc (tabM tw pw ii)) ∧ Aside (Below w.heap.size w wr))
    case atStart => exact ⟨0, Nat.zero_le _, by omega, rfl, (show Aside _ from hG1.congr fun i j hi hj => by unfold tabM; rw [if_neg (by omega)]), hb1⟩
    case round =>
      obtain ⟨ii, hii, hg, rfl, AG, AW⟩ := hrel
      have hG := AG.out
      have hW := AW.out
      clear AG AW
      by_cases hlt : ii < N
      · have hltz : (ii : Int) < (N : Int) := by omega
        obtain ⟨hy1, hy2⟩ := hto ii hlt
        have hx1 := hc1 ii hlt
        have hx2 := hc2 ii hlt
        obtain ⟨y, hy⟩ : ∃ y, tw ii = y := ⟨_, rfl⟩
        obtain ⟨p, hp⟩ : ∃ p, pw ii = p := ⟨_, rfl⟩
        have hput := tabM_put tw pw ii
        rw [hy] at hy1 hx1 hput
        rw [hp] at hy2 hx2 hput
        obtain ⟨x, hx⟩ : ∃ x, Num.w (p % 8) = x := ⟨_, rfl⟩
        rw [hx] at hput
        have hH : Hid (put2 (tabM tw pw ii) y ii x = tabM tw pw (ii + 1)) := hput
        have hyz : (y : Int) < (N : Int) := by omega
        have cTw : ∀ i, wr.cell? ⟨T, i, none⟩ = _ := (hTB.below hW).cells
        have d1 := keep_cell (p := ⟨ta, ii, none⟩) hW hta hx1
        have d2 := keep_cell (p := ⟨pa, ii, none⟩) hW hpa hx2
        have d3 := hG.head_at hy1
        have c2 : wr.cell? ⟨T, 2, none⟩ = some (.slice (some ⟨pa, 0, none⟩) N pc) := cTw 2
        have H28 := f28_w p x (by omega) hx
        have lTw : T < wr.heap.size := (hTB.below hW).lt
        have hpw : pa < wr.heap.size := Nat.lt_of_lt_of_le hpa hW.size
        have hbw := hG.lt
        clear hx hput hy hp hto hc1 hc2 cT
        go_wp2_with (fail)
        refine Calm.wp_region_calm 14 [] (by kernel_rfl) (by kernel_rfl) (by decide) (fun w' => Below wr.heap.size wr w') (0) (fun _ _ => Nat.zero_le _) (Below.refl _ _).drew ?_
        show Calm.WalkI _ _ _ _ _ _ [0, 1, 2, 3, 4, 5, 6, 7, 8, 9, 10, 11, 12, 13] _ _
        iterate 12
          refine Calm.calm_step rfl rfl rfl ?_; apply Exists.intro; refine ⟨fun w' hw' => ?_, ?_⟩
          · have d3' := keep_cell (p := ⟨b, y, none⟩) hw' hbw d3
            have c2' := keep_cell (p := ⟨T, 2, none⟩) hw' lTw c2
            have d2' := keep_cell (p := ⟨pa, ii, none⟩) hw' hpw d2
            apply Calm.calm_value
            go_simp
            exact rfl
          intro K hK; go_simp; refine hK _ ?_; clear hK K
        refine Calm.calm_step rfl rfl rfl ?_; apply Exists.intro; refine ⟨fun w' hw' => ?_, ?_⟩
        · have d3' := keep_cell (p := ⟨b, y, none⟩) hw' hbw d3
          have c2' := keep_cell (p := ⟨T, 2, none⟩) hw' lTw c2
          have d2' := keep_cell (p := ⟨pa, ii, none⟩) hw' hpw d2
          apply Calm.calm_call
          · go_simp
            exact ⟨rfl, rfl⟩
          refine (H28 w').mono ?_
          rintro e w'' ⟨rfl, hb⟩
          exact ⟨rfl, hb, bt hw' hb⟩
        intro K hK; go_simp; refine hK _ ?_; clear hK K
        iterate 1
          refine Calm.calm_step rfl rfl rfl ?_; apply Exists.intro; refine ⟨fun w' hw' => ?_, ?_⟩
          · have d3' := keep_cell (p := ⟨b, y, none⟩) hw' hbw d3
            have c2' := keep_cell (p := ⟨T, 2, none⟩) hw' lTw c2
            have d2' := keep_cell (p := ⟨pa, ii, none⟩) hw' hpw d2
            apply Calm.calm_value
            go_simp
            exact rfl
          intro K hK; go_simp; refine hK _ ?_; clear hK K
        refine Calm.calm_end_lit (fun wk hk => ?_)
        simp only [List.drop_succ_cons, List.drop_zero]
        obtain ⟨hBk, _, _⟩ := hk
        have hG3 := hG.below hBk
        have hW3 := bt hW hBk
        have hR3 := (hG3.row y hy1).2
        have hn3 := hR3.numAt hlt
        have hf3 := hR3.frozen
        have hl3 := hR3.lt
        obtain ⟨y0, y1, y2, y3, y4⟩ := hn3
        go_wp2_with (fail)
        have hF : Grid (setNum wk (rb y) ii x) w.heap.size b N N rb rc (tabM tw pw (ii + 1)) := by
          have h := hG3.put hy1 ii x
          rw [← hH.out]
          exact h
        go_roundg (N - (ii + 1))
        case measure => omega
        case rel => exact ⟨ii + 1, by omega, by omega, by go_num, (show Aside _ from hF), (show Aside _ from below_setNum hW3 (hG3.row y hy1).1 ii x)⟩
      · have hltz : ¬ (ii : Int) < (N : Int) := by omega
        obtain rfl : ii = N := by omega
        clear hlt
        go_wp2_with (fail)
        go_ret
        exact ⟨b, c, rb, rc, rfl, hG, hW⟩
  · go_enter Tryz.func10, Tryz.ntmps10
    go_wp2_with (go_at_call 49; refine (f49_any N _ (by omega) hN6).mono ?_; rintro e w1 ⟨b, c, rb, rc, rfl, hG1, hb1⟩; have cT1 := (hTB.below hb1).cells)
    go_loopg [19] N (fun gg s19 wr => ∃ ii : Nat, ii ≤ N ∧ N - ii ≤ gg ∧ s19 = .int .i64 ii ∧ Aside (Grid wr w.heap.size b N N rb rc (tabB tw pw ii)) ∧ Aside (Below w.heap.size w wr))
    case atStart => exact ⟨0, Nat.zero_le _, by omega, rfl, (show Aside _ from hG1.congr fun i j hi hj => by unfold tabB; rw [if_neg (by omega)]), hb1⟩
    case round =>
      obtain ⟨ii, hii, hg, rfl, AG, AW⟩ := hrel
      have hG := AG.out
      have hW := AW.out
      clear AG AW
      by_cases hlt : ii < N
      · have hltz : (ii : Int) < (N : Int) := by omega
        obtain ⟨hy1, hy2⟩ := hto ii hlt
        have hx1 := hc1 ii hlt
        have hx2 := hc2 ii hlt
        obtain ⟨y, hy⟩ : ∃ y, tw ii = y := ⟨_, rfl⟩
        obtain ⟨p, hp⟩ : ∃ p, pw ii = p := ⟨_, rfl⟩
        have hput := tabB_put tw pw ii
        rw [hy] at hy1 hx1 hput
        rw [hp] at hy2 hx2 hput
        obtain ⟨x, hx⟩ : ∃ x, Num.w ((8 - p) % 8) = x := ⟨_, rfl⟩
        rw [hx] at hput
        have hH : Hid (put2 (tabB tw pw ii) ii y x = tabB tw pw (ii + 1)) := hput
        have hyz : (y : Int) < (N : Int) := by omega
        have cTw : ∀ i, wr.cell? ⟨T, i, none⟩ = _ := (hTB.below hW).cells
        have d1 := keep_cell (p := ⟨ta, ii, none⟩) hW hta hx1
        have d2 := keep_cell (p := ⟨pa, ii, none⟩) hW hpa hx2
        have d3 := hG.head_at hlt
        have c2 : wr.cell? ⟨T, 2, none⟩ = some (.slice (some ⟨pa, 0, none⟩) N pc) := cTw 2
        have H28 := f28_w (8 - p) x (by omega) hx
        have lTw : T < wr.heap.size := (hTB.below hW).lt
        have hpw : pa < wr.heap.size := Nat.lt_of_lt_of_le hpa hW.size
        have hbw := hG.lt
        have e8 : IntKind.i64.wrap (8 - (p : Int)) = ((8 - p : Nat) : Int) := by rw [IntKind.wrap_i64]; omega
        clear hx hput hy hp hto hc1 hc2 cT
        go_wp2_with (fail)
        refine Calm.wp_region_calm 15 [] (by kernel_rfl) (by kernel_rfl) (by decide) (fun w' => Below wr.heap.size wr w') (0) (fun _ _ => Nat.zero_le _) (Below.refl _ _).drew ?_
        show Calm.WalkI _ _ _ _ _ _ [0, 1, 2, 3, 4, 5, 6, 7, 8, 9, 10, 11, 12, 13, 14] _ _
        iterate 13
          refine Calm.calm_step rfl rfl rfl ?_; apply Exists.intro; refine ⟨fun w' hw' => ?_, ?_⟩
          · have d3' := keep_cell (p := ⟨b, ii, none⟩) hw' hbw d3
            have c2' := keep_cell (p := ⟨T, 2, none⟩) hw' lTw c2
            have d2' := keep_cell (p := ⟨pa, ii, none⟩) hw' hpw d2
            apply Calm.calm_value
            go_simp
            exact rfl
          intro K hK; go_simp; refine hK _ ?_; clear hK K
        refine Calm.calm_step rfl rfl rfl ?_; apply Exists.intro; refine ⟨fun w' hw' => ?_, ?_⟩
        · have d3' := keep_cell (p := ⟨b, ii, none⟩) hw' hbw d3
          have c2' := keep_cell (p := ⟨T, 2, none⟩) hw' lTw c2
          have d2' := keep_cell (p := ⟨pa, ii, none⟩) hw' hpw d2
          apply Calm.calm_call
          · go_simp
            exact ⟨rfl, rfl⟩
          refine (H28 w').mono ?_
          rintro e w'' ⟨rfl, hb⟩
          exact ⟨rfl, hb, bt hw' hb⟩
        intro K hK; go_simp; refine hK _ ?_; clear hK K
        iterate 1
          refine Calm.calm_step rfl rfl rfl ?_; apply Exists.intro; refine ⟨fun w' hw' => ?_, ?_⟩
          · have d3' := keep_cell (p := ⟨b, ii, none⟩) hw' hbw d3
            have c2' := keep_cell (p := ⟨T, 2, none⟩) hw' lTw c2
            have d2' := keep_cell (p := ⟨pa, ii, none⟩) hw' hpw d2
            apply Calm.calm_value
            go_simp
            exact rfl
          intro K hK; go_simp; refine hK _ ?_; clear hK K
        refine Calm.calm_end_lit (fun wk hk => ?_)
        simp only [List.drop_succ_cons, List.drop_zero]
        obtain ⟨hBk, _, _⟩ := hk
        have hG3 := hG.below hBk
        have hW3 := bt hW hBk
        have hR3 := (hG3.row ii hlt).2
        have hn3 := hR3.numAt hy1
        have hf3 := hR3.frozen
        have hl3 := hR3.lt
        obtain ⟨y0, y1, y2, y3, y4⟩ := hn3
        go_wp2_with (fail)
        have hF : Grid (setNum wk (rb ii) y x) w.heap.size b N N rb rc (tabB tw pw (ii + 1)) := by
          have h := hG3.put hlt y x
          rw [← hH.out]
          exact h
        go_roundg (N - (ii + 1))
        case measure => omega
        case rel => exact ⟨ii + 1, by omega, by omega, by go_num, (show Aside _ from hF), (show Aside _ from below_setNum hW3 (hG3.row ii hlt).1 y x)⟩
      · have hltz : ¬ (ii : Int) < (N : Int) := by omega
        obtain rfl : ii = N := by omega
        clear hlt
        go_wp2_with (fail)
        go_ret
        exact ⟨b, c, rb, rc, rfl, hG, hW⟩
end
section
open Go.RowKit
attribute [local go_sem ↓] Go.wp_at_zero Go.wp_at_succ
/-- the values of the first k wires of a list -/
def inK (ls : List Nat) (x : Nat) : Nat → Nat
  | 0 => 0
  | k + 1 => inK ls x k ||| (x / 2 ^ ls.getD k 0 % 2) * 2 ^ k
/-- a basis state without them -/
def restK (ls : List Nat) (x : Nat) : Nat → Nat
  | 0 => x
  | k + 1 => andNot (restK ls x k) (2 ^ ls.getD k 0)
/-- a basis state with the bits of t on the first k wires -/
def outK (ls : List Nat) (r t : Nat) : Nat → Nat
  | 0 => r
  | k + 1 => outK ls r t k ||| (t / 2 ^ k % 2) * 2 ^ ls.getD k 0
theorem inK_lt (ls : List Nat) (x : Nat) : ∀ k, inK ls x k < 2 ^ k
  | 0 => by simp [inK]
  | k + 1 => by
    have h := inK_lt ls x k
    refine Nat.or_lt_two_pow (Nat.lt_of_lt_of_le h (Nat.pow_le_pow_right (by decide) (by omega))) ?_
    have h2 : x / 2 ^ ls.getD k 0 % 2 < 2 := Nat.mod_lt _ (by decide)
    rw [Nat.pow_succ]
    have hp := Nat.two_pow_pos k
    obtain h3 | h3 : x / 2 ^ ls.getD k 0 % 2 = 0 ∨ x / 2 ^ ls.getD k 0 % 2 = 1 := by omega
    · rw [h3]; omega
    · rw [h3]; omega
theorem restK_le (ls : List Nat) (x : Nat) : ∀ k, restK ls x k ≤ x
  | 0 => Nat.le_refl _
  | k + 1 => Nat.le_trans Nat.and_le_left (restK_le ls x k)
theorem outK_lt (ls : List Nat) (r t W : Nat) (hr : r < 2 ^ W) (n : Nat) (hl : ∀ k, k < n → ls.getD k 0 < W) : ∀ k, k ≤ n → outK ls r t k < 2 ^ W
  | 0, _ => hr
  | k + 1, hk => by
    refine Nat.or_lt_two_pow (outK_lt ls r t W hr n hl k (by omega)) ?_
    have h2 : t / 2 ^ k % 2 < 2 := Nat.mod_lt _ (by decide)
    have hp : 2 ^ ls.getD k 0 < 2 ^ W := Nat.pow_lt_pow_right (by decide) (hl k (by omega))
    obtain h3 | h3 : t / 2 ^ k % 2 = 0 ∨ t / 2 ^ k % 2 = 1 := by omega
    · rw [h3]; omega
    · rw [h3]; omega
/-- where a basis state of W wires goes -/
def sprT (ls : List Nat) (n : Nat) (tw : Nat → Nat) (x : Nat) : Nat := outK ls (restK ls x n) (tw (inK ls x n)) n
def sprP (ls : List Nat) (n : Nat) (pw : Nat → Nat) (x : Nat) : Nat := pw (inK ls x n)
theorem tabM_put' (tw pw : Nat → Nat) (kk y p : Nat) (hy : tw kk = y) (hp : pw kk = p) : put2 (tabM tw pw kk) y kk (Num.w (p % 8)) = tabM tw pw (kk + 1) := by
  subst hy hp
  exact tabM_put tw pw kk
set_option maxHeartbeats 1000000 in
set_option maxRecDepth 100000 in
theorem f12_any (lo T n N W NN lb lc : Nat) (ls : List Nat) (tw pw : Nat → Nat) (gs : List Gt) (w : World) (h1 : 1 ≤ n) (h2 : n ≤ W) (h3 : W ≤ 6) (hN : Hid (2 ^ n = N)) (hNN : Hid (2 ^ W = NN)) (hT : TableAt w lo T n N tw pw gs) (hto : ∀ i, i < N → tw i < N ∧ pw i < 8)
    (hl : ∀ k, k < n → ls.getD k 0 < W) (hlb : lb < w.heap.size) (hlc : ∀ k, k < n → w.cell? ⟨lb, k, none⟩ = some (.int .i64 (ls.getD k 0))) :
    Calls Tryz.prog 12 #[.pointer (some ⟨T, 0, none⟩), .slice (some ⟨lb, 0, none⟩) n lc, .int .i64 W] w (RowsPost NN (tabM (sprT ls n tw) (sprP ls n pw) NN) w) := by
  have hNb := pow6 W (by omega) h3
  have hw := w64s W h3
  rw [hNN.out] at hNb hw
  obtain ⟨hN2, hN6⟩ := hNb
  have hNle : N ≤ 64 := by have := pow6 n h1 (by omega); rw [hN.out] at this; omega
  obtain ⟨⟨ta, tc, pa, pc, gv, _, _, _, hta, hpa, hTB, hc1, hc2, _⟩⟩ := hT
  have cT := hTB.cells
  have lT := hTB.lt
  have hn6 : n ≤ 6 := by omega
  clear h2
  go_enter Tryz.func12, Tryz.ntmps12
  go_wp2_with (go_at_call 49; refine (f49_any NN _ (by omega) hN6).mono ?_; rintro e w1 ⟨b, c, rb, rc, rfl, hG1, hb1⟩)
  rw [hw]
  go_loopg [20] NN (fun gg s20 wr => ∃ ii : Nat, ii ≤ NN ∧ NN - ii ≤ gg ∧ s20 = .int .i64 ii ∧ Aside (Grid wr w.heap.size b NN NN rb rc (tabM (sprT ls n tw) (sprP ls n pw) ii)) ∧ Aside (Below w.heap.size w wr))
  case atStart => exact ⟨0, Nat.zero_le _, by omega, rfl, (show Aside _ from hG1.congr fun i j hi hj => by unfold tabM; rw [if_neg (by omega)]), hb1⟩
  case round =>
    obtain ⟨x, hii, hg, rfl, AG, AW⟩ := hrel
    have hG := AG.out
    have hW := AW.out
    clear AG AW
    by_cases hlt : x < NN
    · have hltz : (x : Int) < (NN : Int) := by omega
      have hx64 : x < 64 := by omega
      have hlcw : ∀ k, k < n → wr.cell? ⟨lb, k, none⟩ = some (.int .i64 (ls.getD k 0)) := fun k hk => keep_cell (p := ⟨lb, k, none⟩) hW hlb (hlc k hk)
      have HC : Aside (∀ k, k < n → wr.cell? ⟨lb, k, none⟩ = some (.int .i64 (ls.getD k 0))) := hlcw
      clear hlcw
      go_wp2_with (fail)
      go_loopg [9, 10, 26] n (fun gg s9 s10 s26 wq => ∃ kk : Nat, kk ≤ n ∧ n - kk ≤ gg ∧ s9 = .int .i64 (inK ls x kk) ∧ s10 = .int .i64 (restK ls x kk) ∧ s26 = .int .i64 kk ∧ Aside (wq = wr))
      case atStart => exact ⟨0, Nat.zero_le _, by omega, rfl, rfl, rfl, (show Aside _ from rfl)⟩
      case round =>
        obtain ⟨kk, hkk, hg', rfl, rfl, rfl, AE⟩ := hrel
        obtain rfl := AE.out
        clear AE
        by_cases hlt' : kk < n
        · have hltz' : (kk : Int) < (n : Int) := by omega
          have hcl := HC.out kk hlt'
          have hwl := hl kk hlt'
          have hi1 := inK_lt ls x kk
          have hi2 : 2 ^ kk ≤ 32 := pw6 kk (by omega)
          have hr1 := restK_le ls x kk
          have hinS : inK ls x (kk + 1) = inK ls x kk ||| (x / 2 ^ ls.getD kk 0 % 2) * 2 ^ kk := rfl
          have hreS : restK ls x (kk + 1) = andNot (restK ls x kk) (2 ^ ls.getD kk 0) := rfl
          obtain ⟨q, hq⟩ : ∃ q, ls.getD kk 0 = q := ⟨_, rfl⟩
          rw [hq] at hcl hwl hinS hreS
          obtain ⟨a, ha⟩ : ∃ a, x / 2 ^ q % 2 = a := ⟨_, rfl⟩
          rw [ha] at hinS
          have ha2 : a < 2 := by omega
          have hx2 : x / 2 ^ q ≤ x := Nat.div_le_self _ _
          have e1 : bits BinOp.and IntKind.i64 ((x : Int) / 2 ^ q) 1 = (a : Int) := by
            rw [show ((x : Int) / 2 ^ q) = ((x / 2 ^ q : Nat) : Int) from by simp]
            have := i64_and (x / 2 ^ q) 1 (by omega) (by omega)
            rw [Nat.and_one_is_mod, ha] at this
            exact this
          have e2 := w64m a kk ha2 (by omega)
          have e3 := i64_or (inK ls x kk) (a * 2 ^ kk) (by omega) (w64b a kk ha2 (by omega))
          have e4 := w64p q (by omega)
          have e5 := i64_andNot (restK ls x kk) (2 ^ q) (by omega) (by have := pw6 q (by omega); omega)
          rw [← hinS] at e3
          rw [← hreS] at e5
          obtain ⟨i', hi'⟩ : ∃ i', inK ls x (kk + 1) = i' := ⟨_, rfl⟩
          obtain ⟨r', hr'⟩ : ∃ r', restK ls x (kk + 1) = r' := ⟨_, rfl⟩
          rw [hi'] at e3
          rw [hr'] at e5
          obtain ⟨m1, hm1⟩ : ∃ m, a * 2 ^ kk = m := ⟨_, rfl⟩
          obtain ⟨m2, hm2⟩ : ∃ m, 2 ^ q = m := ⟨_, rfl⟩
          rw [hm1] at e2 e3
          rw [hm2] at e4 e5
          clear hm1 hm2
          have hiH : Hid (inK ls x (kk + 1) = i') := hi'
          have hrH : Hid (restK ls x (kk + 1) = r') := hr'
          obtain ⟨i0, hi0⟩ : ∃ i0, inK ls x kk = i0 := ⟨_, rfl⟩
          obtain ⟨r0, hr0⟩ : ∃ r0, restK ls x kk = r0 := ⟨_, rfl⟩
          rw [hi0] at e3 hi1
          rw [hr0] at e5 hr1
          rw [hi0, hr0]
          clear hi' hr' hi0 hr0 hq ha hinS hreS hx2 hto hc1 hc2 cT
          go_wp2_with (fail)
          go_roundg (n - (kk + 1))
          case measure => omega
          case rel => exact ⟨kk + 1, by omega, by omega, congrArg (fun z : Nat => Value.int .i64 (z : Int)) hiH.out.symm, congrArg (fun z : Nat => Value.int .i64 (z : Int)) hrH.out.symm, by go_num, (show Aside _ from rfl)⟩
        · have hltz' : ¬ (kk : Int) < (n : Int) := by omega
          obtain rfl : kk = n := by omega
          have hq0 := inK_lt ls x kk
          rw [hN.out] at hq0
          have hr0 := restK_le ls x kk
          obtain ⟨hy1, hp1⟩ := hto _ hq0
          have hx1 := hc1 _ hq0
          have hx2 := hc2 _ hq0
          have hyW : sprT ls kk tw x = outK ls (restK ls x kk) (tw (inK ls x kk)) kk := rfl
          have hpW : sprP ls kk pw x = pw (inK ls x kk) := rfl
          obtain ⟨q, hq⟩ : ∃ q, inK ls x kk = q := ⟨_, rfl⟩
          obtain ⟨r, hr⟩ : ∃ r, restK ls x kk = r := ⟨_, rfl⟩
          rw [hq] at hq0 hy1 hp1 hx1 hx2 hyW hpW
          rw [hr] at hr0 hyW
          obtain ⟨t, ht⟩ : ∃ t, tw q = t := ⟨_, rfl⟩
          obtain ⟨p, hp⟩ : ∃ p, pw q = p := ⟨_, rfl⟩
          rw [ht] at hy1 hx1 hyW
          rw [hp] at hp1 hx2 hpW
          rw [hq, hr]
          have hyH : Hid (sprT ls kk tw x = outK ls r t kk) := hyW
          have hpH : Hid (sprP ls kk pw x = p) := hpW
          have cTw : ∀ i, wr.cell? ⟨T, i, none⟩ = _ := (hTB.below hW).cells
          have c1 : wr.cell? ⟨T, 1, none⟩ = some (.slice (some ⟨ta, 0, none⟩) N tc) := cTw 1
          have c2 : wr.cell? ⟨T, 2, none⟩ = some (.slice (some ⟨pa, 0, none⟩) N pc) := cTw 2
          have d1 := keep_cell (p := ⟨ta, q, none⟩) hW hta hx1
          have d2 := keep_cell (p := ⟨pa, q, none⟩) hW hpa hx2
          have lTw : T < wr.heap.size := (hTB.below hW).lt
          have hpw : pa < wr.heap.size := Nat.lt_of_lt_of_le hpa hW.size
          have hqz : (q : Int) < (N : Int) := by omega
          have hrN : r < 2 ^ W := by rw [hNN.out]; omega
          clear hq hr ht hp hyW hpW cT cTw hlt' hto hc1 hc2
          go_wp2_with (fail)
          go_loopg [10, 46] kk (fun gg s10 s46 wq => ∃ jj : Nat, jj ≤ kk ∧ kk - jj ≤ gg ∧ s10 = .int .i64 (outK ls r t jj) ∧ s46 = .int .i64 jj ∧ Aside (wq = wr))
          case atStart => exact ⟨0, Nat.zero_le _, by omega, rfl, rfl, (show Aside _ from rfl)⟩
          case round =>
            obtain ⟨jj, hjj, hg'', rfl, rfl, AE⟩ := hrel
            obtain rfl := AE.out
            clear AE
            have ho1 := outK_lt ls r t W hrN kk hl jj hjj
            rw [hNN.out] at ho1
            by_cases hltj : jj < kk
            · have hltzj : (jj : Int) < (kk : Int) := by omega
              have hcl := HC.out jj hltj
              have hwl := hl jj hltj
              have hoS : outK ls r t (jj + 1) = outK ls r t jj ||| (t / 2 ^ jj % 2) * 2 ^ ls.getD jj 0 := rfl
              obtain ⟨v, hv⟩ : ∃ v, ls.getD jj 0 = v := ⟨_, rfl⟩
              rw [hv] at hcl hwl hoS
              obtain ⟨a, ha⟩ : ∃ a, t / 2 ^ jj % 2 = a := ⟨_, rfl⟩
              rw [ha] at hoS
              have ha2 : a < 2 := by omega
              have hx2 : t / 2 ^ jj ≤ t := Nat.div_le_self _ _
              have e1 : bits BinOp.and IntKind.i64 ((t : Int) / 2 ^ jj) 1 = (a : Int) := by
                rw [show ((t : Int) / 2 ^ jj) = ((t / 2 ^ jj : Nat) : Int) from by simp]
                have := i64_and (t / 2 ^ jj) 1 (by omega) (by omega)
                rw [Nat.and_one_is_mod, ha] at this
                exact this
              have e2 := w64m a v ha2 (by omega)
              have e3 := i64_or (outK ls r t jj) (a * 2 ^ v) (by omega) (w64b a v ha2 (by omega))
              rw [← hoS] at e3
              obtain ⟨i', hi'⟩ : ∃ i', outK ls r t (jj + 1) = i' := ⟨_, rfl⟩
              rw [hi'] at e3
              obtain ⟨m1, hm1⟩ : ∃ m, a * 2 ^ v = m := ⟨_, rfl⟩
              rw [hm1] at e2 e3
              clear hm1
              have hiH : Hid (outK ls r t (jj + 1) = i') := hi'
              obtain ⟨i0, hi0⟩ : ∃ i0, outK ls r t jj = i0 := ⟨_, rfl⟩
              rw [hi0] at e3 ho1
              rw [hi0]
              clear hi' hi0 hv ha hoS hx2
              go_wp2_with (fail)
              go_roundg (kk - (jj + 1))
              case measure => omega
              case rel => exact ⟨jj + 1, by omega, by omega, congrArg (fun z : Nat => Value.int .i64 (z : Int)) hiH.out.symm, by go_num, (show Aside _ from rfl)⟩
            · have hltzj : ¬ (jj : Int) < (kk : Int) := by omega
              obtain rfl : jj = kk := by omega
              obtain ⟨y, hy⟩ : ∃ y, outK ls r t jj = y := ⟨_, rfl⟩
              rw [hy] at ho1
              have hput := tabM_put' (sprT ls jj tw) (sprP ls jj pw) x y p (hyH.out.trans hy) hpH.out
              rw [hy]
              obtain ⟨z, hz⟩ : ∃ z, Num.w (p % 8) = z := ⟨_, rfl⟩
              rw [hz] at hput
              have hH : Hid (put2 (tabM (sprT ls jj tw) (sprP ls jj pw) x) y x z = tabM (sprT ls jj tw) (sprP ls jj pw) (x + 1)) := hput
              have hyz : (y : Int) < (NN : Int) := by omega
              have d3 := hG.head_at ho1
              have H28 := f28_w p z (by omega) hz
              have hbw := hG.lt
              clear hz hput hy
              go_wp2_with (fail)
              refine Calm.wp_region_calm 14 [] (by kernel_rfl) (by kernel_rfl) (by decide) (fun w' => Below wr.heap.size wr w') (0) (fun _ _ => Nat.zero_le _) (Below.refl _ _).drew ?_
              show Calm.WalkI _ _ _ _ _ _ [0, 1, 2, 3, 4, 5, 6, 7, 8, 9, 10, 11, 12, 13] _ _
              iterate 12
                refine Calm.calm_step rfl rfl rfl ?_; apply Exists.intro; refine ⟨fun w' hw' => ?_, ?_⟩
                · have d3' := keep_cell (p := ⟨b, y, none⟩) hw' hbw d3
                  have c2' := keep_cell (p := ⟨T, 2, none⟩) hw' lTw c2
                  have d2' := keep_cell (p := ⟨pa, q, none⟩) hw' hpw d2
                  apply Calm.calm_value
                  go_simp
                  exact rfl
                intro K hK; go_simp; refine hK _ ?_; clear hK K
              refine Calm.calm_step rfl rfl rfl ?_; apply Exists.intro; refine ⟨fun w' hw' => ?_, ?_⟩
              · have d3' := keep_cell (p := ⟨b, y, none⟩) hw' hbw d3
                have c2' := keep_cell (p := ⟨T, 2, none⟩) hw' lTw c2
                have d2' := keep_cell (p := ⟨pa, q, none⟩) hw' hpw d2
                apply Calm.calm_call
                · go_simp
                  exact ⟨rfl, rfl⟩
                refine (H28 w').mono ?_
                rintro e w'' ⟨rfl, hb⟩
                exact ⟨rfl, hb, bt hw' hb⟩
              intro K hK; go_simp; refine hK _ ?_; clear hK K
              iterate 1
                refine Calm.calm_step rfl rfl rfl ?_; apply Exists.intro; refine ⟨fun w' hw' => ?_, ?_⟩
                · have d3' := keep_cell (p := ⟨b, y, none⟩) hw' hbw d3
                  have c2' := keep_cell (p := ⟨T, 2, none⟩) hw' lTw c2
                  have d2' := keep_cell (p := ⟨pa, q, none⟩) hw' hpw d2
                  apply Calm.calm_value
                  go_simp
                  exact rfl
                intro K hK; go_simp; refine hK _ ?_; clear hK K
              refine Calm.calm_end_lit (fun wk hk => ?_)
              simp only [List.drop_succ_cons, List.drop_zero]
              obtain ⟨hBk, _, _⟩ := hk
              have hG3 := hG.below hBk
              have hW3 := bt hW hBk
              have hR3 := (hG3.row y ho1).2
              have hn3 := hR3.numAt hlt
              have hf3 := hR3.frozen
              have hl3 := hR3.lt
              obtain ⟨y0, y1, y2, y3, y4⟩ := hn3
              go_wp2_with (fail)
              have hF : Grid (setNum wk (rb y) x z) w.heap.size b NN NN rb rc (tabM (sprT ls jj tw) (sprP ls jj pw) (x + 1)) := by
                have h := hG3.put ho1 x z
                rw [← hH.out]
                exact h
              go_roundg (NN - (x + 1))
              case measure => omega
              case rel => exact ⟨x + 1, by omega, by omega, by go_num, (show Aside _ from hF), (show Aside _ from below_setNum hW3 (hG3.row y ho1).1 x z)⟩
    · have hltz : ¬ (x : Int) < (NN : Int) := by omega
      obtain rfl : x = NN := by omega
      clear hlt
      go_wp2_with (fail)
      go_ret
      exact ⟨b, c, rb, rc, rfl, hG, hW⟩
end
section
open Go.RowKit
attribute [local go_sem ↓] Go.wp_at_zero Go.wp_at_succ
set_option maxHeartbeats 1000000 in
set_option maxRecDepth 100000 in
theorem f37_same (b off b' off' n c c' : Nat) (x : Nat → Num) (w : World) (hn : n ≤ 64) (lb : b < w.heap.size) (lb' : b' < w.heap.size) (h1 : ∀ j, j < n → NumAt w b (off + j * 5) (x j)) (h2 : ∀ j, j < n → NumAt w b' (off' + j * 5) (x j)) :
    Calls Tryz.prog 37 #[.slice (some ⟨b, off, none⟩) n c, .slice (some ⟨b', off', none⟩) n c'] w fun e w' => e = .returned (.bool true) ∧ Below w.heap.size w w' := by
  go_enter Tryz.func37, Tryz.ntmps37
  go_wp2
  go_loopg [13] n (fun gg s13 wr => ∃ kk : Nat, kk ≤ n ∧ n - kk ≤ gg ∧ s13 = .int .i64 kk ∧ Aside (Below w.heap.size w wr))
  case atStart => exact ⟨0, Nat.zero_le _, by omega, rfl, (show Aside _ from Below.refl _ _)⟩
  case round =>
    obtain ⟨kk, hkk, hg, rfl, AW⟩ := hrel
    have hW := AW.out
    clear AW
    by_cases hlt : kk < n
    · have hltz : (kk : Int) < (n : Int) := by omega
      obtain ⟨a0, a1, a2, a3, a4⟩ := (h1 kk hlt).below hW lb
      obtain ⟨b0, b1, b2, b3, b4⟩ := (h2 kk hlt).below hW lb'
      obtain ⟨y, hy⟩ : ∃ y, x kk = y := ⟨_, rfl⟩
      rw [hy] at a0 a1 a2 a3 a4 b0 b1 b2 b3 b4
      clear hy h1 h2
      go_wp2
      go_still_tail 8, (by kernel_rfl)
      change wpList _ _ _ _ _ wr.drew
      go_wp2
      go_roundg (n - (kk + 1))
      case measure => omega
      case rel => exact ⟨kk + 1, by omega, by omega, by go_num, (show Aside _ from hW.drew)⟩
    · have hltz : ¬ (kk : Int) < (n : Int) := by omega
      clear hlt
      go_wp2
      go_ret
      exact ⟨rfl, hW⟩
set_option maxHeartbeats 1000000 in
set_option maxRecDepth 100000 in
theorem f51_same (b off b' off' n c c' : Nat) (x : Nat → Num) (w : World) (hn : n ≤ 64) (lb : b < w.heap.size) (lb' : b' < w.heap.size) (h1 : ∀ j, j < n → NumAt w b (off + j * 5) (x j)) (h2 : ∀ j, j < n → NumAt w b' (off' + j * 5) (x j)) :
    Calls Tryz.prog 51 #[.slice (some ⟨b, off, none⟩) n c, .slice (some ⟨b', off', none⟩) n c'] w fun e w' => e = .returned (.bool true) ∧ Below w.heap.size w w' := by
  have H := f37_same b off b' off' n c c' x w hn lb lb' h1 h2
  clear h1 h2
  go_enter Tryz.func51, Tryz.ntmps51
  go_wp2_with (go_at_call 37; refine H.mono ?_; rintro e w' ⟨rfl, hb⟩)
  go_ret
  exact ⟨rfl, hb⟩
set_option maxHeartbeats 1000000 in
set_option maxRecDepth 100000 in
theorem f50_same {A A' : Option Addr} {h n : Nat} {M : Nat → Nat → Num} (c c' : Nat) (w : World) (H1 : Mat w A h n M) (H2 : Mat w A' h n M) :
    Calls Tryz.prog 50 #[.slice A h c, .slice A' h c', .func (.func 51) #[] #[]] w fun e w' => e = .returned (.bool true) ∧ Below w.heap.size w w' := by
  have e51 : ∀ args w, (callFunc 51 args).run Tryz.prog w = .ok (.enter 51 args) w := enters_of Tryz.func51 (by kernel_rfl) rfl
  obtain ⟨b, off, rb, ro, rc, rfl, H1⟩ := H1
  obtain ⟨b', off', rb', ro', rc', rfl, H2⟩ := H2
  have hd := H1.dims.2.1
  have hd2 := H1.dims.2.2.2
  go_enter Tryz.func50, Tryz.ntmps50
  go_wp2
  go_loopg [17] h (fun gg s17 wr => ∃ kk : Nat, kk ≤ h ∧ h - kk ≤ gg ∧ s17 = .int .i64 kk ∧ Aside (Below w.heap.size w wr))
  case atStart => exact ⟨0, Nat.zero_le _, by omega, rfl, (show Aside _ from Below.refl _ _)⟩
  case round =>
    obtain ⟨kk, hkk, hg, rfl, AW⟩ := hrel
    have hW := AW.out
    clear AW
    by_cases hlt : kk < h
    · have hltz : (kk : Int) < (h : Int) := by omega
      have G1 := H1.below hW
      have G2 := H2.below hW
      obtain ⟨g1, g2⟩ := G1.row kk hlt
      obtain ⟨g3, g4⟩ := G2.row kk hlt
      have H51 := f51_same (rb kk) (ro kk) (rb' kk) (ro' kk) n (rc kk) (rc' kk) (M kk) wr hd2 g2 g4 (fun j hj => G1.num kk j hlt hj) (fun j hj => G2.num kk j hlt hj)
      clear G1 G2
      go_wp2_with (go_at_fn 51; refine H51.mono ?_; rintro e w' ⟨rfl, hb⟩)
      go_roundg (h - (kk + 1))
      case measure => omega
      case rel => exact ⟨kk + 1, by omega, by omega, by go_num, (show Aside _ from bt hW hb)⟩
    · have hltz : ¬ (kk : Int) < (h : Int) := by omega
      clear hlt
      go_wp2
      go_ret
      exact ⟨rfl, hW⟩
set_option maxHeartbeats 1000000 in
set_option maxRecDepth 100000 in
theorem f11_same {A A' : Option Addr} {h n : Nat} {M N : Nat → Nat → Num} (c c' : Nat) (w : World) (H1 : Mat w A h n M) (H2 : Mat w A' h n N) (he : ∀ i j, i < h → j < n → M i j = N i j) :
    Calls Tryz.prog 11 #[.slice A h c, .slice A' h c'] w fun e w' => e = .returned (.bool true) ∧ Below w.heap.size w w' := by
  have H2' : Mat w A' h n M := by
    obtain ⟨b', off', rb', ro', rc', e, H2⟩ := H2
    exact ⟨b', off', rb', ro', rc', e, H2.dims, H2.lt, H2.row, fun i j hi hj => by rw [he i j hi hj]; exact H2.num i j hi hj⟩
  have H := f50_same c c' w H1 H2'
  clear H1 H2 H2' he
  go_enter Tryz.func11, Tryz.ntmps11
  go_wp2_with (go_at_call 50; refine H.mono ?_; rintro e w' ⟨rfl, hb⟩)
  go_ret
  exact ⟨rfl, hb⟩
end
section
open Go.RowKit
attribute [local go_sem ↓] Go.wp_at_zero Go.wp_at_succ
set_option maxHeartbeats 1000000 in
set_option maxRecDepth 100000 in
theorem f20_any (k N : Nat) (w : World) (h2 : k ≤ 6) (hN : Hid (2 ^ k = N)) :
    Calls Tryz.prog 20 #[.int .i64 k] w fun e w' => e = .returned (.tuple #[.slice (some ⟨w.heap.size, 0, none⟩) N N, .int .i64 0]) ∧ Filled w' w.heap.size N N (movN (fun k => k) N) ∧ Below w.heap.size w w' := by
  have hw := w64s k h2
  have hN6 : 2 ^ k ≤ 64 := Nat.pow_le_pow_right (n := 2) (by decide) h2
  rw [hN.out] at hN6 hw
  have hw2 : IntKind.i64.wrap (2 ^ k) = (N : Int) := by rw [IntKind.wrap_i64]; have h := hw; unfold wrap64 at h; exact h
  have hk1 : ¬ ((k : Int) < 0) := by omega
  have hk2 : ¬ ((6 : Int) < (k : Int)) := by omega
  go_enter Tryz.func20, Tryz.ntmps20
  go_wp2_with (fail)
  go_still_tail 4, (by kernel_rfl)
  change wpList _ _ _ _ _ w.drew
  go_wp2_with (go_at_call 64; refine (f64_any N N _ hN6 hN6).mono ?_; rintro e w1 ⟨rfl, hs1, hH1, hR1, hb1⟩; replace hb1 := of_drew hb1)
  have hF1 : Filled w1 w.heap.size N N (movN (fun k => k) 0) := by rw [movN_zero]; exact ⟨hH1, fun i hi => RowB.zero (hR1 i hi)⟩
  change Code.wp _ _ _ _ w1
  go_loopg [19] N (fun gg s19 wr => ∃ ii : Nat, ii ≤ N ∧ N - ii ≤ gg ∧ s19 = .int .i64 ii ∧ Aside (Filled wr w.heap.size N N (movN (fun k => k) ii)) ∧ Aside (Below w.heap.size w wr))
  case atStart => exact ⟨0, Nat.zero_le _, by omega, rfl, hF1, hb1⟩
  case round =>
    obtain ⟨ii, hii, hg, rfl, AG, AW⟩ := hrel
    have hG := AG.out
    have hW := AW.out
    clear AG AW
    by_cases hlt : ii < N
    · have hltz : (ii : Int) < (N : Int) := by omega
      have d3 := hG.head_at hlt
      have hbw := hG.head.lt
      go_wp2_with (fail)
      refine Calm.wp_region_calm 7 [] (by kernel_rfl) (by kernel_rfl) (by decide) (fun w' => Below wr.heap.size wr w') (0) (fun _ _ => Nat.zero_le _) (Below.refl _ _).drew ?_
      show Calm.WalkI _ _ _ _ _ _ [0, 1, 2, 3, 4, 5, 6] _ _
      iterate 5
        refine Calm.calm_step rfl rfl rfl ?_; apply Exists.intro; refine ⟨fun w' hw' => ?_, ?_⟩
        · have d3' := keep_cell (p := ⟨w.heap.size, ii, none⟩) hw' hbw d3
          apply Calm.calm_value
          go_simp
          exact rfl
        intro K hK; go_simp; refine hK _ ?_; clear hK K
      refine Calm.calm_step rfl rfl rfl ?_; apply Exists.intro; refine ⟨fun w' hw' => ?_, ?_⟩
      · have d3' := keep_cell (p := ⟨w.heap.size, ii, none⟩) hw' hbw d3
        apply Calm.calm_call
        · go_simp
          exact ⟨rfl, rfl⟩
        refine (f65_any w').mono ?_
        rintro e w'' ⟨rfl, hb⟩
        exact ⟨rfl, hb, bt hw' hb⟩
      intro K hK; go_simp; refine hK _ ?_; clear hK K
      iterate 1
        refine Calm.calm_step rfl rfl rfl ?_; apply Exists.intro; refine ⟨fun w' hw' => ?_, ?_⟩
        · have d3' := keep_cell (p := ⟨w.heap.size, ii, none⟩) hw' hbw d3
          apply Calm.calm_value
          go_simp
          exact rfl
        intro K hK; go_simp; refine hK _ ?_; clear hK K
      refine Calm.calm_end_lit (fun wk hk => ?_)
      simp only [List.drop_succ_cons, List.drop_zero]
      obtain ⟨hBk, _, _⟩ := hk
      have hG3 := hG.below hBk
      have hW3 := bt hW hBk
      have hR3 := hG3.row ii hlt
      have hn3 := hR3.numAt hlt
      have hf3 := hR3.frozen
      have hl3 := hR3.lt
      obtain ⟨y0, y1, y2, y3, y4⟩ := hn3
      go_wp2_with (fail)
      have hF := hG3.put hlt hlt (Num.w 0)
      rw [movN_put] at hF
      go_roundg (N - (ii + 1))
      case measure => omega
      case rel => exact ⟨ii + 1, by omega, by omega, by go_num, (show Aside _ from hF), (show Aside _ from below_setNum hW3 (by omega) ii (Num.w 0))⟩
    · have hltz : ¬ (ii : Int) < (N : Int) := by omega
      obtain rfl : ii = N := by omega
      clear hlt
      go_wp2_with (fail)
      exact bodyPost_ret (v := .tuple #[.slice (some ⟨w.heap.size, 0, none⟩) ii ii, .int .i64 0]) (by simp [results, Tryz.results20, go_sem]) rfl ⟨rfl, hG, hW⟩
end
end Go.Proofs.YtdfgmmjcamhdjaaGreatDoor
