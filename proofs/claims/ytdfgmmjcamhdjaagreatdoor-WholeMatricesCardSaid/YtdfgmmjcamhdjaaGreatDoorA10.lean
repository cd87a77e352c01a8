/- Steps to WholeMatrices' card; what each asks stands in it. -/
import Derived.Test.YtdfgmmjcamhdjaaGreatDoorA02
import Derived.Test.YtdfgmmjcamhdjaaGreatDoorA09
set_option linter.unusedVariables false
set_option linter.unusedSimpArgs false
namespace Go.Proofs.YtdfgmmjcamhdjaaGreatDoor
open Go.RowKit Go.Shelf
attribute [local go_sem] Oper.semAt_some
/-- a row of numbers, its block known whole -/
def RowB (w : World) (b n : Nat) (f : Nat → Num) : Prop := ∃ cs : Array Value, Blk w b 38 cs ∧ cs.size = n * 5 ∧ ∀ j, j < n →
  cs[j * 5]? = some (.int .i64 (f j).q.a) ∧ cs[j * 5 + 1]? = some (.int .i64 (f j).q.b) ∧ cs[j * 5 + 2]? = some (.int .i64 (f j).q.c) ∧ cs[j * 5 + 3]? = some (.int .i64 (f j).q.d) ∧ cs[j * 5 + 4]? = some (.int .i64 (f j).k)
theorem RowB.lt {w : World} {b n : Nat} {f : Nat → Num} (h : RowB w b n f) : b < w.heap.size := by
  obtain ⟨cs, h1, _⟩ := h
  exact h1.lt
theorem RowB.frozen {w : World} {b n : Nat} {f : Nat → Num} (h : RowB w b n f) (i : Nat) : w.frozen? ⟨b, i, none⟩ = false := by
  obtain ⟨cs, h1, _⟩ := h
  exact h1.frozen i
theorem RowB.numAt {w : World} {b n : Nat} {f : Nat → Num} (h : RowB w b n f) {j : Nat} (hj : j < n) : NumAt w b (j * 5) (f j) := by
  obtain ⟨cs, h1, _, h3⟩ := h
  obtain ⟨a0, a1, a2, a3, a4⟩ := h3 j hj
  exact ⟨(h1.cells _).trans a0, (h1.cells _).trans a1, (h1.cells _).trans a2, (h1.cells _).trans a3, (h1.cells _).trans a4⟩
theorem RowB.alloc {w : World} {b n : Nat} {f : Nat → Num} (h : RowB w b n f) (o : Obj) : RowB (w.alloc o) b n f := by
  obtain ⟨cs, h1, h2⟩ := h
  exact ⟨cs, h1.alloc o, h2⟩
theorem RowB.far {w : World} {b n : Nat} {f : Nat → Num} (h : RowB w b n f) {p : Addr} (hp : b ≠ p.block) (u : Value) : RowB (w.setCell p u) b n f := by
  obtain ⟨cs, h1, h2⟩ := h
  exact ⟨cs, h1.far hp u, h2⟩
theorem RowB.below {w w' : World} {b n : Nat} {f : Nat → Num} (h : RowB w b n f) (hb : Below w.heap.size w w') : RowB w' b n f := by
  obtain ⟨cs, h1, h2⟩ := h
  exact ⟨cs, h1.below hb, h2⟩
theorem RowB.zero {w : World} {b n : Nat} (h : Blk w b 38 (zrow n)) : RowB w b n (fun _ => Num.zero) := by
  refine ⟨_, h, by simp [zrow], fun j hj => ?_⟩
  have h0 : j * 5 + 4 < n * 5 := by omega
  simp only [zrow, Array.getElem?_replicate]
  rw [if_pos (by omega), if_pos (by omega), if_pos (by omega), if_pos (by omega), if_pos (by omega)]
  exact ⟨rfl, rfl, rfl, rfl, rfl⟩
def put1 (f : Nat → Num) (j : Nat) (x : Num) : Nat → Num := fun k => if k = j then x else f k
theorem RowB.put {w : World} {b n : Nat} {f : Nat → Num} (h : RowB w b n f) {j : Nat} (hj : j < n) (x : Num) :
    RowB (((((w.setCell ⟨b, j * 5, none⟩ (.int .i64 x.q.a)).setCell ⟨b, j * 5 + 1, none⟩ (.int .i64 x.q.b)).setCell ⟨b, j * 5 + 2, none⟩ (.int .i64 x.q.c)).setCell ⟨b, j * 5 + 3, none⟩ (.int .i64 x.q.d)).setCell ⟨b, j * 5 + 4, none⟩ (.int .i64 x.k)) b n (put1 f j x) := by
  obtain ⟨cs, h1, h2, h3⟩ := h
  refine ⟨_, ((((h1.set _ _).set _ _).set _ _).set _ _).set _ _, by simpa using h2, fun k hk => ?_⟩
  obtain ⟨a0, a1, a2, a3, a4⟩ := h3 k hk
  unfold put1
  by_cases e : k = j
  · subst e
    simp only [if_true, Array.getElem?_setIfInBounds, Array.size_setIfInBounds, h2]
    refine ⟨?_, ?_, ?_, ?_, ?_⟩
    all_goals (repeat (first | (rw [if_pos rfl]) | (rw [if_neg (by omega)])))
    all_goals (rw [if_pos (by omega)])
  · rw [if_neg e]
    simp only [Array.getElem?_setIfInBounds, Array.size_setIfInBounds, h2]
    refine ⟨?_, ?_, ?_, ?_, ?_⟩
    all_goals (repeat (rw [if_neg (by omega)]))
    all_goals assumption
theorem rowB_own {β : Type} (b n : Nat) (f : β → Nat → Num) : Own (fun s W => RowB W b n (f s)) := fun s X Y row hs hg hrow => by
  obtain ⟨cs, h1, h2⟩ := hs
  exact ⟨cs, blk_own b 38 (fun (_ : Unit) => cs) () X Y row h1 hg hrow, h2⟩
/-- a matrix that was made here: the block of heads, and behind it a block for each row -/
structure Filled (w : World) (B h n : Nat) (M : Nat → Nat → Num) : Prop where
  head : Blk w B 72 (rowHeads B n h h)
  row : ∀ i, i < h → RowB w (B + 1 + i) n (M i)
theorem Filled.below {w w' : World} {B h n : Nat} {M : Nat → Nat → Num} (H : Filled w B h n M) (hb : Below w.heap.size w w') : Filled w' B h n M := ⟨H.head.below hb, fun i hi => (H.row i hi).below hb⟩
theorem Filled.alloc {w : World} {B h n : Nat} {M : Nat → Nat → Num} (H : Filled w B h n M) (o : Obj) : Filled (w.alloc o) B h n M := ⟨H.head.alloc o, fun i hi => (H.row i hi).alloc o⟩
theorem Filled.far {w : World} {B h n : Nat} {M : Nat → Nat → Num} (H : Filled w B h n M) {p : Addr} (hp : B + 1 + h ≤ p.block) (u : Value) : Filled (w.setCell p u) B h n M := ⟨H.head.far (by omega) u, fun i hi => (H.row i hi).far (by omega) u⟩
theorem Filled.head_at {w : World} {B h n : Nat} {M : Nat → Nat → Num} (H : Filled w B h n M) {i : Nat} (hi : i < h) : w.cell? ⟨B, i, none⟩ = some (.slice (some ⟨B + 1 + i, 0, none⟩) n n) := by
  rw [H.head.cells, rowHeads_at hi, if_pos hi]
  rfl
theorem Filled.mat {w : World} {B h n : Nat} {M : Nat → Nat → Num} (H : Filled w B h n M) (hd : 1 ≤ h ∧ h ≤ 64 ∧ 1 ≤ n ∧ n ≤ 64) : Mat w (some ⟨B, 0, none⟩) h n M :=
  ⟨B, 0, fun i => B + 1 + i, fun _ => 0, fun _ => n, rfl, hd, H.head.lt, fun i hi => ⟨by rw [Nat.zero_add]; exact H.head_at hi, (H.row i hi).lt⟩, fun i j hi hj => by rw [Nat.zero_add]; exact (H.row i hi).numAt hj⟩
def put2 (M : Nat → Nat → Num) (i j : Nat) (x : Num) : Nat → Nat → Num := fun k => if k = i then put1 (M k) j x else M k
theorem Filled.put {w : World} {B h n : Nat} {M : Nat → Nat → Num} (H : Filled w B h n M) {i j : Nat} (hi : i < h) (hj : j < n) (x : Num) :
    Filled (((((w.setCell ⟨B + 1 + i, j * 5, none⟩ (.int .i64 x.q.a)).setCell ⟨B + 1 + i, j * 5 + 1, none⟩ (.int .i64 x.q.b)).setCell ⟨B + 1 + i, j * 5 + 2, none⟩ (.int .i64 x.q.c)).setCell ⟨B + 1 + i, j * 5 + 3, none⟩ (.int .i64 x.q.d)).setCell ⟨B + 1 + i, j * 5 + 4, none⟩ (.int .i64 x.k)) B h n (put2 M i j x) := by
  refine ⟨((((H.head.far (by simp; omega) _).far (by simp; omega) _).far (by simp; omega) _).far (by simp; omega) _).far (by simp; omega) _, fun k hk => ?_⟩
  unfold put2
  by_cases e : k = i
  · subst e
    rw [if_pos rfl]
    exact (H.row k hk).put hj x
  · rw [if_neg e]
    exact (((((H.row k hk).far (by simp; omega) _).far (by simp; omega) _).far (by simp; omega) _).far (by simp; omega) _).far (by simp; omega) _
theorem filled_own {β : Type} (B h n : Nat) (f : β → Nat → Nat → Num) : Own (fun s W => Filled W B h n (f s)) := fun s X Y row hs hg hrow =>
  ⟨blk_own B 72 (fun (_ : Unit) => rowHeads B n h h) () X Y row hs.head hg hrow, fun i hi => rowB_own (B + 1 + i) n (fun (_ : Unit) => f s i) () X Y row (hs.row i hi) hg hrow⟩
theorem Filled.congr {w : World} {B h n : Nat} {M M' : Nat → Nat → Num} (H : Filled w B h n M) (e : ∀ i j, i < h → j < n → M i j = M' i j) : Filled w B h n M' := by
  refine ⟨H.head, fun i hi => ?_⟩
  obtain ⟨cs, h1, h2, h3⟩ := H.row i hi
  refine ⟨cs, h1, h2, fun j hj => ?_⟩
  rw [← e i j hi hj]
  exact h3 j hj
/-- what has been put in so far -/
def soFar {h n : Nat} (f : Nat → Nat → Num) (pre : List (Pl h n)) (i j : Nat) : Num := if ∃ p ∈ pre, p.1.1 = i ∧ p.1.2 = j then f i j else Num.zero
theorem soFar_snoc {h n : Nat} (f : Nat → Nat → Num) (pre : List (Pl h n)) (x : Pl h n) : put2 (soFar f pre) x.1.1 x.1.2 (f x.1.1 x.1.2) = soFar f (pre ++ [x]) := by
  funext i j
  unfold put2 put1 soFar
  by_cases h1 : i = x.1.1
  · by_cases h2 : j = x.1.2
    · subst h1 h2
      simp
    · have e : (∃ p ∈ pre ++ [x], p.1.1 = i ∧ p.1.2 = j) ↔ (∃ p ∈ pre, p.1.1 = i ∧ p.1.2 = j) := by
        constructor
        · rintro ⟨p, hp, h3, h4⟩
          rcases List.mem_append.1 hp with hp | hp
          · exact ⟨p, hp, h3, h4⟩
          · simp at hp; subst hp; exact absurd h4.symm h2
        · rintro ⟨p, hp, h3⟩
          exact ⟨p, by simp [hp], h3⟩
      simp only [e, if_pos h1, if_neg h2]
  · have e : (∃ p ∈ pre ++ [x], p.1.1 = i ∧ p.1.2 = j) ↔ (∃ p ∈ pre, p.1.1 = i ∧ p.1.2 = j) := by
      constructor
      · rintro ⟨p, hp, h3, h4⟩
        rcases List.mem_append.1 hp with hp | hp
        · exact ⟨p, hp, h3, h4⟩
        · simp at hp; subst hp; exact absurd h3.symm h1
      · rintro ⟨p, hp, h3⟩
        exact ⟨p, by simp [hp], h3⟩
    simp only [e, if_neg h1]
theorem soFar_nil {h n : Nat} (f : Nat → Nat → Num) : soFar f ([] : List (Pl h n)) = fun _ _ => Num.zero := by
  funext i j
  simp [soFar]
theorem soFar_full {h n : Nat} (f : Nat → Nat → Num) {ys : List (Pl h n)} (H : Full ys) {i j : Nat} (hi : i < h) (hj : j < n) : soFar f ys i j = f i j := by
  unfold soFar
  rw [if_pos ⟨⟨(i, j), hi, hj⟩, H _, rfl, rfl⟩]
end Go.Proofs.YtdfgmmjcamhdjaaGreatDoor
