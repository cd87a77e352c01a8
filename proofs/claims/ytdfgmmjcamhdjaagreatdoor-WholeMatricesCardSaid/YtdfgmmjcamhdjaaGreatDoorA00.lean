/- Steps to WholeMatrices' card; what each asks stands in it. -/
import Derived.BigQuiet
import Derived.Deep.CutRange
import Derived.Deep.DrawnRows
import Derived.Deep.LoopGhost
import Derived.Deep.QuietTactic
import Derived.Deep.RegionHeld3
import Derived.Laws.EntriesVeiled
import Derived.Lib.Hide
import Derived.Shelf.Abstract
import Derived.Test.YtdfgmmjcamhdjaaGreatDoorProg
import Derived.WalkKit
import Derived.WalkLawsBesides
import Derived.WalkSpells
set_option linter.unusedVariables false
set_option linter.unusedSimpArgs false
namespace Go.Proofs.YtdfgmmjcamhdjaaGreatDoor
section
open Go.RowKit
/-- cells of a list of lists of cells, each of the same size -/
def Lies (w : World) (A : Option Addr) (sz : Nat) (xs : List (List Value)) : Prop :=
  xs.length ≤ 1000000 ∧ (0 < xs.length → ∃ b off, A = some ⟨b, off, none⟩ ∧ b < w.heap.size ∧ ∀ i x, xs[i]? = some x → x.length = sz ∧ ∀ j v, x[j]? = some v → w.cell? ⟨b, off + i * sz + j, none⟩ = some v)
theorem Lies.below {w w' : World} {A sz xs} (h : Lies w A sz xs) (hb : Below w.heap.size w w') : Lies w' A sz xs := by
  refine ⟨h.1, fun hn => ?_⟩
  obtain ⟨b, off, hA, hlt, hc⟩ := h.2 hn
  exact ⟨b, off, hA, Nat.lt_of_lt_of_le hlt hb.size, fun i x hx => ⟨(hc i x hx).1, fun j v hv => (hb.cell (p := ⟨b, off + i * sz + j, none⟩) hlt).trans ((hc i x hx).2 j v hv)⟩⟩
/-- a slice of ints -/
def SlI (w : World) (A : Option Addr) (zs : List Int) : Prop := Lies w A 1 (zs.map fun z => [.int .i64 z])
theorem SlI.at_ {w A zs} (h : SlI w A zs) {k : Nat} (hk : k < zs.length) : ∃ b off, A = some ⟨b, off, none⟩ ∧ b < w.heap.size ∧ ∀ i, i < zs.length → w.cell? ⟨b, off + i, none⟩ = some (.int .i64 (zs.getD i 0)) := by
  obtain ⟨b, off, hA, hlt, hc⟩ := h.2 (by simpa using Nat.lt_of_le_of_lt (Nat.zero_le _) hk)
  refine ⟨b, off, hA, hlt, fun i hi => ?_⟩
  have := (hc i [.int .i64 (zs.getD i 0)] (by simp [hi])).2 0 _ rfl
  simpa using this
theorem below_cells {W w1 : World} (hb : Below W.heap.size W w1) : (∀ b o, b < W.heap.size → w1.cell? ⟨b, o, none⟩ = W.cell? ⟨b, o, none⟩) ∧ (∀ b o, b < W.heap.size → w1.frozen? ⟨b, o, none⟩ = W.frozen? ⟨b, o, none⟩) :=
  ⟨fun b o h => hb.cell (p := ⟨b, o, none⟩) h, fun b o h => hb.frozen (p := ⟨b, o, none⟩) h⟩
/-- What is asked of a predicate that is handed in as a function value. -/
def PredOn {α : Type} (g : Nat) (lb : Array Value) (enc : α → Value) (p : α → Bool) (xs : List α) (w : World) : Prop :=
  ∀ (W : World) (x : α), x ∈ xs → Below w.heap.size w W → Calls Tryz.prog g (#[enc x] ++ lb) W fun e w' => e = .returned (.bool (p x)) ∧ Below W.heap.size W w'
/-- the first index, from k on -/
def idxOf {α : Type} (p : α → Bool) (xs : List α) : Int := match xs.findIdx? p with | some i => i | none => -1
theorem idxOf_hit {α : Type} (p : α → Bool) (xs : List α) (k : Nat) (x : α) (hx : xs[k]? = some x) (hp : p x = true) (hno : ∀ j y, j < k → xs[j]? = some y → p y = false) : idxOf p xs = k := by
  have : xs.findIdx? p = some k := by
    rw [List.findIdx?_eq_some_iff_getElem]
    obtain ⟨hlt, he⟩ := List.getElem?_eq_some_iff.1 hx
    refine ⟨hlt, by rw [he]; exact hp, fun j hj => ?_⟩
    have := hno j xs[j] hj (by simp)
    simp [this]
  simp [idxOf, this]
theorem idxOf_miss {α : Type} (p : α → Bool) (xs : List α) (hno : ∀ j y, j < xs.length → xs[j]? = some y → p y = false) : idxOf p xs = -1 := by
  have : xs.findIdx? p = none := by
    rw [List.findIdx?_eq_none_iff]
    intro x hx
    obtain ⟨i, hi, rfl⟩ := List.getElem_of_mem hx
    exact hno i _ hi (by simp)
  simp [idxOf, this]
theorem idxOf_ge {α : Type} (p : α → Bool) (xs : List α) : decide (idxOf p xs ≥ 0) = xs.any p := by
  unfold idxOf
  cases h : xs.findIdx? p with
  | none =>
    rw [List.findIdx?_eq_none_iff] at h
    have : xs.any p = false := by simpa using h
    simp [this]
  | some i =>
    have hx := List.findIdx?_eq_some_iff_getElem.1 h
    obtain ⟨hlt, hp, _⟩ := hx
    have : xs.any p = true := List.any_eq_true.2 ⟨xs[i], List.getElem_mem _, hp⟩
    simp [this]
theorem keep_cell {W w1 : World} {p : Addr} {v : Value} (hb : Below W.heap.size W w1) (hlt : p.block < W.heap.size) (h : W.cell? p = some v) : w1.cell? p = some v := (hb.cell hlt).trans h
theorem keep_alloc {w : World} {p : Addr} {v : Value} {o : Obj} (hlt : p.block < w.heap.size) (h : w.cell? p = some v) : (w.alloc o).cell? p = some v := by rw [World.cell?_alloc_lt w o p hlt]; exact h
theorem keep_set {w : World} {p q : Addr} {v : Value} {u : Value} (hne : p.block ≠ q.block) (h : w.cell? p = some v) : (w.setCell q u).cell? p = some v := by rw [World.cell?_setCell_other w q p u (fun e => hne (by rw [e]))]; exact h
theorem lt2 (n : Nat) : n < n + 1 + 1 := by omega
theorem lt3 (n : Nat) : n < n + 1 + 1 + 1 := by omega
theorem lt4 (n : Nat) : n < n + 1 + 1 + 1 + 1 := by omega
theorem ne2 (n : Nat) : ¬ (n + 1 + 1 = n) := by omega
theorem ne2' (n : Nat) : ¬ (n = n + 1 + 1) := by omega
theorem ne3 (n : Nat) : ¬ (n + 1 + 1 + 1 = n) := by omega
theorem ne3' (n : Nat) : ¬ (n = n + 1 + 1 + 1) := by omega
attribute [go_sem, simp] lt2 lt3 lt4 ne2 ne2' ne3 ne3'
theorem below_drewN {B : Nat} {a w : World} (h : Below B a w) (q : Nat) : Below B a (w.drewN q) := ⟨h.os, h.tape, h.output, h.size, h.block⟩
/-- A block that is known whole. -/
def Blk (w : World) (b : Nat) (T : TypeId) (cs : Array Value) : Prop := w.heap[b]? = some (.cells cs T (0, 0))
section
variable {w w' : World} {b : Nat} {T : TypeId} {cs : Array Value}
theorem Blk.lt (h : Blk w b T cs) : b < w.heap.size := by
  rcases Nat.lt_or_ge b w.heap.size with hlt | hge
  · exact hlt
  · unfold Blk at h; rw [Array.getElem?_eq_none hge] at h; cases h
theorem Blk.cells (h : Blk w b T cs) : ∀ i, w.cell? ⟨b, i, none⟩ = cs[i]? := fun i => by unfold Blk at h; simp [World.cell?, h]
theorem Blk.frozen (h : Blk w b T cs) : ∀ i, w.frozen? ⟨b, i, none⟩ = false := fun i => by unfold Blk at h; simp [World.frozen?, h]
theorem Blk.new (w : World) (T : TypeId) (cs : Array Value) : Blk (w.alloc (.cells cs T)) w.heap.size T cs := by unfold Blk; show (w.heap.push _)[w.heap.size]? = _; simp
theorem Blk.new' {w : World} {n : Nat} (T : TypeId) (cs : Array Value) (h : n = w.heap.size) : Blk (w.alloc (.cells cs T)) n T cs := by subst h; exact Blk.new _ _ _
theorem Blk.drew (h : Blk w b T cs) : Blk w.drew b T cs := h
theorem Blk.drewN (h : Blk w b T cs) (n : Nat) : Blk (w.drewN n) b T cs := h
theorem Blk.alloc (h : Blk w b T cs) (o : Obj) : Blk (w.alloc o) b T cs := (Below.heap_alloc w o b h.lt).trans h
theorem Blk.set (h : Blk w b T cs) (i : Nat) (u : Value) : Blk (w.setCell ⟨b, i, none⟩ u) b T (cs.setIfInBounds i u) := by
  unfold Blk at h ⊢
  simp [World.setCell, Array.getElem?_modify, h]
theorem Blk.far (h : Blk w b T cs) {p : Addr} (hp : b ≠ p.block) (u : Value) : Blk (w.setCell p u) b T cs := (Below.heap_setCell w p u b hp).trans h
theorem Blk.below (h : Blk w b T cs) (hb : Below w.heap.size w w') : Blk w' b T cs := (hb.block b h.lt).trans h
end
theorem ret_bool {a b : Bool} (h : a = b) : Ending.returned (.bool a) = Ending.returned (.bool b) := by rw [h]
theorem ret_int {k : IntKind} {a b : Int} (h : a = b) : Ending.returned (.int k a) = Ending.returned (.int k b) := by rw [h]
end
section
open Go.RowKit
set_option maxHeartbeats 1000000 in
theorem f131_any (p : Int → Bool) (g : Nat) (lb : Array Value) (eg : ∀ args w, (callFunc g args).run Tryz.prog w = .ok (.enter g args) w) (A : Option Addr) (n cap : Nat) (zs : List Int) (w : World) (hn : Hid (n = zs.length)) (hA : SlI w A zs)
    (hp : PredOn g lb (.int .i64) p zs w) :
    Calls Tryz.prog 131 #[.slice A n cap, .func (.func g) #[] lb] w fun e w' => e = .returned (.int .i64 (idxOf p zs)) ∧ Below w.heap.size w w' := by
  have hbig : n ≤ 1000000 := by have := hA.1; rw [hn.out]; simpa using this
  go_enter Tryz.func131, Tryz.ntmps131
  go_wp2
  go_loopg [5, 8] n (fun gg _ s8 wr => ∃ kk : Nat, kk ≤ n ∧ n - kk ≤ gg ∧ s8 = .int .i64 kk ∧ Aside (Below w.heap.size w wr) ∧ Aside (∀ j y, j < kk → zs[j]? = some y → p y = false))
  case atStart => exact ⟨0, Nat.zero_le _, by omega, rfl, Below.refl _ w, fun j y hj => absurd hj (Nat.not_lt_zero _)⟩
  case round =>
    obtain ⟨kk, hkk, hg, rfl, BW, AW⟩ := hrel
    by_cases hlt : kk < n
    · have hltz : (kk : Int) < (n : Int) := by omega
      have hk' : kk < zs.length := by rw [← hn.out]; exact hlt
      obtain ⟨b, off, rfl, hblt, hc⟩ := SlI.at_ (hA.below BW.out) hk'
      have hcell := hc kk hk'
      have hcall := hp wr (zs.getD kk 0) (by rw [List.getD_eq_getElem?_getD, List.getElem?_eq_getElem hk']; exact List.getElem_mem _) BW.out
      have hget : Hid (zs[kk]? = some (zs.getD kk 0)) := by show _ = _; rw [List.getD_eq_getElem?_getD, List.getElem?_eq_getElem hk']; rfl
      clear hp hc
      generalize zs.getD kk 0 = y at hcell hcall hget
      cases hq : p y with
      | true =>
        rw [hq] at hcall
        go_wp2_with (go_at_fn g; refine hcall.mono ?_; rintro e w' ⟨rfl, hb'⟩)
        go_ret
        exact ⟨by rw [idxOf_hit p zs kk y hget.out hq AW.out]; rfl, BW.out.trans (hb'.mono BW.out.size)⟩
      | false =>
        rw [hq] at hcall
        go_wp2_with (go_at_fn g; refine hcall.mono ?_; rintro e w' ⟨rfl, hb'⟩)
        go_roundg (n - (kk + 1))
        case measure => omega
        case rel =>
          refine ⟨kk + 1, by omega, by omega, by go_num, BW.out.trans (hb'.mono BW.out.size), (show Aside _ from fun j z hj hz => ?_)⟩
          by_cases e : j = kk
          · subst e
            rw [hget.out] at hz
            cases hz
            exact hq
          · exact AW.out j z (by omega) hz
    · have hltz : ¬ (kk : Int) < (n : Int) := by omega
      clear hlt
      go_wp2
      go_ret
      refine ⟨?_, BW.out⟩
      rw [idxOf_miss p zs (fun j y hj hy => AW.out j y (by have := hn.out; omega) hy)]
      rfl
set_option maxHeartbeats 400000 in
theorem f93_any (p : Int → Bool) (g : Nat) (lb : Array Value) (eg : ∀ args w, (callFunc g args).run Tryz.prog w = .ok (.enter g args) w) (A : Option Addr) (n cap : Nat) (zs : List Int) (w : World) (hn : Hid (n = zs.length)) (hA : SlI w A zs)
    (hp : PredOn g lb (.int .i64) p zs w) :
    Calls Tryz.prog 93 #[.slice A n cap, .func (.func g) #[] lb] w fun e w' => e = .returned (.bool (zs.any p)) ∧ Below w.heap.size w w' := by
  have H := f131_any p g lb eg A n cap zs w hn hA hp
  clear hp hA
  go_enter Tryz.func93, Tryz.ntmps93
  go_wp2_with (go_at_call 131; refine H.mono ?_; rintro e w' ⟨rfl, hb'⟩)
  go_ret
  refine ⟨?_, hb'⟩
  rw [← idxOf_ge]
  rfl
end
section
open Go.RowKit
set_option maxHeartbeats 400000 in
theorem f159_any (p : Int → Bool) (g : Nat) (lb : Array Value) (eg : ∀ args w, (callFunc g args).run Tryz.prog w = .ok (.enter g args) w) (x : Int) (B : Nat) (w : World)
    (hB : w.cell? ⟨B, 0, none⟩ = some (.func (.func g) #[] lb))
    (hp : Calls Tryz.prog g (#[.int .i64 x] ++ lb) w fun e w' => e = .returned (.bool (p x)) ∧ Below w.heap.size w w') :
    Calls Tryz.prog 159 #[.int .i64 x, .pointer (some ⟨B, 0, none⟩)] w fun e w' => e = .returned (.bool (!p x)) ∧ Below w.heap.size w w' := by
  go_enter Tryz.func159, Tryz.ntmps159
  go_wp2_with (go_at_fn g; refine hp.mono ?_; rintro e w' ⟨rfl, hb'⟩)
  go_ret
  exact ⟨rfl, hb'⟩
theorem not_any_not {α : Type} (p : α → Bool) (xs : List α) : (!xs.any fun x => !p x) = xs.all p := by
  induction xs with
  | nil => rfl
  | cons x xs ih => simp only [List.any_cons, List.all_cons, ← ih]; cases p x <;> simp
set_option maxHeartbeats 400000 in
theorem f148_any (p : Int → Bool) (g : Nat) (lb : Array Value) (eg : ∀ args w, (callFunc g args).run Tryz.prog w = .ok (.enter g args) w) (A : Option Addr) (n cap : Nat) (zs : List Int) (w : World) (hn : Hid (n = zs.length)) (hA : SlI w A zs)
    (hp : PredOn g lb (.int .i64) p zs w) :
    Calls Tryz.prog 148 #[.slice A n cap, .func (.func g) #[] lb] w fun e w' => e = .returned (.bool (zs.all p)) ∧ Below w.heap.size w w' := by
  have hb0 : Below w.heap.size w (w.alloc (.cells #[.func (.func g) #[] lb] 86)) := (Below.refl _ w).alloc (Nat.le_refl _) _
  have H := f93_any (fun x => !p x) 159 #[.pointer (some ⟨w.heap.size, 0, none⟩)] (enters_of Tryz.func159 (by kernel_rfl) rfl) A n cap zs (w.alloc (.cells #[.func (.func g) #[] lb] 86)) hn (hA.below hb0)
    (fun W x hx hb => f159_any p g lb eg x w.heap.size W ((hb.cell (p := ⟨w.heap.size, 0, none⟩) (by simp)).trans (by simp)) (hp W x hx (hb0.trans (hb.mono (by simp)))))
  clear hp hA
  go_enter Tryz.func148, Tryz.ntmps148
  go_wp2_with (go_at_call 93; refine H.mono ?_; rintro e w' ⟨rfl, hb'⟩)
  go_ret
  refine ⟨?_, hb0.trans (hb'.mono (by simp))⟩
  rw [← not_any_not]
  rfl
set_option maxHeartbeats 400000 in
theorem f149_any (x sz : Int) (B : Nat) (w : World) (hs1 : 0 ≤ sz) (hs2 : sz ≤ 9000000000000000000) (hB : w.cell? ⟨B, 0, none⟩ = some (.int .i64 sz)) :
    Calls Tryz.prog 149 #[.int .i64 x, .pointer (some ⟨B, 0, none⟩)] w fun e w' => e = .returned (.bool (decide (x ≤ sz ∧ -sz ≤ x))) ∧ Below w.heap.size w w' := by
  by_cases h1 : x ≤ sz
  · by_cases h2 : -sz ≤ x
    · go_enter Tryz.func149, Tryz.ntmps149
      go_wp2
      go_ret
      exact ⟨ret_bool (by simp [h1, h2]), Below.refl _ _⟩
    · have h2' : x < -sz := by omega
      go_enter Tryz.func149, Tryz.ntmps149
      go_wp2
      go_ret
      exact ⟨ret_bool (by first | (simp; done) | (simp; omega)), Below.refl _ _⟩
  · have h1' : sz < x := by omega
    go_enter Tryz.func149, Tryz.ntmps149
    go_wp2
    go_ret
    exact ⟨ret_bool (by first | (simp; done) | (simp; omega)), Below.refl _ _⟩
def inSz (sz : Int) (x : Int) : Bool := decide (x ≤ sz ∧ -sz ≤ x)
def fits4 (sz a b c d : Int) : Bool := [a, b, c, d].all (inSz sz)
set_option maxHeartbeats 400000 in
theorem f122_any (a b c d sz : Int) (w : World) (hs1 : 0 ≤ sz) (hs2 : sz ≤ 9000000000000000000) :
    Calls Tryz.prog 122 #[.agg #[.int .i64 a, .int .i64 b, .int .i64 c, .int .i64 d], .int .i64 sz] w fun e w' => e = .returned (.bool (fits4 sz a b c d)) ∧ Below w.heap.size w w' := by
  have hb0 : Below w.heap.size w ((w.alloc (.cells #[.int .i64 a, .int .i64 b, .int .i64 c, .int .i64 d] 162)).alloc (.cells #[.int .i64 sz] 3)) := ((Below.refl _ w).alloc (Nat.le_refl _) _).alloc (by simp) _
  have H := f148_any (inSz sz) 149 #[.pointer (some ⟨w.heap.size + 1, 0, none⟩)] (enters_of Tryz.func149 (by kernel_rfl) rfl) (some ⟨w.heap.size, 0, none⟩) 4 4 [a, b, c, d] ((w.alloc (.cells #[.int .i64 a, .int .i64 b, .int .i64 c, .int .i64 d] 162)).alloc (.cells #[.int .i64 sz] 3)) rfl
    ⟨by simp, fun _ => ⟨w.heap.size, 0, rfl, by first | (simp; done) | (simp; omega), fun i x hx => by
      match i, hx with
      | 0, hx => cases hx; exact ⟨rfl, fun j v hv => by match j, hv with | 0, hv => cases hv; simp⟩
      | 1, hx => cases hx; exact ⟨rfl, fun j v hv => by match j, hv with | 0, hv => cases hv; simp⟩
      | 2, hx => cases hx; exact ⟨rfl, fun j v hv => by match j, hv with | 0, hv => cases hv; simp⟩
      | 3, hx => cases hx; exact ⟨rfl, fun j v hv => by match j, hv with | 0, hv => cases hv; simp⟩⟩⟩
    (fun W x hx hb => f149_any x sz (w.heap.size + 1) W hs1 hs2 ((hb.cell (p := ⟨w.heap.size + 1, 0, none⟩) (by simp)).trans (by simp)))
  go_enter Tryz.func122, Tryz.ntmps122
  go_wp2_with (go_at_call 148; refine H.mono ?_; rintro e w' ⟨rfl, hb'⟩)
  go_ret
  refine ⟨ret_bool (by simp [fits4]), hb0.trans (hb'.mono (by first | (simp; done) | (simp; omega)))⟩
end
section
open Go.RowKit
attribute [local go_sem ↓] Go.wp_at_zero Go.wp_at_succ
/-- coefficients -/
structure Q where
  (a b c d : Int)
def Q.val (q : Q) : Value := .agg #[.int .i64 q.a, .int .i64 q.b, .int .i64 q.c, .int .i64 q.d]
def Q.even (q : Q) : Bool := decide ((q.a - q.c).tmod 2 = 0 ∧ (q.b - q.d).tmod 2 = 0)
def Q.half (q : Q) : Q := ⟨(q.b - q.d).tdiv 2, (q.a + q.c).tdiv 2, (q.b + q.d).tdiv 2, (q.c - q.a).tdiv 2⟩
def Q.twice (q : Q) : Q := ⟨q.b - q.d, q.a + q.c, q.b + q.d, q.c - q.a⟩
def Q.list (q : Q) : List Int := [q.a, q.b, q.c, q.d]
/-- every coefficient is at most m -/
def Q.Le (q : Q) (m : Int) : Prop := -m ≤ q.a ∧ q.a ≤ m ∧ -m ≤ q.b ∧ q.b ≤ m ∧ -m ≤ q.c ∧ q.c ≤ m ∧ -m ≤ q.d ∧ q.d ≤ m
theorem Q.half_le {q : Q} {m : Int} (h : q.Le m) : q.half.Le m := by
  obtain ⟨h1, h2, h3, h4, h5, h6, h7, h8⟩ := h
  have t : ∀ x : Int, -(2*m) ≤ x → x ≤ 2*m → -m ≤ x.tdiv 2 ∧ x.tdiv 2 ≤ m := by
    intro x a b
    rcases Int.le_total 0 x with hx | hx
    · rw [Int.tdiv_eq_ediv_of_nonneg hx]; omega
    · have : x = -(-x) := by omega
      rw [this, Int.neg_tdiv, Int.tdiv_eq_ediv_of_nonneg (by omega)]; omega
  have t1 := t (q.b - q.d) (by omega) (by omega)
  have t2 := t (q.a + q.c) (by omega) (by omega)
  have t3 := t (q.b + q.d) (by omega) (by omega)
  have t4 := t (q.c - q.a) (by omega) (by omega)
  exact ⟨t1.1, t1.2, t2.1, t2.2, t3.1, t3.2, t4.1, t4.2⟩
set_option maxHeartbeats 400000 in
theorem f121_any (a b c d k : Int) (f : Value) (w : World) :
    Calls Tryz.prog 121 #[.agg #[.int .i64 a, .int .i64 b, .int .i64 c, .int .i64 d, .int .i64 k, f]] w fun e w' => e = .returned (.agg #[.int .i64 a, .int .i64 b, .int .i64 c, .int .i64 d]) ∧ Below w.heap.size w w' := by
  go_enter Tryz.func121, Tryz.ntmps121
  go_wp2
  exact bodyPost_ret (v := .agg #[.int .i64 a, .int .i64 b, .int .i64 c, .int .i64 d]) (by simp [results, Tryz.results121, go_sem]) rfl ⟨rfl, ((Below.refl _ _).alloc (Nat.le_refl _) _).alloc (by simp) _⟩
set_option maxHeartbeats 400000 in
theorem f132_any (q : Q) (w : World) (hq : q.Le 4000000000000000000) :
    Calls Tryz.prog 132 #[.agg #[.int .i64 q.a, .int .i64 q.b, .int .i64 q.c, .int .i64 q.d]] w fun e w' => e = .returned (.agg #[.int .i64 q.half.a, .int .i64 q.half.b, .int .i64 q.half.c, .int .i64 q.half.d]) ∧ Below w.heap.size w w' := by
  obtain ⟨a, b, c, d⟩ := q
  obtain ⟨ha1, ha2, hb1, hb2, hc1, hc2, hd1, hd2⟩ := hq
  dsimp only [Q.half] at *
  go_enter Tryz.func132, Tryz.ntmps132
  go_wp2
  refine bodyPost_ret (v := .agg #[.int .i64 ((b - d).tdiv 2), .int .i64 ((a + c).tdiv 2), .int .i64 ((b + d).tdiv 2), .int .i64 ((c - a).tdiv 2)]) (by simp [results, Tryz.results132, go_sem]) rfl ⟨rfl, ?_⟩
  exact ((Below.refl _ _).alloc (Nat.le_refl _) _).alloc (by simp) _
set_option maxHeartbeats 400000 in
theorem f134_any (q : Q) (w : World) (hq : q.Le 4000000000000000000) :
    Calls Tryz.prog 134 #[.agg #[.int .i64 q.a, .int .i64 q.b, .int .i64 q.c, .int .i64 q.d]] w fun e w' => e = .returned (.agg #[.int .i64 q.twice.a, .int .i64 q.twice.b, .int .i64 q.twice.c, .int .i64 q.twice.d]) ∧ Below w.heap.size w w' := by
  obtain ⟨a, b, c, d⟩ := q
  obtain ⟨ha1, ha2, hb1, hb2, hc1, hc2, hd1, hd2⟩ := hq
  dsimp only [Q.twice] at *
  go_enter Tryz.func134, Tryz.ntmps134
  go_wp2
  refine bodyPost_ret (v := .agg #[.int .i64 (b - d), .int .i64 (a + c), .int .i64 (b + d), .int .i64 (c - a)]) (by simp [results, Tryz.results134, go_sem]) rfl ⟨rfl, ?_⟩
  exact ((Below.refl _ _).alloc (Nat.le_refl _) _).alloc (by simp) _
set_option maxHeartbeats 400000 in
theorem f133_any (q : Q) (w : World) (hq : q.Le 4000000000000000000) :
    Calls Tryz.prog 133 #[.agg #[.int .i64 q.a, .int .i64 q.b, .int .i64 q.c, .int .i64 q.d]] w fun e w' => e = .returned (.bool q.even) ∧ Below w.heap.size w w' := by
  obtain ⟨a, b, c, d⟩ := q
  obtain ⟨ha1, ha2, hb1, hb2, hc1, hc2, hd1, hd2⟩ := hq
  dsimp only [Q.even] at *
  by_cases h : (a - c).tmod 2 = 0
  · go_enter Tryz.func133, Tryz.ntmps133
    go_wp2
    go_ret
    exact ⟨ret_bool (by rw [Bool.eq_iff_iff]; simp [h]), (Below.refl _ _).alloc (Nat.le_refl _) _⟩
  · go_enter Tryz.func133, Tryz.ntmps133
    go_wp2
    go_ret
    exact ⟨ret_bool (by rw [Bool.eq_iff_iff]; simp [h]), (Below.refl _ _).alloc (Nat.le_refl _) _⟩
theorem run_eqQ (a b c d a' b' c' d' : Int) (w : World) : (Op.equalIn 10000 162 (.agg #[.int .i64 a, .int .i64 b, .int .i64 c, .int .i64 d]) (.agg #[.int .i64 a', .int .i64 b', .int .i64 c', .int .i64 d'])).run Tryz.prog w = .ok (a == a' && (b == b' && (c == c' && d == d'))) w := by
  have h0 : ∀ (x y : Int) (w : World), (Op.equalIn 9999 3 (.int .i64 x) (.int .i64 y)).run Tryz.prog w = .ok (x == y) w := fun x y w => run_equalIn_int w 9998 3 .i64 .i64 x y Tryz.underlying3
  rw [show (10000 : Nat) = 9999 + 1 from rfl, Op.equalIn]
  simp [go_sem, Tryz.underlying162, List.range'_succ, h0]
  cases h1 : a == a' <;> cases h2 : b == b' <;> cases h3 : c == c' <;> cases h4 : d == d' <;> simp [go_sem, h0, h1, h2, h3, h4] <;> simp_all
attribute [go_sem] run_eqQ
end
section
open Go.RowKit
attribute [local go_sem ↓] Go.wp_at_zero Go.wp_at_succ
/-- halved as often as it goes, at most k times -/
def lower : Nat → Q → Q × Nat
  | 0, q => (q, 0)
  | k + 1, q => if q.even then lower k q.half else (q, k + 1)
def Q.zero (q : Q) : Bool := (q.a == 0 && (q.b == 0 && (q.c == 0 && q.d == 0)))
/-- the least form, and the error's number -/
def leastQ (q : Q) (k : Nat) : Q × Nat × Int :=
  if q.zero then (⟨0, 0, 0, 0⟩, 0, 0) else
  let r := lower k q
  if 60 < r.2 then (⟨0, 0, 0, 0⟩, 0, 8) else
  if fits4 1073741824 r.1.a r.1.b r.1.c r.1.d then (r.1, r.2, 0) else (⟨0, 0, 0, 0⟩, 0, 8)
set_option maxHeartbeats 400000 in
theorem f124_any (q : Q) (k : Int) (w : World) :
    Calls Tryz.prog 124 #[.agg #[.int .i64 q.a, .int .i64 q.b, .int .i64 q.c, .int .i64 q.d], .int .i64 k] w fun e w' => e = .returned (.agg #[.int .i64 q.a, .int .i64 q.b, .int .i64 q.c, .int .i64 q.d, .int .i64 k]) ∧ Below w.heap.size w w' := by
  go_enter Tryz.func124, Tryz.ntmps124
  go_wp2
  refine bodyPost_ret (v := .agg #[.int .i64 q.a, .int .i64 q.b, .int .i64 q.c, .int .i64 q.d, .int .i64 k]) (by simp [results, Tryz.results124, go_sem]) rfl ⟨rfl, ?_⟩
  exact ((Below.refl _ _).alloc (Nat.le_refl _) _).alloc (by simp) _
set_option maxHeartbeats 4000000 in
set_option maxRecDepth 100000 in
theorem f97_any (q : Q) (k : Nat) (g : Nat) (lb : Array Value) (w : World) (hq : q.Le 4000000000000000000) (hk : k ≤ 1000) :
    Calls Tryz.prog 97 #[.agg #[.int .i64 q.a, .int .i64 q.b, .int .i64 q.c, .int .i64 q.d, .int .i64 k, .func (.func g) #[] lb]] w fun e w' =>
      e = .returned (.tuple #[.agg #[.int .i64 (leastQ q k).1.a, .int .i64 (leastQ q k).1.b, .int .i64 (leastQ q k).1.c, .int .i64 (leastQ q k).1.d, .int .i64 (leastQ q k).2.1], .int .i64 (leastQ q k).2.2]) ∧ Below w.heap.size w w' := by
  go_enter Tryz.func97, Tryz.ntmps97
  go_wp2
  go_cut [4, 5] from 8 (fun s4 s5 wr => ∃ B, s4 = .pointer (some ⟨B, 0, none⟩) ∧ s5 = .int .i64 k ∧ w.heap.size + 1 < B ∧ Blk wr B 162 #[.int .i64 q.a, .int .i64 q.b, .int .i64 q.c, .int .i64 q.d] ∧ Blk wr (w.heap.size + 1) 38 #[.int .i64 0, .int .i64 0, .int .i64 0, .int .i64 0, .int .i64 0] ∧ Below w.heap.size w wr)
  case first =>
    go_region_held3 (fun w' => w'.cell? ⟨w.heap.size, 0, none⟩ = some (.int .i64 q.a) ∧ w'.cell? ⟨w.heap.size, 1, none⟩ = some (.int .i64 q.b) ∧ w'.cell? ⟨w.heap.size, 2, none⟩ = some (.int .i64 q.c) ∧ w'.cell? ⟨w.heap.size, 3, none⟩ = some (.int .i64 q.d) ∧ w'.cell? ⟨w.heap.size, 4, none⟩ = some (.int .i64 k) ∧ w'.cell? ⟨w.heap.size, 5, none⟩ = some (.func (.func g) #[] lb))
      (simp [*, World.cell?_alloc_some, World.cell?_setCell_far])
      (first | (go_at_call 121; refine (f121_any _ _ _ _ _ _ _).mono ?_; rintro e w1 ⟨rfl, hb1⟩; have hz1 := hb1.size; obtain ⟨hc1, hf1⟩ := below_cells hb1))
    · go_wp2
      go_meet
      case rel =>
        refine ⟨_, rfl, rfl, ?_, Blk.new _ _ _, ?_, ?_⟩
        · simp at hz1; omega
        · exact ((Blk.new' 38 _ (by simp)).drew.below hb1).alloc _
        · exact ((((Below.refl _ _).alloc (Nat.le_refl _) _).alloc (by simp) _).drew.trans (hb1.mono (by first | (simp; done) | (simp; omega)))).alloc (by simp at hz1; omega) _
    · go_wp2
      go_meet
      case rel =>
        have hB := (Blk.new' (n := w.heap.size + 1 + 1) (w := ((w.alloc (.cells #[.int .i64 q.a, .int .i64 q.b, .int .i64 q.c, .int .i64 q.d, .int .i64 k, .func (.func g) #[] lb] 125)).alloc (.cells #[.int .i64 0, .int .i64 0, .int .i64 0, .int .i64 0, .int .i64 0] 38))) 162 #[.int .i64 0, .int .i64 0, .int .i64 0, .int .i64 0] (by simp)).drew.below hb1
        have hR := ((Blk.new' (n := w.heap.size + 1) (w := w.alloc (.cells #[.int .i64 q.a, .int .i64 q.b, .int .i64 q.c, .int .i64 q.d, .int .i64 k, .func (.func g) #[] lb] 125)) 38 #[.int .i64 0, .int .i64 0, .int .i64 0, .int .i64 0, .int .i64 0] (by simp)).alloc _).drew.below hb1
        refine ⟨_, rfl, rfl, by omega, (((hB.set 0 _).set 1 _).set 2 _).set 3 _, (((hR.far (by simp) _).far (by simp) _).far (by simp) _).far (by simp) _, ?_⟩
        exact ((((((((Below.refl _ _).alloc (Nat.le_refl _) _).alloc (by simp) _).alloc (by first | (simp; done) | (simp; omega)) _).drew.trans (hb1.mono (by first | (simp; done) | (simp; omega)))).setCell (by first | (simp; done) | (simp; omega)) _).setCell (by first | (simp; done) | (simp; omega)) _).setCell (by first | (simp; done) | (simp; omega)) _).setCell (by first | (simp; done) | (simp; omega)) _
  case rest =>
    obtain ⟨B, rfl, rfl, hB1, hB, hR, hW⟩ := hcut
    have cB := hB.cells
    have fB := hB.frozen
    have cR := hR.cells
    have fR := hR.frozen
    cases hz : q.zero with
    | true =>
      have hz1 : (q.a == 0 && (q.b == 0 && (q.c == 0 && q.d == 0))) = true := hz
      go_wp2
      have hl : leastQ q k = (⟨0, 0, 0, 0⟩, 0, 0) := by simp [leastQ, hz]
      rw [hl]
      have hF := ((((hR.set 0 (.int .i64 0)).set 1 (.int .i64 0)).set 2 (.int .i64 0)).set 3 (.int .i64 0)).set 4 (.int .i64 0)
      have cF := hF.cells
      refine bodyPost_ret (v := .tuple #[.agg #[.int .i64 0, .int .i64 0, .int .i64 0, .int .i64 0, .int .i64 0], .int .i64 0]) (by simp [results, Tryz.results97, go_sem, cF]) rfl ⟨rfl, ?_⟩
      exact ((((hW.setCell (by simp) _).setCell (by simp) _).setCell (by simp) _).setCell (by simp) _).setCell (by simp) _
    | false =>
      have hz1 : (q.a == 0 && (q.b == 0 && (q.c == 0 && q.d == 0))) = false := hz
      go_wp2
      go_quiet (fail)
      go_wp2
      go_loopg [5, 6, 7] k (fun gg s5 s6 s7 wr => ∃ (q' : Q) (k' : Nat), k' ≤ gg ∧ k' ≤ 1000 ∧ s5 = .int .i64 k' ∧ s6 = .func (.func 132) #[.agg #[.int .i64 q'.a, .int .i64 q'.b, .int .i64 q'.c, .int .i64 q'.d]] #[] ∧ s7 = .func (.func 133) #[.agg #[.int .i64 q'.a, .int .i64 q'.b, .int .i64 q'.c, .int .i64 q'.d]] #[] ∧
        Blk wr B 162 #[.int .i64 q'.a, .int .i64 q'.b, .int .i64 q'.c, .int .i64 q'.d] ∧ Blk wr (w.heap.size + 1) 38 #[.int .i64 0, .int .i64 0, .int .i64 0, .int .i64 0, .int .i64 0] ∧ Aside (Below w.heap.size w wr) ∧ q'.Le 4000000000000000000 ∧ Aside (lower k q = lower k' q'))
      case atStart => exact ⟨q, k, Nat.le_refl _, hk, rfl, rfl, rfl, hB.drewN _, hR.drewN _, below_drewN hW _, hq, rfl⟩
      case round =>
        obtain ⟨q', k', hg, hk', rfl, rfl, rfl, hB', hR', BW, hq', AL⟩ := hrel
        clear cB fB cR fR hB hR hW hq
        have cB := hB'.cells
        have fB := hB'.frozen
        have cR := hR'.cells
        have fR := hR'.frozen
        by_cases hpos : 0 < k'
        · cases hev : q'.even with
          | true =>
            go_wp2_with (first | (go_at_call 133; refine (f133_any q' _ hq').mono ?_; rintro e w1 ⟨rfl, hb1⟩) | (go_at_call 132; refine (f132_any q' _ hq').mono ?_; rintro e w2 ⟨rfl, hb2⟩; have hB2 := (hB'.below hb1).below hb2; have hR2 := (hR'.below hb1).below hb2; clear cB fB cR fR; have cB := hB2.cells; have fB := hB2.frozen; have cR := hR2.cells; have fR := hR2.frozen))
            go_quiet (fail)
            have hB3 : Blk (((((w2.setCell ⟨B, 0, none⟩ (.int .i64 q'.half.a)).setCell ⟨B, 1, none⟩ (.int .i64 q'.half.b)).setCell ⟨B, 2, none⟩ (.int .i64 q'.half.c)).setCell ⟨B, 3, none⟩ (.int .i64 q'.half.d))) B 162 #[.int .i64 q'.half.a, .int .i64 q'.half.b, .int .i64 q'.half.c, .int .i64 q'.half.d] := (((hB2.set 0 _).set 1 _).set 2 _).set 3 _
            have hb12 := BW.out.trans ((hb1.mono BW.out.size).trans (hb2.mono (Nat.le_trans BW.out.size hb1.size)))
            go_wp2
            go_roundg (k' - 1)
            case measure => omega
            case rel =>
              refine ⟨q'.half, k' - 1, Nat.le_refl _, by omega, ?_, rfl, rfl, hB3.drewN _, ?_, ?_, Q.half_le hq', ?_⟩
              · congr 1; omega
              · exact ((((hR2.far (by simp; omega) _).far (by simp; omega) _).far (by simp; omega) _).far (by simp; omega) _)
              · show Aside _
                exact below_drewN ((((hb12.setCell (by simp; omega) _).setCell (by simp; omega) _).setCell (by simp; omega) _).setCell (by simp; omega) _) _
              · show lower k q = lower (k' - 1) q'.half
                rw [AL.out]
                obtain ⟨j, rfl⟩ : ∃ j, k' = j + 1 := ⟨k' - 1, by omega⟩
                simp [lower, hev]
          | false =>
            have hlow : Hid (lower k q = (q', k')) := by
              show _ = _
              rw [AL.out]
              obtain ⟨j, rfl⟩ : ∃ j, k' = j + 1 := ⟨k' - 1, by omega⟩
              simp [lower, hev]
            clear AL
            go_wp2_with (first | (go_at_call 133; refine (f133_any q' _ hq').mono ?_; rintro e w1 ⟨rfl, hb1⟩; have hB1' := hB'.below hb1; have hR1 := hR'.below hb1; have hW1 := BW.out.trans (hb1.mono BW.out.size); clear cB fB cR fR; have cB := hB1'.cells; have fB := hB1'.frozen; have cR := hR1.cells; have fR := hR1.frozen))
            refine wp_loop_rounds 1 ?_
            rw [rounds_succ]
            by_cases h60 : 60 < k'
            · have h60' : (60 : Int) < (k' : Int) := by omega
              have hR2 := hR1
              have hW2 := hW1
              go_wp2
              have hl : leastQ q k = (⟨0, 0, 0, 0⟩, 0, 8) := by simp [leastQ, hz, hlow.out, h60]
              rw [hl]
              have hF := (((((hR2.set 0 (.int .i64 0)).set 1 (.int .i64 0)).set 2 (.int .i64 0)).set 3 (.int .i64 0)).set 4 (.int .i64 0))
              have cF := hF.cells
              refine bodyPost_ret (v := .tuple #[.agg #[.int .i64 0, .int .i64 0, .int .i64 0, .int .i64 0, .int .i64 0], .int .i64 8]) (by simp [results, Tryz.results97, go_sem, cF]) rfl ⟨rfl, ?_⟩
              exact (((((hW2.setCell (by simp) _).setCell (by simp) _).setCell (by simp) _).setCell (by simp) _).setCell (by simp) _)
            · have h60' : (k' : Int) ≤ 60 := by omega
              cases hf30 : fits4 1073741824 q'.a q'.b q'.c q'.d with
              | false =>
                go_wp2_with (first | (go_at_call 122; refine (f122_any _ _ _ _ _ _ (by omega) (by omega)).mono ?_; rintro e w2 ⟨rfl, hb2⟩; have hR2 := hR1.below hb2; have hBb := hB1'.below hb2; have hW2 := hW1.trans (hb2.mono hW1.size); clear cB fB cR fR; have cB := hBb.cells; have cR := hR2.cells; have fR := hR2.frozen))
                have hl : leastQ q k = (⟨0, 0, 0, 0⟩, 0, 8) := by simp [leastQ, hz, hlow.out, h60, hf30]
                rw [hl]
                have hF := (((((hR2.set 0 (.int .i64 0)).set 1 (.int .i64 0)).set 2 (.int .i64 0)).set 3 (.int .i64 0)).set 4 (.int .i64 0))
                have cF := hF.cells
                refine bodyPost_ret (v := .tuple #[.agg #[.int .i64 0, .int .i64 0, .int .i64 0, .int .i64 0, .int .i64 0], .int .i64 8]) (by simp [results, Tryz.results97, go_sem, cF]) rfl ⟨rfl, ?_⟩
                exact (((((hW2.setCell (by simp) _).setCell (by simp) _).setCell (by simp) _).setCell (by simp) _).setCell (by simp) _)
              | true =>
                go_wp2_with (first | (go_at_call 122; refine (f122_any _ _ _ _ _ _ (by omega) (by omega)).mono ?_; rintro e w2 ⟨rfl, hb2⟩; have hR2 := hR1.below hb2; have hBb := hB1'.below hb2; have hW2 := hW1.trans (hb2.mono hW1.size); clear cB fB cR fR; have cB := hBb.cells; have cR := hR2.cells; have fR := hR2.frozen) | (go_at_call 124; refine (f124_any q' _ _).mono ?_; rintro e w3 ⟨rfl, hb3⟩; have hR3 := hR2.below hb3; clear cR fR; have cR := hR3.cells; have fR := hR3.frozen))
                have hl : leastQ q k = (q', k', 0) := by simp [leastQ, hz, hlow.out, hf30, h60]
                rw [hl]
                have hF := (((((hR3.set 0 (.int .i64 q'.a)).set 1 (.int .i64 q'.b)).set 2 (.int .i64 q'.c)).set 3 (.int .i64 q'.d)).set 4 (.int .i64 ((k' : Nat) : Int)))
                have cF := hF.cells
                refine bodyPost_ret (v := .tuple #[.agg #[.int .i64 q'.a, .int .i64 q'.b, .int .i64 q'.c, .int .i64 q'.d, .int .i64 ((k' : Nat) : Int)], .int .i64 0]) (by simp [results, Tryz.results97, go_sem, cF]) rfl ⟨rfl, ?_⟩
                exact ((((((hW2.trans (hb3.mono hW2.size)).setCell (by simp) _).setCell (by simp) _).setCell (by simp) _).setCell (by simp) _).setCell (by simp) _)
        · have hk0 : k' = 0 := by omega
          subst hk0
          have hlow : Hid (lower k q = (q', 0)) := by
            show _ = _
            rw [AL.out]
            simp [lower]
          clear AL
          have h60 : ¬ 60 < 0 := by omega
          have hR1 := hR'
          have hB1' := hB'
          have hW1 := BW.out
          go_wp2
          refine wp_loop_rounds 1 ?_
          rw [rounds_succ]
          cases hf30 : fits4 1073741824 q'.a q'.b q'.c q'.d with
          | false =>
            go_wp2_with (first | (go_at_call 122; refine (f122_any _ _ _ _ _ _ (by omega) (by omega)).mono ?_; rintro e w2 ⟨rfl, hb2⟩; have hR2 := hR1.below hb2; have hBb := hB1'.below hb2; have hW2 := hW1.trans (hb2.mono hW1.size); clear cB fB cR fR; have cB := hBb.cells; have cR := hR2.cells; have fR := hR2.frozen))
            have hl : leastQ q k = (⟨0, 0, 0, 0⟩, 0, 8) := by simp [leastQ, hz, hlow.out, hf30]
            rw [hl]
            have hF := (((((hR2.set 0 (.int .i64 0)).set 1 (.int .i64 0)).set 2 (.int .i64 0)).set 3 (.int .i64 0)).set 4 (.int .i64 0))
            have cF := hF.cells
            refine bodyPost_ret (v := .tuple #[.agg #[.int .i64 0, .int .i64 0, .int .i64 0, .int .i64 0, .int .i64 0], .int .i64 8]) (by simp [results, Tryz.results97, go_sem, cF]) rfl ⟨rfl, ?_⟩
            exact (((((hW2.setCell (by simp) _).setCell (by simp) _).setCell (by simp) _).setCell (by simp) _).setCell (by simp) _)
          | true =>
            go_wp2_with (first | (go_at_call 122; refine (f122_any _ _ _ _ _ _ (by omega) (by omega)).mono ?_; rintro e w2 ⟨rfl, hb2⟩; have hR2 := hR1.below hb2; have hBb := hB1'.below hb2; have hW2 := hW1.trans (hb2.mono hW1.size); clear cB fB cR fR; have cB := hBb.cells; have cR := hR2.cells; have fR := hR2.frozen) | (go_at_call 124; refine (f124_any q' _ _).mono ?_; rintro e w3 ⟨rfl, hb3⟩; have hR3 := hR2.below hb3; clear cR fR; have cR := hR3.cells; have fR := hR3.frozen))
            have hl : leastQ q k = (q', 0, 0) := by simp [leastQ, hz, hlow.out, hf30]
            rw [hl]
            have hF := (((((hR3.set 0 (.int .i64 q'.a)).set 1 (.int .i64 q'.b)).set 2 (.int .i64 q'.c)).set 3 (.int .i64 q'.d)).set 4 (.int .i64 0))
            have cF := hF.cells
            refine bodyPost_ret (v := .tuple #[.agg #[.int .i64 q'.a, .int .i64 q'.b, .int .i64 q'.c, .int .i64 q'.d, .int .i64 0], .int .i64 0]) (by simp [results, Tryz.results97, go_sem, cF]) rfl ⟨rfl, ?_⟩
            exact ((((((hW2.trans (hb3.mono hW2.size)).setCell (by simp) _).setCell (by simp) _).setCell (by simp) _).setCell (by simp) _).setCell (by simp) _)
end
section
open Go.RowKit
theorem mul_bd {x y B C : Int} (h1 : -B ≤ x) (h2 : x ≤ B) (h3 : -B ≤ y) (h4 : y ≤ B) (hC : B * B = C) : -C ≤ x * y ∧ x * y ≤ C := by
  subst hC
  have hB : 0 ≤ B := by omega
  have e1 : 0 ≤ (B - x) * (B + y) := Int.mul_nonneg (by omega) (by omega)
  have e2 : 0 ≤ (B + x) * (B - y) := Int.mul_nonneg (by omega) (by omega)
  have e3 : 0 ≤ (B - x) * (B - y) := Int.mul_nonneg (by omega) (by omega)
  have e4 : 0 ≤ (B + x) * (B + y) := Int.mul_nonneg (by omega) (by omega)
  constructor <;> grind
theorem idx0 (a b c d : Int) (w : World) : (Instr.index 162 (.agg #[.int .i64 a, .int .i64 b, .int .i64 c, .int .i64 d]) (.int .i64 0)).run Tryz.prog w = .ok (.int .i64 a) w := by kernel_rfl
theorem idx1 (a b c d : Int) (w : World) : (Instr.index 162 (.agg #[.int .i64 a, .int .i64 b, .int .i64 c, .int .i64 d]) (.int .i64 1)).run Tryz.prog w = .ok (.int .i64 b) w := by kernel_rfl
theorem idx2 (a b c d : Int) (w : World) : (Instr.index 162 (.agg #[.int .i64 a, .int .i64 b, .int .i64 c, .int .i64 d]) (.int .i64 2)).run Tryz.prog w = .ok (.int .i64 c) w := by kernel_rfl
theorem idx3 (a b c d : Int) (w : World) : (Instr.index 162 (.agg #[.int .i64 a, .int .i64 b, .int .i64 c, .int .i64 d]) (.int .i64 3)).run Tryz.prog w = .ok (.int .i64 d) w := by kernel_rfl
attribute [go_sem] idx0 idx1 idx2 idx3
def Q.mul (p q : Q) : Q := ⟨p.a * q.a - p.b * q.d - p.c * q.c - p.d * q.b, p.a * q.b + p.b * q.a - p.c * q.d - p.d * q.c, p.a * q.c + p.b * q.b + p.c * q.a - p.d * q.d, p.a * q.d + p.b * q.c + p.c * q.b + p.d * q.a⟩
set_option maxHeartbeats 4000000 in
set_option maxRecDepth 100000 in
theorem f136_any (p q : Q) (w : World) (hp : p.Le 1073741824) (hq : q.Le 1073741824) :
    Calls Tryz.prog 136 #[.agg #[.int .i64 p.a, .int .i64 p.b, .int .i64 p.c, .int .i64 p.d], .agg #[.int .i64 q.a, .int .i64 q.b, .int .i64 q.c, .int .i64 q.d]] w fun e w' => e = .returned (.agg #[.int .i64 (p.mul q).a, .int .i64 (p.mul q).b, .int .i64 (p.mul q).c, .int .i64 (p.mul q).d]) ∧ Below w.heap.size w w' := by
  obtain ⟨a, b, c, d⟩ := p
  obtain ⟨e, f, g, h⟩ := q
  obtain ⟨ha1, ha2, hb1, hb2, hc1, hc2, hd1, hd2⟩ := hp
  obtain ⟨he1, he2, hf1, hf2, hg1, hg2, hh1, hh2⟩ := hq
  dsimp only [Q.mul] at *
  obtain ⟨m1, n1⟩ := mul_bd (C := 1152921504606846976) ha1 ha2 he1 he2 (by decide)
  obtain ⟨m2, n2⟩ := mul_bd (C := 1152921504606846976) ha1 ha2 hf1 hf2 (by decide)
  obtain ⟨m3, n3⟩ := mul_bd (C := 1152921504606846976) ha1 ha2 hg1 hg2 (by decide)
  obtain ⟨m4, n4⟩ := mul_bd (C := 1152921504606846976) ha1 ha2 hh1 hh2 (by decide)
  obtain ⟨m5, n5⟩ := mul_bd (C := 1152921504606846976) hb1 hb2 he1 he2 (by decide)
  obtain ⟨m6, n6⟩ := mul_bd (C := 1152921504606846976) hb1 hb2 hf1 hf2 (by decide)
  obtain ⟨m7, n7⟩ := mul_bd (C := 1152921504606846976) hb1 hb2 hg1 hg2 (by decide)
  obtain ⟨m8, n8⟩ := mul_bd (C := 1152921504606846976) hb1 hb2 hh1 hh2 (by decide)
  obtain ⟨m9, n9⟩ := mul_bd (C := 1152921504606846976) hc1 hc2 he1 he2 (by decide)
  obtain ⟨m10, n10⟩ := mul_bd (C := 1152921504606846976) hc1 hc2 hf1 hf2 (by decide)
  obtain ⟨m11, n11⟩ := mul_bd (C := 1152921504606846976) hc1 hc2 hg1 hg2 (by decide)
  obtain ⟨m12, n12⟩ := mul_bd (C := 1152921504606846976) hc1 hc2 hh1 hh2 (by decide)
  obtain ⟨m13, n13⟩ := mul_bd (C := 1152921504606846976) hd1 hd2 he1 he2 (by decide)
  obtain ⟨m14, n14⟩ := mul_bd (C := 1152921504606846976) hd1 hd2 hf1 hf2 (by decide)
  obtain ⟨m15, n15⟩ := mul_bd (C := 1152921504606846976) hd1 hd2 hg1 hg2 (by decide)
  obtain ⟨m16, n16⟩ := mul_bd (C := 1152921504606846976) hd1 hd2 hh1 hh2 (by decide)
  clear ha1 ha2 hb1 hb2 hc1 hc2 hd1 hd2 he1 he2 hf1 hf2 hg1 hg2 hh1 hh2
  go_enter Tryz.func136, Tryz.ntmps136
  go_wp2
  refine wp_loop_rounds 5 ?_
  rw [rounds_succ]
  go_wp2
  refine wp_loop_rounds 5 ?_
  rw [rounds_succ]
  go_wp2
  rw [rounds_succ]
  go_wp2
  rw [rounds_succ]
  go_wp2
  rw [rounds_succ]
  go_wp2
  rw [rounds_succ]
  go_wp2
  rw [rounds_succ]
  go_wp2
  refine wp_loop_rounds 5 ?_
  rw [rounds_succ]
  go_wp2
  rw [rounds_succ]
  go_wp2
  rw [rounds_succ]
  go_wp2
  rw [rounds_succ]
  go_wp2
  rw [rounds_succ]
  go_wp2
  rw [rounds_succ]
  go_wp2
  refine wp_loop_rounds 5 ?_
  rw [rounds_succ]
  go_wp2
  rw [rounds_succ]
  go_wp2
  rw [rounds_succ]
  go_wp2
  rw [rounds_succ]
  go_wp2
  rw [rounds_succ]
  go_wp2
  rw [rounds_succ]
  go_wp2
  refine wp_loop_rounds 5 ?_
  rw [rounds_succ]
  go_wp2
  rw [rounds_succ]
  go_wp2
  rw [rounds_succ]
  go_wp2
  rw [rounds_succ]
  go_wp2
  rw [rounds_succ]
  go_wp2
  rw [rounds_succ]
  go_wp2
  refine bodyPost_ret (v := .agg #[.int .i64 (a * e - b * h - c * g - d * f), .int .i64 (a * f + b * e - c * h - d * g), .int .i64 (a * g + b * f + c * e - d * h), .int .i64 (a * h + b * g + c * f + d * e)]) ?_ rfl ⟨rfl, ?_⟩
  · simp [results, Tryz.results136, go_sem]
  · exact (((((Below.refl _ _).alloc (Nat.le_refl _) _).alloc (by first | (simp; done) | (simp; omega) | omega) _).alloc (by first | (simp; done) | (simp; omega) | omega) _).alloc (by first | (simp; done) | (simp; omega) | omega) _)
end
section
open Go.RowKit
attribute [local go_sem ↓] Go.wp_at_zero Go.wp_at_succ
set_option maxHeartbeats 400000 in
set_option maxRecDepth 100000 in
theorem f78_any (q : Q) (k : Int) (w : World) :
    Calls Tryz.prog 78 #[.agg #[.int .i64 q.a, .int .i64 q.b, .int .i64 q.c, .int .i64 q.d, .int .i64 k]] w fun e w' => e = .returned (.agg #[.int .i64 q.a, .int .i64 q.b, .int .i64 q.c, .int .i64 q.d, .int .i64 k, .func (.func 126) #[] #[]]) ∧ Below w.heap.size w w' := by
  go_enter Tryz.func78, Tryz.ntmps78
  go_wp2
  refine bodyPost_ret (v := .agg #[.int .i64 q.a, .int .i64 q.b, .int .i64 q.c, .int .i64 q.d, .int .i64 k, .func (.func 126) #[] #[]]) (by simp [results, Tryz.results78, go_sem]) rfl ⟨rfl, ?_⟩
  exact ((((Below.refl _ _).alloc (Nat.le_refl _) _).alloc (by first | (simp; done) | (simp; omega) | omega) _))
set_option maxHeartbeats 400000 in
set_option maxRecDepth 100000 in
theorem f126_any (a b : Int) (w : World) (ha1 : -4000000000000000000 ≤ a) (ha2 : a ≤ 4000000000000000000) (hb1 : -4000000000000000000 ≤ b) (hb2 : b ≤ 4000000000000000000) :
    Calls Tryz.prog 126 #[.int .i64 a, .int .i64 b] w fun e w' => e = .returned (.int .i64 (a + b)) ∧ Below w.heap.size w w' := by
  go_enter Tryz.func126, Tryz.ntmps126
  go_wp2
  go_ret
  exact ⟨rfl, Below.refl _ _⟩
set_option maxHeartbeats 400000 in
set_option maxRecDepth 100000 in
theorem f152_any (a b : Int) (w : World) (ha1 : -4000000000000000000 ≤ a) (ha2 : a ≤ 4000000000000000000) (hb1 : -4000000000000000000 ≤ b) (hb2 : b ≤ 4000000000000000000) :
    Calls Tryz.prog 152 #[.int .i64 a, .int .i64 b] w fun e w' => e = .returned (.int .i64 (a - b)) ∧ Below w.heap.size w w' := by
  go_enter Tryz.func152, Tryz.ntmps152
  go_wp2
  go_ret
  exact ⟨rfl, Below.refl _ _⟩
/-- a number that is allowed -/
def okN (q : Q) (k : Nat) : Prop := k ≤ 60 ∧ fits4 1073741824 q.a q.b q.c q.d = true
theorem okN.le {q : Q} {k : Nat} (h : okN q k) : q.Le 1073741824 := by
  have h2 := h.2
  simp only [fits4, List.all_cons, List.all_nil, Bool.and_true, Bool.and_eq_true, inSz, decide_eq_true_eq] at h2
  exact ⟨h2.1.2, h2.1.1, h2.2.1.2, h2.2.1.1, h2.2.2.1.2, h2.2.2.1.1, h2.2.2.2.2, h2.2.2.2.1⟩
theorem Q.Le.mono {q : Q} {m m' : Int} (h : q.Le m) (hm : m ≤ m') : q.Le m' := by
  obtain ⟨h1, h2, h3, h4, h5, h6, h7, h8⟩ := h
  exact ⟨by omega, by omega, by omega, by omega, by omega, by omega, by omega, by omega⟩
set_option maxHeartbeats 1000000 in
set_option maxRecDepth 100000 in
theorem f71_any (q : Q) (k : Nat) (w : World) (hok : okN q k) :
    Calls Tryz.prog 71 #[.agg #[.int .i64 q.a, .int .i64 q.b, .int .i64 q.c, .int .i64 q.d, .int .i64 k]] w fun e w' => e = .returned (.int .i64 0) ∧ Below w.heap.size w w' := by
  have hk1 : ¬ ((k : Int) < 0) := by omega
  have hk2 : (k : Int) ≤ 60 := by have := hok.1; omega
  have hf := hok.2
  have hq := hok.le
  go_enter Tryz.func71, Tryz.ntmps71
  go_wp2_with (first
    | (go_at_call 78; refine (f78_any q _ _).mono ?_; rintro e w1 ⟨rfl, hb1⟩)
    | (go_at_call 121; refine (f121_any q.a q.b q.c q.d _ _ _).mono ?_; rintro e w2 ⟨rfl, hb2⟩)
    | (go_at_call 122; refine (f122_any q.a q.b q.c q.d _ _ (by omega) (by omega)).mono ?_; rintro e w3 ⟨rfl, hb3⟩))
  go_ret
  exact ⟨rfl, ((Below.refl _ _).alloc (Nat.le_refl _) _).trans ((hb1.mono (by simp)).trans ((hb2.mono (Nat.le_trans (by simp) hb1.size)).trans (hb3.mono (Nat.le_trans (by simp) (Nat.le_trans hb1.size hb2.size)))))⟩
end
section
open Go.RowKit
attribute [local go_sem ↓] Go.wp_at_zero Go.wp_at_succ
theorem bt {w w1 w2 : World} (h : Below w.heap.size w w1) (h2 : Below w1.heap.size w1 w2) : Below w.heap.size w w2 := h.trans (h2.mono h.size)
/-- a number: coefficients, and the power of the root -/
structure Num where
  q : Q
  k : Nat
def Num.cells (x : Num) : List Value := [.int .i64 x.q.a, .int .i64 x.q.b, .int .i64 x.q.c, .int .i64 x.q.d, .int .i64 x.k]
def Num.val (x : Num) : Value := .agg #[.int .i64 x.q.a, .int .i64 x.q.b, .int .i64 x.q.c, .int .i64 x.q.d, .int .i64 x.k]
def Num.ok (x : Num) : Prop := okN x.q x.k
def Num.zero : Num := ⟨⟨0, 0, 0, 0⟩, 0⟩
/-- a slice of numbers -/
def SlN (w : World) (A : Option Addr) (xs : List Num) : Prop := Lies w A 5 (xs.map Num.cells)
theorem SlN.below {w w' : World} {A xs} (h : SlN w A xs) (hb : Below w.heap.size w w') : SlN w' A xs := Lies.below h hb
theorem SlN.at_ {w A xs} (h : SlN w A xs) {k : Nat} (hk : k < xs.length) : ∃ b off, A = some ⟨b, off, none⟩ ∧ b < w.heap.size ∧ ∀ i x, xs[i]? = some x →
    w.cell? ⟨b, off + i * 5, none⟩ = some (.int .i64 x.q.a) ∧ w.cell? ⟨b, off + i * 5 + 1, none⟩ = some (.int .i64 x.q.b) ∧ w.cell? ⟨b, off + i * 5 + 2, none⟩ = some (.int .i64 x.q.c) ∧ w.cell? ⟨b, off + i * 5 + 3, none⟩ = some (.int .i64 x.q.d) ∧ w.cell? ⟨b, off + i * 5 + 4, none⟩ = some (.int .i64 x.k) := by
  obtain ⟨b, off, hA, hlt, hc⟩ := h.2 (by simpa using Nat.lt_of_le_of_lt (Nat.zero_le _) hk)
  refine ⟨b, off, hA, hlt, fun i x hx => ?_⟩
  have := (hc i x.cells (by simp [hx])).2
  exact ⟨this 0 _ rfl, this 1 _ rfl, this 2 _ rfl, this 3 _ rfl, this 4 _ rfl⟩
set_option maxHeartbeats 1000000 in
set_option maxRecDepth 100000 in
theorem f77_any (A : Option Addr) (n cap : Nat) (xs : List Num) (w : World) (hn : Hid (n = xs.length)) (hA : SlN w A xs) (hok : ∀ x ∈ xs, x.ok) :
    Calls Tryz.prog 77 #[.slice A n cap] w fun e w' => e = .returned (.int .i64 0) ∧ Below w.heap.size w w' := by
  have hbig : n ≤ 1000000 := by have := hA.1; rw [hn.out]; simpa using this
  go_enter Tryz.func77, Tryz.ntmps77
  go_wp2
  go_loopg [8] n (fun gg s8 wr => ∃ kk : Nat, kk ≤ n ∧ n - kk ≤ gg ∧ s8 = .int .i64 kk ∧ Aside (Below w.heap.size w wr))
  case atStart => exact ⟨0, Nat.zero_le _, by omega, rfl, Below.refl _ w⟩
  case round =>
    obtain ⟨kk, hkk, hg, rfl, BW⟩ := hrel
    by_cases hlt : kk < n
    · have hltz : (kk : Int) < (n : Int) := by omega
      have hk' : kk < xs.length := by rw [← hn.out]; exact hlt
      obtain ⟨b, off, rfl, hblt, hc⟩ := SlN.at_ (hA.below BW.out) hk'
      obtain ⟨x, hx⟩ : ∃ x, xs[kk]? = some x := ⟨xs[kk], by simp⟩
      have hxok := hok x (List.mem_of_getElem? hx)
      obtain ⟨c0, c1, c2, c3, c4⟩ := hc kk x hx
      clear hc hx hok
      go_wp2_with (go_at_call 71; refine (f71_any x.q x.k _ hxok).mono ?_; rintro e w1 ⟨rfl, hb1⟩)
      go_roundg (n - (kk + 1))
      case measure => omega
      case rel =>
        exact ⟨kk + 1, by omega, by omega, by go_num, (show Aside _ from bt (BW.out.alloc BW.out.size _) hb1)⟩
    · have hltz : ¬ (kk : Int) < (n : Int) := by omega
      clear hlt
      go_wp2
      go_ret
      exact ⟨rfl, BW.out⟩
set_option maxHeartbeats 1000000 in
set_option maxRecDepth 100000 in
theorem f47_any (q : Q) (k : Nat) (w : World) (hok : okN q k) :
    Calls Tryz.prog 47 #[.agg #[.int .i64 q.a, .int .i64 q.b, .int .i64 q.c, .int .i64 q.d, .int .i64 k]] w fun e w' => e = .returned (.tuple #[.agg #[.int .i64 (leastQ q k).1.a, .int .i64 (leastQ q k).1.b, .int .i64 (leastQ q k).1.c, .int .i64 (leastQ q k).1.d, .int .i64 (leastQ q k).2.1], .int .i64 (leastQ q k).2.2]) ∧ Below w.heap.size w w' := by
  have hq := hok.le
  have hk := hok.1
  go_enter Tryz.func47, Tryz.ntmps47
  go_wp2_with (first
    | (go_at_call 71; refine (f71_any q k _ hok).mono ?_; rintro e w1 ⟨rfl, hb1⟩; have hA1 := (Blk.below (b := w.heap.size) (T := 38) (cs := #[.int .i64 q.a, .int .i64 q.b, .int .i64 q.c, .int .i64 q.d, .int .i64 k]) (((Blk.new' 38 #[.int .i64 q.a, .int .i64 q.b, .int .i64 q.c, .int .i64 q.d, .int .i64 k] (by simp)).alloc _)) hb1); have hR1 := (Blk.below (b := (w.heap.size + 1)) (T := 38) (cs := #[.int .i64 0, .int .i64 0, .int .i64 0, .int .i64 0, .int .i64 0]) ((Blk.new' 38 #[.int .i64 0, .int .i64 0, .int .i64 0, .int .i64 0, .int .i64 0] (by simp))) hb1); have cA1 := hA1.cells; have fA1 := hA1.frozen; have cR1 := hR1.cells; have fR1 := hR1.frozen)
    | (go_at_call 78; refine (f78_any q k _).mono ?_; rintro e w2 ⟨rfl, hb2⟩; have hA2 := (hA1.below hb2); have hR2 := (hR1.below hb2); have cA2 := hA2.cells; have fA2 := hA2.frozen; clear cA1 fA1; have cR2 := hR2.cells; have fR2 := hR2.frozen; clear cR1 fR1)
    | (go_at_call 97; refine (f97_any q k 126 #[] _ (hq.mono (by omega)) (by omega)).mono ?_; rintro e w3 ⟨rfl, hb3⟩; have hA3 := (hA2.below hb3); have hR3 := (hR2.below hb3); have cA3 := hA3.cells; have fA3 := hA3.frozen; clear cA2 fA2; have cR3 := hR3.cells; have fR3 := hR3.frozen; clear cR2 fR2))
  have hF := (((((hR3.set 0 (.int .i64 (leastQ q k).1.a)).set 1 (.int .i64 (leastQ q k).1.b)).set 2 (.int .i64 (leastQ q k).1.c)).set 3 (.int .i64 (leastQ q k).1.d)).set 4 (.int .i64 (leastQ q k).2.1))
  have cF := hF.cells
  refine bodyPost_ret (v := .tuple #[.agg #[.int .i64 (leastQ q k).1.a, .int .i64 (leastQ q k).1.b, .int .i64 (leastQ q k).1.c, .int .i64 (leastQ q k).1.d, .int .i64 (leastQ q k).2.1], .int .i64 (leastQ q k).2.2]) (by simp [results, Tryz.results47, go_sem, cF]) rfl ⟨rfl, ?_⟩
  have hb := bt (bt (bt (((Below.refl _ _).alloc (Nat.le_refl _) _).alloc (by first | (simp; done) | (simp; omega) | omega) _) hb1) hb2) hb3
  exact (((((hb.setCell (by first | (simp; done) | (simp; omega) | omega) _).setCell (by first | (simp; done) | (simp; omega) | omega) _).setCell (by first | (simp; done) | (simp; omega) | omega) _).setCell (by first | (simp; done) | (simp; omega) | omega) _).setCell (by first | (simp; done) | (simp; omega) | omega) _)
end
section
open Go.RowKit
attribute [local go_sem ↓] Go.wp_at_zero Go.wp_at_succ
def raiseQ : Nat → Q → Q
  | 0, q => q
  | n + 1, q => raiseQ n q.twice
theorem Q.twice_le {q : Q} {m : Int} (h : q.Le m) : q.twice.Le (2 * m) := by
  obtain ⟨h1, h2, h3, h4, h5, h6, h7, h8⟩ := h
  unfold Q.twice Q.Le
  exact ⟨by dsimp only; omega, by dsimp only; omega, by dsimp only; omega, by dsimp only; omega, by dsimp only; omega, by dsimp only; omega, by dsimp only; omega, by dsimp only; omega⟩
def bound (j : Nat) : Int := 1073741824 * (2 ^ j : Nat)
theorem bound_le {j : Nat} (h : j ≤ 30) : bound j ≤ 1152921504606846976 := by
  unfold bound
  have := Nat.pow_le_pow_right (n := 2) (by omega) h
  omega
theorem bound_succ (j : Nat) : bound (j + 1) = 2 * bound j := by unfold bound; rw [Nat.pow_succ]; omega
theorem raiseQ_le (j : Nat) : ∀ (i : Nat) {q : Q}, q.Le (bound i) → (raiseQ j q).Le (bound (i + j)) := by
  induction j with
  | zero => intro i q h; exact h
  | succ j ih => intro i q h; have := ih (i + 1) (q := q.twice) (by rw [bound_succ]; exact Q.twice_le h); rw [show i + (j + 1) = i + 1 + j from by omega]; exact this
set_option maxHeartbeats 2000000 in
set_option maxRecDepth 100000 in
theorem f127_any (q : Q) (k kk : Nat) (g : Nat) (w : World) (hq : q.Le 1073741824) (hk : k ≤ kk) (hk2 : kk ≤ k + 30) (hk3 : k ≤ 1000) :
    Calls Tryz.prog 127 #[.agg #[.int .i64 q.a, .int .i64 q.b, .int .i64 q.c, .int .i64 q.d, .int .i64 k, .func (.func g) #[] #[]], .int .i64 kk] w fun e w' => e = .returned (.agg #[.int .i64 (raiseQ (kk - k) q).a, .int .i64 (raiseQ (kk - k) q).b, .int .i64 (raiseQ (kk - k) q).c, .int .i64 (raiseQ (kk - k) q).d]) ∧ Below w.heap.size w w' := by
  obtain ⟨m, rfl⟩ : ∃ m, kk = k + m := ⟨kk - k, by omega⟩
  rw [show k + m - k = m from by omega]
  go_enter Tryz.func127, Tryz.ntmps127
  go_wp2_with (first
    | (go_at_call 121; refine (f121_any q.a q.b q.c q.d _ _ _).mono ?_; rintro e w1 ⟨rfl, hb1⟩; have hA1 := (Blk.below (b := w.heap.size) (T := 125) (cs := #[.int .i64 q.a, .int .i64 q.b, .int .i64 q.c, .int .i64 q.d, .int .i64 k, .func (.func g) #[] #[]]) (((Blk.new' 125 #[.int .i64 q.a, .int .i64 q.b, .int .i64 q.c, .int .i64 q.d, .int .i64 k, .func (.func g) #[] #[]] (by simp)).alloc _)) hb1); have hR1 := (Blk.below (b := (w.heap.size + 1)) (T := 162) (cs := #[.int .i64 0, .int .i64 0, .int .i64 0, .int .i64 0]) ((Blk.new' 162 #[.int .i64 0, .int .i64 0, .int .i64 0, .int .i64 0] (by simp))) hb1); have cA1 := hA1.cells; have fA1 := hA1.frozen; have lA1 := hA1.lt; have cR1 := hR1.cells; have fR1 := hR1.frozen; have lR1 := hR1.lt))
  have hP0 : Blk (w1.alloc (.cells #[.int .i64 q.a, .int .i64 q.b, .int .i64 q.c, .int .i64 q.d] 162)) w1.heap.size 162 #[.int .i64 q.a, .int .i64 q.b, .int .i64 q.c, .int .i64 q.d] := Blk.new _ _ _
  have hW0 := bt (((Below.refl _ _).alloc (Nat.le_refl _) _).alloc (by first | (simp; done) | (simp; omega) | omega) _) hb1
  go_loopg [13] m (fun gg s13 wr => ∃ (j : Nat) (q' : Q), j ≤ m ∧ m - j ≤ gg ∧ s13 = .int .i64 j ∧ Blk wr w1.heap.size 162 #[.int .i64 q'.a, .int .i64 q'.b, .int .i64 q'.c, .int .i64 q'.d] ∧ Blk wr (w.heap.size + 1) 162 #[.int .i64 0, .int .i64 0, .int .i64 0, .int .i64 0] ∧ Aside (Below w.heap.size w wr) ∧ q'.Le (bound j) ∧ Aside (raiseQ (m - j) q' = raiseQ m q))
  case atStart => exact ⟨0, q, Nat.zero_le _, by omega, rfl, hP0, hR1.alloc _, hW0.alloc hW0.size _, hq, rfl⟩
  case round =>
    obtain ⟨j, q', hj, hg, rfl, hP, hR, BW, hq', AL⟩ := hrel
    clear cA1 fA1 cR1 fR1 hP0 hW0
    have lw := BW.out.size
    have lA2 : w.heap.size + 1 < wr.heap.size := hR.lt
    have cP := hP.cells
    have fP := hP.frozen
    have cR := hR.cells
    have fR := hR.frozen
    by_cases hlt : j < m
    · have hltz : (j : Int) < (m : Int) := by omega
      have hb30 := bound_le (j := j) (by omega)
      go_wp2_with (go_at_call 134; refine (f134_any q' _ (hq'.mono (by omega))).mono ?_; rintro e w2 ⟨rfl, hb2⟩; have hP2 := hP.below hb2; have hR2 := hR.below hb2; clear cP fP cR fR; have cP := hP2.cells; have fP := hP2.frozen)
      go_roundg (m - (j + 1))
      case measure => omega
      case rel =>
        refine ⟨j + 1, q'.twice, by omega, by omega, by go_num, ((((hP2.set 0 (.int .i64 q'.twice.a)).set 1 (.int .i64 q'.twice.b)).set 2 (.int .i64 q'.twice.c)).set 3 (.int .i64 q'.twice.d)), ((((hR2.far (by first | (simp; done) | (simp; omega) | omega) _).far (by first | (simp; done) | (simp; omega) | omega) _).far (by first | (simp; done) | (simp; omega) | omega) _).far (by first | (simp; done) | (simp; omega) | omega) _), ?_, ?_, ?_⟩
        · show Aside _
          exact (((((bt BW.out hb2).setCell (by first | (simp; done) | (simp; omega) | omega) _).setCell (by first | (simp; done) | (simp; omega) | omega) _).setCell (by first | (simp; done) | (simp; omega) | omega) _).setCell (by first | (simp; done) | (simp; omega) | omega) _)
        · rw [bound_succ]; exact Q.twice_le hq'
        · show raiseQ (m - (j + 1)) q'.twice = raiseQ m q
          rw [← AL.out]
          obtain ⟨i, hi⟩ : ∃ i, m - j = i + 1 := ⟨m - j - 1, by omega⟩
          rw [hi, show m - (j + 1) = i from by omega]
          rfl
    · have hltz : ¬ (j : Int) < (m : Int) := by omega
      have hjm : Hid (j = m) := by show _ = _; omega
      clear hlt
      go_wp2
      have hqq : q' = raiseQ m q := by have := AL.out; rw [hjm.out, Nat.sub_self] at this; exact this
      rw [← hqq]
      have hF := ((((hR.set 0 (.int .i64 q'.a)).set 1 (.int .i64 q'.b)).set 2 (.int .i64 q'.c)).set 3 (.int .i64 q'.d))
      have cF := hF.cells
      refine bodyPost_ret (v := .agg #[.int .i64 q'.a, .int .i64 q'.b, .int .i64 q'.c, .int .i64 q'.d]) (by simp [results, Tryz.results127, go_sem, cF]) rfl ⟨rfl, ?_⟩
      have hb := BW.out
      exact ((((hb.setCell (by first | (simp; done) | (simp; omega) | omega) _).setCell (by first | (simp; done) | (simp; omega) | omega) _).setCell (by first | (simp; done) | (simp; omega) | omega) _).setCell (by first | (simp; done) | (simp; omega) | omega) _)
end
end Go.Proofs.YtdfgmmjcamhdjaaGreatDoor
