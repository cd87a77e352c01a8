/- Steps to WholeMatrices' card; what each asks stands in it. -/
import Derived.Deep.RegionLaw
import Derived.Test.YtdfgmmjcamhdjaaGreatDoorA25
set_option linter.unusedVariables false
set_option linter.unusedSimpArgs false
namespace Go.Proofs.YtdfgmmjcamhdjaaGreatDoor
section
open Go.RowKit
/-- a matrix whose rows grow -/
structure Gro (w : World) (base ob N : Nat) (s : Nat → Value) (L : Nat → Nat) (M : Nat → Nat → Num) : Prop where
  lob : ob < base
  head : ∃ cs, Blk w ob 72 cs ∧ cs.size = N ∧ ∀ i, i < N → cs[i]? = some (s i)
  row : ∀ i, i < N → w.ownsRow base 38 5 (s i) (L i) (numsFlat (M i) (L i))
  inj : ∀ i j b, i < N → j < N → (s i).ownBlock = some b → (s j).ownBlock = some b → i = j
section
variable {w w' : World} {base ob N : Nat} {s : Nat → Value} {L : Nat → Nat} {M : Nat → Nat → Num}
theorem Gro.lt (H : Gro w base ob N s L M) : ob < w.heap.size := by
  obtain ⟨cs, h1, _⟩ := H.head
  exact h1.lt
theorem Gro.below (H : Gro w base ob N s L M) (hb : Below w.heap.size w w') : Gro w' base ob N s L M := by
  obtain ⟨cs, h1, h2, h3⟩ := H.head
  exact ⟨H.lob, ⟨cs, h1.below hb, h2, h3⟩, fun i hi => ownsRow_below (H.row i hi) hb, H.inj⟩
theorem Gro.cell (H : Gro w base ob N s L M) {i : Nat} (hi : i < N) : w.cell? ⟨ob, i, none⟩ = some (s i) := by
  obtain ⟨cs, h1, h2, h3⟩ := H.head
  rw [h1.cells]
  exact h3 i hi
theorem Gro.frozen (H : Gro w base ob N s L M) (i : Nat) : w.frozen? ⟨ob, i, none⟩ = false := by
  obtain ⟨cs, h1, h2, h3⟩ := H.head
  exact h1.frozen i
theorem Gro.own_ne (H : Gro w base ob N s L M) {i : Nat} (hi : i < N) : (s i).ownBlock ≠ some ob := fun e => by
  have := (ownsRow_block (H.row i hi) ob e).1
  have := H.lob
  omega
/-- one element more in a row -/
theorem Gro.app (H : Gro w base ob N s L M) {i g cap Hn : Nat} (hi : i < N) (hO : w'.ownsRow base 38 5 (.slice (some ⟨g, 0, none⟩) (L i + 1 : Nat) cap) (L i + 1) (numsFlat (M i) (L i + 1))) (hg : w.grownBy w' (s i).ownBlock) (hat : (s i).ownBlock = some g ∨ g = Hn) (hH : w.heap.size = Hn) :
    Gro (w'.setCell ⟨ob, i, none⟩ (.slice (some ⟨g, 0, none⟩) (L i + 1 : Nat) cap)) base ob N (fun j => if j = i then .slice (some ⟨g, 0, none⟩) (L i + 1 : Nat) cap else s j) (fun j => if j = i then L i + 1 else L j) M := by
  obtain ⟨cs, h1, h2, h3⟩ := H.head
  have hgb : g ≠ ob := by
    rcases hat with h | h
    · intro e; exact H.own_ne hi (by rw [h, e])
    · have := h1.lt; omega
  have hset : ∀ k, k ≠ ob → (w'.setCell ⟨ob, i, none⟩ (.slice (some ⟨g, 0, none⟩) (L i + 1 : Nat) cap)).heap[k]? = w'.heap[k]? := fun k hk => Below.heap_setCell _ _ _ _ hk
  have hng : ∀ j, j < N → j ≠ i → (s j).ownBlock ≠ some g := fun j hj hne e => by
    rcases hat with h | h
    · exact hne (H.inj j i g hj hi e h)
    · have := (ownsRow_block (H.row j hj) g e).2; omega
  refine ⟨H.lob, ⟨_, (h1.grown hg (H.own_ne hi)).set i _, by simpa using h2, fun j hj => ?_⟩, fun j hj => ?_, fun a b blk ha hb hea heb => ?_⟩
  · simp only [Array.getElem?_setIfInBounds, h2]
    by_cases e : j = i
    · subst e; rw [if_pos rfl, if_pos hj, if_pos rfl]
    · rw [if_neg (fun h => e h.symm), if_neg e]; exact h3 j hj
  · by_cases e : j = i
    · subst e
      rw [if_pos rfl, if_pos rfl]
      exact ownsRow_keep hO fun k hk => hset k (fun e2 => by cases hk; exact hgb e2)
    · rw [if_neg e, if_neg e]
      refine ownsRow_keep (H.row j hj) fun k hk => ?_
      have hk2 := ownsRow_block (H.row j hj) k hk
      have hko : k ≠ ob := fun e2 => H.own_ne hj (by rw [hk, e2])
      rw [hset k hko]
      exact hg.block k hk2.2 (fun e2 => e (H.inj j i k hj hi hk (e2.symm ▸ rfl)))
  · by_cases e1 : a = i
    · by_cases e2 : b = i
      · rw [e1, e2]
      · rw [if_pos e1] at hea
        rw [if_neg e2] at heb
        cases hea
        exact absurd heb (hng b hb e2)
    · by_cases e2 : b = i
      · rw [if_neg e1] at hea
        rw [if_pos e2] at heb
        cases heb
        exact absurd hea (hng a ha e1)
      · rw [if_neg e1] at hea
        rw [if_neg e2] at heb
        exact H.inj a b blk ha hb hea heb
/-- all rows full: a matrix of one's own -/
theorem Gro.grid {n : Nat} (H : Gro w base ob N s (fun _ => n) M) (hn : 1 ≤ n) {lo : Nat} (hlo : lo ≤ ob) : ∃ rb rc, Grid w lo ob N n rb rc M := by
  obtain ⟨cs, h1, h2, h3⟩ := H.head
  have hs : ∀ i, i < N → ∃ g cap, s i = .slice (some ⟨g, 0, none⟩) n cap ∧ base ≤ g ∧ RowG w g n (M i) := fun i hi => by
    have hO := H.row i hi
    have hO' := hO
    rcases hO.2 with ⟨_, h0⟩ | ⟨g, cap, cur, e, hb, hc, _⟩
    · omega
    · rw [e] at hO'
      refine ⟨g, cap, e, hb, cur, hc, fun j hj => ?_⟩
      have hN := own_nums hO' j hj
      have hcell : ∀ q, w.cell? ⟨g, q, none⟩ = cur[q]? := fun q => (show Blk w g 38 cur from hc).cells q
      obtain ⟨a0, a1, a2, a3, a4⟩ := hN
      rw [hcell] at a0 a1 a2 a3 a4
      rw [Nat.zero_add] at a0 a1 a2 a3 a4
      exact ⟨a0, a1, a2, a3, a4⟩
  have hf : ∀ i, ∃ gc : Nat × Nat, i < N → s i = .slice (some ⟨gc.1, 0, none⟩) n gc.2 ∧ base ≤ gc.1 ∧ RowG w gc.1 n (M i) := fun i => by
    by_cases hi : i < N
    · obtain ⟨g, cap, h⟩ := hs i hi
      exact ⟨(g, cap), fun _ => h⟩
    · exact ⟨(0, 0), fun h => absurd h hi⟩
  obtain ⟨f, hf⟩ := Classical.axiomOfChoice hf
  refine ⟨fun i => (f i).1, fun i => (f i).2, hlo, ⟨cs, h1, fun i hi => by rw [h3 i hi, (hf i hi).1]⟩, fun i hi => ⟨by have := (hf i hi).2.1; have := H.lob; omega, (hf i hi).2.2⟩, fun i j hi hj e => ?_⟩
  refine H.inj i j (f i).1 hi hj ?_ ?_
  · rw [(hf i hi).1]; rfl
  · rw [(hf j hj).1]
    show some (f j).1 = some (f i).1
    rw [show (f i).1 = (f j).1 from e]
end
theorem mk31 (n : Nat) (w : World) (hn : n ≤ 1000000) : (Instr.makeSlice 31 (.int .i64 n) (.int .i64 n)).run Tryz.prog w = .ok (.slice (some ⟨w.heap.size, 0, none⟩) n n) (w.alloc (.cells (Array.replicate n (.slice none 0 0)) 72)) := by
  obtain ⟨i0, hi, hz0, hz1, hz2⟩ := info_parts info72
  rw [run_make w 31 72 i0 _ und31 hi hz0 .i64 .i64 n n (by omega) (Int.le_refl _) (by rw [hz2]; omega) (by omega), hz1]
  rw [madeCells_const _ (.slice none 0 0) _ (by simp [Value.cells]) (by intro i hi; simp [Value.cells] at hi; subst hi; rfl)]
  simp [Value.cells]
theorem Gro.new (w : World) (N : Nat) (M : Nat → Nat → Num) : Gro (w.alloc (.cells (Array.replicate N (.slice none 0 0)) 72)) (w.heap.size + 1) w.heap.size N (fun _ => .slice none 0 0) (fun _ => 0) M :=
  ⟨Nat.lt_succ_self _, ⟨_, Blk.new _ _ _, by simp, fun i hi => by rw [Array.getElem?_replicate, if_pos hi]⟩, fun i hi => World.ownsRow_nil _ _ _ _, fun i j b _ _ h _ => by cases h⟩
end
section
open Go.RowKit
attribute [local go_sem ↓] Go.wp_at_zero Go.wp_at_succ run_eqN
/-- the operator of gates, number by number -/
def colM (gs : List Gt) (i j : Nat) : Num := stV (runG gs (j, 0)).1 (runG gs (j, 0)).2 i
def Gros (w : World) (base ob N vb k ii : Nat) (M : Nat → Nat → Num) : Prop := ∃ s, Gro w base ob N s (fun j => if j < ii then k + 1 else k) M ∧ RowB w vb N (fun i => M i k) ∧ (∀ i, i < N → (s i).ownBlock ≠ some vb) ∧ vb ≠ ob
theorem Gro.cell_grown {w w' : World} {base ob N : Nat} {s : Nat → Value} {L : Nat → Nat} {M : Nat → Nat → Num} (H : Gro w base ob N s L M) {i : Nat} (hi : i < N) (hg : w.grownBy w' (s i).ownBlock) : w'.cell? ⟨ob, i, none⟩ = some (s i) ∧ w'.frozen? ⟨ob, i, none⟩ = false := by
  obtain ⟨cs, h1, h2, h3⟩ := H.head
  have h4 := h1.grown hg (H.own_ne hi)
  exact ⟨by rw [h4.cells]; exact h3 i hi, h4.frozen i⟩
theorem RowB.grown {w w' : World} {b n : Nat} {f : Nat → Num} {row : Option Nat} (h : RowB w b n f) (hg : w.grownBy w' row) (hr : row ≠ some b) : RowB w' b n f := by
  obtain ⟨cs, q1, q2, q3⟩ := h
  exact ⟨cs, q1.grown hg hr, q2, q3⟩
theorem Gro.congrL {w : World} {base ob N : Nat} {s : Nat → Value} {L L' : Nat → Nat} {M : Nat → Nat → Num} (H : Gro w base ob N s L M) (h : ∀ i, i < N → L i = L' i) : Gro w base ob N s L' M :=
  ⟨H.lob, H.head, fun i hi => by rw [← h i hi]; exact H.row i hi, H.inj⟩
theorem GatesR.below' {w w' : World} {lo : Nat} {gv : Value} {gs : List Gt} (h : GatesR w lo gv gs) (hb : Below w.heap.size w w') : GatesR w' lo gv gs := h.below hb
def MatrixPost (N : Nat) (M : Nat → Nat → Num) (w : World) (e : Ending) (w' : World) : Prop := ∃ b rb rc, e = .returned (.tuple #[.slice (some ⟨b, 0, none⟩) N N, .int .i64 0]) ∧ Grid w' w.heap.size b N N rb rc M ∧ Below w.heap.size w w'
set_option maxHeartbeats 4000000 in
set_option maxRecDepth 100000 in
theorem f26_any (lo n N : Nat) (gv : Value) (gs : List Gt) (w : World) (hn1 : 1 ≤ n) (hn : n ≤ 6) (hN : Hid (2 ^ n = N)) (hg : ∀ gt ∈ gs, Gt.ok gt n) (hL : gs.length ≤ 120) (hR : GatesR w lo gv gs) :
    Calls Tryz.prog 26 #[.agg #[.int .i64 n, .int .i64 0, gv]] w (MatrixPost N (colM gs) w) := by
  have hNb := pow6 n hn1 hn
  have hwN := w64s n hn
  rw [hN.out] at hNb hwN
  have hwN2 : IntKind.i64.wrap (2 ^ n) = (N : Int) := by rw [IntKind.wrap_i64]; have h := hwN; unfold wrap64 at h; exact h
  have hmk := fun w => mk31 N w (by omega)
  have hbA : Below w.heap.size w (w.alloc (.cells #[.int .i64 n, .int .i64 0, gv] 43)) := (Below.refl _ w).alloc (Nat.le_refl _) _
  have hC0 : Blk (w.alloc (.cells #[.int .i64 n, .int .i64 0, gv] 43)) w.heap.size 43 #[.int .i64 n, .int .i64 0, gv] := Blk.new _ _ _
  have hR0 := hR.below hbA
  have H69 := f69_any n lo gv gs _ hn1 hn (fun g h => (hg g h).okH) hL hR0
  have HRA : Aside (GatesR w lo gv gs) := hR
  clear hR
  go_enter Tryz.func26, Tryz.ntmps26
  go_wp2_with (go_at_call 69; refine H69.mono ?_; clear H69; rintro e w1 ⟨rfl, hb1⟩; have hC1 := hC0.below hb1; have cC1 := hC1.cells)
  have hW1 := bt hbA hb1
  have hR1 := hR0.below hb1
  have hs1 := hW1.size
  have hC2 := hC1.alloc (.cells (Array.replicate N (.slice none 0 0)) 72)
  have hR2 := hR1.below ((Below.refl _ w1).alloc (Nat.le_refl _) (.cells (Array.replicate N (.slice none 0 0)) 72))
  have hG2 := Gro.new w1 N (colM gs)
  have hW2 := hW1.alloc hW1.size (.cells (Array.replicate N (.slice none 0 0)) 72)
  generalize hw2 : w1.alloc (.cells (Array.replicate N (.slice none 0 0)) 72) = w2 at hC2 hR2 hG2 hW2 ⊢
  obtain ⟨ob, hob⟩ : ∃ ob, w1.heap.size = ob := ⟨_, rfl⟩
  rw [hob] at hG2 hs1 ⊢
  have hls : w.heap.size < ob := by rw [← hob]; exact hC1.lt
  clear hw2 hob hC0 hC1 cC1 hb1 hW1 hR0 hR1 hbA hmk
  go_loopg [22] N (fun gg s22 wr => ∃ k : Nat, k ≤ N ∧ N - k ≤ gg ∧ s22 = .int .i64 k ∧ Aside (∃ s, Gro wr (ob + 1) ob N s (fun _ => k) (colM gs)) ∧ Aside (Blk wr w.heap.size 43 #[.int .i64 n, .int .i64 0, gv]) ∧ Aside (Below w.heap.size w wr))
  case atStart => exact ⟨0, Nat.zero_le _, by omega, rfl, (show Aside _ from ⟨_, hG2⟩), (show Aside _ from hC2), (show Aside _ from hW2)⟩
  case round =>
    obtain ⟨k, hk, hg', rfl, AG, AC, AW⟩ := hrel
    obtain ⟨s, hG⟩ := AG.out
    have hC := AC.out
    have hW := AW.out
    clear AG AC AW hG2 hC2 hR2 hW2
    by_cases hlt : k < N
    · have hltz : (k : Int) < (N : Int) := by omega
      have H70 := f70_any lo n k N gv gs wr hn1 hn hN hlt hg hL (HRA.out.below' hW)
      have cC := hC.cells
      go_wp2_with (go_at_call 70; refine H70.mono ?_; clear H70; rintro e w5 ⟨vb, hvl, rfl, hV, hb5⟩)
      have hW5 := bt hW hb5
      have hC5 := hC.below hb5
      have hG5 := hG.below hb5
      have hov : ∀ i, i < N → (s i).ownBlock ≠ some vb := fun i hi e => by
        have := (ownsRow_block (hG.row i hi) vb e).2
        omega
      have hvo : vb ≠ ob := by have := hG.lt; omega
      have hI : Gros w5 (ob + 1) ob N vb k 0 (colM gs) := ⟨s, hG5, hV, hov, hvo⟩
      clear hG hC hW hb5 hG5 hov hV cC hg
      go_loopg [36] N (fun gg s36 wr => ∃ ii : Nat, ii ≤ N ∧ N - ii ≤ gg ∧ s36 = .int .i64 ii ∧ Aside (Gros wr (ob + 1) ob N vb k ii (colM gs)) ∧ Aside (Blk wr w.heap.size 43 #[.int .i64 n, .int .i64 0, gv]) ∧ Aside (Below w.heap.size w wr))
      case atStart => exact ⟨0, Nat.zero_le _, by omega, rfl, (show Aside _ from hI), (show Aside _ from hC5), (show Aside _ from hW5)⟩
      case round =>
        obtain ⟨ii, hii, hg3, rfl, AI, AC, AW⟩ := hrel
        obtain ⟨s, hG, hV, hov, hvo⟩ := AI.out
        have hC := AC.out
        have hW := AW.out
        clear AI AC AW hI hC5 hW5
        by_cases hlti : ii < N
        · have hltzi : (ii : Int) < (N : Int) := by omega
          obtain ⟨y, hy⟩ : ∃ y, colM gs ii k = y := ⟨_, rfl⟩
          have hn' := hV.numAt hlti
          rw [hy] at hn'
          obtain ⟨y0, y1, y2, y3, y4⟩ := hn'
          have hyH : Hid (colM gs ii k = y) := hy
          clear hy
          go_wp2_with (fail)
          have hZ0 : Blk (wr.alloc (.cells #[.int .i64 y.q.a, .int .i64 y.q.b, .int .i64 y.q.c, .int .i64 y.q.d, .int .i64 y.k] 38)) wr.heap.size 38 #[.int .i64 y.q.a, .int .i64 y.q.b, .int .i64 y.q.c, .int .i64 y.q.d, .int .i64 y.k] := Blk.new _ _ _
          have hbA : Below wr.heap.size wr (wr.alloc (.cells #[.int .i64 y.q.a, .int .i64 y.q.b, .int .i64 y.q.c, .int .i64 y.q.d, .int .i64 y.k] 38)) := (Below.refl _ wr).alloc (Nat.le_refl _) _
          have hGa := hG.below hbA
          have hVa := hV.below hbA
          have hCa := hC.below hbA
          have hWa := bt hW hbA
          generalize hwa : wr.alloc (.cells #[.int .i64 y.q.a, .int .i64 y.q.b, .int .i64 y.q.c, .int .i64 y.q.d, .int .i64 y.k] 38) = wa at hZ0 hGa hVa hCa hWa ⊢
          obtain ⟨zb, hzb⟩ : ∃ zb, wr.heap.size = zb := ⟨_, rfl⟩
          rw [hzb] at hZ0 ⊢
          clear hwa hzb hbA y0 y1 y2 y3 y4 hG hV hC hW
          have cZ := hZ0.cells
          have hbX : Below wa.heap.size wa (wa.drew.alloc (.cells #[.int .i64 y.q.a, .int .i64 y.q.b, .int .i64 y.q.c, .int .i64 y.q.d, .int .i64 y.k] 38)) := ((Below.refl _ wa).drew).alloc (Nat.le_refl _) _
          have hGX := hGa.below hbX
          have hVX := hVa.below hbX
          have hCX := hCa.below hbX
          have hWX := bt hWa hbX
          have hnew : Blk (wa.drew.alloc (.cells #[.int .i64 y.q.a, .int .i64 y.q.b, .int .i64 y.q.c, .int .i64 y.q.d, .int .i64 y.k] 38)) wa.heap.size 38 #[.int .i64 y.q.a, .int .i64 y.q.b, .int .i64 y.q.c, .int .i64 y.q.d, .int .i64 y.k] := Blk.new' _ _ (by simp)
          have hsi := hGa.cell hlti
          have hO := hGX.row ii hlti
          have hL0 : (if ii < ii then k + 1 else k) = k := if_neg (Nat.lt_irrefl _)
          rw [hL0] at hO
          obtain ⟨si, hsiE⟩ : ∃ si, s ii = si := ⟨_, rfl⟩
          rw [hsiE] at hsi hO
          have hsz : ob + 1 ≤ (wa.drew.alloc (.cells #[.int .i64 y.q.a, .int .i64 y.q.b, .int .i64 y.q.c, .int .i64 y.q.d, .int .i64 y.k] 38)).heap.size := by have := hGX.lt; omega
          have hG1 := fun w' (h : (wa.drew.alloc (.cells #[.int .i64 y.q.a, .int .i64 y.q.b, .int .i64 y.q.c, .int .i64 y.q.d, .int .i64 y.k] 38)).grownBy w' si.ownBlock) => hGX.cell_grown hlti (hsiE ▸ h)
          have hY1 : ∀ u ∈ (#[.int .i64 y.q.a, .int .i64 y.q.b, .int .i64 y.q.c, .int .i64 y.q.d, .int .i64 y.k] : Array Value).toList, u.oneCell' = true := by simp [Value.oneCell']
          have hlob := hGa.lt
          go_region_law (first | (refine st_app rfl (.tmp 46) (.tmp 48) 72 rfl (ob + 1) 38 _ 5 40 und72 info38 rfl (by decide) (by decide) si k (numsFlat (colM gs ii) k) (by simp [Act.eval, Act.put]) hO wa.heap.size 38 #[.int .i64 y.q.a, .int .i64 y.q.b, .int .i64 y.q.c, .int .i64 y.q.d, .int .i64 y.k] (by simp [Act.eval, Act.put]) hnew rfl hY1 (by omega) hsz (wa.heap.size + 1) (by simp) ?_; intro g cap w6 hO6 hgr hat hlt6; have q1 := (hG1 w6 hgr).1; have q2 := (hG1 w6 hgr).2))
          all_goals
            have hO7 : w6.ownsRow (ob + 1) 38 5 (.slice (some ⟨g, 0, none⟩) (k + 1 : Nat) cap) (k + 1) (numsFlat (colM gs ii) (k + 1)) := by
              rw [numsFlat_succ, hyH.out]
              exact hO6
            have hA := hGX.app (i := ii) (g := g) (cap := cap) (Hn := wa.heap.size + 1) hlti (by rw [hL0]; exact hO7) (hsiE ▸ hgr) (hsiE ▸ hat) (by simp)
            rw [hL0] at hA
            have hsb : ∀ b, si.ownBlock = some b → ob + 1 ≤ b := fun b hb => (ownsRow_block hO b hb).1
            have hsv : si.ownBlock ≠ some vb := hsiE ▸ hov ii hlti
            have hV8 := (hVX.grown hgr hsv).far (p := ⟨ob, ii, none⟩) hvo (.slice (some ⟨g, 0, none⟩) (k + 1 : Nat) cap)
            have hC8 := (hCX.grown hgr (fun e => by have := hsb _ e; omega)).far (p := ⟨ob, ii, none⟩) (by show w.heap.size ≠ ob; omega) (.slice (some ⟨g, 0, none⟩) (k + 1 : Nat) cap)
            have hW8 := (hWX.grown hgr (by have := hWX.size; exact this) (fun b hb => by have := hsb b hb; omega)).setCell (p := ⟨ob, ii, none⟩) (by show w.heap.size ≤ ob; omega) (.slice (some ⟨g, 0, none⟩) (k + 1 : Nat) cap)
            have hov8 : ∀ i, i < N → ((fun j => if j = ii then (Value.slice (some ⟨g, 0, none⟩) (k + 1 : Nat) cap) else s j) i).ownBlock ≠ some vb := by
              intro i hi
              dsimp only
              by_cases e : i = ii
              · rw [if_pos e]
                intro e2
                have e3 : g = vb := Option.some.inj (show (some g : Option Nat) = some vb from e2)
                rcases hat with h | h
                · exact hsv (by rw [h, e3])
                · have := hVa.lt
                  omega
              · rw [if_neg e]
                exact hov i hi
            have hI8 : Gros (w6.setCell ⟨ob, ii, none⟩ (.slice (some ⟨g, 0, none⟩) (k + 1 : Nat) cap)) (ob + 1) ob N vb k (ii + 1) (colM gs) := by
              refine ⟨_, hA.congrL fun j hj => ?_, hV8, hov8, hvo⟩
              show (if j = ii then k + 1 else if j < ii then k + 1 else k) = if j < ii + 1 then k + 1 else k
              by_cases e : j = ii
              · rw [if_pos e, if_pos (by omega)]
              · rw [if_neg e]
                by_cases e2 : j < ii
                · rw [if_pos e2, if_pos (by omega)]
                · rw [if_neg e2, if_neg (by omega)]
            clear hsi hO hsiE hG1 hY1 hO6 hO7 hA hsb hsv hV8 hov8 q1 q2 hat hgr hnew hGX hVX hCX hWX hbX cZ hGa hVa hCa hWa hZ0 hL0
            go_wp2_with (fail)
            go_roundg (N - (ii + 1))
            case measure => omega
            case rel => exact ⟨ii + 1, by omega, by omega, by go_num, (show Aside _ from hI8), (show Aside _ from hC8), (show Aside _ from hW8)⟩
        · have hltzi : ¬ (ii : Int) < (N : Int) := by omega
          obtain rfl : ii = N := by omega
          have hG' : Gro wr (ob + 1) ob ii s (fun _ => k + 1) (colM gs) := ⟨hG.lob, hG.head, fun i hi => by have := hG.row i hi; rw [if_pos hi] at this; exact this, hG.inj⟩
          clear hlti
          go_wp2_with (fail)
          go_roundg (ii - (k + 1))
          case measure => omega
          case rel => exact ⟨k + 1, by omega, by omega, by go_num, (show Aside _ from ⟨s, hG'⟩), (show Aside _ from hC), (show Aside _ from hW)⟩
    · have hltz : ¬ (k : Int) < (N : Int) := by omega
      obtain rfl : k = N := by omega
      clear hlt
      obtain ⟨rb, rc, hgr⟩ := hG.grid (by omega) (Nat.le_of_lt hls)
      go_wp2_with (fail)
      exact bodyPost_ret (v := .tuple #[.slice (some ⟨ob, 0, none⟩) k k, .int .i64 0]) (by simp [results, Tryz.results26, go_sem]) rfl ⟨ob, rb, rc, rfl, hgr, hW⟩
end
end Go.Proofs.YtdfgmmjcamhdjaaGreatDoor
