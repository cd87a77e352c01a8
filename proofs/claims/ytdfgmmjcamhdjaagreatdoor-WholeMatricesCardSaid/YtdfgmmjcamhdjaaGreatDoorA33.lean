/- Steps to WholeMatrices' card; what each asks stands in it. -/
import Derived.Shelf.Slices.Clone
import Derived.Test.YtdfgmmjcamhdjaaGreatDoorA26
set_option linter.unusedVariables false
set_option linter.unusedSimpArgs false
namespace Go.Proofs.YtdfgmmjcamhdjaaGreatDoor
open Go.RowKit
attribute [local go_sem ↓] Go.wp_at_zero Go.wp_at_succ
theorem info5 : (Tryz.prog.info? 5).map (fun i => (i.zero, i.size, i.bytes)) = some (some (.int .u8 0), 1, 1) := by kernel_rfl
theorem und22 : Tryz.prog.underlying 22 = some (.slice 5) := by kernel_rfl
/-- bytes that lie somewhere -/
def BytesAt (w : World) (A : Option Addr) (n : Nat) : Prop := 0 < n → ∃ b off, A = some ⟨b, off, none⟩ ∧ b < w.heap.size ∧ ∀ i, i < n → ∃ v : Int, 0 ≤ v ∧ v < 256 ∧ w.cell? ⟨b, off + i, none⟩ = some (.int .u8 v)
theorem BytesAt.below {w w' : World} {A : Option Addr} {n : Nat} (h : BytesAt w A n) (hb : Below w.heap.size w w') : BytesAt w' A n := fun h0 => by
  obtain ⟨b, off, hA, hl, hc⟩ := h h0
  refine ⟨b, off, hA, Nat.lt_of_lt_of_le hl hb.size, fun i hi => ?_⟩
  obtain ⟨v, h1, h2, h3⟩ := hc i hi
  exact ⟨v, h1, h2, (hb.cell (p := ⟨b, off + i, none⟩) hl).trans h3⟩
def ClonePost (n : Nat) (w : World) (e : Ending) (w' : World) : Prop := ∃ A c, e = .returned (.slice A n c) ∧ BytesAt w' A n ∧ Below w.heap.size w w'
set_option maxHeartbeats 2000000 in
set_option maxRecDepth 100000 in
theorem f21_any (A : Option Addr) (n c : Nat) (w : World) (hn : n ≤ 300) (hA : BytesAt w A n) (h0 : A = none → n = 0 ∧ c = 0) :
    Calls Tryz.prog 21 #[.slice A n c] w (ClonePost n w) := by
  have q22 : ∀ (w : World) (a : Option Addr) (n c n' c' : Nat), (binOp .eql 22 (.slice a n c) (.slice none n' c')).run Tryz.prog w = .ok (.bool a.isNone) w := fun w a n c n' c' => Lib.run_eql_slice_nil w _ _ a n c n' c' und22
  obtain ⟨i0, hi, hz0, hz1, hz2⟩ := info_parts info5
  cases A with
  | none =>
    obtain ⟨rfl, rfl⟩ := h0 rfl
    go_enter Tryz.func21, Tryz.ntmps21
    go_wp2
    go_ret
    exact ⟨none, 0, rfl, fun h => absurd h (Nat.lt_irrefl _), Below.refl _ _⟩
  | some ad =>
    by_cases hn0 : 0 < n
    · obtain ⟨b, off, hA', hl, hc⟩ := hA hn0
      obtain rfl : ad = ⟨b, off, none⟩ := Option.some.inj hA'
      obtain ⟨f, hf⟩ : ∃ f : Nat → Int, ∀ i, i < n → 0 ≤ f i ∧ f i < 256 ∧ w.cell? ⟨b, off + i, none⟩ = some (.int .u8 (f i)) :=
        ⟨fun i => if h : i < n then Classical.choose (hc i h) else 0, fun i h => by dsimp only; rw [dif_pos h]; exact Classical.choose_spec (hc i h)⟩
      have AA : Aside (∀ i, i < n → 0 ≤ f i ∧ f i < 256 ∧ w.cell? ⟨b, off + i, none⟩ = some (.int .u8 (f i))) := hf
      clear hc hA hf hA'
      go_enter Tryz.func21, Tryz.ntmps21
      go_wp2_with (at_builtin; refine wpList_append_own _ rfl _ _ 22 rfl w.heap.size 5 i0 (.int .u8 0) 1 1 und22 hi hz0 hz1 hz2 rfl (by decide) _ _ _ rfl (World.ownsRow_made w #[] 0 (Nat.le_refl _) (Nat.zero_le _) rfl) ⟨b, off, none⟩ n c ((List.range n).map fun i => .int .u8 (f i)) rfl ?qc1 ?qc2 ?qc3 ?qc4 ?qc5 ?qc6 ?_)
      case qc1 => simp
      case qc2 =>
        intro j u hj
        have hjn : j < n := by
          have := (List.getElem?_eq_some_iff.1 hj).1
          simpa using this
        rw [Addr.add_lit]
        refine Lib.cell?_alloc_some _ ?_
        rw [(AA.out j hjn).2.2]
        rw [List.getElem?_map, List.getElem?_range hjn] at hj
        exact hj
      case qc3 => intro u hu; obtain ⟨x, _, rfl⟩ := List.mem_map.1 hu; rfl
      case qc4 => unfold maxLen; omega
      case qc5 => omega
      case qc6 => simp
      intro v' w1 hown hgrow hnil
      have hB : Below w.heap.size w w1 := ((Below.refl _ w).alloc (Nat.le_refl _) _).grown hgrow (by simp) (by intro k hk; simp [Value.ownBlock] at hk; omega)
      have hR : ClonePost n w (.returned v') w1 := by
        rcases hown.2 with ⟨_, h⟩ | ⟨g, cap, cur, hv, hg1, hg2, hg3, _, hg5, hg6⟩
        · omega
        · refine ⟨some ⟨g, 0, none⟩, cap, by rw [hv], fun _ => ⟨g, 0, rfl, (Array.getElem?_eq_some_iff.1 hg2).1, fun i hi => ⟨f i, (AA.out i hi).1, (AA.out i hi).2.1, ?_⟩⟩, hB⟩
          have hk : Blk w1 g 5 cur := hg2
          rw [hk.cells, Nat.zero_add]
          have h1 : (cur.toList.take (n * 1))[i]? = some (.int .u8 (f i)) := by
            rw [hg6]
            simp [hi]
          rw [List.getElem?_take, if_pos (by omega)] at h1
          simpa using h1
      clear hown hgrow hnil hB
      go_wp2
      go_ret
      exact hR
    · obtain rfl : n = 0 := by omega
      go_enter Tryz.func21, Tryz.ntmps21
      go_wp2_with (at_builtin; refine wpList_append_own _ rfl _ _ 22 rfl w.heap.size 5 i0 (.int .u8 0) 1 1 und22 hi hz0 hz1 hz2 rfl (by decide) _ _ _ rfl (World.ownsRow_made w #[] 0 (Nat.le_refl _) (Nat.zero_le _) rfl) ad 0 c [] rfl (by simp) (by simp) (by simp) (by simp) (by simp) (by simp) ?_)
      intro v' w1 hown hgrow hnil
      have hB : Below w.heap.size w w1 := ((Below.refl _ w).alloc (Nat.le_refl _) _).grown hgrow (by simp) (by intro k hk; simp [Value.ownBlock] at hk; omega)
      have hR : ClonePost 0 w (.returned v') w1 := by
        rcases hown.2 with ⟨h, _⟩ | ⟨g, cap, cur, hv, _⟩
        · exact ⟨none, 0, by rw [h], fun h => absurd h (Nat.lt_irrefl _), hB⟩
        · exact ⟨some ⟨g, 0, none⟩, cap, by rw [hv], fun h => absurd h (Nat.lt_irrefl _), hB⟩
      clear hown hgrow hnil hB
      go_wp2
      go_ret
      exact hR
def OfPost (w : World) (e : Ending) (w' : World) : Prop := ∃ B, w.heap.size ≤ B ∧ e = .returned (.pointer (some ⟨B, 0, none⟩)) ∧ StoreAt w' B 0 ∧ Below w.heap.size w w'
theorem store_new {A : Option Addr} {m c : Nat} {w : World} (hm : m ≤ 300) (h : BytesAt w A m) : StoreAt (w.alloc (.cells #[.slice A m c, .int .i64 0, .int .u32 2463534242] 57)) w.heap.size 0 := by
  refine ⟨⟨A, m, c, 0, 2463534242, Blk.new _ _ _, Nat.le_refl _, by decide, by decide, hm, fun h0 => ?_⟩⟩
  obtain ⟨b, off, h1, h2, h3⟩ := h h0
  refine ⟨b, off, h1, h2, fun i hi => ?_⟩
  obtain ⟨v, a, b', d⟩ := h3 i hi
  exact ⟨v, a, b', keep_alloc (p := ⟨b, off + i, none⟩) h2 d⟩
end Go.Proofs.YtdfgmmjcamhdjaaGreatDoor
