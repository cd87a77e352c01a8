/- Steps to WholeMatrices' card; what each asks stands in it. -/
import Derived.Maps.AppendAt
import Derived.Test.YtdfgmmjcamhdjaaGreatDoorA20
set_option linter.unusedVariables false
set_option linter.unusedSimpArgs false
namespace Go.Proofs.YtdfgmmjcamhdjaaGreatDoor
open Go.RowKit
theorem KeepX.grown {B : Nat} {a w w' : World} {row : Option Nat} (h : KeepX B a w) (hg : w.grownBy w' row) (hr : ∀ k, row = some k → a.heap.size ≤ k ∨ k = B) : KeepX B a w' :=
  ⟨hg.os.trans h.os, hg.tape.trans h.tape, hg.output.trans h.output, Nat.le_trans h.size hg.size, fun i hi hne => (hg.block i (Nat.lt_of_lt_of_le hi h.size) (fun e => by rcases hr i e.symm with h1 | h1 <;> omega)).trans (h.block i hi hne)⟩
/-- where an own row lies -/
theorem ownsRow_block {w : World} {base : Nat} {e : TypeId} {size n : Nat} {v : Value} {xs : List Value} (h : w.ownsRow base e size v n xs) : ∀ k, v.ownBlock = some k → base ≤ k ∧ k < w.heap.size := by
  intro k hk
  rcases h.2 with ⟨rfl, rfl⟩ | ⟨g, cap, cur, rfl, h1, h2, h3⟩
  · cases hk
  · cases hk
    exact ⟨h1, (Array.getElem?_eq_some_iff.1 h2).1⟩
/-- an own row stays, where its block stays -/
theorem ownsRow_keep {w w' : World} {base : Nat} {e : TypeId} {size n : Nat} {v : Value} {xs : List Value} (h : w.ownsRow base e size v n xs) (hk : ∀ k, v.ownBlock = some k → w'.heap[k]? = w.heap[k]?) : w'.ownsRow base e size v n xs := by
  refine ⟨h.1, ?_⟩
  rcases h.2 with ⟨rfl, rfl⟩ | ⟨g, cap, cur, rfl, h1, h2, h3⟩
  · exact .inl ⟨rfl, rfl⟩
  · exact .inr ⟨g, cap, cur, rfl, h1, (hk g rfl).trans h2, h3⟩
theorem ownsRow_below {w w' : World} {base : Nat} {e : TypeId} {size n : Nat} {v : Value} {xs : List Value} (h : w.ownsRow base e size v n xs) (hb : Below w.heap.size w w') : w'.ownsRow base e size v n xs :=
  ownsRow_keep h (fun k hk => hb.block k (ownsRow_block h k hk).2)
theorem ownsRow_keepX {w w' : World} {B base : Nat} {e : TypeId} {size n : Nat} {v : Value} {xs : List Value} (h : w.ownsRow base e size v n xs) (hk : KeepX B w w') (hB : B < base) : w'.ownsRow base e size v n xs :=
  ownsRow_keep h (fun k hk2 => hk.block k (ownsRow_block h k hk2).2 (by have := (ownsRow_block h k hk2).1; omega))
theorem ownsRow_alloc {w : World} {base : Nat} {e : TypeId} {size n : Nat} {v : Value} {xs : List Value} (h : w.ownsRow base e size v n xs) (o : Obj) : (w.alloc o).ownsRow base e size v n xs :=
  ownsRow_below h ((Below.refl _ _).alloc (Nat.le_refl _) o)
theorem StoreAt.grown {w w' : World} {B n : Nat} {row : Option Nat} (h : StoreAt w B n) (hg : w.grownBy w' row) (hr : ∀ k, row = some k → B < k) : StoreAt w' B n := by
  cases row with
  | none => exact h.keepX (b := B + 1) ((KeepX.refl _ _).grown hg (fun k hk => by cases hk)) (by omega)
  | some k => exact h.keepX (b := k) ((KeepX.refl _ _).grown hg (fun q hq => by cases hq; exact .inr rfl)) (hr k rfl)
theorem Blk.grown {w w' : World} {b : Nat} {T : TypeId} {cs : Array Value} {row : Option Nat} (h : Blk w b T cs) (hg : w.grownBy w' row) (hr : row ≠ some b) : Blk w' b T cs := (hg.block b h.lt (fun e => hr e.symm)).trans h
theorem Below.grownBy {B : Nat} {a w w' : World} {row : Option Nat} (h : Below B a w) (hg : w.grownBy w' row) (hB : B ≤ w.heap.size) (hr : ∀ k, row = some k → B ≤ k) : Below B a w' := h.grown hg hB hr
theorem info3 : (Tryz.prog.info? 3).map (fun i => (i.zero, i.size, i.bytes)) = some (some (.int .i64 0), 1, 8) := by kernel_rfl
theorem info45 : (Tryz.prog.info? 45).map (fun i => (i.zero, i.size, i.bytes)) = some (some (.agg #[.int .i64 0, .slice none 0 0, .int .i64 0, .int .i64 0]), 4, 48) := by kernel_rfl
theorem und25 : Tryz.prog.underlying 25 = some (.slice 3) := by kernel_rfl
theorem und41 : Tryz.prog.underlying 41 = some (.slice 45) := by kernel_rfl
end Go.Proofs.YtdfgmmjcamhdjaaGreatDoor
