/- Steps to WholeMatrices' card; what each asks stands in it. -/
import Derived.Test.YtdfgmmjcamhdjaaGreatDoorA19
import Derived.Test.YtdfgmmjcamhdjaaGreatDoorA25
set_option linter.unusedVariables false
set_option linter.unusedSimpArgs false
namespace Go.Proofs.YtdfgmmjcamhdjaaGreatDoor
open Go.RowKit
attribute [local go_sem ↓] Go.wp_at_zero Go.wp_at_succ
theorem len1 {ws : List Nat} (h : ws.length = 1) : ∃ a, ws = [a] := by
  match ws, h with
  | [a], _ => exact ⟨a, rfl⟩
theorem len2 {ws : List Nat} (h : ws.length = 2) : ∃ a b, ws = [a, b] := by
  match ws, h with
  | [a, b], _ => exact ⟨a, b, rfl⟩
theorem len3 {ws : List Nat} (h : ws.length = 3) : ∃ a b c, ws = [a, b, c] := by
  match ws, h with
  | [a, b, c], _ => exact ⟨a, b, c, rfl⟩
theorem f25_any (gt : Gt) (n b c x p : Nat) (w : World) (hn : n ≤ 6) (hg : Gt.ok gt n) (hx : x < 64) (hp : p < 8) (hW : WiresAt w b gt.ws) :
    Calls Tryz.prog 25 #[.agg (wkC x p), gtV gt b c] w fun e w' => e = .returned (.agg (wkC (stepG gt x) (stepP gt x p))) ∧ Below w.heap.size w w' := by
  obtain ⟨k, ws⟩ := gt
  obtain ⟨k1, k2, k3, hl, hlt, _⟩ := hg
  dsimp only at *
  have hb := hW.1
  rcases kinds12 k1 k2 with rfl | rfl | rfl | rfl | rfl | rfl | rfl | rfl | rfl | rfl | rfl | rfl
  case inr.inr.inr.inl => exact absurd rfl k3
  case inr.inr.inr.inr.inr.inr.inr.inr.inl =>
    obtain ⟨a, a', rfl⟩ := len2 (hl : _ = 2)
    exact f25_9 b 0 c a a' x p w hx hp (by have := hlt a (by simp); omega) (by have := hlt a' (by simp); omega) hb (hW.2 0 a rfl) (hW.2 1 a' rfl)
  case inr.inr.inr.inr.inr.inr.inr.inr.inr.inl =>
    obtain ⟨a, a', rfl⟩ := len2 (hl : _ = 2)
    exact f25_10 b 0 c a a' x p w hx hp (by have := hlt a (by simp); omega) (by have := hlt a' (by simp); omega) hb (hW.2 0 a rfl) (hW.2 1 a' rfl)
  case inr.inr.inr.inr.inr.inr.inr.inr.inr.inr.inl =>
    obtain ⟨a, a', rfl⟩ := len2 (hl : _ = 2)
    exact f25_11 b 0 c a a' x p w hx hp (by have := hlt a (by simp); omega) (by have := hlt a' (by simp); omega) hb (hW.2 0 a rfl) (hW.2 1 a' rfl)
  case inr.inr.inr.inr.inr.inr.inr.inr.inr.inr.inr =>
    obtain ⟨a, a', a'', rfl⟩ := len3 (hl : _ = 3)
    exact f25_12 b 0 c a a' a'' x p w hx hp (by have := hlt a (by simp); omega) (by have := hlt a' (by simp); omega) (by have := hlt a'' (by simp); omega) hb (hW.2 0 a rfl) (hW.2 1 a' rfl) (hW.2 2 a'' rfl)
  all_goals
    obtain ⟨a, rfl⟩ := len1 (hl : _ = 1)
    have ha : a < 6 := by have := hlt a (by simp); omega
    first
      | exact f25_1 b 0 c a x p w hx hp ha hb (hW.2 0 a rfl)
      | exact f25_2 b 0 c a x p w hx hp ha hb (hW.2 0 a rfl)
      | exact f25_3 b 0 c a x p w hx hp ha hb (hW.2 0 a rfl)
      | exact f25_5 b 0 c a x p w hx hp ha hb (hW.2 0 a rfl)
      | exact f25_6 b 0 c a x p w hx hp ha hb (hW.2 0 a rfl)
      | exact f25_7 b 0 c a x p w hx hp ha hb (hW.2 0 a rfl)
      | exact f25_8 b 0 c a x p w hx hp ha hb (hW.2 0 a rfl)
end Go.Proofs.YtdfgmmjcamhdjaaGreatDoor
