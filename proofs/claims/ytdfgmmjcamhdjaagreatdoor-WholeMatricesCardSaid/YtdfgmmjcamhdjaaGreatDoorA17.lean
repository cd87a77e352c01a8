/- Steps to WholeMatrices' card; what each asks stands in it. -/
import Derived.Test.YtdfgmmjcamhdjaaGreatDoorA15
set_option linter.unusedVariables false
set_option linter.unusedSimpArgs false
namespace Go.Proofs.YtdfgmmjcamhdjaaGreatDoor
open Go.RowKit
attribute [local go_sem ↓] Go.wp_at_zero Go.wp_at_succ
/-- the converse, turned round -/
def dagN (M : Nat → Nat → Num) (i j : Nat) : Num := (conjN (M j i)).1
def prodN (M N : Nat → Nat → Num) (k i j : Nat) : Num := dots (fun l => M i l) (fun l => N l j) k
set_option maxHeartbeats 4000000 in
set_option maxRecDepth 100000 in
theorem f36_any {A : Option Addr} {h : Nat} {M : Nat → Nat → Num} (cap : Nat) (w : World) (HM : Mat w A h h M) (hM : ∀ i j, i < h → j < h → (M i j).sm) (he : ∀ i j, i < h → j < h → (conjN (M i j)).2 = 0)
    (H : ∀ i j, i < h → j < h → DotOk (fun l => dagN M i l) (fun l => M l j) h) (hP : ∀ i j, i < h → j < h → (prodN (dagN M) M h i j).ok) :
    Calls Tryz.prog 36 #[.slice A h cap] w fun e w' => (∃ r, e = .returned (.tuple #[.bool r, .int .i64 0]) ∧ (r = true ↔ ∀ i j, i < h → j < h → leastOf (prodN (dagN M) M h i j) = leastOf (movN (fun k => k) h i j))) ∧ Below w.heap.size w w' := by
  have hd : 1 ≤ h ∧ h ≤ 64 ∧ 1 ≤ h ∧ h ≤ 64 := by obtain ⟨_, _, _, _, _, _, hh⟩ := HM; exact hh.dims
  go_enter Tryz.func36, Tryz.ntmps36
  go_wp2_with (first
    | (go_at_call 30; refine (f30_any cap _ HM hM he).mono ?_; rintro e w1 ⟨B1, hB1, rfl, hF1, hb1⟩)
    | (go_at_call 43; refine (f43_mat cap (HM.below hb1) rfl).mono ?_; rintro e w2 ⟨rfl, hb2⟩; have hW2 := bt hb1 hb2)
    | (go_at_call 63; refine (f63_any h cap _ ((hF1.mat hd).below hb2) (HM.below hW2) H).mono ?_; rintro e w3 ⟨B3, hB3, rfl, hF3, hb3⟩; have hW3 := bt hW2 hb3)
    | (go_at_call 87; refine (f87_any 88 #[] (enters_of Tryz.func88 (by kernel_rfl) rfl) h (fun k => k) _ hd.2.1 (fun k hk => hk) (fun W k hk => f88_any k W)).mono ?_; rintro e w4 ⟨rfl, hF4, hb4⟩; have hW4 := bt hW3 hb4)
    | (go_at_call 86; refine (f86_any h h ((hF3.mat hd).below hb4) (hF4.mat hd) hP (fun i j hi hj => ?_)).mono ?_))
  · unfold movN
    split
    · exact ⟨by decide, by decide⟩
    · exact ⟨by decide, by decide⟩
  · rintro e w5 ⟨⟨r, rfl, hr⟩, hb5⟩
    go_wp2
    exact bodyPost_ret (v := .tuple #[.bool r, .int .i64 0]) (by simp [results, Tryz.results36, go_sem]) rfl ⟨⟨r, rfl, hr⟩, bt hW4 hb5⟩
end Go.Proofs.YtdfgmmjcamhdjaaGreatDoor
