/- Steps to WholeMatrices' card; what each asks stands in it. -/
import Derived.Clock
import Derived.LaidMore
import Derived.LaidOnce
import Derived.Lay
import Derived.OpenShut
import Derived.OpenVars
import Derived.SevenTiedAt
import Derived.Test.YtdfgmmjcamhdjaaGreatDoorCards
import Derived.Test.YtdfgmmjcamhdjaaGreatDoorRows
import Derived.Test.YtdfgmmjcamhdjaaGreatDoorTie
import Derived.Test.YtdfgmmjcamhdjaaGreatDoorA33
set_option linter.unusedVariables false
set_option linter.unusedSimpArgs false
namespace Go.Proofs.YtdfgmmjcamhdjaaGreatDoor
open Go.ChangeShapes Go.WideShapes Go.ChangeAt Go.RowKit Go.Clock
theorem j_own : ownKnob Tryz.prog.godebug = none := by kernel_rfl
theorem j_laidOut : laidOutB Tryz.prog = true := by kernel_rfl
def jlaid : List (String × DataW Unit) := [("spoondrift/spoondriftkit.Phases", Rows.laid_spoondrift_spoondriftkit_Phases)]
def F3Holds : Prop := ∀ (A : Option Addr) (n c : Nat) (w : World), n ≤ c → BytesAt w A n → (A = none → n = 0 ∧ c = 0) → Calls Tryz.prog 3 #[.slice A n c] w fun e w' => e = .returned (.bool true) ∧ Below w.heap.size w w'
/-- what a slice of bytes is -/
theorem bytes_of {H : Type} {enc : TypeId × Value → H} {W : World} {A : Option Addr} {len cap fuel : Nat} {x : DataW H × List MemPlace} (h : DataW.trod enc Tryz.prog W 0 (fun _ => true) true fuel 22 (Value.slice A len cap).cells.toList = some x) :
    len ≤ cap ∧ BytesAt W A len ∧ (A = none → len = 0 ∧ cap = 0) := by
  have c5 : Tryz.prog.cellsOf 5 = 1 := by kernel_rfl
  rcases open_ints (k := .u8) und22 (by kernel_rfl) c5 h with ⟨hcs, hx⟩ | ⟨a, len', cap', zs, hcs, _, hl, hm, hz, hx, hcell, hwz⟩
  · simp [Value.cells] at hcs
    obtain ⟨rfl, rfl, rfl⟩ := hcs
    exact ⟨Nat.le_refl _, fun h0 => absurd h0 (Nat.lt_irrefl _), fun _ => ⟨rfl, rfl⟩⟩
  · simp [Value.cells] at hcs
    obtain ⟨rfl, rfl, rfl⟩ := hcs
    simp only [if_true] at hz
    refine ⟨hl, fun h0 => ?_, fun h => by cases h⟩
    obtain ⟨b, off, spot⟩ := a
    have hc0 := hcell 0 (by omega)
    have hs : spot = none := by
      unfold World.cell? at hc0
      cases spot with
      | none => rfl
      | some q => split at hc0 <;> simp [Addr.add] at hc0
    subst hs
    refine ⟨b, off, rfl, block_lt hc0, fun i hi => ?_⟩
    have hci := hcell i (by omega)
    rw [Addr.add_lit] at hci
    have hw := hwz (zs.getD i 0) (by rw [List.getD_eq_getElem?_getD, List.getElem?_eq_getElem (by omega)]; exact List.getElem_mem _)
    generalize zs.getD i 0 = z at hci hw
    refine ⟨z, ?_, ?_, hci⟩
    · simp [Lit.wf, IntKind.min, IntKind.max, IntKind.signed, IntKind.bits] at hw; omega
    · simp [Lit.wf, IntKind.min, IntKind.max, IntKind.signed, IntKind.bits] at hw; omega
set_option maxRecDepth 100000 in
theorem j_lifted (H3 : F3Holds) (os : Os) (started : os.Started) (H : Type) (enc : TypeId × Value → H) (F : Stop.Interp) :
    ReturnsInHanded { calm := true } Tryz.checked os 3 .any (fun w args => (Rows.wholeMatricesSpec.pre enc Tryz.prog Tryz.f3 [] false w args ∧ laidMetH Tryz.prog jlaid w) ∧ sizedMet enc Tryz.prog Tryz.f3 (OpenSpec.ofChange Rows.wholeMatricesSpec) false w args)
      ((OpenSpec.ofChange Rows.wholeMatricesSpec).postWith enc Tryz.prog Tryz.f3 F (outsideKept [.timePasses]) false true false) := by
  refine returns_of_change (C := Tryz.checked) (X := fun w _ => laidMetH Tryz.prog jlaid w) (fun _ _ _ hh h => h.of_heap hh) j_own started (by kernel_rfl) Tryz.func3
    (witness_at (enc := enc) (C := Tryz.checked) (X := fun w _ => laidMetH Tryz.prog jlaid w) (World.laidAll Tryz.prog os jlaid) #[.slice none 0 0] 8 (World.laidAll_os _ _ _) (World.shaped_of_ZipB (by kernel_rfl) (by kernel_rfl)) (by kernel_rfl) (by kernel_rfl) (by kernel_rfl)
      (by rw [MakeChecks.laidMetH_plain _ _ _ (by kernel_rfl)]; exact laidMet_laidAll _ (by kernel_rfl) (by kernel_rfl))) ?_
  intro W base args ds gs before hval0 hW _ _ hL hsh
  have hval : ∀ (j : Nat) t v, Tryz.f3.params[j]? = some t → args[j]? = some v → Value.okWide Tryz.prog W .any base t v := hval0
  have hW' := hW
  obtain ⟨p, q, hA0, hV, rfl, _, _⟩ := hW
  have hA : DataW.TrodAll enc Tryz.prog W 0 (fun _ => true) true Tryz.f3.params.toList args.toList ds p := hA0
  rw [Tryz.params3] at hA hval
  obtain ⟨v0, d0, rfl, rfl, h0⟩ := trodAll_one hA
  obtain ⟨a0, len, cap, rfl⟩ := okWide_slice und22 (hval 0 22 v0 rfl rfl)
  obtain ⟨rfl, rfl⟩ := trodVars_none hV
  simp only [List.append_nil] at hW'
  have hlt : ∀ x ∈ p, x.block < W.heap.size := fun x hx => by simpa using hW'.lt x hx
  have h0k := h0
  obtain ⟨fuel, hf⟩ := h0
  obtain ⟨hlc, hB, hn0⟩ := bytes_of (enc := enc) hf
  refine (H3 a0 len cap W hlc hB hn0).mono fun e W' ⟨he, hb⟩ => ?_
  subst he
  have hback := Below.trod j_laidOut (by kernel_rfl) (of_decide_eq_true (by kernel_rfl)) h0k hb hlt
  have eW : ({ heap := W'.heap, tape := W'.tape, drawn := W'.drawn, os := W.os, output := W'.output } : World) = W' := by rw [← hb.os]
  refine ⟨_, rfl, ⟨_, _, _, [], p, [], hW', trodAll_mk1 (shut_bool (by kernel_rfl) _), ?_, rfl, ?_, fun h => by cases h⟩, ?_⟩
  · rw [eW]; exact trodAll_mk1 hback
  · rw [eW]; exact hb.frame _
  · rw [hb.os]; exact Later.refl _
theorem j_holds (H3 : F3Holds) : Rows.WholeMatricesSaid :=
  holds_of_wide_time 3 Tryz.f3 rfl rfl rfl rfl rfl rfl rfl ⟨rfl, rfl, rfl, rfl, rfl⟩ rfl rfl rfl rfl rfl (by kernel_rfl) Tryz.func3 (by kernel_rfl)
    (of_decide_eq_true (by kernel_rfl)) (by unfold Func.isWrapper; first | (rw [if_pos (by decide +kernel)]; kernel_rfl) | (rw [if_neg (by decide +kernel)]; exact ⟨rfl, rfl⟩))
    (fun os started H enc _ F => j_lifted H3 os started H enc F)
theorem j_card (H3 : F3Holds) : Rows.WholeMatricesCardSaid :=
  Claim7.holds_tied_plain_at .later [] [.widerDeep] true (true, "cb6a495731b8fe5da42b0fdef613bb69197f136869a97aea4e89c6a755326a0c") false (j_holds H3) (fun _ h => by cases h) (by kernel_rfl) (fun _ h => by cases h) wholeMatrices_row_tie rfl ⟨rfl, rfl⟩ (by kernel_rfl) rfl
    (fun f fn hf hfn => by
      obtain rfl : f = 3 := Option.some.inj ((show Tryz.prog.funcNamed "spoondrift/spoondrifttop.WholeMatrices" = some 3 by kernel_rfl).symm.trans hf) |>.symm
      obtain rfl : fn = Tryz.f3 := (Option.some.inj (Tryz.func3.symm.trans hfn)).symm
      exact ⟨by kernel_rfl, fun j t ht => by
        rw [Tryz.params3] at ht
        have hm : t ∈ [22] := by simpa using Array.mem_of_getElem? ht
        have hall : ([22].all fun u => !Tryz.prog.wantsStandIn u) = true := by kernel_rfl
        exact (show Tryz.prog.wantsStandIn t = false by simpa using List.all_eq_true.1 hall t hm)⟩)
    (by kernel_rfl)
end Go.Proofs.YtdfgmmjcamhdjaaGreatDoor
