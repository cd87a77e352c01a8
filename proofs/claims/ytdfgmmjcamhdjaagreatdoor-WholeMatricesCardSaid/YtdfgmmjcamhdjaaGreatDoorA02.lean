/- Steps to WholeMatrices' card; what each asks stands in it. -/
import Derived.OrdersIn
import Derived.RangeFuncCalls
import Derived.TacticsIn
import Derived.Test.YtdfgmmjcamhdjaaGreatDoorA01
set_option linter.unusedVariables false
set_option linter.unusedSimpArgs false
namespace Go.Calm
open Go.RowKit Go.Proofs.YtdfgmmjcamhdjaaGreatDoor
section
variable {P : Program} {ops : Array Oper} {C : World → Prop} {N0 : Nat} {AL : Nat → Option (TypeId × Array Value)}
/-! ### in a round of a loop over an iterator, nothing being fenced -/
def noDefer (ops : Array Oper) : Bool := ops.all fun o => match o.op with | .defer _ => false | _ => true
theorem noDefer_spec {i : Nat} {o : Oper} (h : noDefer ops = true) (hi : ops[i]? = some o) : ∀ c, o.op ≠ .defer c := by
  intro c hc
  obtain ⟨hlt, rfl⟩ := Array.getElem?_eq_some_iff.1 hi
  unfold noDefer at h
  have := Array.all_eq_true.1 h i hlt
  rw [hc] at this
  cases this
def FinIn (l n0 : Nat) (P : Program) (ops : Array Oper) (C : World → Prop) (N0 : Nat) (AL : Nat → Option (TypeId × Array Value)) (m : Nat) (Q : Exit → Act → World → Prop) (G : Nat → Nat) (a : Act) : Prop :=
  ∀ w, Known C N0 AL (fun i => i < m) G w → wpOpsIn (Fence.wide.inRound l) n0 P ops Q (List.range' m (ops.size - m)) a w
theorem tail_anyIn {l n0 : Nat} {Q : Exit → Act → World → Prop} (n : Nat) (hn : n = ops.size) : ∀ (d k : Nat), n - k = d → k ≤ n →
    (∀ j, k ≤ j → j < n → Region.ready .any ops (firsts n j) = [j]) → Region.ready .any ops (firsts n n) = [] →
    ∀ a w, wpOpsIn (Fence.wide.inRound l) n0 P ops Q (List.range' k (n - k)) a w → wpAnyIn (Fence.wide.inRound l) n0 P .any ops Q (n - k) (firsts n k) a w
  | 0, k, hd, hk, hr, he, a, w, h => by
    have hkn : k = n := by omega
    subst hkn
    rw [Nat.sub_self] at h ⊢
    exact ⟨he, by simpa [wpOpsIn] using h⟩
  | d + 1, k, hd, hk, hr, he, a, w, h => by
    have hlt : k < n := by omega
    rw [hd] at h ⊢
    rw [List.range'_succ, wpOpsIn_cons] at h
    have hrk := hr k (Nat.le_refl _) hlt
    refine ⟨fun h0 => (by rw [hrk] at h0; cases h0), fun i hi => ?_⟩
    rw [hrk] at hi
    have hik : i = k := by simpa using hi
    subst hik
    rw [firsts_set hlt]
    have hd' : n - (i + 1) = d := by omega
    refine wpOpIn_mono (fun a w h => ?_) h
    rw [← hd'] at h ⊢
    exact tail_anyIn n hn d (i + 1) hd' (by omega) (fun j h1 h2 => hr j (by omega) h2) he a w h
theorem anyIn {l n0 : Nat} {Q : Exit → Act → World → Prop} {m : Nat} {al : List Nat} (hnd0 : noDefer ops = true) (hl : looks ops m al = true) (hAL : ∀ i, (AL i).isSome = true ↔ i ∈ al) (hN : ∀ w, C w → N0 ≤ w.heap.size) :
    ∀ (d : Nat) (U : List (Nat × Oper)) (L : Array Bool) (G : Nat → Nat) (a : Act) (w : World), U.length = d → L.size = ops.size → (∀ x ∈ U, ops[x.1]? = some x.2 ∧ x.1 < m) → (U.map (·.1)).Nodup → U.Pairwise (Ord AL) →
      (∀ i, i < ops.size → (L.getD i true = false ↔ (i ∈ U.map (·.1) ∨ m ≤ i))) → Down ops L → Known C N0 AL (fun i => L.getD i false = true) G w →
      Walk P ops C N0 AL (FinIn l n0 P ops C N0 AL m Q) U G a → wpAnyIn (Fence.wide.inRound l) n0 P .any ops Q (d + (ops.size - m)) L a w := by
  simp only [looks, Bool.and_eq_true, decide_eq_true_eq, List.all_eq_true, List.mem_range, Bool.or_eq_true, List.mem_range'_1, beq_iff_eq] at hl
  obtain ⟨⟨⟨⟨⟨⟨⟨hsel, hm⟩, hal⟩, hcalm⟩, hapart⟩, hcover⟩, hready⟩, hend⟩ := hl
  have hsel' := Region.noSelect_spec hsel
  have hnone : ∀ i, AL i = none ↔ i ∉ al := fun i => by rw [← hAL i]; cases AL i <;> simp
  have getD_flip : ∀ (L : Array Bool) (i : Nat), i < L.size → (L.getD i false = true ↔ ¬ L.getD i true = false) := by
    intro L i hi
    simp [hi]
  intro d
  induction d with
  | zero =>
    intro U L G a w hU hsz hmem hnd hpw hL hd hK hW
    have hU0 : U = [] := List.eq_nil_of_length_eq_zero hU
    subst hU0
    have hLf : L = firsts ops.size m := by
      apply Array.ext_getElem?
      intro i
      simp only [firsts, List.getElem?_toArray, List.getElem?_map]
      by_cases hi : i < ops.size
      · have h1 := hL i hi
        rw [List.getElem?_range hi, Array.getElem?_eq_getElem (by omega)]
        simp only [Option.map_some, Option.some.injEq]
        by_cases him : i < m
        · have : ¬ L.getD i true = false := fun h => by
            rcases h1.1 h with h | h
            · simp at h
            · omega
          simp [hsz, hi] at this
          simp [him, this]
        · have := h1.2 (.inr (by omega))
          simp [hsz, hi] at this
          simp [him, this]
      · rw [Array.getElem?_eq_none (by omega), List.getElem?_eq_none (by simp; omega)]
        rfl
    subst hLf
    rw [Nat.zero_add]
    refine tail_anyIn ops.size rfl (ops.size - m) m rfl hm (fun j h1 h2 => hready j ⟨h1, by omega⟩) (by simpa using hend) a w (hW w ?_)
    refine ⟨hK.1, fun i T cs hi hA => hK.2.1 i T cs ?_ hA, fun i j x y hi hj h1 h2 h3 => hK.2.2 i j x y ?_ ?_ h1 h2 h3⟩
    · simp [firsts, show i < ops.size by omega, hi]
    · simp [firsts, show i < ops.size by omega, hi]
    · simp [firsts, show j < ops.size by omega, hj]
  | succ d ih =>
    intro U L G a w hU hsz hmem hnd hpw hL hd hK hW
    have hlt : ∀ x ∈ U, x.1 < ops.size := fun x hx => (Array.getElem?_eq_some_iff.1 (hmem x hx).1).1
    have hun : ∀ x ∈ U, L.getD x.1 true = false := fun x hx => (hL x.1 (hlt x hx)).2 (.inl (List.mem_map_of_mem hx))
    have hdep : ∀ x ∈ U, (∀ e ∈ direct ops x.1, L.getD e false = true) → x.1 ∈ Region.ready .any ops L := by
      intro x hx h
      refine mem_ready.2 ⟨hun x hx, x.2, (hmem x hx).1, fun e he hb => h e.on ?_⟩
      unfold direct
      rw [(hmem x hx).1]
      exact List.mem_map.2 ⟨e, List.mem_filter.2 ⟨by simpa using he, hb⟩, rfl⟩
    rw [show d + 1 + (ops.size - m) = (d + (ops.size - m)) + 1 from by omega]
    refine ⟨fun h0 => ?_, fun i hi => ?_⟩
    · -- something may come up
      exfalso
      have key : ∀ (k : Nat), ∀ x ∈ U, x.1 = k → AL x.1 = none → False := by
        intro k
        induction k using Nat.strongRecOn with
        | _ k ihk =>
          intro x hx hxk hA
          have hnot : ¬ x.1 ∈ Region.ready .any ops L := by rw [h0]; simp
          refine hnot (hdep x hx fun e he => ?_)
          rcases hcalm x.1 (hmem x hx).2 with h | h
          · exact absurd (by simpa using h) ((hnone x.1).1 hA)
          · have h1 := h e he
            simp only [Bool.not_eq_true', List.contains_eq_mem, decide_eq_false_iff_not] at h1
            have hes : e < ops.size := by have := (hlt x hx); omega
            rw [getD_flip L e (by omega)]
            intro hf
            rcases (hL e hes).1 hf with h2 | h2
            · obtain ⟨y, hy, rfl⟩ := List.mem_map.1 h2
              exact ihk y.1 (by omega) y hy rfl ((hnone _).2 h1.2)
            · have := (hmem x hx).2; omega
      match U, hU with
      | x :: U', _ =>
        by_cases hA : AL x.1 = none
        · exact key x.1 x (by simp) rfl hA
        · have hx : x.1 ∈ al := by rw [← hAL]; cases h : AL x.1 with
            | none => exact absurd h hA
            | some _ => rfl
          have := hdep x (by simp) (fun e he => by have := (hal x.1 hx).2; rw [List.isEmpty_iff] at this; rw [this] at he; cases he)
          rw [h0] at this
          cases this
    · -- operation i comes up
      obtain ⟨hiun, oi, hoi, _⟩ := mem_ready.1 hi
      have his : i < ops.size := (Array.getElem?_eq_some_iff.1 hoi).1
      have hiU : i ∈ U.map (·.1) := by
        rcases (hL i his).1 hiun with h | h
        · exact h
        · exfalso
          match U, hU with
          | x :: U', _ =>
            have h1 := cl_listed hd ops.size (direct ops i) (ready_direct hi) x.1 (by
              have := hcover i ⟨h, by omega⟩ x.1 (hmem x (by simp)).2
              simpa using this)
            have h2 := hun x (by simp)
            rw [getD_flip L x.1 (by have := hlt x (by simp); omega)] at h1
            exact h1 h2
      obtain ⟨⟨i', o⟩, hx, rfl⟩ := List.mem_map.1 hiU
      dsimp only at *
      have hoo : oi = o := by have := (hmem (i', o) hx).1; rw [hoi] at this; exact Option.some.inj this
      subst hoo
      have him := (hmem (i', oi) hx).2
      obtain ⟨U1, U2, rfl⟩ := List.append_of_mem hx
      have hnd2 := hnd
      rw [List.map_append, List.map_cons] at hnd2
      have hU1 : ∀ x ∈ U1, ops[x.1]? = some x.2 ∧ x.1 ≠ i' ∧ x.2.apart ops oi = true ∧ ((AL x.1).isSome = true → (AL i').isSome = true) := by
        intro x hx1
        have hxU : x ∈ U1 ++ (i', oi) :: U2 := by simp [hx1]
        have hord := (List.pairwise_append.1 hpw).2.2 x hx1 (i', oi) (by simp)
        have hne : x.1 ≠ i' := fun e => (List.nodup_append.1 hnd2).2.2 x.1 (List.mem_map_of_mem hx1) i' (by simp) e
        refine ⟨(hmem x hxU).1, hne, ?_, hord.1⟩
        rcases hapart i' him x.1 (hmem x hxU).2 with ((h | h) | h) | h
        · exact absurd h hne
        · exfalso
          have h1 := ready_direct hi x.1 (by simpa using h)
          rw [getD_flip L x.1 (by have := hlt x hxU; omega)] at h1
          exact h1 (hun x hxU)
        · exfalso
          have h' : i' ∈ direct ops x.1 := by simpa using h
          rcases hcalm x.1 (hmem x hxU).2 with h1 | h1
          · have := (hal x.1 (by simpa using h1)).2
            rw [List.isEmpty_iff] at this
            rw [this] at h'
            cases h'
          · have h2 := h1 i' h'
            simp only [Bool.not_eq_true', List.contains_eq_mem, decide_eq_false_iff_not] at h2
            have hx0 : AL x.1 = none := by
              cases hxx : AL x.1 with
              | none => rfl
              | some _ =>
                have : x.1 ∈ al := by rw [← hAL, hxx]; rfl
                have := (hal x.1 this).2
                rw [List.isEmpty_iff] at this
                rw [this] at h'
                cases h'
            have := hord.2 hx0 ((hnone _).2 h2.2)
            dsimp only at this
            omega
        · rw [(hmem x hxU).1, hoi] at h
          exact h
      have hone := pull hsel' hoi U1 G a hU1 hW
      have hU' : (U1 ++ U2).length = d := by
        have := hU
        simp at this ⊢
        omega
      have hsub : (U1 ++ U2).Sublist (U1 ++ (i', oi) :: U2) := List.Sublist.append_left (List.sublist_cons_self _ _) _
      have hK' : ∀ {G' w'}, Known C N0 AL (fun k => k = i' ∨ L.getD k false = true) G' w' → Known C N0 AL (fun k => (L.setIfInBounds i' true).getD k false = true) G' w' := by
        intro G' w' h
        have hc : ∀ k, (L.setIfInBounds i' true).getD k false = true → k = i' ∨ L.getD k false = true := by
          intro k hk
          by_cases e : i' = k
          · exact .inl e.symm
          · rw [getD_set_ne false e] at hk
            exact .inr hk
        exact ⟨h.1, fun k T cs hk hA => h.2.1 k T cs (hc k hk) hA, fun k l x y h1 h2 => h.2.2 k l x y (hc k h1) (hc l h2)⟩
      have hnext : ∀ G' a' w', Known C N0 AL (fun k => k = i' ∨ L.getD k false = true) G' w' → Walk P ops C N0 AL (FinIn l n0 P ops C N0 AL m Q) (U1 ++ U2) G' a' → wpAnyIn (Fence.wide.inRound l) n0 P .any ops Q (d + (ops.size - m)) (L.setIfInBounds i' true) a' w' := by
        intro G' a' w' h1 h2
        refine ih (U1 ++ U2) _ G' a' w' hU' (by simpa using hsz) (fun x hx => hmem x (hsub.subset hx)) ((hsub.map _).nodup hnd) (hpw.sublist hsub) (fun k hk => ?_) (hd.set hi) (hK' h1) h2
        by_cases e : i' = k
        · subst e
          have h3 : ¬ (L.setIfInBounds i' true).getD i' true = false := by simp [hsz, hk]
          have h4 : ¬ i' ∈ (U1 ++ U2).map (·.1) := by
            rw [List.map_append]
            intro h
            rcases List.mem_append.1 h with h | h
            · exact (List.nodup_append.1 hnd2).2.2 i' h i' (by simp) rfl
            · have := (List.nodup_append.1 hnd2).2.1
              rw [List.nodup_cons] at this
              exact this.1 h
          constructor
          · intro h; exact absurd h h3
          · intro h
            rcases h with h | h
            · exact absurd h h4
            · omega
        · rw [getD_set_ne true e, hL k hk]
          simp only [List.map_append, List.map_cons, List.mem_append, List.mem_cons]
          constructor
          · rintro ((h | h | h) | h)
            · exact .inl (.inl h)
            · exact absurd h.symm e
            · exact .inl (.inr h)
            · exact .inr h
          · rintro ((h | h) | h)
            · exact .inl (.inl h)
            · exact .inl (.inr (.inr h))
            · exact .inr h
      have hKsame : AL i' = none → ∀ {w'}, C w' → (∀ b T cs, Blk w b T cs → Blk w' b T cs) → Known C N0 AL (fun k => k = i' ∨ L.getD k false = true) G w' := by
        intro hA w' hc hb
        refine ⟨hc, fun k T cs hk hk2 => ?_, fun k l x y h1 h2 h3 h4 => ?_⟩
        · rcases hk with rfl | hk
          · rw [hA] at hk2; cases hk2
          · exact ⟨(hK.2.1 k T cs hk hk2).1, hb _ _ _ (hK.2.1 k T cs hk hk2).2⟩
        · rcases h1 with rfl | h1
          · rw [hA] at h3; cases h3
          · rcases h2 with rfl | h2
            · rw [hA] at h4; cases h4
            · exact hK.2.2 k l x y h1 h2 h3 h4
      unfold wpOpIn
      rw [hoi]
      dsimp only
      unfold one at hone
      cases hA : AL i' with
      | some x =>
        obtain ⟨T, cs⟩ := x
        rw [hA] at hone
        obtain ⟨hg, hrun, hB⟩ := hone
        rw [if_pos (by simp [Region.wanted, hg])]
        refine ⟨fun _ _ => trivial, ?_⟩
        rw [Fence.inRound_round, Oper.semAt_eq _ _ _ (noDefer_spec hnd0 hoi)]
        rw [(hrun w hK.1).1, Oper.uponIn_value]
        have hlt' : ∀ k T cs, L.getD k false = true → AL k = some (T, cs) → G k < w.heap.size := fun k T cs h1 h2 => (hK.2.1 k T cs h1 h2).2.lt
        refine hnext (upd G i' w.heap.size) _ _ ⟨(hrun w hK.1).2, fun k T' cs' hk hk2 => ?_, fun k l x y h1 h2 h3 h4 h5 => ?_⟩ (hB w.heap.size (hN w hK.1))
        · by_cases e : k = i'
          · subst e
            rw [hA] at hk2
            cases hk2
            simp only [upd, if_true]
            exact ⟨hN w hK.1, Blk.new _ _ _⟩
          · have hk' := hk.resolve_left e
            simp only [upd, if_neg e]
            exact ⟨(hK.2.1 k T' cs' hk' hk2).1, (hK.2.1 k T' cs' hk' hk2).2.alloc _⟩
        · by_cases e : k = i'
          · have e' : ¬ l = i' := fun h => h5 (e.trans h.symm)
            have := hlt' l y.1 y.2 (h2.resolve_left e') h4
            simp only [upd, if_pos e, if_neg e']
            omega
          · by_cases e' : l = i'
            · have := hlt' k x.1 x.2 (h1.resolve_left e) h3
              simp only [upd, if_neg e, if_pos e']
              omega
            · simp only [upd, if_neg e, if_neg e']
              exact hK.2.2 k l x y (h1.resolve_left e) (h2.resolve_left e') h3 h4 h5
      | none =>
        rw [hA] at hone
        dsimp only at hone
        split
        · rename_i hw
          rw [if_pos hw] at hone
          obtain ⟨v, hv, hW2⟩ := hone
          refine ⟨fun _ _ => trivial, ?_⟩
          have h3 := hv w hK.1
          unfold calmAt at h3
          rw [Fence.inRound_round, Oper.semAt_eq _ _ _ (noDefer_spec hnd0 hoi)]
          generalize (execOp a.eval oi).run P w = r at h3 ⊢
          cases r with
          | ok n w' =>
            cases n <;> simp only [calmUpon] at h3 <;> simp only [Oper.uponIn]
            case value u =>
              obtain ⟨rfl, rfl⟩ := h3
              exact hnext _ _ _ (hKsame hA hK.1 fun _ _ _ h => h) hW2
            case skip =>
              obtain ⟨rfl, rfl⟩ := h3
              exact hnext _ _ _ (hKsame hA hK.1 fun _ _ _ h => h) hW2
            case enter f args =>
              obtain ⟨rfl, hc⟩ := h3
              refine ⟨fun h => (by cases h), CallsIn.inRound l (callsIn_wide.2 (hc.mono fun e w'' ⟨he, hb, hc'⟩ => by
                subst he
                exact hnext _ _ _ (hKsame hA hc' fun _ _ _ h => h.below hb) hW2))⟩
          | halt x w' => simp only [calmUpon] at h3
        · rename_i hw
          rw [if_neg hw] at hone
          exact ⟨fun _ _ => trivial, hnext _ _ _ (hKsame hA hK.1 fun _ _ _ h => h) hone⟩
theorem wpIn_region_calm {l n0 id : Nat} {Q : Exit → Act → World → Prop} {a : Act} {w : World} (m : Nat) (A : Als) (hm : P.follows .mixedOrders = true) (hnd0 : noDefer ops = true) (hl : looks ops m (A.map (·.1)) = true) (hn : (A.map (·.1)).Nodup)
    (C : World → Prop) (N0 : Nat) (hN : ∀ w, C w → N0 ≤ w.heap.size) (hC : C w.drew)
    (h : WalkI P ops C N0 A (FinIn l n0 P ops C N0 (alOf A) m Q) (idxs m (A.map (·.1))) (fun _ => 0) a) : (Code.region id ops true).wpIn (Fence.wide.inRound l) n0 P Q a w := by
  have hl' := hl
  simp only [looks, Bool.and_eq_true, decide_eq_true_eq, List.all_eq_true, List.mem_range, Bool.or_eq_true, List.mem_range'_1, beq_iff_eq] at hl'
  obtain ⟨⟨⟨⟨⟨⟨⟨_, hms⟩, hal⟩, _⟩, _⟩, _⟩, _⟩, _⟩ := hl'
  have hAL : ∀ i, (alOf A i).isSome = true ↔ i ∈ A.map (·.1) := by
    intro i
    simp [alOf, List.find?_isSome]
  have hnone : ∀ i, alOf A i = none ↔ i ∉ A.map (·.1) := fun i => by rw [← hAL i]; cases alOf A i <;> simp
  have hlt : ∀ i ∈ idxs m (A.map (·.1)), i < m := by
    intro i hi
    rcases List.mem_append.1 hi with h | h
    · exact List.mem_range.1 (List.mem_filter.1 h).1
    · exact (hal i h).1
  have hmap := withOps_map (ops := ops) (l := idxs m (A.map (·.1))) fun i hi => Nat.lt_of_lt_of_le (hlt i hi) hms
  have hmem : ∀ i, i < m → i ∈ idxs m (A.map (·.1)) := by
    intro i hi
    by_cases h : i ∈ A.map (·.1)
    · exact List.mem_append_right _ h
    · exact List.mem_append_left _ (List.mem_filter.2 ⟨List.mem_range.2 hi, by simpa using h⟩)
  have hnd : (idxs m (A.map (·.1))).Nodup := by
    refine List.nodup_append.2 ⟨List.nodup_range.filter _, hn, fun x hx y hy e => ?_⟩
    subst e
    have := (List.mem_filter.1 hx).2
    simp at this
    obtain ⟨z, hz, rfl⟩ := List.mem_map.1 hy
    exact this z.2.1 z.2.2 hz
  have hpw : (idxs m (A.map (·.1))).Pairwise (fun i j => ((alOf A i).isSome = true → (alOf A j).isSome = true) ∧ (alOf A i = none → alOf A j = none → i < j)) := by
    refine List.pairwise_append.2 ⟨?_, ?_, fun x hx y hy => ⟨fun _ => (hAL y).2 hy, fun _ h => absurd hy ((hnone y).1 h)⟩⟩
    · refine ((List.pairwise_lt_range (n := m)).filter _).imp_of_mem fun {x y} hx hy h => ⟨fun h1 => ?_, fun _ _ => h⟩
      have := (List.mem_filter.1 hx).2
      exact absurd ((hAL x).1 h1) (by simpa using this)
    · exact (List.pairwise_of_forall (R := fun _ _ => True) (fun _ _ => trivial)).imp_of_mem fun {x y} hx hy _ => ⟨fun _ => (hAL y).2 hy, fun h => absurd hx ((hnone x).1 h)⟩
  have hlen : (withOps ops (idxs m (A.map (·.1)))).length = m := by
    have h1 := congrArg List.length hmap
    rw [List.length_map] at h1
    rw [h1]
    have hp : (idxs m (A.map (·.1))).Perm (List.range m) := by
      refine (List.perm_ext_iff_of_nodup hnd List.nodup_range).2 fun i => ⟨fun hi => List.mem_range.2 (hlt i hi), fun hi => hmem i (List.mem_range.1 hi)⟩
    simpa using hp.length_eq
  refine wpIn_region_any hm ?_
  have hops : ∀ x ∈ withOps ops (idxs m (A.map (·.1))), ops[x.1]? = some x.2 ∧ x.1 < m := by
    intro x hx
    obtain ⟨i, hi, hx⟩ := List.mem_filterMap.1 hx
    obtain ⟨o, ho, rfl⟩ := Option.map_eq_some_iff.1 hx
    exact ⟨ho, hlt i hi⟩
  have h' : Walk P ops C N0 (alOf A) (FinIn l n0 P ops C N0 (alOf A) m Q) (withOps ops (idxs m (A.map (·.1)))) (fun _ => 0) a := h
  have key := anyIn (l := l) (n0 := n0) (P := P) (Q := Q) hnd0 hl hAL hN m _ (Array.replicate ops.size false) (fun _ => 0) a w.drew hlen (by simp) hops
    (by rw [hmap]; exact hnd) (by
      have h1 : ((withOps ops (idxs m (A.map fun x => x.1))).map fun x => x.1).Pairwise (fun i j => ((alOf A i).isSome = true → (alOf A j).isSome = true) ∧ (alOf A i = none → alOf A j = none → i < j)) := by rw [hmap]; exact hpw
      have h2 := List.pairwise_map.1 h1
      exact h2)
    (fun i hi => by
      rw [hmap]
      simp only [Array.getD_eq_getD_getElem?, Array.getElem?_replicate, if_pos hi, Option.getD_some, true_iff]
      by_cases h : i < m
      · exact .inl (hmem i h)
      · exact .inr (by omega))
    (fun j hj => by
      exfalso
      by_cases h : j < ops.size <;> simp [h] at hj)
    ⟨hC, fun i T cs hi => by
      exfalso
      by_cases h : i < ops.size <;> simp [h] at hi, fun i j x y hi => by
      exfalso
      by_cases h : i < ops.size <;> simp [h] at hi⟩ h'
  rw [show m + (ops.size - m) = ops.size from by omega] at key
  exact key
theorem calm_endIn {l n0 : Nat} {A : Als} {G : Nat → Nat} {a : Act} {m : Nat} {Q : Exit → Act → World → Prop} (L : List Oper) (hL : ∀ j, L[j]? = ops[m + j]?) (hlen : L.length = ops.size - m) (h : ∀ w, Known C N0 (alOf A) (fun i => i < m) G w → wpListIn (Fence.wide.inRound l) n0 P ops Q L a w) :
    WalkI P ops C N0 A (FinIn l n0 P ops C N0 (alOf A) m Q) [] G a := by
  show FinIn l n0 P ops C N0 (alOf A) m Q G a
  intro w hK
  rw [← hlen, wpOpsIn_eq_wpListIn L m hL]
  exact h w hK
theorem calm_endIn_lit {l n0 : Nat} {A : Als} {G : Nat → Nat} {a : Act} {ol : List Oper} {m : Nat} {Q : Exit → Act → World → Prop} (h : ∀ w, Known C N0 (alOf A) (fun i => i < m) G w → wpListIn (Fence.wide.inRound l) n0 P ol.toArray Q (ol.drop m) a w) :
    WalkI P ol.toArray C N0 A (FinIn l n0 P ol.toArray C N0 (alOf A) m Q) [] G a :=
  calm_endIn (ol.drop m) (fun j => by simp) (by simp) h
end
end Go.Calm
namespace Go.Calm
open Go.RowKit Go.Proofs.YtdfgmmjcamhdjaaGreatDoor
section
variable {P : Program} {ops : Array Oper} {C : World → Prop} {N0 : Nat} {AL : Nat → Option (TypeId × Array Value)}
def looks2 (ops : Array Oper) (m : Nat) (al : List Nat) : Bool :=
  Region.noSelect ops && decide (m ≤ ops.size) &&
  (al.all fun i => decide (i < m) && (direct ops i).isEmpty) &&
  ((List.range m).all fun i => al.contains i || (direct ops i).all fun d => decide (d < i) && !al.contains d) &&
  ((List.range m).all fun i => (List.range m).all fun j => j == i || (direct ops i).contains j || (direct ops j).contains i || (match ops[j]?, ops[i]? with | some oj, some oi => oj.apart ops oi | _, _ => false)) &&
  ((List.range' m (ops.size - m)).all fun k => (List.range m).all fun j => (cl ops ops.size (direct ops k)).contains j)
def FinA (P : Program) (ops : Array Oper) (C : World → Prop) (N0 : Nat) (AL : Nat → Option (TypeId × Array Value)) (m : Nat) (Q : Exit → Act → World → Prop) (G : Nat → Nat) (a : Act) : Prop :=
  ∀ w, Known C N0 AL (fun i => i < m) G w → wpAny P .any ops Q (ops.size - m) (firsts ops.size m) a w
theorem anyA {Q : Exit → Act → World → Prop} {m : Nat} {al : List Nat} (hl : looks2 ops m al = true) (hAL : ∀ i, (AL i).isSome = true ↔ i ∈ al) (hN : ∀ w, C w → N0 ≤ w.heap.size) :
    ∀ (d : Nat) (U : List (Nat × Oper)) (L : Array Bool) (G : Nat → Nat) (a : Act) (w : World), U.length = d → L.size = ops.size → (∀ x ∈ U, ops[x.1]? = some x.2 ∧ x.1 < m) → (U.map (·.1)).Nodup → U.Pairwise (Ord AL) →
      (∀ i, i < ops.size → (L.getD i true = false ↔ (i ∈ U.map (·.1) ∨ m ≤ i))) → Down ops L → Known C N0 AL (fun i => L.getD i false = true) G w →
      Walk P ops C N0 AL (FinA P ops C N0 AL m Q) U G a → wpAny P .any ops Q (d + (ops.size - m)) L a w := by
  simp only [looks2, Bool.and_eq_true, decide_eq_true_eq, List.all_eq_true, List.mem_range, Bool.or_eq_true, List.mem_range'_1, beq_iff_eq] at hl
  obtain ⟨⟨⟨⟨⟨hsel, hm⟩, hal⟩, hcalm⟩, hapart⟩, hcover⟩ := hl
  have hsel' := Region.noSelect_spec hsel
  have hnone : ∀ i, AL i = none ↔ i ∉ al := fun i => by rw [← hAL i]; cases AL i <;> simp
  have getD_flip : ∀ (L : Array Bool) (i : Nat), i < L.size → (L.getD i false = true ↔ ¬ L.getD i true = false) := by
    intro L i hi
    simp [hi]
  intro d
  induction d with
  | zero =>
    intro U L G a w hU hsz hmem hnd hpw hL hd hK hW
    have hU0 : U = [] := List.eq_nil_of_length_eq_zero hU
    subst hU0
    have hLf : L = firsts ops.size m := by
      apply Array.ext_getElem?
      intro i
      simp only [firsts, List.getElem?_toArray, List.getElem?_map]
      by_cases hi : i < ops.size
      · have h1 := hL i hi
        rw [List.getElem?_range hi, Array.getElem?_eq_getElem (by omega)]
        simp only [Option.map_some, Option.some.injEq]
        by_cases him : i < m
        · have : ¬ L.getD i true = false := fun h => by
            rcases h1.1 h with h | h
            · simp at h
            · omega
          simp [hsz, hi] at this
          simp [him, this]
        · have := h1.2 (.inr (by omega))
          simp [hsz, hi] at this
          simp [him, this]
      · rw [Array.getElem?_eq_none (by omega), List.getElem?_eq_none (by simp; omega)]
        rfl
    subst hLf
    rw [Nat.zero_add]
    refine hW w ?_
    refine ⟨hK.1, fun i T cs hi hA => hK.2.1 i T cs ?_ hA, fun i j x y hi hj h1 h2 h3 => hK.2.2 i j x y ?_ ?_ h1 h2 h3⟩
    · simp [firsts, show i < ops.size by omega, hi]
    · simp [firsts, show i < ops.size by omega, hi]
    · simp [firsts, show j < ops.size by omega, hj]
  | succ d ih =>
    intro U L G a w hU hsz hmem hnd hpw hL hd hK hW
    have hlt : ∀ x ∈ U, x.1 < ops.size := fun x hx => (Array.getElem?_eq_some_iff.1 (hmem x hx).1).1
    have hun : ∀ x ∈ U, L.getD x.1 true = false := fun x hx => (hL x.1 (hlt x hx)).2 (.inl (List.mem_map_of_mem hx))
    have hdep : ∀ x ∈ U, (∀ e ∈ direct ops x.1, L.getD e false = true) → x.1 ∈ Region.ready .any ops L := by
      intro x hx h
      refine mem_ready.2 ⟨hun x hx, x.2, (hmem x hx).1, fun e he hb => h e.on ?_⟩
      unfold direct
      rw [(hmem x hx).1]
      exact List.mem_map.2 ⟨e, List.mem_filter.2 ⟨by simpa using he, hb⟩, rfl⟩
    rw [show d + 1 + (ops.size - m) = (d + (ops.size - m)) + 1 from by omega]
    refine ⟨fun h0 => ?_, fun i hi => ?_⟩
    · -- something may come up
      exfalso
      have key : ∀ (k : Nat), ∀ x ∈ U, x.1 = k → AL x.1 = none → False := by
        intro k
        induction k using Nat.strongRecOn with
        | _ k ihk =>
          intro x hx hxk hA
          have hnot : ¬ x.1 ∈ Region.ready .any ops L := by rw [h0]; simp
          refine hnot (hdep x hx fun e he => ?_)
          rcases hcalm x.1 (hmem x hx).2 with h | h
          · exact absurd (by simpa using h) ((hnone x.1).1 hA)
          · have h1 := h e he
            simp only [Bool.not_eq_true', List.contains_eq_mem, decide_eq_false_iff_not] at h1
            have hes : e < ops.size := by have := (hlt x hx); omega
            rw [getD_flip L e (by omega)]
            intro hf
            rcases (hL e hes).1 hf with h2 | h2
            · obtain ⟨y, hy, rfl⟩ := List.mem_map.1 h2
              exact ihk y.1 (by omega) y hy rfl ((hnone _).2 h1.2)
            · have := (hmem x hx).2; omega
      match U, hU with
      | x :: U', _ =>
        by_cases hA : AL x.1 = none
        · exact key x.1 x (by simp) rfl hA
        · have hx : x.1 ∈ al := by rw [← hAL]; cases h : AL x.1 with
            | none => exact absurd h hA
            | some _ => rfl
          have := hdep x (by simp) (fun e he => by have := (hal x.1 hx).2; rw [List.isEmpty_iff] at this; rw [this] at he; cases he)
          rw [h0] at this
          cases this
    · -- operation i comes up
      obtain ⟨hiun, oi, hoi, _⟩ := mem_ready.1 hi
      have his : i < ops.size := (Array.getElem?_eq_some_iff.1 hoi).1
      have hiU : i ∈ U.map (·.1) := by
        rcases (hL i his).1 hiun with h | h
        · exact h
        · exfalso
          match U, hU with
          | x :: U', _ =>
            have h1 := cl_listed hd ops.size (direct ops i) (ready_direct hi) x.1 (by
              have := hcover i ⟨h, by omega⟩ x.1 (hmem x (by simp)).2
              simpa using this)
            have h2 := hun x (by simp)
            rw [getD_flip L x.1 (by have := hlt x (by simp); omega)] at h1
            exact h1 h2
      obtain ⟨⟨i', o⟩, hx, rfl⟩ := List.mem_map.1 hiU
      dsimp only at *
      have hoo : oi = o := by have := (hmem (i', o) hx).1; rw [hoi] at this; exact Option.some.inj this
      subst hoo
      have him := (hmem (i', oi) hx).2
      obtain ⟨U1, U2, rfl⟩ := List.append_of_mem hx
      have hnd2 := hnd
      rw [List.map_append, List.map_cons] at hnd2
      have hU1 : ∀ x ∈ U1, ops[x.1]? = some x.2 ∧ x.1 ≠ i' ∧ x.2.apart ops oi = true ∧ ((AL x.1).isSome = true → (AL i').isSome = true) := by
        intro x hx1
        have hxU : x ∈ U1 ++ (i', oi) :: U2 := by simp [hx1]
        have hord := (List.pairwise_append.1 hpw).2.2 x hx1 (i', oi) (by simp)
        have hne : x.1 ≠ i' := fun e => (List.nodup_append.1 hnd2).2.2 x.1 (List.mem_map_of_mem hx1) i' (by simp) e
        refine ⟨(hmem x hxU).1, hne, ?_, hord.1⟩
        rcases hapart i' him x.1 (hmem x hxU).2 with ((h | h) | h) | h
        · exact absurd h hne
        · exfalso
          have h1 := ready_direct hi x.1 (by simpa using h)
          rw [getD_flip L x.1 (by have := hlt x hxU; omega)] at h1
          exact h1 (hun x hxU)
        · exfalso
          have h' : i' ∈ direct ops x.1 := by simpa using h
          rcases hcalm x.1 (hmem x hxU).2 with h1 | h1
          · have := (hal x.1 (by simpa using h1)).2
            rw [List.isEmpty_iff] at this
            rw [this] at h'
            cases h'
          · have h2 := h1 i' h'
            simp only [Bool.not_eq_true', List.contains_eq_mem, decide_eq_false_iff_not] at h2
            have hx0 : AL x.1 = none := by
              cases hxx : AL x.1 with
              | none => rfl
              | some _ =>
                have : x.1 ∈ al := by rw [← hAL, hxx]; rfl
                have := (hal x.1 this).2
                rw [List.isEmpty_iff] at this
                rw [this] at h'
                cases h'
            have := hord.2 hx0 ((hnone _).2 h2.2)
            dsimp only at this
            omega
        · rw [(hmem x hxU).1, hoi] at h
          exact h
      have hone := pull hsel' hoi U1 G a hU1 hW
      have hU' : (U1 ++ U2).length = d := by
        have := hU
        simp at this ⊢
        omega
      have hsub : (U1 ++ U2).Sublist (U1 ++ (i', oi) :: U2) := List.Sublist.append_left (List.sublist_cons_self _ _) _
      have hK' : ∀ {G' w'}, Known C N0 AL (fun k => k = i' ∨ L.getD k false = true) G' w' → Known C N0 AL (fun k => (L.setIfInBounds i' true).getD k false = true) G' w' := by
        intro G' w' h
        have hc : ∀ k, (L.setIfInBounds i' true).getD k false = true → k = i' ∨ L.getD k false = true := by
          intro k hk
          by_cases e : i' = k
          · exact .inl e.symm
          · rw [getD_set_ne false e] at hk
            exact .inr hk
        exact ⟨h.1, fun k T cs hk hA => h.2.1 k T cs (hc k hk) hA, fun k l x y h1 h2 => h.2.2 k l x y (hc k h1) (hc l h2)⟩
      have hnext : ∀ G' a' w', Known C N0 AL (fun k => k = i' ∨ L.getD k false = true) G' w' → Walk P ops C N0 AL (FinA P ops C N0 AL m Q) (U1 ++ U2) G' a' → wpAny P .any ops Q (d + (ops.size - m)) (L.setIfInBounds i' true) a' w' := by
        intro G' a' w' h1 h2
        refine ih (U1 ++ U2) _ G' a' w' hU' (by simpa using hsz) (fun x hx => hmem x (hsub.subset hx)) ((hsub.map _).nodup hnd) (hpw.sublist hsub) (fun k hk => ?_) (hd.set hi) (hK' h1) h2
        by_cases e : i' = k
        · subst e
          have h3 : ¬ (L.setIfInBounds i' true).getD i' true = false := by simp [hsz, hk]
          have h4 : ¬ i' ∈ (U1 ++ U2).map (·.1) := by
            rw [List.map_append]
            intro h
            rcases List.mem_append.1 h with h | h
            · exact (List.nodup_append.1 hnd2).2.2 i' h i' (by simp) rfl
            · have := (List.nodup_append.1 hnd2).2.1
              rw [List.nodup_cons] at this
              exact this.1 h
          constructor
          · intro h; exact absurd h h3
          · intro h
            rcases h with h | h
            · exact absurd h h4
            · omega
        · rw [getD_set_ne true e, hL k hk]
          simp only [List.map_append, List.map_cons, List.mem_append, List.mem_cons]
          constructor
          · rintro ((h | h | h) | h)
            · exact .inl (.inl h)
            · exact absurd h.symm e
            · exact .inl (.inr h)
            · exact .inr h
          · rintro ((h | h) | h)
            · exact .inl (.inl h)
            · exact .inl (.inr (.inr h))
            · exact .inr h
      have hKsame : AL i' = none → ∀ {w'}, C w' → (∀ b T cs, Blk w b T cs → Blk w' b T cs) → Known C N0 AL (fun k => k = i' ∨ L.getD k false = true) G w' := by
        intro hA w' hc hb
        refine ⟨hc, fun k T cs hk hk2 => ?_, fun k l x y h1 h2 h3 h4 => ?_⟩
        · rcases hk with rfl | hk
          · rw [hA] at hk2; cases hk2
          · exact ⟨(hK.2.1 k T cs hk hk2).1, hb _ _ _ (hK.2.1 k T cs hk hk2).2⟩
        · rcases h1 with rfl | h1
          · rw [hA] at h3; cases h3
          · rcases h2 with rfl | h2
            · rw [hA] at h4; cases h4
            · exact hK.2.2 k l x y h1 h2 h3 h4
      unfold wpOp
      rw [hoi]
      dsimp only
      unfold one at hone
      cases hA : AL i' with
      | some x =>
        obtain ⟨T, cs⟩ := x
        rw [hA] at hone
        obtain ⟨hg, hrun, hB⟩ := hone
        rw [if_pos (by simp [Region.wanted, hg])]
        refine .inl ?_
        unfold Oper.wp
        rw [(hrun w hK.1).1, Oper.upon_value]
        have hlt' : ∀ k T cs, L.getD k false = true → AL k = some (T, cs) → G k < w.heap.size := fun k T cs h1 h2 => (hK.2.1 k T cs h1 h2).2.lt
        refine hnext (upd G i' w.heap.size) _ _ ⟨(hrun w hK.1).2, fun k T' cs' hk hk2 => ?_, fun k l x y h1 h2 h3 h4 h5 => ?_⟩ (hB w.heap.size (hN w hK.1))
        · by_cases e : k = i'
          · subst e
            rw [hA] at hk2
            cases hk2
            simp only [upd, if_true]
            exact ⟨hN w hK.1, Blk.new _ _ _⟩
          · have hk' := hk.resolve_left e
            simp only [upd, if_neg e]
            exact ⟨(hK.2.1 k T' cs' hk' hk2).1, (hK.2.1 k T' cs' hk' hk2).2.alloc _⟩
        · by_cases e : k = i'
          · have e' : ¬ l = i' := fun h => h5 (e.trans h.symm)
            have := hlt' l y.1 y.2 (h2.resolve_left e') h4
            simp only [upd, if_pos e, if_neg e']
            omega
          · by_cases e' : l = i'
            · have := hlt' k x.1 x.2 (h1.resolve_left e) h3
              simp only [upd, if_neg e, if_pos e']
              omega
            · simp only [upd, if_neg e, if_neg e']
              exact hK.2.2 k l x y (h1.resolve_left e) (h2.resolve_left e') h3 h4 h5
      | none =>
        rw [hA] at hone
        dsimp only at hone
        split
        · rename_i hw
          rw [if_pos hw] at hone
          obtain ⟨v, hv, hW2⟩ := hone
          refine .inl ?_
          have h3 := hv w hK.1
          unfold calmAt at h3
          unfold Oper.wp
          generalize (execOp a.eval oi).run P w = r at h3 ⊢
          cases r with
          | ok n w' =>
            cases n <;> simp only [calmUpon] at h3 <;> simp only [Oper.upon]
            case value u =>
              obtain ⟨rfl, rfl⟩ := h3
              exact hnext _ _ _ (hKsame hA hK.1 fun _ _ _ h => h) hW2
            case skip =>
              obtain ⟨rfl, rfl⟩ := h3
              exact hnext _ _ _ (hKsame hA hK.1 fun _ _ _ h => h) hW2
            case enter f args =>
              obtain ⟨rfl, hc⟩ := h3
              exact hc.mono fun e w'' ⟨he, hb, hc'⟩ => by
                subst he
                exact hnext _ _ _ (hKsame hA hc' fun _ _ _ h => h.below hb) hW2
          | halt x w' => simp only [calmUpon] at h3
        · rename_i hw
          rw [if_neg hw] at hone
          exact hnext _ _ _ (hKsame hA hK.1 fun _ _ _ h => h) hone
theorem firsts_getD {n k i : Nat} (hi : i < n) (d : Bool) : (firsts n k).getD i d = decide (i < k) := by
  simp [firsts, Array.getD_eq_getD_getElem?, hi]
theorem firsts_getD_out {n k i : Nat} (hi : ¬ i < n) (d : Bool) : (firsts n k).getD i d = d := by
  simp [firsts, Array.getD_eq_getD_getElem?, hi]
theorem size_firsts (n k : Nat) : (firsts n k).size = n := by simp [firsts]
theorem firsts_zero (n : Nat) : firsts n 0 = Array.replicate n false := by
  apply Array.ext
  · simp [firsts]
  · intro i h1 h2
    simp [firsts]
/-- a stretch of the text's order, k to m, in a class of worlds; nothing is laid in it -/
theorem seg {Q : Exit → Act → World → Prop} {a : Act} {w : World} (k m : Nat) (hkm : k ≤ m) (hl : looks2 ops m [] = true) (hC : C w)
    (h : WalkI P ops C 0 [] (FinA P ops C 0 (alOf []) m Q) (List.range' k (m - k)) (fun _ => 0) a) : wpAny P .any ops Q (ops.size - k) (firsts ops.size k) a w := by
  have hl' := hl
  simp only [looks2, Bool.and_eq_true, decide_eq_true_eq, List.all_eq_true, List.mem_range, Bool.or_eq_true, List.mem_range'_1, beq_iff_eq] at hl'
  obtain ⟨⟨⟨⟨⟨_, hms⟩, _⟩, hcalm⟩, _⟩, _⟩ := hl'
  have hmap := withOps_map (ops := ops) (l := List.range' k (m - k)) fun i hi => by have := List.mem_range'_1.1 hi; omega
  have hlen : (withOps ops (List.range' k (m - k))).length = m - k := by
    have h1 := congrArg List.length hmap
    rw [List.length_map] at h1
    rw [h1]
    simp
  have hops : ∀ x ∈ withOps ops (List.range' k (m - k)), ops[x.1]? = some x.2 ∧ x.1 < m := by
    intro x hx
    obtain ⟨i, hi, hx⟩ := List.mem_filterMap.1 hx
    obtain ⟨o, ho, rfl⟩ := Option.map_eq_some_iff.1 hx
    have := List.mem_range'_1.1 hi
    exact ⟨ho, by dsimp only; omega⟩
  have hnone : ∀ i, alOf [] i = none := fun i => rfl
  have key := anyA (P := P) (Q := Q) (C := C) (N0 := 0) (AL := alOf []) hl (fun i => by simp [hnone]) (fun _ _ => Nat.zero_le _) (m - k) (withOps ops (List.range' k (m - k))) (firsts ops.size k) (fun _ => 0) a w hlen (size_firsts _ _) hops
    (by rw [hmap]; exact List.nodup_range')
    (by
      have h1 : ((withOps ops (List.range' k (m - k))).map fun x => x.1).Pairwise (fun i j => i < j) := by rw [hmap]; exact List.pairwise_lt_range'
      exact (List.pairwise_map.1 h1).imp fun h => ⟨fun h' => (by simp [hnone] at h'), fun _ _ => h⟩)
    (fun i hi => by
      rw [hmap, firsts_getD hi, List.mem_range'_1]
      simp only [decide_eq_false_iff_not]
      omega)
    (fun j hj d hd => by
      by_cases hjs : j < ops.size
      · rw [firsts_getD hjs] at hj
        have hjk : j < k := by simpa using hj
        rcases hcalm j (by omega) with h1 | h1
        · simp at h1
        · have := h1 d hd
          simp only [Bool.not_eq_true', List.contains_eq_mem, decide_eq_false_iff_not] at this
          rw [firsts_getD (by omega)]
          simp
          omega
      · rw [firsts_getD_out hjs] at hj; cases hj)
    ⟨hC, fun i T cs _ (hh : alOf [] i = some (T, cs)) => (by rw [hnone] at hh; cases hh), fun i j x y _ _ (hh : alOf [] i = some x) => (by rw [hnone] at hh; cases hh)⟩ h
  rw [show m - k + (ops.size - m) = ops.size - k from by omega] at key
  exact key
theorem seg_end_lit {a : Act} {G : Nat → Nat} {Q : Exit → Act → World → Prop} {m : Nat} (h : ∀ w, C w → wpAny P .any ops Q (ops.size - m) (firsts ops.size m) a w) : WalkI P ops C 0 [] (FinA P ops C 0 (alOf []) m Q) [] G a :=
  fun w hK => h w hK.1
theorem any_tail {Q : Exit → Act → World → Prop} {ol : List Oper} {a : Act} {w : World} (m : Nat) (hm : (decide (m ≤ ol.length) && ((List.range' m (ol.length - m)).all fun k => Region.ready .any ol.toArray (firsts ol.length k) == [k]) && (Region.ready .any ol.toArray (firsts ol.length ol.length)).isEmpty) = true)
    (h : wpList P ol.toArray Q (ol.drop m) a w) : wpAny P .any ol.toArray Q (ol.toArray.size - m) (firsts ol.toArray.size m) a w := by
  simp only [Bool.and_eq_true, decide_eq_true_eq, List.all_eq_true, List.mem_range'_1, beq_iff_eq] at hm
  obtain ⟨⟨hms, hready⟩, hend⟩ := hm
  refine tail_any ol.toArray.size rfl (ol.toArray.size - m) m rfl (by simpa using hms) (fun j h1 h2 => by have := hready j ⟨h1, by simp at h2; omega⟩; simpa using this) (by simpa using hend) a w ?_
  rw [show ol.toArray.size - m = (ol.drop m).length from by simp, wpOps_eq_wpList (ol.drop m) m (fun j => by simp)]
  exact h
theorem any_call {Q : Exit → Act → World → Prop} {a : Act} {w : World} (k : Nat) {o : Oper} (ho : ops[k]? = some o) (hr : Region.ready .any ops (firsts ops.size k) = [k]) (hg : Region.wanted o (yielded ops a.tmps) = true) {f : FuncId} {args : Array Value}
    (he : (execOp a.eval o).run P w = .ok (.enter f args) w)
    (hc : Calls P f args w (fun e w'' => ∃ v, e = .returned v ∧ ∀ K : Act → Prop, (∀ a', wpAny P .any ops Q (ops.size - (k + 1)) (firsts ops.size (k + 1)) a' w'' → K a') → K (a.put o.dst v))) :
    wpAny P .any ops Q (ops.size - k) (firsts ops.size k) a w := by
  have hlt : k < ops.size := (Array.getElem?_eq_some_iff.1 ho).1
  obtain ⟨d, hd⟩ : ∃ d, ops.size - k = d + 1 := ⟨ops.size - k - 1, by omega⟩
  have hd' : ops.size - (k + 1) = d := by omega
  rw [hd]
  refine ⟨fun h0 => (by rw [hr] at h0; cases h0), fun i hi => ?_⟩
  rw [hr] at hi
  have hik : i = k := by simpa using hi
  subst hik
  rw [firsts_set hlt]
  unfold wpOp
  rw [ho]
  dsimp only
  rw [if_pos hg]
  refine .inl ?_
  unfold Oper.wp
  rw [he]
  refine hc.mono fun e w'' ⟨v, hv, h⟩ => ?_
  subst hv
  rw [hd'] at h
  exact h _ fun a' h' => h'
/-- the region's draw -/
theorem wp_region_seg {id : Nat} {Q : Exit → Act → World → Prop} {a : Act} {w : World} (hm : P.follows .mixedOrders = true) (h : wpAny P .any ops Q (ops.size - 0) (firsts ops.size 0) a w.drew) : (Code.region id ops true).wp P Q a w := by
  refine wp_region_any hm ?_
  rw [firsts_zero, Nat.sub_zero] at h
  exact h
end
end Go.Calm
namespace Go.Rely
open Go.RowKit Go.Calm Go.Proofs.YtdfgmmjcamhdjaaGreatDoor
section
variable {P : Program} {ops : Array Oper} {C : World → Prop} {T : World → World → Prop} {R : Nat → (Nat → Value) → World → Prop} {a0 : Act}
def updV (vs : Nat → Value) (i : Nat) (v : Value) : Nat → Value := fun j => if j = i then v else vs j
/-- what one operation's step must keep: the class of worlds, the relation, and its own promise -/
def StepR (P : Program) (C : World → Prop) (T : World → World → Prop) (Ri : Value → World → Prop) (w : World) : Result Next → Prop
  | .ok (.value v) w' => C w' ∧ T w w' ∧ Ri v w'
  | .ok .skip w' => C w' ∧ T w w' ∧ Ri undef w'
  | .ok (.enter f args) w' => Calls P f args w' (fun e w'' => ∃ v, e = .returned v ∧ C w'' ∧ T w w'' ∧ Ri v w'')
  | _ => False
def dstOf (ops : Array Oper) (i : Nat) : Option Tmp := (ops[i]?).bind (·.dst)
def putL (ops : Array Oper) (a0 : Act) (vs : Nat → Value) (L : Nat → Bool) : Nat → Act
  | 0 => a0
  | k + 1 => if L k then (putL ops a0 vs L k).put (dstOf ops k) (vs k) else putL ops a0 vs L k
theorem size_put (a : Act) (d : Option Tmp) (v : Value) : (a.put d v).tmps.size = a.tmps.size := by
  cases d <;> simp [Act.put]
theorem size_putL (vs : Nat → Value) (L : Nat → Bool) : ∀ k, (putL ops a0 vs L k).tmps.size = a0.tmps.size
  | 0 => rfl
  | k + 1 => by
    unfold putL
    split
    · rw [size_put, size_putL vs L k]
    · exact size_putL vs L k
theorem eval_none {vs : Nat → Value} {L : Nat → Bool} {x : Operand} : ∀ k, (∀ d, d < k → ∀ t, dstOf ops d = some t → x ≠ .tmp t) → (putL ops a0 vs L k).eval x = a0.eval x
  | 0, _ => rfl
  | k + 1, h => by
    unfold putL
    split
    · rw [Act.eval_put (fun t ht => h k (by omega) t ht)]
      exact eval_none k (fun d hd => h d (by omega))
    · exact eval_none k (fun d hd => h d (by omega))
theorem eval_some {vs : Nat → Value} {L : Nat → Bool} {d : Nat} {t : Tmp} (hL : L d = true) (hd : dstOf ops d = some t) (ht : t < a0.tmps.size) :
    ∀ k, d < k → (∀ j, j < k → j ≠ d → dstOf ops j ≠ some t) → (putL ops a0 vs L k).eval (.tmp t) = vs d
  | 0, h, _ => absurd h (Nat.not_lt_zero _)
  | k + 1, h, hdist => by
    unfold putL
    by_cases e : d = k
    · subst e
      rw [if_pos hL, hd]
      have := size_putL (ops := ops) (a0 := a0) vs L d
      simp [Act.put, Act.eval, this, ht]
    · split
      · rw [Act.eval_put (fun t' ht' => by
          intro e'
          cases e'
          exact hdist k (by omega) (fun h' => e h'.symm) ht')]
        exact eval_some hL hd ht k (by omega) (fun j hj => hdist j (by omega))
      · exact eval_some hL hd ht k (by omega) (fun j hj => hdist j (by omega))
theorem putL_set {vs : Nat → Value} {L : Nat → Bool} {i : Nat} (v : Value) (hL : L i = false) (hdist : ∀ j, j ≠ i → ∀ t, dstOf ops i = some t → dstOf ops j ≠ some t) :
    ∀ k, putL ops a0 (updV vs i v) (fun j => if j = i then true else L j) k = if i < k then (putL ops a0 vs L k).put (dstOf ops i) v else putL ops a0 vs L k
  | 0 => rfl
  | k + 1 => by
    have ih := putL_set (vs := vs) v hL hdist k
    unfold putL
    rw [ih]
    unfold updV
    by_cases e : k = i
    · subst e
      simp [hL]
    · simp only [if_neg e]
      by_cases hlt : i < k
      · rw [if_pos hlt, if_pos (show i < k + 1 by omega)]
        split
        · rw [Act.put_comm _ _ _ (fun t ht => hdist k e t ht)]
        · rfl
      · rw [if_neg hlt, if_neg (show ¬ i < k + 1 by omega)]
/-- the looks at the region: no operation waits for a guard; each asks for elder ones alone; no two write the same slot -/
def looksR (ops : Array Oper) (N : Nat) : Bool :=
  Region.noSelect ops &&
  ((List.range ops.size).all fun i => (match ops[i]? with | some o => o.guard.isNone | none => false) && (direct ops i).all fun d => decide (d < i)) &&
  ((List.range ops.size).all fun i => match dstOf ops i with | none => true | some t => decide (t < N) && (List.range ops.size).all fun j => j == i || dstOf ops j != some t)
/-- what an operation may know of its operands -/
def Knows (ops : Array Oper) (R : Nat → (Nat → Value) → World → Prop) (a0 : Act) (i : Nat) (ρ : Operand → Value) (vs : Nat → Value) (w : World) : Prop :=
  (∀ d ∈ direct ops i, R d vs w ∧ ∀ t, dstOf ops d = some t → ρ (.tmp t) = vs d) ∧ (∀ x, (∀ d, d < ops.size → ∀ t, dstOf ops d = some t → x ≠ .tmp t) → ρ x = a0.eval x)
theorem any {Q : Exit → Act → World → Prop} {N : Nat} (hl : looksR ops N = true) (hN : a0.tmps.size = N) (hst : ∀ i vs w w', T w w' → R i vs w → R i vs w') (hloc : ∀ i vs vs' w, vs i = vs' i → (∀ d ∈ direct ops i, vs d = vs' d) → R i vs w → R i vs' w)
    (hstep : ∀ i o, ops[i]? = some o → ∀ ρ vs w, C w → Knows ops R a0 i ρ vs w → StepR P C T (fun v => R i (updV vs i v)) w ((execOp ρ o).run P w))
    (hQ : ∀ vs w, C w → (∀ i, i < ops.size → R i vs w) → Q .normal (putL ops a0 vs (fun _ => true) ops.size) w) :
    ∀ (f : Nat) (U : List Nat) (L : Array Bool) (vs : Nat → Value) (w : World), U.length = f → U.Nodup → L.size = ops.size → (∀ i, i ∈ U ↔ i < ops.size ∧ L.getD i true = false) → C w → Down ops L → (∀ i, i < ops.size → L.getD i true = true → R i vs w) →
      wpAny P .any ops Q f L (putL ops a0 vs (fun i => L.getD i true) ops.size) w := by
  simp only [looksR, Bool.and_eq_true, decide_eq_true_eq, List.all_eq_true, List.mem_range] at hl
  obtain ⟨⟨hsel, hops⟩, hdst⟩ := hl
  have hsel' := Region.noSelect_spec hsel
  have hdist : ∀ i, i < ops.size → ∀ t, dstOf ops i = some t → t < N ∧ ∀ j, j ≠ i → dstOf ops j ≠ some t := by
    intro i hi t ht
    have := hdst i hi
    rw [ht] at this
    simp only [Bool.and_eq_true, decide_eq_true_eq, List.all_eq_true, List.mem_range, Bool.or_eq_true, beq_iff_eq, bne_iff_ne] at this
    refine ⟨this.1, fun j hj => ?_⟩
    by_cases hjs : j < ops.size
    · exact (this.2 j hjs).resolve_left hj
    · simp [dstOf, hjs]
  intro f
  induction f with
  | zero =>
    intro U L vs w hU hnd hsz hmem hC hdn hR
    have hU0 : U = [] := List.eq_nil_of_length_eq_zero hU
    subst hU0
    have hall : ∀ i, i < ops.size → L.getD i true = true := by
      intro i hi
      cases h : L.getD i true with
      | true => rfl
      | false => exact absurd ((hmem i).2 ⟨hi, h⟩) (by simp)
    refine ⟨?_, ?_⟩
    · rw [List.eq_nil_iff_forall_not_mem]
      intro i hi
      obtain ⟨h1, o, ho, _⟩ := mem_ready.1 hi
      have := hall i (Array.getElem?_eq_some_iff.1 ho).1
      rw [h1] at this
      cases this
    · have e : ∀ k, k ≤ ops.size → putL ops a0 vs (fun i => L.getD i true) k = putL ops a0 vs (fun _ => true) k := by
        intro k
        induction k with
        | zero => intro _; rfl
        | succ k ih =>
          intro hk
          unfold putL
          rw [ih (by omega), hall k (by omega)]
      rw [e _ (Nat.le_refl _)]
      exact hQ vs w hC (fun i hi => hR i hi (hall i hi))
  | succ f ih =>
    intro U L vs w hU hnd hsz hmem hC hdn hR
    refine ⟨fun h0 => ?_, fun i hi => ?_⟩
    · exfalso
      have key : ∀ k, ∀ i, i ≤ k → i ∉ U := by
        intro k
        induction k using Nat.strongRecOn with
        | ind k ihk =>
          intro i hik hiU
          obtain ⟨his, hiL⟩ := (hmem i).1 hiU
          have hr : i ∈ Region.ready .any ops L := by
            refine mem_ready.2 ⟨hiL, ops[i], Array.getElem?_eq_getElem his, fun e he hb => ?_⟩
            have hd : e.on ∈ direct ops i := by
              unfold direct
              rw [Array.getElem?_eq_getElem his]
              exact List.mem_map.2 ⟨e, List.mem_filter.2 ⟨by simpa using he, hb⟩, rfl⟩
            have hlt := (hops i his).2 e.on hd
            have hnu : e.on ∉ U := by
              by_cases hk : i = k
              · subst hk; exact ihk e.on hlt e.on (Nat.le_refl _)
              · exact ihk i (by omega) e.on (by omega)
            cases h : L.getD e.on true with
            | true =>
              have : e.on < L.size := by rw [hsz]; omega
              simpa [this] using h
            | false => exact absurd ((hmem e.on).2 ⟨by omega, h⟩) hnu
          rw [h0] at hr
          cases hr
      match U, hU with
      | x :: U', _ => exact key x x (Nat.le_refl _) (by simp)
    · obtain ⟨hiL, o, ho, _⟩ := mem_ready.1 hi
      have his : i < ops.size := (Array.getElem?_eq_some_iff.1 ho).1
      have hiU : i ∈ U := (hmem i).2 ⟨his, hiL⟩
      have hdeps := ready_direct hi
      have hknow : Knows ops R a0 i (putL ops a0 vs (fun i => L.getD i true) ops.size).eval vs w := by
        refine ⟨fun d hd => ?_, fun x hx => eval_none _ (fun d hd => hx d hd)⟩
        have hdl := hdeps d hd
        have hds : d < ops.size := by have := (hops i his).2 d hd; omega
        have hdl' : L.getD d true = true := by
          have : d < L.size := by rw [hsz]; exact hds
          simpa [this] using hdl
        exact ⟨hR d hds hdl', fun t ht => eval_some (L := fun i => L.getD i true) hdl' ht (by rw [hN]; exact (hdist d hds t ht).1) ops.size hds (fun j _ hj => (hdist d hds t ht).2 j hj)⟩
      have hs := hstep i o ho _ vs w hC hknow
      have hgn : o.guard = none := by
        have := (hops i his).1
        rw [ho] at this
        simpa using this
      have hnext : ∀ v w', C w' → T w w' → R i (updV vs i v) w' → wpAny P .any ops Q f (L.setIfInBounds i true) ((putL ops a0 vs (fun i => L.getD i true) ops.size).put o.dst v) w' := by
        intro v w' hC' hT hRi
        have hd : dstOf ops i = o.dst := by simp [dstOf, ho]
        have hput := putL_set (ops := ops) (a0 := a0) (vs := vs) (L := fun i => L.getD i true) (i := i) v hiL (fun j hj t ht => (hdist i his t ht).2 j hj) ops.size
        rw [if_pos his, hd] at hput
        rw [← hput]
        have e : (fun j => if j = i then true else L.getD j true) = fun j => (L.setIfInBounds i true).getD j true := by
          funext j
          by_cases hji : j = i
          · subst hji
            simp [hsz, his]
          · rw [if_neg hji, getD_set_ne true (fun h => hji h.symm)]
        rw [e]
        refine ih (U.erase i) _ _ w' (by rw [List.length_erase_of_mem hiU]; omega) (hnd.erase i) (by simpa using hsz) (fun j => ?_) hC' (hdn.set hi) (fun j hj hjl => ?_)
        · rw [hnd.mem_erase_iff]
          by_cases hji : j = i
          · subst hji
            simp [hsz, his]
          · rw [getD_set_ne true (fun h => hji h.symm), hmem j]
            simp [hji]
        · by_cases hji : j = i
          · subst hji
            exact hRi
          · rw [getD_set_ne true (fun h => hji h.symm)] at hjl
            refine hloc j vs _ w' (by simp [updV, hji]) (fun d hd => ?_) (hst _ _ _ _ hT (hR j hj hjl))
            have hds : d < ops.size := by have := (hops j hj).2 d hd; omega
            have hdl := hdn j (by simpa [hsz, hj] using hjl) d hd
            have hne : d ≠ i := by
              intro e
              subst e
              simp [hsz, hds] at hdl hiL
              rw [hdl] at hiL
              cases hiL
            simp [updV, hne]
      unfold wpOp
      rw [ho]
      dsimp only
      rw [if_pos (by simp [Region.wanted, hgn])]
      refine .inl ?_
      unfold Oper.wp
      generalize (execOp (putL ops a0 vs (fun i => L.getD i true) ops.size).eval o).run P w = r at hs ⊢
      cases r with
      | ok n w' =>
        cases n <;> simp only [StepR] at hs <;> simp only [Oper.upon]
        case value u => exact hnext _ _ hs.1 hs.2.1 hs.2.2
        case skip => exact hnext _ _ hs.1 hs.2.1 hs.2.2
        case enter g args =>
          exact hs.mono fun e w'' ⟨v, he, h1, h2, h3⟩ => by
            subst he
            exact hnext _ _ h1 h2 h3
      | halt x w' => simp only [StepR] at hs
theorem wp_region {id : Nat} {Q : Exit → Act → World → Prop} {w : World} {N : Nat} (hm : P.follows .mixedOrders = true) (hl : looksR ops N = true) (hN : a0.tmps.size = N) (hst : ∀ i vs w w', T w w' → R i vs w → R i vs w') (hloc : ∀ i vs vs' w, vs i = vs' i → (∀ d ∈ direct ops i, vs d = vs' d) → R i vs w → R i vs' w) (hC : C w.drew)
    (hstep : ∀ i o, ops[i]? = some o → ∀ ρ vs w, C w → Knows ops R a0 i ρ vs w → StepR P C T (fun v => R i (updV vs i v)) w ((execOp ρ o).run P w))
    (hQ : ∀ vs w, C w → (∀ i, i < ops.size → R i vs w) → Q .normal (putL ops a0 vs (fun _ => true) ops.size) w) : (Code.region id ops true).wp P Q a0 w := by
  refine wp_region_any hm ?_
  have e : putL ops a0 (fun _ => undef) (fun i => (Array.replicate ops.size false).getD i true) ops.size = a0 := by
    have : ∀ k, k ≤ ops.size → putL ops a0 (fun _ => undef) (fun i => (Array.replicate ops.size false).getD i true) k = a0 := by
      intro k
      induction k with
      | zero => intro _; rfl
      | succ k ih =>
        intro hk
        unfold putL
        rw [if_neg (by simp [show k < ops.size by omega]), ih (by omega)]
    exact this _ (Nat.le_refl _)
  have key := any (P := P) (Q := Q) hl hN hst hloc hstep hQ ops.size (List.range ops.size) (Array.replicate ops.size false) (fun _ => undef) w.drew (by simp) List.nodup_range (by simp)
    (fun i => by
      rw [List.mem_range]
      constructor
      · intro h; exact ⟨h, by simp [h]⟩
      · exact fun h => h.1) hC (fun j hj => by
      exfalso
      by_cases h : j < ops.size <;> simp [h] at hj) (fun i hi h => by simp [hi] at h)
  rw [e] at key
  exact key
end
end Go.Rely
namespace Go.Rely
open Go.RowKit Go.Calm Go.Proofs.YtdfgmmjcamhdjaaGreatDoor
section
variable {P : Program} {ops : Array Oper} {C : World → Prop} {T : World → World → Prop} {R : Nat → (Nat → Value) → World → Prop} {a0 : Act}
theorem anyIn {l n0 : Nat} {Q : Exit → Act → World → Prop} {N : Nat} (hnd0 : Calm.noDefer ops = true) (hl : looksR ops N = true) (hN : a0.tmps.size = N) (hst : ∀ i vs w w', T w w' → R i vs w → R i vs w') (hloc : ∀ i vs vs' w, vs i = vs' i → (∀ d ∈ direct ops i, vs d = vs' d) → R i vs w → R i vs' w)
    (hstep : ∀ i o, ops[i]? = some o → ∀ ρ vs w, C w → Knows ops R a0 i ρ vs w → StepR P C T (fun v => R i (updV vs i v)) w ((execOp ρ o).run P w))
    (hQ : ∀ vs w, C w → (∀ i, i < ops.size → R i vs w) → Q .normal (putL ops a0 vs (fun _ => true) ops.size) w) :
    ∀ (f : Nat) (U : List Nat) (L : Array Bool) (vs : Nat → Value) (w : World), U.length = f → U.Nodup → L.size = ops.size → (∀ i, i ∈ U ↔ i < ops.size ∧ L.getD i true = false) → C w → Down ops L → (∀ i, i < ops.size → L.getD i true = true → R i vs w) →
      wpAnyIn (Fence.wide.inRound l) n0 P .any ops Q f L (putL ops a0 vs (fun i => L.getD i true) ops.size) w := by
  simp only [looksR, Bool.and_eq_true, decide_eq_true_eq, List.all_eq_true, List.mem_range] at hl
  obtain ⟨⟨hsel, hops⟩, hdst⟩ := hl
  have hsel' := Region.noSelect_spec hsel
  have hdist : ∀ i, i < ops.size → ∀ t, dstOf ops i = some t → t < N ∧ ∀ j, j ≠ i → dstOf ops j ≠ some t := by
    intro i hi t ht
    have := hdst i hi
    rw [ht] at this
    simp only [Bool.and_eq_true, decide_eq_true_eq, List.all_eq_true, List.mem_range, Bool.or_eq_true, beq_iff_eq, bne_iff_ne] at this
    refine ⟨this.1, fun j hj => ?_⟩
    by_cases hjs : j < ops.size
    · exact (this.2 j hjs).resolve_left hj
    · simp [dstOf, hjs]
  intro f
  induction f with
  | zero =>
    intro U L vs w hU hnd hsz hmem hC hdn hR
    have hU0 : U = [] := List.eq_nil_of_length_eq_zero hU
    subst hU0
    have hall : ∀ i, i < ops.size → L.getD i true = true := by
      intro i hi
      cases h : L.getD i true with
      | true => rfl
      | false => exact absurd ((hmem i).2 ⟨hi, h⟩) (by simp)
    refine ⟨?_, ?_⟩
    · rw [List.eq_nil_iff_forall_not_mem]
      intro i hi
      obtain ⟨h1, o, ho, _⟩ := mem_ready.1 hi
      have := hall i (Array.getElem?_eq_some_iff.1 ho).1
      rw [h1] at this
      cases this
    · have e : ∀ k, k ≤ ops.size → putL ops a0 vs (fun i => L.getD i true) k = putL ops a0 vs (fun _ => true) k := by
        intro k
        induction k with
        | zero => intro _; rfl
        | succ k ih =>
          intro hk
          unfold putL
          rw [ih (by omega), hall k (by omega)]
      rw [e _ (Nat.le_refl _)]
      exact hQ vs w hC (fun i hi => hR i hi (hall i hi))
  | succ f ih =>
    intro U L vs w hU hnd hsz hmem hC hdn hR
    refine ⟨fun h0 => ?_, fun i hi => ?_⟩
    · exfalso
      have key : ∀ k, ∀ i, i ≤ k → i ∉ U := by
        intro k
        induction k using Nat.strongRecOn with
        | ind k ihk =>
          intro i hik hiU
          obtain ⟨his, hiL⟩ := (hmem i).1 hiU
          have hr : i ∈ Region.ready .any ops L := by
            refine mem_ready.2 ⟨hiL, ops[i], Array.getElem?_eq_getElem his, fun e he hb => ?_⟩
            have hd : e.on ∈ direct ops i := by
              unfold direct
              rw [Array.getElem?_eq_getElem his]
              exact List.mem_map.2 ⟨e, List.mem_filter.2 ⟨by simpa using he, hb⟩, rfl⟩
            have hlt := (hops i his).2 e.on hd
            have hnu : e.on ∉ U := by
              by_cases hk : i = k
              · subst hk; exact ihk e.on hlt e.on (Nat.le_refl _)
              · exact ihk i (by omega) e.on (by omega)
            cases h : L.getD e.on true with
            | true =>
              have : e.on < L.size := by rw [hsz]; omega
              simpa [this] using h
            | false => exact absurd ((hmem e.on).2 ⟨by omega, h⟩) hnu
          rw [h0] at hr
          cases hr
      match U, hU with
      | x :: U', _ => exact key x x (Nat.le_refl _) (by simp)
    · obtain ⟨hiL, o, ho, _⟩ := mem_ready.1 hi
      have his : i < ops.size := (Array.getElem?_eq_some_iff.1 ho).1
      have hiU : i ∈ U := (hmem i).2 ⟨his, hiL⟩
      have hdeps := ready_direct hi
      have hknow : Knows ops R a0 i (putL ops a0 vs (fun i => L.getD i true) ops.size).eval vs w := by
        refine ⟨fun d hd => ?_, fun x hx => eval_none _ (fun d hd => hx d hd)⟩
        have hdl := hdeps d hd
        have hds : d < ops.size := by have := (hops i his).2 d hd; omega
        have hdl' : L.getD d true = true := by
          have : d < L.size := by rw [hsz]; exact hds
          simpa [this] using hdl
        exact ⟨hR d hds hdl', fun t ht => eval_some (L := fun i => L.getD i true) hdl' ht (by rw [hN]; exact (hdist d hds t ht).1) ops.size hds (fun j _ hj => (hdist d hds t ht).2 j hj)⟩
      have hs := hstep i o ho _ vs w hC hknow
      have hgn : o.guard = none := by
        have := (hops i his).1
        rw [ho] at this
        simpa using this
      have hnext : ∀ v w', C w' → T w w' → R i (updV vs i v) w' → wpAnyIn (Fence.wide.inRound l) n0 P .any ops Q f (L.setIfInBounds i true) ((putL ops a0 vs (fun i => L.getD i true) ops.size).put o.dst v) w' := by
        intro v w' hC' hT hRi
        have hd : dstOf ops i = o.dst := by simp [dstOf, ho]
        have hput := putL_set (ops := ops) (a0 := a0) (vs := vs) (L := fun i => L.getD i true) (i := i) v hiL (fun j hj t ht => (hdist i his t ht).2 j hj) ops.size
        rw [if_pos his, hd] at hput
        rw [← hput]
        have e : (fun j => if j = i then true else L.getD j true) = fun j => (L.setIfInBounds i true).getD j true := by
          funext j
          by_cases hji : j = i
          · subst hji
            simp [hsz, his]
          · rw [if_neg hji, getD_set_ne true (fun h => hji h.symm)]
        rw [e]
        refine ih (U.erase i) _ _ w' (by rw [List.length_erase_of_mem hiU]; omega) (hnd.erase i) (by simpa using hsz) (fun j => ?_) hC' (hdn.set hi) (fun j hj hjl => ?_)
        · rw [hnd.mem_erase_iff]
          by_cases hji : j = i
          · subst hji
            simp [hsz, his]
          · rw [getD_set_ne true (fun h => hji h.symm), hmem j]
            simp [hji]
        · by_cases hji : j = i
          · subst hji
            exact hRi
          · rw [getD_set_ne true (fun h => hji h.symm)] at hjl
            refine hloc j vs _ w' (by simp [updV, hji]) (fun d hd => ?_) (hst _ _ _ _ hT (hR j hj hjl))
            have hds : d < ops.size := by have := (hops j hj).2 d hd; omega
            have hdl := hdn j (by simpa [hsz, hj] using hjl) d hd
            have hne : d ≠ i := by
              intro e
              subst e
              simp [hsz, hds] at hdl hiL
              rw [hdl] at hiL
              cases hiL
            simp [updV, hne]
      unfold wpOpIn
      rw [ho]
      dsimp only
      rw [if_pos (by simp [Region.wanted, hgn])]
      refine ⟨fun _ _ => trivial, ?_⟩
      rw [Fence.inRound_round, Oper.semAt_eq _ _ _ (Calm.noDefer_spec hnd0 ho)]
      generalize (execOp (putL ops a0 vs (fun i => L.getD i true) ops.size).eval o).run P w = r at hs ⊢
      cases r with
      | ok n w' =>
        cases n <;> simp only [StepR] at hs <;> simp only [Oper.uponIn]
        case value u => exact hnext _ _ hs.1 hs.2.1 hs.2.2
        case skip => exact hnext _ _ hs.1 hs.2.1 hs.2.2
        case enter g args =>
          refine ⟨fun h => (by cases h), CallsIn.inRound l (callsIn_wide.2 (hs.mono fun e w'' ⟨v, he, h1, h2, h3⟩ => by
            subst he
            exact hnext _ _ h1 h2 h3))⟩
      | halt x w' => simp only [StepR] at hs
end
end Go.Rely
