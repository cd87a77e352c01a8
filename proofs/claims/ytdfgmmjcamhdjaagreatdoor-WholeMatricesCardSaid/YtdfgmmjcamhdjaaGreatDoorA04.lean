/- Steps to WholeMatrices' card; what each asks stands in it. -/
import Derived.Test.YtdfgmmjcamhdjaaGreatDoorA01
set_option linter.unusedVariables false
set_option linter.unusedSimpArgs false
namespace Go.Calm
open Go.RowKit Go.Proofs.YtdfgmmjcamhdjaaGreatDoor
section
variable {P : Program} {ops E : Array Oper} {C : World → Prop} {N0 : Nat} {AL : Nat → Option (TypeId × Array Value)}
/-- every order that the edges of E allow -/
def wpAnyE (P : Program) (E ops : Array Oper) (Q : Exit → Act → World → Prop) : Nat → Array Bool → Act → World → Prop
  | 0, listed, a, w => Region.ready .any E listed = [] ∧ Q .normal a w
  | fuel + 1, listed, a, w =>
    (Region.ready .any E listed = [] → Q .normal a w) ∧
    ∀ i ∈ Region.ready .any E listed, wpOp P ops Q i (wpAnyE P E ops Q fuel (listed.setIfInBounds i true)) a w
def looksE (ops E : Array Oper) (m : Nat) (al : List Nat) : Bool :=
  Region.noSelect ops && decide (m ≤ ops.size) &&
  (al.all fun i => decide (i < m) && (direct E i).isEmpty) &&
  ((List.range m).all fun i => al.contains i || (direct E i).all fun d => decide (d < i) && !al.contains d) &&
  ((List.range m).all fun i => (List.range m).all fun j => j == i || (direct E i).contains j || (direct E j).contains i || (match ops[j]?, ops[i]? with | some oj, some oi => oj.apart ops oi | _, _ => false)) &&
  ((List.range' m (ops.size - m)).all fun k => (List.range m).all fun j => (cl E E.size (direct E k)).contains j) &&
  ((List.range' m (ops.size - m)).all fun k => Region.ready .any E (firsts ops.size k) == [k]) &&
  (Region.ready .any E (firsts ops.size ops.size)).isEmpty
theorem tail_anyE {Q : Exit → Act → World → Prop} (n : Nat) (hn : n = ops.size) : ∀ (d k : Nat), n - k = d → k ≤ n →
    (∀ j, k ≤ j → j < n → Region.ready .any E (firsts n j) = [j]) → Region.ready .any E (firsts n n) = [] →
    ∀ a w, wpOps P ops Q (List.range' k (n - k)) a w → wpAnyE P E ops Q (n - k) (firsts n k) a w
  | 0, k, hd, hk, hr, he, a, w, h => by
    have hkn : k = n := by omega
    subst hkn
    rw [Nat.sub_self] at h ⊢
    exact ⟨he, by simpa [wpOps] using h⟩
  | d + 1, k, hd, hk, hr, he, a, w, h => by
    have hlt : k < n := by omega
    rw [hd] at h ⊢
    rw [List.range'_succ, wpOps_cons] at h
    have hrk := hr k (Nat.le_refl _) hlt
    refine ⟨fun h0 => (by rw [hrk] at h0; cases h0), fun i hi => ?_⟩
    rw [hrk] at hi
    have hik : i = k := by simpa using hi
    subst hik
    rw [firsts_set hlt]
    have hd' : n - (i + 1) = d := by omega
    refine wpOp_mono (fun a w h => ?_) h
    rw [← hd'] at h ⊢
    exact tail_anyE n hn d (i + 1) hd' (by omega) (fun j h1 h2 => hr j (by omega) h2) he a w h
theorem anyE (hES : E.size = ops.size) {Q : Exit → Act → World → Prop} {m : Nat} {al : List Nat} (hl : looksE ops E m al = true) (hAL : ∀ i, (AL i).isSome = true ↔ i ∈ al) (hN : ∀ w, C w → N0 ≤ w.heap.size) :
    ∀ (d : Nat) (U : List (Nat × Oper)) (L : Array Bool) (G : Nat → Nat) (a : Act) (w : World), U.length = d → L.size = ops.size → (∀ x ∈ U, ops[x.1]? = some x.2 ∧ x.1 < m) → (U.map (·.1)).Nodup → U.Pairwise (Ord AL) →
      (∀ i, i < ops.size → (L.getD i true = false ↔ (i ∈ U.map (·.1) ∨ m ≤ i))) → Down E L → Known C N0 AL (fun i => L.getD i false = true) G w →
      Walk P ops C N0 AL (Fin P ops C N0 AL m Q) U G a → wpAnyE P E ops Q (d + (ops.size - m)) L a w := by
  simp only [looksE, Bool.and_eq_true, decide_eq_true_eq, List.all_eq_true, List.mem_range, Bool.or_eq_true, List.mem_range'_1, beq_iff_eq] at hl
  obtain ⟨⟨⟨⟨⟨⟨⟨hsel, hm⟩, hal⟩, hcalm⟩, hapart⟩, hcover⟩, hready⟩, hend⟩ := hl
  have hsel' := Region.noSelect_spec hsel
  have hnone : ∀ i, AL i = none ↔ i ∉ al := fun i => by rw [← hAL i]; cases AL i <;> simp
  have getD_flip : ∀ (L : Array Bool) (i : Nat), i < L.size → (L.getD i false = true ↔ ¬ L.getD i true = false) := by
    intro L i hi
    simp [hi]
  intro d
  induction d with
  | zero =>
    intro U L G a w hU hsz hmem hnd hpw hL hd hK hW
    have hU0 : U = [] := List.eq_nil_of_length_eq_zero hU
    subst hU0
    have hLf : L = firsts ops.size m := by
      apply Array.ext_getElem?
      intro i
      simp only [firsts, List.getElem?_toArray, List.getElem?_map]
      by_cases hi : i < ops.size
      · have h1 := hL i hi
        rw [List.getElem?_range hi, Array.getElem?_eq_getElem (by omega)]
        simp only [Option.map_some, Option.some.injEq]
        by_cases him : i < m
        · have : ¬ L.getD i true = false := fun h => by
            rcases h1.1 h with h | h
            · simp at h
            · omega
          simp [hsz, hi] at this
          simp [him, this]
        · have := h1.2 (.inr (by omega))
          simp [hsz, hi] at this
          simp [him, this]
      · rw [Array.getElem?_eq_none (by omega), List.getElem?_eq_none (by simp; omega)]
        rfl
    subst hLf
    rw [Nat.zero_add]
    refine tail_anyE ops.size rfl (ops.size - m) m rfl hm (fun j h1 h2 => hready j ⟨h1, by omega⟩) (by simpa using hend) a w (hW w ?_)
    refine ⟨hK.1, fun i T cs hi hA => hK.2.1 i T cs ?_ hA, fun i j x y hi hj h1 h2 h3 => hK.2.2 i j x y ?_ ?_ h1 h2 h3⟩
    · simp [firsts, show i < ops.size by omega, hi]
    · simp [firsts, show i < ops.size by omega, hi]
    · simp [firsts, show j < ops.size by omega, hj]
  | succ d ih =>
    intro U L G a w hU hsz hmem hnd hpw hL hd hK hW
    have hlt : ∀ x ∈ U, x.1 < ops.size := fun x hx => (Array.getElem?_eq_some_iff.1 (hmem x hx).1).1
    have hun : ∀ x ∈ U, L.getD x.1 true = false := fun x hx => (hL x.1 (hlt x hx)).2 (.inl (List.mem_map_of_mem hx))
    have hdep : ∀ x ∈ U, (∀ e ∈ direct E x.1, L.getD e false = true) → x.1 ∈ Region.ready .any E L := by
      intro x hx h
      obtain ⟨o', ho'⟩ : ∃ o', E[x.1]? = some o' := ⟨_, Array.getElem?_eq_getElem (by rw [hES]; exact hlt x hx)⟩
      refine mem_ready.2 ⟨hun x hx, o', ho', fun e he hb => h e.on ?_⟩
      unfold direct
      rw [ho']
      exact List.mem_map.2 ⟨e, List.mem_filter.2 ⟨by simpa using he, hb⟩, rfl⟩
    rw [show d + 1 + (ops.size - m) = (d + (ops.size - m)) + 1 from by omega]
    refine ⟨fun h0 => ?_, fun i hi => ?_⟩
    · -- something may come up
      exfalso
      have key : ∀ (k : Nat), ∀ x ∈ U, x.1 = k → AL x.1 = none → False := by
        intro k
        induction k using Nat.strongRecOn with
        | _ k ihk =>
          intro x hx hxk hA
          have hnot : ¬ x.1 ∈ Region.ready .any E L := by rw [h0]; simp
          refine hnot (hdep x hx fun e he => ?_)
          rcases hcalm x.1 (hmem x hx).2 with h | h
          · exact absurd (by simpa using h) ((hnone x.1).1 hA)
          · have h1 := h e he
            simp only [Bool.not_eq_true', List.contains_eq_mem, decide_eq_false_iff_not] at h1
            have hes : e < ops.size := by have := (hlt x hx); omega
            rw [getD_flip L e (by omega)]
            intro hf
            rcases (hL e hes).1 hf with h2 | h2
            · obtain ⟨y, hy, rfl⟩ := List.mem_map.1 h2
              exact ihk y.1 (by omega) y hy rfl ((hnone _).2 h1.2)
            · have := (hmem x hx).2; omega
      match U, hU with
      | x :: U', _ =>
        by_cases hA : AL x.1 = none
        · exact key x.1 x (by simp) rfl hA
        · have hx : x.1 ∈ al := by rw [← hAL]; cases h : AL x.1 with
            | none => exact absurd h hA
            | some _ => rfl
          have := hdep x (by simp) (fun e he => by have := (hal x.1 hx).2; rw [List.isEmpty_iff] at this; rw [this] at he; cases he)
          rw [h0] at this
          cases this
    · -- operation i comes up
      obtain ⟨hiun, oi', hoi', _⟩ := mem_ready.1 hi
      obtain ⟨oi, hoi⟩ : ∃ oi, ops[i]? = some oi := ⟨_, Array.getElem?_eq_getElem (by rw [← hES]; exact (Array.getElem?_eq_some_iff.1 hoi').1)⟩
      clear hoi'
      have his : i < ops.size := (Array.getElem?_eq_some_iff.1 hoi).1
      have hiU : i ∈ U.map (·.1) := by
        rcases (hL i his).1 hiun with h | h
        · exact h
        · exfalso
          match U, hU with
          | x :: U', _ =>
            have h1 := cl_listed hd E.size (direct E i) (ready_direct hi) x.1 (by
              have := hcover i ⟨h, by omega⟩ x.1 (hmem x (by simp)).2
              simpa using this)
            have h2 := hun x (by simp)
            rw [getD_flip L x.1 (by have := hlt x (by simp); omega)] at h1
            exact h1 h2
      obtain ⟨⟨i', o⟩, hx, rfl⟩ := List.mem_map.1 hiU
      dsimp only at *
      have hoo : oi = o := by have := (hmem (i', o) hx).1; rw [hoi] at this; exact Option.some.inj this
      subst hoo
      have him := (hmem (i', oi) hx).2
      obtain ⟨U1, U2, rfl⟩ := List.append_of_mem hx
      have hnd2 := hnd
      rw [List.map_append, List.map_cons] at hnd2
      have hU1 : ∀ x ∈ U1, ops[x.1]? = some x.2 ∧ x.1 ≠ i' ∧ x.2.apart ops oi = true ∧ ((AL x.1).isSome = true → (AL i').isSome = true) := by
        intro x hx1
        have hxU : x ∈ U1 ++ (i', oi) :: U2 := by simp [hx1]
        have hord := (List.pairwise_append.1 hpw).2.2 x hx1 (i', oi) (by simp)
        have hne : x.1 ≠ i' := fun e => (List.nodup_append.1 hnd2).2.2 x.1 (List.mem_map_of_mem hx1) i' (by simp) e
        refine ⟨(hmem x hxU).1, hne, ?_, hord.1⟩
        rcases hapart i' him x.1 (hmem x hxU).2 with ((h | h) | h) | h
        · exact absurd h hne
        · exfalso
          have h1 := ready_direct hi x.1 (by simpa using h)
          rw [getD_flip L x.1 (by have := hlt x hxU; omega)] at h1
          exact h1 (hun x hxU)
        · exfalso
          have h' : i' ∈ direct E x.1 := by simpa using h
          rcases hcalm x.1 (hmem x hxU).2 with h1 | h1
          · have := (hal x.1 (by simpa using h1)).2
            rw [List.isEmpty_iff] at this
            rw [this] at h'
            cases h'
          · have h2 := h1 i' h'
            simp only [Bool.not_eq_true', List.contains_eq_mem, decide_eq_false_iff_not] at h2
            have hx0 : AL x.1 = none := by
              cases hxx : AL x.1 with
              | none => rfl
              | some _ =>
                have : x.1 ∈ al := by rw [← hAL, hxx]; rfl
                have := (hal x.1 this).2
                rw [List.isEmpty_iff] at this
                rw [this] at h'
                cases h'
            have := hord.2 hx0 ((hnone _).2 h2.2)
            dsimp only at this
            omega
        · rw [(hmem x hxU).1, hoi] at h
          exact h
      have hone := pull hsel' hoi U1 G a hU1 hW
      have hU' : (U1 ++ U2).length = d := by
        have := hU
        simp at this ⊢
        omega
      have hsub : (U1 ++ U2).Sublist (U1 ++ (i', oi) :: U2) := List.Sublist.append_left (List.sublist_cons_self _ _) _
      have hK' : ∀ {G' w'}, Known C N0 AL (fun k => k = i' ∨ L.getD k false = true) G' w' → Known C N0 AL (fun k => (L.setIfInBounds i' true).getD k false = true) G' w' := by
        intro G' w' h
        have hc : ∀ k, (L.setIfInBounds i' true).getD k false = true → k = i' ∨ L.getD k false = true := by
          intro k hk
          by_cases e : i' = k
          · exact .inl e.symm
          · rw [getD_set_ne false e] at hk
            exact .inr hk
        exact ⟨h.1, fun k T cs hk hA => h.2.1 k T cs (hc k hk) hA, fun k l x y h1 h2 => h.2.2 k l x y (hc k h1) (hc l h2)⟩
      have hnext : ∀ G' a' w', Known C N0 AL (fun k => k = i' ∨ L.getD k false = true) G' w' → Walk P ops C N0 AL (Fin P ops C N0 AL m Q) (U1 ++ U2) G' a' → wpAnyE P E ops Q (d + (ops.size - m)) (L.setIfInBounds i' true) a' w' := by
        intro G' a' w' h1 h2
        refine ih (U1 ++ U2) _ G' a' w' hU' (by simpa using hsz) (fun x hx => hmem x (hsub.subset hx)) ((hsub.map _).nodup hnd) (hpw.sublist hsub) (fun k hk => ?_) (hd.set hi) (hK' h1) h2
        by_cases e : i' = k
        · subst e
          have h3 : ¬ (L.setIfInBounds i' true).getD i' true = false := by simp [hsz, hk]
          have h4 : ¬ i' ∈ (U1 ++ U2).map (·.1) := by
            rw [List.map_append]
            intro h
            rcases List.mem_append.1 h with h | h
            · exact (List.nodup_append.1 hnd2).2.2 i' h i' (by simp) rfl
            · have := (List.nodup_append.1 hnd2).2.1
              rw [List.nodup_cons] at this
              exact this.1 h
          constructor
          · intro h; exact absurd h h3
          · intro h
            rcases h with h | h
            · exact absurd h h4
            · omega
        · rw [getD_set_ne true e, hL k hk]
          simp only [List.map_append, List.map_cons, List.mem_append, List.mem_cons]
          constructor
          · rintro ((h | h | h) | h)
            · exact .inl (.inl h)
            · exact absurd h.symm e
            · exact .inl (.inr h)
            · exact .inr h
          · rintro ((h | h) | h)
            · exact .inl (.inl h)
            · exact .inl (.inr (.inr h))
            · exact .inr h
      have hKsame : AL i' = none → ∀ {w'}, C w' → (∀ b T cs, Blk w b T cs → Blk w' b T cs) → Known C N0 AL (fun k => k = i' ∨ L.getD k false = true) G w' := by
        intro hA w' hc hb
        refine ⟨hc, fun k T cs hk hk2 => ?_, fun k l x y h1 h2 h3 h4 => ?_⟩
        · rcases hk with rfl | hk
          · rw [hA] at hk2; cases hk2
          · exact ⟨(hK.2.1 k T cs hk hk2).1, hb _ _ _ (hK.2.1 k T cs hk hk2).2⟩
        · rcases h1 with rfl | h1
          · rw [hA] at h3; cases h3
          · rcases h2 with rfl | h2
            · rw [hA] at h4; cases h4
            · exact hK.2.2 k l x y h1 h2 h3 h4
      unfold wpOp
      rw [hoi]
      dsimp only
      unfold one at hone
      cases hA : AL i' with
      | some x =>
        obtain ⟨T, cs⟩ := x
        rw [hA] at hone
        obtain ⟨hg, hrun, hB⟩ := hone
        rw [if_pos (by simp [Region.wanted, hg])]
        refine .inl ?_
        unfold Oper.wp
        rw [(hrun w hK.1).1, Oper.upon_value]
        have hlt' : ∀ k T cs, L.getD k false = true → AL k = some (T, cs) → G k < w.heap.size := fun k T cs h1 h2 => (hK.2.1 k T cs h1 h2).2.lt
        refine hnext (upd G i' w.heap.size) _ _ ⟨(hrun w hK.1).2, fun k T' cs' hk hk2 => ?_, fun k l x y h1 h2 h3 h4 h5 => ?_⟩ (hB w.heap.size (hN w hK.1))
        · by_cases e : k = i'
          · subst e
            rw [hA] at hk2
            cases hk2
            simp only [upd, if_true]
            exact ⟨hN w hK.1, Blk.new _ _ _⟩
          · have hk' := hk.resolve_left e
            simp only [upd, if_neg e]
            exact ⟨(hK.2.1 k T' cs' hk' hk2).1, (hK.2.1 k T' cs' hk' hk2).2.alloc _⟩
        · by_cases e : k = i'
          · have e' : ¬ l = i' := fun h => h5 (e.trans h.symm)
            have := hlt' l y.1 y.2 (h2.resolve_left e') h4
            simp only [upd, if_pos e, if_neg e']
            omega
          · by_cases e' : l = i'
            · have := hlt' k x.1 x.2 (h1.resolve_left e) h3
              simp only [upd, if_neg e, if_pos e']
              omega
            · simp only [upd, if_neg e, if_neg e']
              exact hK.2.2 k l x y (h1.resolve_left e) (h2.resolve_left e') h3 h4 h5
      | none =>
        rw [hA] at hone
        dsimp only at hone
        split
        · rename_i hw
          rw [if_pos hw] at hone
          obtain ⟨v, hv, hW2⟩ := hone
          refine .inl ?_
          have h3 := hv w hK.1
          unfold calmAt at h3
          unfold Oper.wp
          generalize (execOp a.eval oi).run P w = r at h3 ⊢
          cases r with
          | ok n w' =>
            cases n <;> simp only [calmUpon] at h3 <;> simp only [Oper.upon]
            case value u =>
              obtain ⟨rfl, rfl⟩ := h3
              exact hnext _ _ _ (hKsame hA hK.1 fun _ _ _ h => h) hW2
            case skip =>
              obtain ⟨rfl, rfl⟩ := h3
              exact hnext _ _ _ (hKsame hA hK.1 fun _ _ _ h => h) hW2
            case enter f args =>
              obtain ⟨rfl, hc⟩ := h3
              exact hc.mono fun e w'' ⟨he, hb, hc'⟩ => by
                subst he
                exact hnext _ _ _ (hKsame hA hc' fun _ _ _ h => h.below hb) hW2
          | halt x w' => simp only [calmUpon] at h3
        · rename_i hw
          rw [if_neg hw] at hone
          exact hnext _ _ _ (hKsame hA hK.1 fun _ _ _ h => h) hone
/-! ### one edge more: a value may be taken ahead of a store -/
def addE (ops : Array Oper) (s e : Nat) : Array Oper := ops.modify s fun o => { o with after := o.after.push { on := e, ground := .data } }
/-- s: the store; e: an operation that takes a part of a tuple -/
def lateOk (ops : Array Oper) (s e : Nat) : Bool :=
  Region.noSelect ops && decide (s ≠ e) && decide (s < ops.size) &&
  (match ops[e]? with | some o => o.guard.isNone && (match o.op with | .extract _ _ => true | .move _ => true | _ => false) && ((List.range ops.size).all fun i => i == e || (direct ops i).contains e || (direct ops e).contains i || (match ops[i]? with | some oi => oi.apart ops o | none => false)) | none => false) &&
  (direct ops e).all fun d => (direct ops s).contains d
theorem set_comm {L : Array Bool} {i j : Nat} : (L.setIfInBounds i true).setIfInBounds j true = (L.setIfInBounds j true).setIfInBounds i true := by
  apply Array.ext_getElem?
  intro k
  simp only [Array.getElem?_setIfInBounds, Array.size_setIfInBounds]
  by_cases h1 : i = k <;> by_cases h2 : j = k <;> simp [h1, h2]
theorem pure_op {P : Program} {Q : Exit → Act → World → Prop} {oe : Oper} (hop : (match oe.op with | .extract _ _ => true | .move _ => true | _ => false) = true) (a : Act) (K : Act → World → Prop) (w : World)
    (h : oe.wp P a w K Q ∨ (oe.asks P a w ∧ LetsOut Q)) : ∃ v, (∀ w, (execOp a.eval oe).run P w = .ok (.value v) w) ∧ K (a.put oe.dst v) w := by
  have key : ∀ v, (∀ w, (execOp a.eval oe).run P w = .ok (.value v) w) → noRoomEvent ∉ ((execOp a.eval oe).runT P w #[]).2 → ∃ v, (∀ w, (execOp a.eval oe).run P w = .ok (.value v) w) ∧ K (a.put oe.dst v) w := by
    intro v hr hn
    refine ⟨v, hr, ?_⟩
    rcases h with h | ⟨h, _⟩
    · unfold Oper.wp at h
      rw [hr] at h
      exact h
    · exact absurd h.1 hn
  have stuckNo : ∀ s, execOp a.eval oe = (stuck s >>= fun v : Value => pure (Next.value v)) → False := by
    intro s hs
    rcases h with h | ⟨h, _⟩
    · unfold Oper.wp at h
      rw [hs] at h
      exact h
    · have := h.1
      rw [hs] at this
      exact absurd (show noRoomEvent ∈ (#[] : Array Event) from this) (by simp)
  cases ho : oe.op <;> rw [ho] at hop <;> try (cases hop; done)
  case move x =>
    refine key (a.eval x) (fun w => by simp [execOp, ho]) ?_
    have e : execOp a.eval oe = pure (Next.value (a.eval x)) := by simp [execOp, ho]
    rw [e]
    exact fun h => absurd (show noRoomEvent ∈ (#[] : Array Event) from h) (by simp)
  case extract x i =>
    have e : execOp a.eval oe = (Instr.extract (a.eval x) i >>= fun v => pure (Next.value v)) := by simp [execOp, ho]
    cases hv : a.eval x
    case tuple vs =>
      cases hi : vs[i]? with
      | some v =>
        have e2 : execOp a.eval oe = pure (Next.value v) := by rw [e, hv]; simp only [Instr.extract, hi]; rfl
        refine key v (fun w => by rw [e2]; rfl) ?_
        rw [e2]
        exact fun h => absurd (show noRoomEvent ∈ (#[] : Array Event) from h) (by simp)
      | none =>
        exact (stuckNo "Extract: no such component" (by rw [e, hv]; simp only [Instr.extract, hi])).elim
    all_goals exact (stuckNo _ (by rw [e, hv]; rfl)).elim
/-- the post of a panic does not hang on the frame -/
def Free (Q : Exit → Act → World → Prop) : Prop := ∀ (c : _) (a a' : Act) (w : World), Q (.panic c) a w → Q (.panic c) a' w
theorem upon_put {Q : Exit → Act → World → Prop} (hQ : Free Q) {oi oe : Oper} (hse : ∀ cs b, oe.op ≠ .select cs b) {K : Act → World → Prop} {a : Act} (dst : Option Tmp) (v : Value)
    (h2 : ∀ d, dst = some d → oi.dst ≠ some d) (h3 : ∀ d, oi.dst = some d → d ∉ oe.looksAt ops) {r : Result Next} (h : oi.upon P (a.put dst v) K Q r) :
    oi.upon P a (fun a' w' => execOp a'.eval oe = execOp a.eval oe ∧ K (a'.put dst v) w') Q r := by
  have hp : ∀ u, (a.put oi.dst u).put dst v = (a.put dst v).put oi.dst u := fun u => (Act.put_comm a v u h2).symm
  cases r with
  | ok n w' =>
    cases n with
    | value u => exact ⟨execOp_put oe hse a oi.dst u h3, by rw [hp]; exact h⟩
    | skip => exact ⟨execOp_put oe hse a oi.dst undef h3, by rw [hp]; exact h⟩
    | defer d =>
      refine ⟨execOp_put oe hse { a with defers := d :: a.defers } oi.dst undef h3, ?_⟩
      have e : (({ a with defers := d :: a.defers } : Act).put oi.dst undef).put dst v = ({ (a.put dst v) with defers := d :: (a.put dst v).defers } : Act).put oi.dst undef := by
        rw [← Act.put_comm _ v undef h2]
        cases dst <;> rfl
      rw [e]
      exact h
    | enter f args =>
      refine Calls.mono h fun e w'' he => ?_
      cases e with
      | returned u => exact ⟨execOp_put oe hse a oi.dst u h3, by rw [hp]; exact he⟩
      | panicked c => exact hQ _ _ _ _ he
      | outgrown => exact he
    | row r args =>
      exact h.mono fun u w'' he => ⟨execOp_put oe hse a oi.dst u h3, by rw [hp]; exact he⟩
    | _ => exact h
  | halt x w' =>
    cases x with
    | panic u => exact hQ _ _ _ _ h
    | _ => exact h
theorem wpOp_put {Q : Exit → Act → World → Prop} (hQ : Free Q) {i : Nat} {oi oe : Oper} (hoi : ops[i]? = some oi) (hs : ∀ cs b, oi.op ≠ .select cs b) (hse : ∀ cs b, oe.op ≠ .select cs b) {K : Act → World → Prop} {a : Act} {w : World} (dst : Option Tmp) (v : Value)
    (h1 : ∀ d, dst = some d → d ∉ oi.looksAt ops) (h2 : ∀ d, dst = some d → oi.dst ≠ some d) (h3 : ∀ d, oi.dst = some d → d ∉ oe.looksAt ops) (h : wpOp P ops Q i K (a.put dst v) w) :
    wpOp P ops Q i (fun a' w' => execOp a'.eval oe = execOp a.eval oe ∧ K (a'.put dst v) w') a w := by
  unfold wpOp at h ⊢
  rw [hoi] at h ⊢
  dsimp only at h ⊢
  rw [wanted_put oi a dst v h1] at h
  split
  · rename_i hw
    rw [if_pos hw] at h
    rcases h with h | ⟨h4, h5⟩
    · left
      unfold Oper.wp at h ⊢
      rw [execOp_put oi hs a dst v h1] at h
      exact upon_put hQ hse dst v h2 h3 h
    · right
      unfold Oper.asks at h4 ⊢
      rw [execOp_put oi hs a dst v h1] at h4
      exact ⟨h4, h5⟩
  · rename_i hw
    rw [if_neg hw] at h
    exact ⟨execOp_put oe hse a oi.dst undef h3, by rw [← Act.put_comm a v undef h2]; exact h⟩
theorem early {Q : Exit → Act → World → Prop} (hQ : Free Q) {e : Nat} {oe : Oper} (hoe : ops[e]? = some oe) (hsel : ∀ (j : Nat) (o : Oper) cs b, ops[j]? = some o → o.op ≠ .select cs b) (hg : oe.guard = none)
    (hap : ∀ i oi, i ≠ e → ops[i]? = some oi → e ∉ direct ops i → i ∉ direct ops e → oi.apart ops oe = true) (v : Value) : ∀ (m : Nat) (L : Array Bool) (a : Act) (w : World), L.size = ops.size → e ∈ Region.ready .any ops L → (∀ w, (execOp a.eval oe).run P w = .ok (.value v) w) →
      wpAny P .any ops Q m (L.setIfInBounds e true) (a.put oe.dst v) w → wpAny P .any ops Q (m + 1) L a w := by
  intro m
  induction m with
  | zero =>
    intro L a w hsz he hv h
    refine ⟨fun h0 => (by rw [h0] at he; cases he), fun i hi => ?_⟩
    by_cases hie : i = e
    · subst hie
      unfold wpOp
      rw [hoe]
      dsimp only
      rw [if_pos (by simp [Region.wanted, hg])]
      left
      unfold Oper.wp
      rw [hv w]
      exact h
    · exfalso
      have hi2 : i ∈ Region.ready .any ops (L.setIfInBounds e true) := by
        obtain ⟨h1, o, h2, h3⟩ := mem_ready.1 hi
        exact mem_ready.2 ⟨by rw [getD_set_ne true (fun h => hie h.symm)]; exact h1, o, h2, fun x hx hb => getD_set_true (h3 x hx hb)⟩
      rw [h.1] at hi2
      cases hi2
  | succ m ih =>
    intro L a w hsz he hv h
    refine ⟨fun h0 => (by rw [h0] at he; cases he), fun i hi => ?_⟩
    by_cases hie : i = e
    · subst hie
      unfold wpOp
      rw [hoe]
      dsimp only
      rw [if_pos (by simp [Region.wanted, hg])]
      left
      unfold Oper.wp
      rw [hv w]
      exact h
    · obtain ⟨h1, oi, hoi, h3⟩ := mem_ready.1 hi
      have hi2 : i ∈ Region.ready .any ops (L.setIfInBounds e true) := mem_ready.2 ⟨by rw [getD_set_ne true (fun h => hie h.symm)]; exact h1, oi, hoi, fun x hx hb => getD_set_true (h3 x hx hb)⟩
      have hun : ¬ L.getD e false = true := by
        obtain ⟨g1, _⟩ := mem_ready.1 he
        have hel := (Array.getElem?_eq_some_iff.1 hoe).1
        rw [← hsz] at hel
        simp [hel] at g1 ⊢
        exact g1
      have hnd : e ∉ direct ops i := fun hd => hun (ready_direct hi e hd)
      have hnd2 : i ∉ direct ops e := fun hd => by have := ready_direct he i hd; have his := (Array.getElem?_eq_some_iff.1 hoi).1; rw [← hsz] at his; simp [his] at h1 this; rw [h1] at this; cases this
      obtain ⟨p1, p2, p3⟩ := Oper.apart_spec (hap i oi hie hoi hnd hnd2)
      have hstep := h.2 i hi2
      have hput := wpOp_put hQ hoi (fun cs b => hsel i oi cs b hoi) (fun cs b => hsel e oe cs b hoe) oe.dst v p3 (fun d hd hd2 => p2 d hd2 hd) p1 hstep
      refine wpOp_mono (fun a' w' ⟨q1, q2⟩ => ?_) hput
      rw [set_comm] at q2
      refine ih _ a' w' (by simpa using hsz) ?_ (fun w => by rw [q1]; exact hv w) q2
      obtain ⟨g1, o, g2, g3⟩ := mem_ready.1 he
      exact mem_ready.2 ⟨by rw [getD_set_ne true hie]; exact g1, o, g2, fun x hx hb => getD_set_true (g3 x hx hb)⟩
theorem mem_addE {s e k : Nat} {L : Array Bool} (hsl : s < ops.size) : k ∈ Region.ready .any (addE ops s e) L ↔ k ∈ Region.ready .any ops L ∧ (k = s → L.getD e false = true) := by
  unfold addE
  constructor
  · intro h
    obtain ⟨h1, o, h2, h3⟩ := mem_ready.1 h
    rw [Array.getElem?_modify] at h2
    by_cases hk : s = k
    · subst hk
      rw [if_pos rfl, Array.getElem?_eq_getElem hsl] at h2
      cases h2
      refine ⟨mem_ready.2 ⟨h1, _, Array.getElem?_eq_getElem hsl, fun x hx hb => h3 x (Array.mem_push.2 (.inl hx)) hb⟩, fun _ => h3 _ (Array.mem_push.2 (.inr rfl)) rfl⟩
    · rw [if_neg hk] at h2
      exact ⟨mem_ready.2 ⟨h1, o, h2, h3⟩, fun h => absurd h.symm hk⟩
  · rintro ⟨h, h4⟩
    obtain ⟨h1, o, h2, h3⟩ := mem_ready.1 h
    by_cases hk : s = k
    · subst hk
      refine mem_ready.2 ⟨h1, { o with after := o.after.push { on := e, ground := .data } }, by rw [Array.getElem?_modify, if_pos rfl, h2]; rfl, fun x hx hb => ?_⟩
      rcases Array.mem_push.1 hx with hx | hx
      · exact h3 x hx hb
      · subst hx
        exact h4 rfl
    · exact mem_ready.2 ⟨h1, o, by rw [Array.getElem?_modify, if_neg hk]; exact h2, h3⟩
theorem loosen {Q : Exit → Act → World → Prop} (hQ : Free Q) {s e : Nat} (hl : lateOk ops s e = true) : ∀ (n : Nat) (L : Array Bool) (a : Act) (w : World), L.size = ops.size → wpAnyE P (addE ops s e) ops Q n L a w → wpAny P .any ops Q n L a w := by
  unfold lateOk at hl
  simp only [Bool.and_eq_true, decide_eq_true_eq, List.all_eq_true] at hl
  obtain ⟨⟨⟨⟨hsel, hse⟩, hsl⟩, hmid⟩, hdir⟩ := hl
  have hsel' := Region.noSelect_spec hsel
  obtain ⟨oe, hoe⟩ : ∃ oe, ops[e]? = some oe := by
    cases h : ops[e]? with
    | none => rw [h] at hmid; cases hmid
    | some o => exact ⟨o, rfl⟩
  rw [hoe] at hmid
  simp only [Bool.and_eq_true, List.all_eq_true, List.mem_range, Bool.or_eq_true, beq_iff_eq, Option.isNone_iff_eq_none] at hmid
  obtain ⟨⟨hg, hop⟩, hap⟩ := hmid
  have hap' : ∀ i oi, i ≠ e → ops[i]? = some oi → e ∉ direct ops i → i ∉ direct ops e → oi.apart ops oe = true := by
    intro i oi h1 h2 h3 h4
    rcases hap i (Array.getElem?_eq_some_iff.1 h2).1 with ((h | h) | h) | h
    · exact absurd h h1
    · exact absurd (by simpa using h) h3
    · exact absurd (by simpa using h) h4
    · rw [h2] at h; exact h
  -- what the late operation does
  have hpure : ∀ (a : Act) (K : Act → World → Prop) (w : World), wpOp P ops Q e K a w → ∃ v, (∀ w, (execOp a.eval oe).run P w = .ok (.value v) w) ∧ K (a.put oe.dst v) w := by
    intro a K w h
    unfold wpOp at h
    rw [hoe] at h
    dsimp only at h
    rw [if_pos (by simp [Region.wanted, hg])] at h
    exact pure_op hop a K w h
  intro n
  induction n using Nat.strongRecOn with
  | _ n ih =>
    intro L a w hsz h
    have hready : ∀ i, i ∈ Region.ready .any ops L → ¬ i ∈ Region.ready .any (addE ops s e) L → i = s ∧ e ∈ Region.ready .any (addE ops s e) L := by
      intro i hi hn
      rw [mem_addE hsl] at hn
      have his : i = s := Classical.byContradiction fun h0 => hn ⟨hi, fun h1 => absurd h1 h0⟩
      subst his
      refine ⟨rfl, (mem_addE hsl).2 ⟨?_, fun h1 => absurd h1.symm hse⟩⟩
      have hun : ¬ L.getD e false = true := fun h1 => hn ⟨hi, fun _ => h1⟩
      have hel := (Array.getElem?_eq_some_iff.1 hoe).1
      refine mem_ready.2 ⟨?_, oe, hoe, fun x hx hb => ?_⟩
      · rw [← hsz] at hel
        simp [hel] at hun ⊢
        exact hun
      · have hd : x.on ∈ direct ops e := by
          unfold direct
          rw [hoe]
          exact List.mem_map.2 ⟨x, List.mem_filter.2 ⟨by simpa using hx, hb⟩, rfl⟩
        have := hdir _ hd
        exact ready_direct hi _ (by simpa using this)
    cases n with
    | zero =>
      refine ⟨?_, h.2⟩
      rw [List.eq_nil_iff_forall_not_mem]
      intro i hi
      by_cases hi2 : i ∈ Region.ready .any (addE ops s e) L
      · rw [h.1] at hi2; cases hi2
      · have := (hready i hi hi2).2
        rw [h.1] at this; cases this
    | succ n =>
      refine ⟨fun h0 => h.1 ?_, fun i hi => ?_⟩
      · rw [List.eq_nil_iff_forall_not_mem]
        intro i hi
        have := ((mem_addE hsl).1 hi).1
        rw [h0] at this; cases this
      · by_cases hi2 : i ∈ Region.ready .any (addE ops s e) L
        · exact wpOp_mono (fun a' w' h' => ih n (Nat.lt_succ_self _) _ a' w' (by simpa using hsz) h') (h.2 i hi2)
        · obtain ⟨rfl, he⟩ := hready i hi hi2
          obtain ⟨v, hv, h2⟩ := hpure a _ w (h.2 e he)
          have hie : i ≠ e := hse
          obtain ⟨h1, oi, hoi, h3⟩ := mem_ready.1 hi
          have hi3 : i ∈ Region.ready .any (addE ops i e) (L.setIfInBounds e true) := by
            refine (mem_addE hsl).2 ⟨mem_ready.2 ⟨by rw [getD_set_ne true (fun h => hie h.symm)]; exact h1, oi, hoi, fun x hx hb => getD_set_true (h3 x hx hb)⟩, fun _ => ?_⟩
            have hel := (Array.getElem?_eq_some_iff.1 hoe).1
            rw [← hsz] at hel
            simp [hel]
          cases n with
          | zero => rw [h2.1] at hi3; cases hi3
          | succ m =>
            have hun : ¬ L.getD e false = true := fun h1 => hi2 ((mem_addE hsl).2 ⟨hi, fun _ => h1⟩)
            have hnd : e ∉ direct ops i := fun hd => hun (ready_direct hi e hd)
            have he3 := ((mem_addE hsl).1 he).1
            have hnd2 : i ∉ direct ops e := fun hd => by have := ready_direct he3 i hd; have his := (Array.getElem?_eq_some_iff.1 hoi).1; rw [← hsz] at his; simp [his] at h1 this; rw [h1] at this; cases this
            obtain ⟨p1, p2, p3⟩ := Oper.apart_spec (hap' i oi hie hoi hnd hnd2)
            have hput := wpOp_put hQ hoi (fun cs b => hsel' i oi cs b hoi) (fun cs b => hsel' e oe cs b hoe) oe.dst v p3 (fun d hd hd2 => p2 d hd2 hd) p1 (h2.2 i hi3)
            refine wpOp_mono (fun a' w' ⟨q1, q2⟩ => ?_) hput
            refine early hQ hoe (fun j o cs b hj => hsel' j o cs b hj) hg hap' v m _ a' w' (by simpa using hsz) ?_ (fun w => by rw [q1]; exact hv w) ?_
            · have he2 := ((mem_addE hsl).1 he).1
              obtain ⟨g1, o, g2, g3⟩ := mem_ready.1 he2
              exact mem_ready.2 ⟨by rw [getD_set_ne true hie]; exact g1, o, g2, fun x hx hb => getD_set_true (g3 x hx hb)⟩
            · rw [set_comm] at q2
              exact ih m (by omega) _ _ _ (by simpa using hsz) q2
theorem wp_region_calm_late {id : Nat} {Q : Exit → Act → World → Prop} (s e : Nat) (hlate : lateOk ops s e = true) (hQ : Free Q) {a : Act} {w : World} (m : Nat) (A : Als) (hm : P.follows .mixedOrders = true) (hl : looksE ops (addE ops s e) m (A.map (·.1)) = true) (hn : (A.map (·.1)).Nodup)
    (C : World → Prop) (N0 : Nat) (hN : ∀ w, C w → N0 ≤ w.heap.size) (hC : C w.drew)
    (h : WalkI P ops C N0 A (Fin P ops C N0 (alOf A) m Q) (idxs m (A.map (·.1))) (fun _ => 0) a) : (Code.region id ops true).wp P Q a w := by
  have hl' := hl
  simp only [looksE, Bool.and_eq_true, decide_eq_true_eq, List.all_eq_true, List.mem_range, Bool.or_eq_true, List.mem_range'_1, beq_iff_eq] at hl'
  obtain ⟨⟨⟨⟨⟨⟨⟨_, hms⟩, hal⟩, _⟩, _⟩, _⟩, _⟩, _⟩ := hl'
  have hAL : ∀ i, (alOf A i).isSome = true ↔ i ∈ A.map (·.1) := by
    intro i
    simp [alOf, List.find?_isSome]
  have hnone : ∀ i, alOf A i = none ↔ i ∉ A.map (·.1) := fun i => by rw [← hAL i]; cases alOf A i <;> simp
  have hlt : ∀ i ∈ idxs m (A.map (·.1)), i < m := by
    intro i hi
    rcases List.mem_append.1 hi with h | h
    · exact List.mem_range.1 (List.mem_filter.1 h).1
    · exact (hal i h).1
  have hmap := withOps_map (ops := ops) (l := idxs m (A.map (·.1))) fun i hi => Nat.lt_of_lt_of_le (hlt i hi) hms
  have hmem : ∀ i, i < m → i ∈ idxs m (A.map (·.1)) := by
    intro i hi
    by_cases h : i ∈ A.map (·.1)
    · exact List.mem_append_right _ h
    · exact List.mem_append_left _ (List.mem_filter.2 ⟨List.mem_range.2 hi, by simpa using h⟩)
  have hnd : (idxs m (A.map (·.1))).Nodup := by
    refine List.nodup_append.2 ⟨List.nodup_range.filter _, hn, fun x hx y hy e => ?_⟩
    subst e
    have := (List.mem_filter.1 hx).2
    simp at this
    obtain ⟨z, hz, rfl⟩ := List.mem_map.1 hy
    exact this z.2.1 z.2.2 hz
  have hpw : (idxs m (A.map (·.1))).Pairwise (fun i j => ((alOf A i).isSome = true → (alOf A j).isSome = true) ∧ (alOf A i = none → alOf A j = none → i < j)) := by
    refine List.pairwise_append.2 ⟨?_, ?_, fun x hx y hy => ⟨fun _ => (hAL y).2 hy, fun _ h => absurd hy ((hnone y).1 h)⟩⟩
    · refine ((List.pairwise_lt_range (n := m)).filter _).imp_of_mem fun {x y} hx hy h => ⟨fun h1 => ?_, fun _ _ => h⟩
      have := (List.mem_filter.1 hx).2
      exact absurd ((hAL x).1 h1) (by simpa using this)
    · exact (List.pairwise_of_forall (R := fun _ _ => True) (fun _ _ => trivial)).imp_of_mem fun {x y} hx hy _ => ⟨fun _ => (hAL y).2 hy, fun h => absurd hx ((hnone x).1 h)⟩
  have hlen : (withOps ops (idxs m (A.map (·.1)))).length = m := by
    have h1 := congrArg List.length hmap
    rw [List.length_map] at h1
    rw [h1]
    have hp : (idxs m (A.map (·.1))).Perm (List.range m) := by
      refine (List.perm_ext_iff_of_nodup hnd List.nodup_range).2 fun i => ⟨fun hi => List.mem_range.2 (hlt i hi), fun hi => hmem i (List.mem_range.1 hi)⟩
    simpa using hp.length_eq
  refine wp_region_any hm ?_
  have hops : ∀ x ∈ withOps ops (idxs m (A.map (·.1))), ops[x.1]? = some x.2 ∧ x.1 < m := by
    intro x hx
    obtain ⟨i, hi, hx⟩ := List.mem_filterMap.1 hx
    obtain ⟨o, ho, rfl⟩ := Option.map_eq_some_iff.1 hx
    exact ⟨ho, hlt i hi⟩
  have h' : Walk P ops C N0 (alOf A) (Fin P ops C N0 (alOf A) m Q) (withOps ops (idxs m (A.map (·.1)))) (fun _ => 0) a := h
  have key := anyE (P := P) (Q := Q) (E := addE ops s e) (by simp [addE]) hl hAL hN m _ (Array.replicate ops.size false) (fun _ => 0) a w.drew hlen (by simp) hops
    (by rw [hmap]; exact hnd) (by
      have h1 : ((withOps ops (idxs m (A.map fun x => x.1))).map fun x => x.1).Pairwise (fun i j => ((alOf A i).isSome = true → (alOf A j).isSome = true) ∧ (alOf A i = none → alOf A j = none → i < j)) := by rw [hmap]; exact hpw
      have h2 := List.pairwise_map.1 h1
      exact h2)
    (fun i hi => by
      rw [hmap]
      simp only [Array.getD_eq_getD_getElem?, Array.getElem?_replicate, if_pos hi, Option.getD_some, true_iff]
      by_cases h : i < m
      · exact .inl (hmem i h)
      · exact .inr (by omega))
    (fun j hj => by
      exfalso
      by_cases h : j < ops.size <;> simp [h] at hj)
    ⟨hC, fun i T cs hi => by
      exfalso
      by_cases h : i < ops.size <;> simp [h] at hi, fun i j x y hi => by
      exfalso
      by_cases h : i < ops.size <;> simp [h] at hi⟩ h'
  rw [show m + (ops.size - m) = ops.size from by omega] at key
  exact loosen hQ hlate _ _ _ _ (by simp) key
theorem NoPanic.free {Q : Exit → Act → World → Prop} : Free (NoPanic Q) := fun _ _ _ _ h => h
theorem wp_region_late {id : Nat} {Q : Exit → Act → World → Prop} (s e : Nat) (hlate : lateOk ops s e = true) {a : Act} {w : World} (m : Nat) (A : Als) (hm : P.follows .mixedOrders = true) (hl : looksE ops (addE ops s e) m (A.map (·.1)) = true) (hn : (A.map (·.1)).Nodup)
    (C : World → Prop) (N0 : Nat) (hN : ∀ w, C w → N0 ≤ w.heap.size) (hC : C w.drew)
    (h : WalkI P ops C N0 A (Fin P ops C N0 (alOf A) m (NoPanic Q)) (idxs m (A.map (·.1))) (fun _ => 0) a) : (Code.region id ops true).wp P Q a w :=
  wp_region_noPanic (wp_region_calm_late s e hlate NoPanic.free m A hm hl hn C N0 hN hC h)
end
end Go.Calm
