/- Steps to WholeMatrices' card; what each asks stands in it. -/
import Derived.Test.YtdfgmmjcamhdjaaGreatDoorA02
import Derived.Test.YtdfgmmjcamhdjaaGreatDoorA04
set_option linter.unusedVariables false
set_option linter.unusedSimpArgs false
namespace Go.Rely
open Go.RowKit Go.Calm Go.Proofs.YtdfgmmjcamhdjaaGreatDoor
section
variable {P : Program} {ops : Array Oper} {C : World → Prop} {T : World → World → Prop} {R : Nat → (Nat → Value) → World → Prop} {a0 : Act}
theorem putL_setT {vs : Nat → Value} {L : Nat → Bool} {i : Nat} (v : Value) (hL : L i = false) :
    ∀ k, (∀ j, j < k → j ≠ i → ∀ t, dstOf ops i = some t → dstOf ops j ≠ some t) → putL ops a0 (updV vs i v) (fun j => if j = i then true else L j) k = if i < k then (putL ops a0 vs L k).put (dstOf ops i) v else putL ops a0 vs L k
  | 0, _ => rfl
  | k + 1, hdist => by
    have ih := putL_setT (vs := vs) v hL k (fun j hj => hdist j (by omega))
    unfold putL
    rw [ih]
    unfold updV
    by_cases e : k = i
    · subst e
      simp [hL]
    · simp only [if_neg e]
      by_cases hlt : i < k
      · rw [if_pos hlt, if_pos (show i < k + 1 by omega)]
        split
        · rw [Act.put_comm _ _ _ (fun t ht => hdist k (Nat.lt_succ_self _) e t ht)]
        · rfl
      · rw [if_neg hlt, if_neg (show ¬ i < k + 1 by omega)]
/-- the looks at the region: m operations in whatever order, behind them the others in theirs -/
def looksT (ops : Array Oper) (N m : Nat) : Bool :=
  Region.noSelect ops && decide (m ≤ ops.size) &&
  ((List.range m).all fun i => (match ops[i]? with | some o => o.guard.isNone | none => false) && (direct ops i).all fun d => decide (d < i)) &&
  ((List.range m).all fun i => match dstOf ops i with | none => true | some t => decide (t < N) && (List.range m).all fun j => j == i || dstOf ops j != some t) &&
  ((List.range' m (ops.size - m)).all fun k => (List.range m).all fun j => (cl ops ops.size (direct ops k)).contains j) &&
  ((List.range' m (ops.size - m)).all fun k => Region.ready .any ops (firsts ops.size k) == [k]) &&
  (Region.ready .any ops (firsts ops.size ops.size)).isEmpty
/-- what an operation may know of its operands -/
def KnowsT (ops : Array Oper) (R : Nat → (Nat → Value) → World → Prop) (a0 : Act) (m i : Nat) (ρ : Operand → Value) (vs : Nat → Value) (w : World) : Prop :=
  (∀ d ∈ direct ops i, R d vs w ∧ ∀ t, dstOf ops d = some t → ρ (.tmp t) = vs d) ∧ (∀ x, (∀ d, d < m → ∀ t, dstOf ops d = some t → x ≠ .tmp t) → ρ x = a0.eval x)
theorem anyT {l n0 : Nat} {Q : Exit → Act → World → Prop} {N m : Nat} (hnd0 : Calm.noDefer ops = true) (hl : looksT ops N m = true) (hN : a0.tmps.size = N) (hst : ∀ i vs w w', T w w' → R i vs w → R i vs w') (hloc : ∀ i vs vs' w, vs i = vs' i → (∀ d ∈ direct ops i, vs d = vs' d) → R i vs w → R i vs' w)
    (hstep : ∀ i o, i < m → ops[i]? = some o → ∀ ρ vs w, C w → KnowsT ops R a0 m i ρ vs w → StepR P C T (fun v => R i (updV vs i v)) w ((execOp ρ o).run P w))
    (hQ : ∀ vs w, C w → (∀ i, i < m → R i vs w) → wpOpsIn (Fence.wide.inRound l) n0 P ops Q (List.range' m (ops.size - m)) (putL ops a0 vs (fun _ => true) m) w) :
    ∀ (f : Nat) (U : List Nat) (L : Array Bool) (vs : Nat → Value) (w : World), U.length = f → U.Nodup → L.size = ops.size → (∀ i, i ∈ U ↔ i < m ∧ L.getD i true = false) → (∀ i, m ≤ i → i < ops.size → L.getD i true = false) → C w → Down ops L → (∀ i, i < m → L.getD i true = true → R i vs w) →
      wpAnyIn (Fence.wide.inRound l) n0 P .any ops Q (f + (ops.size - m)) L (putL ops a0 vs (fun i => L.getD i true) m) w := by
  simp only [looksT, Bool.and_eq_true, decide_eq_true_eq, List.all_eq_true, List.mem_range, List.mem_range'_1, beq_iff_eq] at hl
  obtain ⟨⟨⟨⟨⟨⟨hsel, hms⟩, hops⟩, hdst⟩, hcover⟩, hready⟩, hend⟩ := hl
  have hsel' := Region.noSelect_spec hsel
  have getD_flip : ∀ (L : Array Bool) (i : Nat), i < L.size → (L.getD i false = true ↔ ¬ L.getD i true = false) := by
    intro L i hi
    simp [hi]
  have hdist : ∀ i, i < m → ∀ t, dstOf ops i = some t → t < N ∧ ∀ j, j < m → j ≠ i → dstOf ops j ≠ some t := by
    intro i hi t ht
    have := hdst i hi
    rw [ht] at this
    simp only [Bool.and_eq_true, decide_eq_true_eq, List.all_eq_true, List.mem_range, Bool.or_eq_true, beq_iff_eq, bne_iff_ne] at this
    exact ⟨this.1, fun j hjs hj => (this.2 j hjs).resolve_left hj⟩
  intro f
  induction f with
  | zero =>
    intro U L vs w hU hnd hsz hmem hlate hC hdn hR
    have hU0 : U = [] := List.eq_nil_of_length_eq_zero hU
    subst hU0
    have hall : ∀ i, i < m → L.getD i true = true := by
      intro i hi
      cases h : L.getD i true with
      | true => rfl
      | false => exact absurd ((hmem i).2 ⟨hi, h⟩) (by simp)
    have hLf : L = firsts ops.size m := by
      apply Array.ext_getElem?
      intro i
      simp only [firsts, List.getElem?_toArray, List.getElem?_map]
      by_cases hi : i < ops.size
      · rw [List.getElem?_range hi, Array.getElem?_eq_getElem (by omega)]
        simp only [Option.map_some, Option.some.injEq]
        by_cases him : i < m
        · have := hall i him
          simp [hsz, hi] at this
          simp [him, this]
        · have := hlate i (by omega) hi
          simp [hsz, hi] at this
          simp [him, this]
      · rw [Array.getElem?_eq_none (by omega), List.getElem?_eq_none (by simp; omega)]
        rfl
    have e : ∀ k, k ≤ m → putL ops a0 vs (fun i => L.getD i true) k = putL ops a0 vs (fun _ => true) k := by
      intro k
      induction k with
      | zero => intro _; rfl
      | succ k ih =>
        intro hk
        unfold putL
        rw [ih (by omega), hall k (by omega)]
    rw [e _ (Nat.le_refl _)]
    clear e hall
    subst hLf
    rw [Nat.zero_add]
    exact Calm.tail_anyIn ops.size rfl (ops.size - m) m rfl hms (fun j h1 h2 => hready j ⟨h1, by omega⟩) (by simpa using hend) _ w (hQ vs w hC (fun i hi => hR i hi (by simp [firsts, show i < ops.size by omega, hi])))
  | succ f ih =>
    intro U L vs w hU hnd hsz hmem hlate hC hdn hR
    rw [show f + 1 + (ops.size - m) = (f + (ops.size - m)) + 1 from by omega]
    refine ⟨fun h0 => ?_, fun i hi => ?_⟩
    · exfalso
      have key : ∀ k, ∀ i, i ≤ k → i ∉ U := by
        intro k
        induction k using Nat.strongRecOn with
        | ind k ihk =>
          intro i hik hiU
          obtain ⟨his, hiL⟩ := (hmem i).1 hiU
          have hr : i ∈ Region.ready .any ops L := by
            have hiso : i < ops.size := by omega
            refine mem_ready.2 ⟨hiL, ops[i], Array.getElem?_eq_getElem hiso, fun e he hb => ?_⟩
            have hd : e.on ∈ direct ops i := by
              unfold direct
              rw [Array.getElem?_eq_getElem hiso]
              exact List.mem_map.2 ⟨e, List.mem_filter.2 ⟨by simpa using he, hb⟩, rfl⟩
            have hlt := (hops i his).2 e.on hd
            have hnu : e.on ∉ U := by
              by_cases hk : i = k
              · subst hk; exact ihk e.on hlt e.on (Nat.le_refl _)
              · exact ihk i (by omega) e.on (by omega)
            cases h : L.getD e.on true with
            | true =>
              have : e.on < L.size := by rw [hsz]; omega
              simpa [this] using h
            | false => exact absurd ((hmem e.on).2 ⟨by omega, h⟩) hnu
          rw [h0] at hr
          cases hr
      match U, hU with
      | x :: U', _ => exact key x x (Nat.le_refl _) (by simp)
    · obtain ⟨hiL, o, ho, _⟩ := mem_ready.1 hi
      have hiso : i < ops.size := (Array.getElem?_eq_some_iff.1 ho).1
      have his : i < m := by
        rcases Nat.lt_or_ge i m with h | h
        · exact h
        · exfalso
          match U, hU with
          | x :: U', _ =>
            obtain ⟨hx1, hx2⟩ := (hmem x).1 (by simp)
            have h1 := cl_listed hdn ops.size (direct ops i) (ready_direct hi) x (by
              have := hcover i ⟨h, by omega⟩ x hx1
              simpa using this)
            rw [getD_flip L x (by omega)] at h1
            exact h1 hx2
      have hiU : i ∈ U := (hmem i).2 ⟨his, hiL⟩
      have hdeps := ready_direct hi
      have hknow : KnowsT ops R a0 m i (putL ops a0 vs (fun i => L.getD i true) m).eval vs w := by
        refine ⟨fun d hd => ?_, fun x hx => eval_none _ (fun d hd => hx d hd)⟩
        have hdl := hdeps d hd
        have hds : d < m := by have := (hops i his).2 d hd; omega
        have hdl' : L.getD d true = true := by
          have : d < L.size := by rw [hsz]; omega
          simpa [this] using hdl
        exact ⟨hR d hds hdl', fun t ht => eval_some (L := fun i => L.getD i true) hdl' ht (by rw [hN]; exact (hdist d hds t ht).1) m hds (fun j hj hjd => (hdist d hds t ht).2 j hj hjd)⟩
      have hs := hstep i o his ho _ vs w hC hknow
      have hgn : o.guard = none := by
        have := (hops i his).1
        rw [ho] at this
        simpa using this
      have hnext : ∀ v w', C w' → T w w' → R i (updV vs i v) w' → wpAnyIn (Fence.wide.inRound l) n0 P .any ops Q (f + (ops.size - m)) (L.setIfInBounds i true) ((putL ops a0 vs (fun i => L.getD i true) m).put o.dst v) w' := by
        intro v w' hC' hT hRi
        have hd : dstOf ops i = o.dst := by simp [dstOf, ho]
        have hput := putL_setT (ops := ops) (a0 := a0) (vs := vs) (L := fun i => L.getD i true) (i := i) v hiL m (fun j hjm hj t ht => (hdist i his t ht).2 j hjm hj)
        rw [if_pos his, hd] at hput
        rw [← hput]
        have e : (fun j => if j = i then true else L.getD j true) = fun j => (L.setIfInBounds i true).getD j true := by
          funext j
          by_cases hji : j = i
          · subst hji
            simp [hsz, hiso]
          · rw [if_neg hji, getD_set_ne true (fun h => hji h.symm)]
        rw [e]
        refine ih (U.erase i) _ _ w' (by rw [List.length_erase_of_mem hiU]; omega) (hnd.erase i) (by simpa using hsz) (fun j => ?_) (fun j hj hj2 => by rw [getD_set_ne true (by omega)]; exact hlate j hj hj2) hC' (hdn.set hi) (fun j hj hjl => ?_)
        · rw [hnd.mem_erase_iff]
          by_cases hji : j = i
          · subst hji
            simp [hsz, hiso]
          · rw [getD_set_ne true (fun h => hji h.symm), hmem j]
            simp [hji]
        · by_cases hji : j = i
          · subst hji
            exact hRi
          · rw [getD_set_ne true (fun h => hji h.symm)] at hjl
            refine hloc j vs _ w' (by simp [updV, hji]) (fun d hd => ?_) (hst _ _ _ _ hT (hR j hj hjl))
            have hds : d < ops.size := by have := (hops j hj).2 d hd; omega
            have hdl := hdn j (by simpa [hsz, show j < ops.size by omega] using hjl) d hd
            have hne : d ≠ i := by
              intro e
              subst e
              simp [hsz, hds] at hdl hiL
              rw [hdl] at hiL
              cases hiL
            simp [updV, hne]
      unfold wpOpIn
      rw [ho]
      dsimp only
      rw [if_pos (by simp [Region.wanted, hgn])]
      refine ⟨fun _ _ => trivial, ?_⟩
      rw [Fence.inRound_round, Oper.semAt_eq _ _ _ (Calm.noDefer_spec hnd0 ho)]
      generalize (execOp (putL ops a0 vs (fun i => L.getD i true) m).eval o).run P w = r at hs ⊢
      cases r with
      | ok n w' =>
        cases n <;> simp only [StepR] at hs <;> simp only [Oper.uponIn]
        case value u => exact hnext _ _ hs.1 hs.2.1 hs.2.2
        case skip => exact hnext _ _ hs.1 hs.2.1 hs.2.2
        case enter g args =>
          refine ⟨fun h => (by cases h), CallsIn.inRound l (callsIn_wide.2 (hs.mono fun e w'' ⟨v, he, h1, h2, h3⟩ => by
            subst he
            exact hnext _ _ h1 h2 h3))⟩
      | halt x w' => simp only [StepR] at hs
theorem wpIn_region_tail {l n0 id : Nat} {Q : Exit → Act → World → Prop} {w : World} {N m : Nat} (hm : P.follows .mixedOrders = true) (hnd0 : Calm.noDefer ops = true) (hl : looksT ops N m = true) (hN : a0.tmps.size = N) (hst : ∀ i vs w w', T w w' → R i vs w → R i vs w') (hloc : ∀ i vs vs' w, vs i = vs' i → (∀ d ∈ direct ops i, vs d = vs' d) → R i vs w → R i vs' w) (hC : C w.drew)
    (hstep : ∀ i o, i < m → ops[i]? = some o → ∀ ρ vs w, C w → KnowsT ops R a0 m i ρ vs w → StepR P C T (fun v => R i (updV vs i v)) w ((execOp ρ o).run P w))
    (hQ : ∀ vs w, C w → (∀ i, i < m → R i vs w) → wpOpsIn (Fence.wide.inRound l) n0 P ops Q (List.range' m (ops.size - m)) (putL ops a0 vs (fun _ => true) m) w) : (Code.region id ops true).wpIn (Fence.wide.inRound l) n0 P Q a0 w := by
  refine wpIn_region_any hm ?_
  have hms : m ≤ ops.size := by
    unfold looksT at hl
    simp only [Bool.and_eq_true, decide_eq_true_eq] at hl
    exact hl.1.1.1.1.1.2
  have e : putL ops a0 (fun _ => undef) (fun i => (Array.replicate ops.size false).getD i true) m = a0 := by
    have : ∀ k, k ≤ m → putL ops a0 (fun _ => undef) (fun i => (Array.replicate ops.size false).getD i true) k = a0 := by
      intro k
      induction k with
      | zero => intro _; rfl
      | succ k ih =>
        intro hk
        unfold putL
        rw [if_neg (by simp [show k < ops.size by omega]), ih (by omega)]
    exact this _ (Nat.le_refl _)
  have key := anyT (l := l) (n0 := n0) (P := P) (Q := Q) hnd0 hl hN hst hloc hstep hQ m (List.range m) (Array.replicate ops.size false) (fun _ => undef) w.drew (by simp) List.nodup_range (by simp)
    (fun i => by
      rw [List.mem_range]
      constructor
      · intro h; exact ⟨h, by simp [show i < ops.size by omega]⟩
      · exact fun h => h.1) (fun i h1 h2 => by simp [h2]) hC (fun j hj => by
      exfalso
      by_cases h : j < ops.size <;> simp [h] at hj) (fun i hi h => by simp [show i < ops.size by omega] at h)
  rw [e, show m + (ops.size - m) = ops.size from by omega] at key
  exact key
end
end Go.Rely
namespace Go.Rely
open Go.RowKit Go.Calm Go.Proofs.YtdfgmmjcamhdjaaGreatDoor
section
variable {P : Program} {ops : Array Oper} {C : (Nat → Bool) → World → Prop} {T : Nat → World → World → Prop} {R : Nat → (Nat → Value) → World → Prop} {a0 : Act}
theorem anyJ {Q : Exit → Act → World → Prop} {N m : Nat} (hl : looksT ops N m = true) (hN : a0.tmps.size = N) (hst : ∀ i j vs w w', i < m → j < m → (cl ops ops.size (direct ops i)).contains j = false → j ≠ i → T j w w' → R i vs w → R i vs w') (hloc : ∀ i vs vs' w, vs i = vs' i → (∀ d ∈ direct ops i, vs d = vs' d) → R i vs w → R i vs' w)
    (hstep : ∀ i o, i < m → ops[i]? = some o → ∀ (D : Nat → Bool) ρ vs w, D i = false → (∀ d ∈ direct ops i, D d = true) → (∀ j, j < m → D j = true → ∀ d ∈ direct ops j, D d = true) → C D w → KnowsT ops R a0 m i ρ vs w → StepR P (C (fun j => if j = i then true else D j)) (T i) (fun v => R i (updV vs i v)) w ((execOp ρ o).run P w))
    (hQ : ∀ (D : Nat → Bool) vs w, (∀ i, i < m → D i = true) → C D w → (∀ i, i < m → R i vs w) → wpOps P ops Q (List.range' m (ops.size - m)) (putL ops a0 vs (fun _ => true) m) w) :
    ∀ (f : Nat) (U : List Nat) (L : Array Bool) (vs : Nat → Value) (w : World), U.length = f → U.Nodup → L.size = ops.size → (∀ i, i ∈ U ↔ i < m ∧ L.getD i true = false) → (∀ i, m ≤ i → i < ops.size → L.getD i true = false) → C (fun j => L.getD j true) w → Down ops L → (∀ i, i < m → L.getD i true = true → R i vs w) →
      wpAny P .any ops Q (f + (ops.size - m)) L (putL ops a0 vs (fun i => L.getD i true) m) w := by
  simp only [looksT, Bool.and_eq_true, decide_eq_true_eq, List.all_eq_true, List.mem_range, List.mem_range'_1, beq_iff_eq] at hl
  obtain ⟨⟨⟨⟨⟨⟨hsel, hms⟩, hops⟩, hdst⟩, hcover⟩, hready⟩, hend⟩ := hl
  have hsel' := Region.noSelect_spec hsel
  have getD_flip : ∀ (L : Array Bool) (i : Nat), i < L.size → (L.getD i false = true ↔ ¬ L.getD i true = false) := by
    intro L i hi
    simp [hi]
  have hdist : ∀ i, i < m → ∀ t, dstOf ops i = some t → t < N ∧ ∀ j, j < m → j ≠ i → dstOf ops j ≠ some t := by
    intro i hi t ht
    have := hdst i hi
    rw [ht] at this
    simp only [Bool.and_eq_true, decide_eq_true_eq, List.all_eq_true, List.mem_range, Bool.or_eq_true, beq_iff_eq, bne_iff_ne] at this
    exact ⟨this.1, fun j hjs hj => (this.2 j hjs).resolve_left hj⟩
  intro f
  induction f with
  | zero =>
    intro U L vs w hU hnd hsz hmem hlate hC hdn hR
    have hU0 : U = [] := List.eq_nil_of_length_eq_zero hU
    subst hU0
    have hall : ∀ i, i < m → L.getD i true = true := by
      intro i hi
      cases h : L.getD i true with
      | true => rfl
      | false => exact absurd ((hmem i).2 ⟨hi, h⟩) (by simp)
    have hLf : L = firsts ops.size m := by
      apply Array.ext_getElem?
      intro i
      simp only [firsts, List.getElem?_toArray, List.getElem?_map]
      by_cases hi : i < ops.size
      · rw [List.getElem?_range hi, Array.getElem?_eq_getElem (by omega)]
        simp only [Option.map_some, Option.some.injEq]
        by_cases him : i < m
        · have := hall i him
          simp [hsz, hi] at this
          simp [him, this]
        · have := hlate i (by omega) hi
          simp [hsz, hi] at this
          simp [him, this]
      · rw [Array.getElem?_eq_none (by omega), List.getElem?_eq_none (by simp; omega)]
        rfl
    have e : ∀ k, k ≤ m → putL ops a0 vs (fun i => L.getD i true) k = putL ops a0 vs (fun _ => true) k := by
      intro k
      induction k with
      | zero => intro _; rfl
      | succ k ih =>
        intro hk
        unfold putL
        rw [ih (by omega), hall k (by omega)]
    rw [e _ (Nat.le_refl _)]
    clear e hall
    subst hLf
    rw [Nat.zero_add]
    exact Calm.tail_any ops.size rfl (ops.size - m) m rfl hms (fun j h1 h2 => hready j ⟨h1, by omega⟩) (by simpa using hend) _ w (hQ (fun j => (firsts ops.size m).getD j true) vs w (fun i hi => by simp [firsts, show i < ops.size by omega, hi]) hC (fun i hi => hR i hi (by simp [firsts, show i < ops.size by omega, hi])))
  | succ f ih =>
    intro U L vs w hU hnd hsz hmem hlate hC hdn hR
    rw [show f + 1 + (ops.size - m) = (f + (ops.size - m)) + 1 from by omega]
    refine ⟨fun h0 => ?_, fun i hi => ?_⟩
    · exfalso
      have key : ∀ k, ∀ i, i ≤ k → i ∉ U := by
        intro k
        induction k using Nat.strongRecOn with
        | ind k ihk =>
          intro i hik hiU
          obtain ⟨his, hiL⟩ := (hmem i).1 hiU
          have hr : i ∈ Region.ready .any ops L := by
            have hiso : i < ops.size := by omega
            refine mem_ready.2 ⟨hiL, ops[i], Array.getElem?_eq_getElem hiso, fun e he hb => ?_⟩
            have hd : e.on ∈ direct ops i := by
              unfold direct
              rw [Array.getElem?_eq_getElem hiso]
              exact List.mem_map.2 ⟨e, List.mem_filter.2 ⟨by simpa using he, hb⟩, rfl⟩
            have hlt := (hops i his).2 e.on hd
            have hnu : e.on ∉ U := by
              by_cases hk : i = k
              · subst hk; exact ihk e.on hlt e.on (Nat.le_refl _)
              · exact ihk i (by omega) e.on (by omega)
            cases h : L.getD e.on true with
            | true =>
              have : e.on < L.size := by rw [hsz]; omega
              simpa [this] using h
            | false => exact absurd ((hmem e.on).2 ⟨by omega, h⟩) hnu
          rw [h0] at hr
          cases hr
      match U, hU with
      | x :: U', _ => exact key x x (Nat.le_refl _) (by simp)
    · obtain ⟨hiL, o, ho, _⟩ := mem_ready.1 hi
      have hiso : i < ops.size := (Array.getElem?_eq_some_iff.1 ho).1
      have his : i < m := by
        rcases Nat.lt_or_ge i m with h | h
        · exact h
        · exfalso
          match U, hU with
          | x :: U', _ =>
            obtain ⟨hx1, hx2⟩ := (hmem x).1 (by simp)
            have h1 := cl_listed hdn ops.size (direct ops i) (ready_direct hi) x (by
              have := hcover i ⟨h, by omega⟩ x hx1
              simpa using this)
            rw [getD_flip L x (by omega)] at h1
            exact h1 hx2
      have hiU : i ∈ U := (hmem i).2 ⟨his, hiL⟩
      have hdeps := ready_direct hi
      have hknow : KnowsT ops R a0 m i (putL ops a0 vs (fun i => L.getD i true) m).eval vs w := by
        refine ⟨fun d hd => ?_, fun x hx => eval_none _ (fun d hd => hx d hd)⟩
        have hdl := hdeps d hd
        have hds : d < m := by have := (hops i his).2 d hd; omega
        have hdl' : L.getD d true = true := by
          have : d < L.size := by rw [hsz]; omega
          simpa [this] using hdl
        exact ⟨hR d hds hdl', fun t ht => eval_some (L := fun i => L.getD i true) hdl' ht (by rw [hN]; exact (hdist d hds t ht).1) m hds (fun j hj hjd => (hdist d hds t ht).2 j hj hjd)⟩
      have hs := hstep i o his ho (fun j => L.getD j true) _ vs w hiL (fun d hd => by
        have hdl := hdeps d hd
        have hds : d < ops.size := by have := (hops i his).2 d hd; omega
        have : d < L.size := by rw [hsz]; exact hds
        simpa [this] using hdl) (fun j hjm hj d hd => by
        have hjs : j < L.size := by rw [hsz]; omega
        have hdl := hdn j (by simpa [hjs] using hj) d hd
        have hds : d < L.size := by rw [hsz]; have := (hops j hjm).2 d hd; omega
        simpa [hds] using hdl) hC hknow
      have hgn : o.guard = none := by
        have := (hops i his).1
        rw [ho] at this
        simpa using this
      have hnext : ∀ v w', C (fun j => if j = i then true else L.getD j true) w' → T i w w' → R i (updV vs i v) w' → wpAny P .any ops Q (f + (ops.size - m)) (L.setIfInBounds i true) ((putL ops a0 vs (fun i => L.getD i true) m).put o.dst v) w' := by
        intro v w' hC' hT hRi
        have hd : dstOf ops i = o.dst := by simp [dstOf, ho]
        have hput := putL_setT (ops := ops) (a0 := a0) (vs := vs) (L := fun i => L.getD i true) (i := i) v hiL m (fun j hjm hj t ht => (hdist i his t ht).2 j hjm hj)
        rw [if_pos his, hd] at hput
        rw [← hput]
        have e : (fun j => if j = i then true else L.getD j true) = fun j => (L.setIfInBounds i true).getD j true := by
          funext j
          by_cases hji : j = i
          · subst hji
            simp [hsz, hiso]
          · rw [if_neg hji, getD_set_ne true (fun h => hji h.symm)]
        rw [e]
        refine ih (U.erase i) _ _ w' (by rw [List.length_erase_of_mem hiU]; omega) (hnd.erase i) (by simpa using hsz) (fun j => ?_) (fun j hj hj2 => by rw [getD_set_ne true (by omega)]; exact hlate j hj hj2) (e ▸ hC') (hdn.set hi) (fun j hj hjl => ?_)
        · rw [hnd.mem_erase_iff]
          by_cases hji : j = i
          · subst hji
            simp [hsz, hiso]
          · rw [getD_set_ne true (fun h => hji h.symm), hmem j]
            simp [hji]
        · by_cases hji : j = i
          · subst hji
            exact hRi
          · rw [getD_set_ne true (fun h => hji h.symm)] at hjl
            have hncl : (cl ops ops.size (direct ops j)).contains i = false := by
              rw [Bool.eq_false_iff]
              intro hcl
              have hdj := hdn j (by simpa [hsz, show j < ops.size by omega] using hjl)
              have h1 := cl_listed hdn ops.size (direct ops j) hdj i (by simpa using hcl)
              rw [getD_flip L i (by omega)] at h1
              exact h1 hiL
            refine hloc j vs _ w' (by simp [updV, hji]) (fun d hd => ?_) (hst j i _ _ _ hj his hncl (fun h => hji h.symm) hT (hR j hj hjl))
            have hds : d < ops.size := by have := (hops j hj).2 d hd; omega
            have hdl := hdn j (by simpa [hsz, show j < ops.size by omega] using hjl) d hd
            have hne : d ≠ i := by
              intro e
              subst e
              simp [hsz, hds] at hdl hiL
              rw [hdl] at hiL
              cases hiL
            simp [updV, hne]
      unfold wpOp
      rw [ho]
      dsimp only
      rw [if_pos (by simp [Region.wanted, hgn])]
      refine .inl ?_
      unfold Oper.wp
      generalize (execOp (putL ops a0 vs (fun i => L.getD i true) m).eval o).run P w = r at hs ⊢
      cases r with
      | ok n w' =>
        cases n <;> simp only [StepR] at hs <;> simp only [Oper.upon]
        case value u => exact hnext _ _ hs.1 hs.2.1 hs.2.2
        case skip => exact hnext _ _ hs.1 hs.2.1 hs.2.2
        case enter g args =>
          exact hs.mono fun e w'' ⟨v, he, h1, h2, h3⟩ => by
            subst he
            exact hnext _ _ h1 h2 h3
      | halt x w' => simp only [StepR] at hs
theorem wp_region_tailJ {id : Nat} {Q : Exit → Act → World → Prop} {w : World} {N m : Nat} (hm : P.follows .mixedOrders = true) (hl : looksT ops N m = true) (hN : a0.tmps.size = N) (hst : ∀ i j vs w w', i < m → j < m → (cl ops ops.size (direct ops i)).contains j = false → j ≠ i → T j w w' → R i vs w → R i vs w') (hloc : ∀ i vs vs' w, vs i = vs' i → (∀ d ∈ direct ops i, vs d = vs' d) → R i vs w → R i vs' w) (hC : ∀ D : Nat → Bool, (∀ i, i < m → D i = false) → C D w.drew)
    (hstep : ∀ i o, i < m → ops[i]? = some o → ∀ (D : Nat → Bool) ρ vs w, D i = false → (∀ d ∈ direct ops i, D d = true) → (∀ j, j < m → D j = true → ∀ d ∈ direct ops j, D d = true) → C D w → KnowsT ops R a0 m i ρ vs w → StepR P (C (fun j => if j = i then true else D j)) (T i) (fun v => R i (updV vs i v)) w ((execOp ρ o).run P w))
    (hQ : ∀ (D : Nat → Bool) vs w, (∀ i, i < m → D i = true) → C D w → (∀ i, i < m → R i vs w) → wpOps P ops Q (List.range' m (ops.size - m)) (putL ops a0 vs (fun _ => true) m) w) : (Code.region id ops true).wp P Q a0 w := by
  refine wp_region_any hm ?_
  have hms : m ≤ ops.size := by
    unfold looksT at hl
    simp only [Bool.and_eq_true, decide_eq_true_eq] at hl
    exact hl.1.1.1.1.1.2
  have e : putL ops a0 (fun _ => undef) (fun i => (Array.replicate ops.size false).getD i true) m = a0 := by
    have : ∀ k, k ≤ m → putL ops a0 (fun _ => undef) (fun i => (Array.replicate ops.size false).getD i true) k = a0 := by
      intro k
      induction k with
      | zero => intro _; rfl
      | succ k ih =>
        intro hk
        unfold putL
        rw [if_neg (by simp [show k < ops.size by omega]), ih (by omega)]
    exact this _ (Nat.le_refl _)
  have key := anyJ (P := P) (Q := Q) hl hN hst hloc hstep hQ m (List.range m) (Array.replicate ops.size false) (fun _ => undef) w.drew (by simp) List.nodup_range (by simp)
    (fun i => by
      rw [List.mem_range]
      constructor
      · intro h; exact ⟨h, by simp [show i < ops.size by omega]⟩
      · exact fun h => h.1) (fun i h1 h2 => by simp [h2]) (hC _ (fun i hi => by simp [show i < ops.size by omega])) (fun j hj => by
      exfalso
      by_cases h : j < ops.size <;> simp [h] at hj) (fun i hi h => by simp [show i < ops.size by omega] at h)
  rw [e, show m + (ops.size - m) = ops.size from by omega] at key
  exact key
end
end Go.Rely
namespace Go.Calm
open Go.RowKit Go.Proofs.YtdfgmmjcamhdjaaGreatDoor
section
variable {P : Program} {ops E : Array Oper} {C : World → Prop} {N0 : Nat} {AL : Nat → Option (TypeId × Array Value)}
/-! ### one edge more, in a round of a loop over an iterator -/
def wpAnyInE (l n0 : Nat) (P : Program) (E ops : Array Oper) (Q : Exit → Act → World → Prop) : Nat → Array Bool → Act → World → Prop
  | 0, listed, a, w => Region.ready .any E listed = [] ∧ Q .normal a w
  | fuel + 1, listed, a, w =>
    (Region.ready .any E listed = [] → Q .normal a w) ∧
    ∀ i ∈ Region.ready .any E listed, wpOpIn (Fence.wide.inRound l) n0 P ops Q i (wpAnyInE l n0 P E ops Q fuel (listed.setIfInBounds i true)) a w
theorem pure_opIn {l n0 : Nat} {P : Program} {Q : Exit → Act → World → Prop} {oe : Oper} (hop : (match oe.op with | .extract _ _ => true | .move _ => true | _ => false) = true) (a : Act) (K : Act → World → Prop) (w : World)
    (h : oe.uponIn (Fence.wide.inRound l) n0 P a K Q ((execOp a.eval oe).run P w)) : ∃ v, (∀ w, (execOp a.eval oe).run P w = .ok (.value v) w) ∧ K (a.put oe.dst v) w := by
  have key : ∀ v, (∀ w, (execOp a.eval oe).run P w = .ok (.value v) w) → ∃ v, (∀ w, (execOp a.eval oe).run P w = .ok (.value v) w) ∧ K (a.put oe.dst v) w := by
    intro v hr
    refine ⟨v, hr, ?_⟩
    rw [hr] at h
    exact h
  have stuckNo : ∀ s, execOp a.eval oe = (stuck s >>= fun v : Value => pure (Next.value v)) → False := by
    intro s hs
    rw [hs] at h
    exact h
  cases ho : oe.op <;> rw [ho] at hop <;> try (cases hop; done)
  case move x => exact key (a.eval x) (fun w => by simp [execOp, ho])
  case extract x i =>
    have e : execOp a.eval oe = (Instr.extract (a.eval x) i >>= fun v => pure (Next.value v)) := by simp [execOp, ho]
    cases hv : a.eval x
    case tuple vs =>
      cases hi : vs[i]? with
      | some v =>
        have e2 : execOp a.eval oe = pure (Next.value v) := by rw [e, hv]; simp only [Instr.extract, hi]; rfl
        exact key v (fun w => by rw [e2]; rfl)
      | none =>
        exact (stuckNo "Extract: no such component" (by rw [e, hv]; simp only [Instr.extract, hi])).elim
    all_goals exact (stuckNo _ (by rw [e, hv]; rfl)).elim
theorem tail_anyInE {l n0 : Nat} {Q : Exit → Act → World → Prop} (n : Nat) (hn : n = ops.size) : ∀ (d k : Nat), n - k = d → k ≤ n →
    (∀ j, k ≤ j → j < n → Region.ready .any E (firsts n j) = [j]) → Region.ready .any E (firsts n n) = [] →
    ∀ a w, wpOpsIn (Fence.wide.inRound l) n0 P ops Q (List.range' k (n - k)) a w → wpAnyInE l n0 P E ops Q (n - k) (firsts n k) a w
  | 0, k, hd, hk, hr, he, a, w, h => by
    have hkn : k = n := by omega
    subst hkn
    rw [Nat.sub_self] at h ⊢
    exact ⟨he, by simpa [wpOpsIn] using h⟩
  | d + 1, k, hd, hk, hr, he, a, w, h => by
    have hlt : k < n := by omega
    rw [hd] at h ⊢
    rw [List.range'_succ, wpOpsIn_cons] at h
    have hrk := hr k (Nat.le_refl _) hlt
    refine ⟨fun h0 => (by rw [hrk] at h0; cases h0), fun i hi => ?_⟩
    rw [hrk] at hi
    have hik : i = k := by simpa using hi
    subst hik
    rw [firsts_set hlt]
    have hd' : n - (i + 1) = d := by omega
    refine wpOpIn_mono (fun a w h => ?_) h
    rw [← hd'] at h ⊢
    exact tail_anyInE n hn d (i + 1) hd' (by omega) (fun j h1 h2 => hr j (by omega) h2) he a w h
theorem anyInE {l n0 : Nat} {Q : Exit → Act → World → Prop} {m : Nat} {al : List Nat} (hES : E.size = ops.size) (hnd0 : noDefer ops = true) (hl : looksE ops E m al = true) (hAL : ∀ i, (AL i).isSome = true ↔ i ∈ al) (hN : ∀ w, C w → N0 ≤ w.heap.size) :
    ∀ (d : Nat) (U : List (Nat × Oper)) (L : Array Bool) (G : Nat → Nat) (a : Act) (w : World), U.length = d → L.size = ops.size → (∀ x ∈ U, ops[x.1]? = some x.2 ∧ x.1 < m) → (U.map (·.1)).Nodup → U.Pairwise (Ord AL) →
      (∀ i, i < ops.size → (L.getD i true = false ↔ (i ∈ U.map (·.1) ∨ m ≤ i))) → Down E L → Known C N0 AL (fun i => L.getD i false = true) G w →
      Walk P ops C N0 AL (FinIn l n0 P ops C N0 AL m Q) U G a → wpAnyInE l n0 P E ops Q (d + (ops.size - m)) L a w := by
  simp only [looksE, Bool.and_eq_true, decide_eq_true_eq, List.all_eq_true, List.mem_range, Bool.or_eq_true, List.mem_range'_1, beq_iff_eq] at hl
  obtain ⟨⟨⟨⟨⟨⟨⟨hsel, hm⟩, hal⟩, hcalm⟩, hapart⟩, hcover⟩, hready⟩, hend⟩ := hl
  have hsel' := Region.noSelect_spec hsel
  have hnone : ∀ i, AL i = none ↔ i ∉ al := fun i => by rw [← hAL i]; cases AL i <;> simp
  have getD_flip : ∀ (L : Array Bool) (i : Nat), i < L.size → (L.getD i false = true ↔ ¬ L.getD i true = false) := by
    intro L i hi
    simp [hi]
  intro d
  induction d with
  | zero =>
    intro U L G a w hU hsz hmem hnd hpw hL hd hK hW
    have hU0 : U = [] := List.eq_nil_of_length_eq_zero hU
    subst hU0
    have hLf : L = firsts ops.size m := by
      apply Array.ext_getElem?
      intro i
      simp only [firsts, List.getElem?_toArray, List.getElem?_map]
      by_cases hi : i < ops.size
      · have h1 := hL i hi
        rw [List.getElem?_range hi, Array.getElem?_eq_getElem (by omega)]
        simp only [Option.map_some, Option.some.injEq]
        by_cases him : i < m
        · have : ¬ L.getD i true = false := fun h => by
            rcases h1.1 h with h | h
            · simp at h
            · omega
          simp [hsz, hi] at this
          simp [him, this]
        · have := h1.2 (.inr (by omega))
          simp [hsz, hi] at this
          simp [him, this]
      · rw [Array.getElem?_eq_none (by omega), List.getElem?_eq_none (by simp; omega)]
        rfl
    subst hLf
    rw [Nat.zero_add]
    refine tail_anyInE ops.size rfl (ops.size - m) m rfl hm (fun j h1 h2 => hready j ⟨h1, by omega⟩) (by simpa using hend) a w (hW w ?_)
    refine ⟨hK.1, fun i T cs hi hA => hK.2.1 i T cs ?_ hA, fun i j x y hi hj h1 h2 h3 => hK.2.2 i j x y ?_ ?_ h1 h2 h3⟩
    · simp [firsts, show i < ops.size by omega, hi]
    · simp [firsts, show i < ops.size by omega, hi]
    · simp [firsts, show j < ops.size by omega, hj]
  | succ d ih =>
    intro U L G a w hU hsz hmem hnd hpw hL hd hK hW
    have hlt : ∀ x ∈ U, x.1 < ops.size := fun x hx => (Array.getElem?_eq_some_iff.1 (hmem x hx).1).1
    have hun : ∀ x ∈ U, L.getD x.1 true = false := fun x hx => (hL x.1 (hlt x hx)).2 (.inl (List.mem_map_of_mem hx))
    have hdep : ∀ x ∈ U, (∀ e ∈ direct E x.1, L.getD e false = true) → x.1 ∈ Region.ready .any E L := by
      intro x hx h
      obtain ⟨o', ho'⟩ : ∃ o', E[x.1]? = some o' := ⟨_, Array.getElem?_eq_getElem (by rw [hES]; exact hlt x hx)⟩
      refine mem_ready.2 ⟨hun x hx, o', ho', fun e he hb => h e.on ?_⟩
      unfold direct
      rw [ho']
      exact List.mem_map.2 ⟨e, List.mem_filter.2 ⟨by simpa using he, hb⟩, rfl⟩
    rw [show d + 1 + (ops.size - m) = (d + (ops.size - m)) + 1 from by omega]
    refine ⟨fun h0 => ?_, fun i hi => ?_⟩
    · -- something may come up
      exfalso
      have key : ∀ (k : Nat), ∀ x ∈ U, x.1 = k → AL x.1 = none → False := by
        intro k
        induction k using Nat.strongRecOn with
        | _ k ihk =>
          intro x hx hxk hA
          have hnot : ¬ x.1 ∈ Region.ready .any E L := by rw [h0]; simp
          refine hnot (hdep x hx fun e he => ?_)
          rcases hcalm x.1 (hmem x hx).2 with h | h
          · exact absurd (by simpa using h) ((hnone x.1).1 hA)
          · have h1 := h e he
            simp only [Bool.not_eq_true', List.contains_eq_mem, decide_eq_false_iff_not] at h1
            have hes : e < ops.size := by have := (hlt x hx); omega
            rw [getD_flip L e (by omega)]
            intro hf
            rcases (hL e hes).1 hf with h2 | h2
            · obtain ⟨y, hy, rfl⟩ := List.mem_map.1 h2
              exact ihk y.1 (by omega) y hy rfl ((hnone _).2 h1.2)
            · have := (hmem x hx).2; omega
      match U, hU with
      | x :: U', _ =>
        by_cases hA : AL x.1 = none
        · exact key x.1 x (by simp) rfl hA
        · have hx : x.1 ∈ al := by rw [← hAL]; cases h : AL x.1 with
            | none => exact absurd h hA
            | some _ => rfl
          have := hdep x (by simp) (fun e he => by have := (hal x.1 hx).2; rw [List.isEmpty_iff] at this; rw [this] at he; cases he)
          rw [h0] at this
          cases this
    · -- operation i comes up
      obtain ⟨hiun, oi', hoi', _⟩ := mem_ready.1 hi
      obtain ⟨oi, hoi⟩ : ∃ oi, ops[i]? = some oi := ⟨_, Array.getElem?_eq_getElem (by rw [← hES]; exact (Array.getElem?_eq_some_iff.1 hoi').1)⟩
      clear hoi'
      have his : i < ops.size := (Array.getElem?_eq_some_iff.1 hoi).1
      have hiU : i ∈ U.map (·.1) := by
        rcases (hL i his).1 hiun with h | h
        · exact h
        · exfalso
          match U, hU with
          | x :: U', _ =>
            have h1 := cl_listed hd E.size (direct E i) (ready_direct hi) x.1 (by
              have := hcover i ⟨h, by omega⟩ x.1 (hmem x (by simp)).2
              simpa using this)
            have h2 := hun x (by simp)
            rw [getD_flip L x.1 (by have := hlt x (by simp); omega)] at h1
            exact h1 h2
      obtain ⟨⟨i', o⟩, hx, rfl⟩ := List.mem_map.1 hiU
      dsimp only at *
      have hoo : oi = o := by have := (hmem (i', o) hx).1; rw [hoi] at this; exact Option.some.inj this
      subst hoo
      have him := (hmem (i', oi) hx).2
      obtain ⟨U1, U2, rfl⟩ := List.append_of_mem hx
      have hnd2 := hnd
      rw [List.map_append, List.map_cons] at hnd2
      have hU1 : ∀ x ∈ U1, ops[x.1]? = some x.2 ∧ x.1 ≠ i' ∧ x.2.apart ops oi = true ∧ ((AL x.1).isSome = true → (AL i').isSome = true) := by
        intro x hx1
        have hxU : x ∈ U1 ++ (i', oi) :: U2 := by simp [hx1]
        have hord := (List.pairwise_append.1 hpw).2.2 x hx1 (i', oi) (by simp)
        have hne : x.1 ≠ i' := fun e => (List.nodup_append.1 hnd2).2.2 x.1 (List.mem_map_of_mem hx1) i' (by simp) e
        refine ⟨(hmem x hxU).1, hne, ?_, hord.1⟩
        rcases hapart i' him x.1 (hmem x hxU).2 with ((h | h) | h) | h
        · exact absurd h hne
        · exfalso
          have h1 := ready_direct hi x.1 (by simpa using h)
          rw [getD_flip L x.1 (by have := hlt x hxU; omega)] at h1
          exact h1 (hun x hxU)
        · exfalso
          have h' : i' ∈ direct E x.1 := by simpa using h
          rcases hcalm x.1 (hmem x hxU).2 with h1 | h1
          · have := (hal x.1 (by simpa using h1)).2
            rw [List.isEmpty_iff] at this
            rw [this] at h'
            cases h'
          · have h2 := h1 i' h'
            simp only [Bool.not_eq_true', List.contains_eq_mem, decide_eq_false_iff_not] at h2
            have hx0 : AL x.1 = none := by
              cases hxx : AL x.1 with
              | none => rfl
              | some _ =>
                have : x.1 ∈ al := by rw [← hAL, hxx]; rfl
                have := (hal x.1 this).2
                rw [List.isEmpty_iff] at this
                rw [this] at h'
                cases h'
            have := hord.2 hx0 ((hnone _).2 h2.2)
            dsimp only at this
            omega
        · rw [(hmem x hxU).1, hoi] at h
          exact h
      have hone := pull hsel' hoi U1 G a hU1 hW
      have hU' : (U1 ++ U2).length = d := by
        have := hU
        simp at this ⊢
        omega
      have hsub : (U1 ++ U2).Sublist (U1 ++ (i', oi) :: U2) := List.Sublist.append_left (List.sublist_cons_self _ _) _
      have hK' : ∀ {G' w'}, Known C N0 AL (fun k => k = i' ∨ L.getD k false = true) G' w' → Known C N0 AL (fun k => (L.setIfInBounds i' true).getD k false = true) G' w' := by
        intro G' w' h
        have hc : ∀ k, (L.setIfInBounds i' true).getD k false = true → k = i' ∨ L.getD k false = true := by
          intro k hk
          by_cases e : i' = k
          · exact .inl e.symm
          · rw [getD_set_ne false e] at hk
            exact .inr hk
        exact ⟨h.1, fun k T cs hk hA => h.2.1 k T cs (hc k hk) hA, fun k l x y h1 h2 => h.2.2 k l x y (hc k h1) (hc l h2)⟩
      have hnext : ∀ G' a' w', Known C N0 AL (fun k => k = i' ∨ L.getD k false = true) G' w' → Walk P ops C N0 AL (FinIn l n0 P ops C N0 AL m Q) (U1 ++ U2) G' a' → wpAnyInE l n0 P E ops Q (d + (ops.size - m)) (L.setIfInBounds i' true) a' w' := by
        intro G' a' w' h1 h2
        refine ih (U1 ++ U2) _ G' a' w' hU' (by simpa using hsz) (fun x hx => hmem x (hsub.subset hx)) ((hsub.map _).nodup hnd) (hpw.sublist hsub) (fun k hk => ?_) (hd.set hi) (hK' h1) h2
        by_cases e : i' = k
        · subst e
          have h3 : ¬ (L.setIfInBounds i' true).getD i' true = false := by simp [hsz, hk]
          have h4 : ¬ i' ∈ (U1 ++ U2).map (·.1) := by
            rw [List.map_append]
            intro h
            rcases List.mem_append.1 h with h | h
            · exact (List.nodup_append.1 hnd2).2.2 i' h i' (by simp) rfl
            · have := (List.nodup_append.1 hnd2).2.1
              rw [List.nodup_cons] at this
              exact this.1 h
          constructor
          · intro h; exact absurd h h3
          · intro h
            rcases h with h | h
            · exact absurd h h4
            · omega
        · rw [getD_set_ne true e, hL k hk]
          simp only [List.map_append, List.map_cons, List.mem_append, List.mem_cons]
          constructor
          · rintro ((h | h | h) | h)
            · exact .inl (.inl h)
            · exact absurd h.symm e
            · exact .inl (.inr h)
            · exact .inr h
          · rintro ((h | h) | h)
            · exact .inl (.inl h)
            · exact .inl (.inr (.inr h))
            · exact .inr h
      have hKsame : AL i' = none → ∀ {w'}, C w' → (∀ b T cs, Blk w b T cs → Blk w' b T cs) → Known C N0 AL (fun k => k = i' ∨ L.getD k false = true) G w' := by
        intro hA w' hc hb
        refine ⟨hc, fun k T cs hk hk2 => ?_, fun k l x y h1 h2 h3 h4 => ?_⟩
        · rcases hk with rfl | hk
          · rw [hA] at hk2; cases hk2
          · exact ⟨(hK.2.1 k T cs hk hk2).1, hb _ _ _ (hK.2.1 k T cs hk hk2).2⟩
        · rcases h1 with rfl | h1
          · rw [hA] at h3; cases h3
          · rcases h2 with rfl | h2
            · rw [hA] at h4; cases h4
            · exact hK.2.2 k l x y h1 h2 h3 h4
      unfold wpOpIn
      rw [hoi]
      dsimp only
      unfold one at hone
      cases hA : AL i' with
      | some x =>
        obtain ⟨T, cs⟩ := x
        rw [hA] at hone
        obtain ⟨hg, hrun, hB⟩ := hone
        rw [if_pos (by simp [Region.wanted, hg])]
        refine ⟨fun _ _ => trivial, ?_⟩
        rw [Fence.inRound_round, Oper.semAt_eq _ _ _ (noDefer_spec hnd0 hoi)]
        rw [(hrun w hK.1).1, Oper.uponIn_value]
        have hlt' : ∀ k T cs, L.getD k false = true → AL k = some (T, cs) → G k < w.heap.size := fun k T cs h1 h2 => (hK.2.1 k T cs h1 h2).2.lt
        refine hnext (upd G i' w.heap.size) _ _ ⟨(hrun w hK.1).2, fun k T' cs' hk hk2 => ?_, fun k l x y h1 h2 h3 h4 h5 => ?_⟩ (hB w.heap.size (hN w hK.1))
        · by_cases e : k = i'
          · subst e
            rw [hA] at hk2
            cases hk2
            simp only [upd, if_true]
            exact ⟨hN w hK.1, Blk.new _ _ _⟩
          · have hk' := hk.resolve_left e
            simp only [upd, if_neg e]
            exact ⟨(hK.2.1 k T' cs' hk' hk2).1, (hK.2.1 k T' cs' hk' hk2).2.alloc _⟩
        · by_cases e : k = i'
          · have e' : ¬ l = i' := fun h => h5 (e.trans h.symm)
            have := hlt' l y.1 y.2 (h2.resolve_left e') h4
            simp only [upd, if_pos e, if_neg e']
            omega
          · by_cases e' : l = i'
            · have := hlt' k x.1 x.2 (h1.resolve_left e) h3
              simp only [upd, if_neg e, if_pos e']
              omega
            · simp only [upd, if_neg e, if_neg e']
              exact hK.2.2 k l x y (h1.resolve_left e) (h2.resolve_left e') h3 h4 h5
      | none =>
        rw [hA] at hone
        dsimp only at hone
        split
        · rename_i hw
          rw [if_pos hw] at hone
          obtain ⟨v, hv, hW2⟩ := hone
          refine ⟨fun _ _ => trivial, ?_⟩
          have h3 := hv w hK.1
          unfold calmAt at h3
          rw [Fence.inRound_round, Oper.semAt_eq _ _ _ (noDefer_spec hnd0 hoi)]
          generalize (execOp a.eval oi).run P w = r at h3 ⊢
          cases r with
          | ok n w' =>
            cases n <;> simp only [calmUpon] at h3 <;> simp only [Oper.uponIn]
            case value u =>
              obtain ⟨rfl, rfl⟩ := h3
              exact hnext _ _ _ (hKsame hA hK.1 fun _ _ _ h => h) hW2
            case skip =>
              obtain ⟨rfl, rfl⟩ := h3
              exact hnext _ _ _ (hKsame hA hK.1 fun _ _ _ h => h) hW2
            case enter f args =>
              obtain ⟨rfl, hc⟩ := h3
              refine ⟨fun h => (by cases h), CallsIn.inRound l (callsIn_wide.2 (hc.mono fun e w'' ⟨he, hb, hc'⟩ => by
                subst he
                exact hnext _ _ _ (hKsame hA hc' fun _ _ _ h => h.below hb) hW2))⟩
          | halt x w' => simp only [calmUpon] at h3
        · rename_i hw
          rw [if_neg hw] at hone
          exact ⟨fun _ _ => trivial, hnext _ _ _ (hKsame hA hK.1 fun _ _ _ h => h) hone⟩
theorem uponIn_put {l n0 : Nat} {Q : Exit → Act → World → Prop} (hQ : Free Q) {oi oe : Oper} (hse : ∀ cs b, oe.op ≠ .select cs b) {K : Act → World → Prop} {a : Act} (dst : Option Tmp) (v : Value)
    (h2 : ∀ d, dst = some d → oi.dst ≠ some d) (h3 : ∀ d, oi.dst = some d → d ∉ oe.looksAt ops) {r : Result Next} (h : oi.uponIn (Fence.wide.inRound l) n0 P (a.put dst v) K Q r) :
    oi.uponIn (Fence.wide.inRound l) n0 P a (fun a' w' => execOp a'.eval oe = execOp a.eval oe ∧ K (a'.put dst v) w') Q r := by
  have hp : ∀ u, (a.put oi.dst u).put dst v = (a.put dst v).put oi.dst u := fun u => (Act.put_comm a v u h2).symm
  cases r with
  | ok n w' =>
    cases n with
    | value u => exact ⟨execOp_put oe hse a oi.dst u h3, by rw [hp]; exact h⟩
    | skip => exact ⟨execOp_put oe hse a oi.dst undef h3, by rw [hp]; exact h⟩
    | defer d =>
      refine ⟨execOp_put oe hse { a with defers := d :: a.defers } oi.dst undef h3, ?_⟩
      have e : (({ a with defers := d :: a.defers } : Act).put oi.dst undef).put dst v = ({ (a.put dst v) with defers := d :: (a.put dst v).defers } : Act).put oi.dst undef := by
        rw [← Act.put_comm _ v undef h2]
        cases dst <;> rfl
      rw [e]
      exact h
    | enter f args =>
      refine ⟨h.1, CallsIn.mono h.2 fun e w'' he => ?_⟩
      cases e with
      | returned u => exact ⟨execOp_put oe hse a oi.dst u h3, by rw [hp]; exact he⟩
      | panicked c => exact hQ _ _ _ _ he
      | outgrown => exact he
    | row r args =>
      exact ⟨h.1, h.2.mono fun u w'' he => ⟨execOp_put oe hse a oi.dst u h3, by rw [hp]; exact he⟩⟩
    | round l' f tmps assign body =>
      refine ⟨h.1, RoundIn.mono h.2 fun e w'' he => ?_⟩
      cases e with
      | returned u => exact ⟨execOp_put oe hse a oi.dst u h3, by rw [hp]; exact he⟩
      | panicked c => exact hQ _ _ _ _ he
      | outgrown => exact he
    | _ => exact h
  | halt x w' =>
    cases x with
    | panic u => exact hQ _ _ _ _ h
    | _ => exact h
theorem wpOpIn_put {l n0 : Nat} (hnd0 : noDefer ops = true) {Q : Exit → Act → World → Prop} (hQ : Free Q) {i : Nat} {oi oe : Oper} (hoi : ops[i]? = some oi) (hs : ∀ cs b, oi.op ≠ .select cs b) (hse : ∀ cs b, oe.op ≠ .select cs b) {K : Act → World → Prop} {a : Act} {w : World} (dst : Option Tmp) (v : Value)
    (h1 : ∀ d, dst = some d → d ∉ oi.looksAt ops) (h2 : ∀ d, dst = some d → oi.dst ≠ some d) (h3 : ∀ d, oi.dst = some d → d ∉ oe.looksAt ops) (h : wpOpIn (Fence.wide.inRound l) n0 P ops Q i K (a.put dst v) w) :
    wpOpIn (Fence.wide.inRound l) n0 P ops Q i (fun a' w' => execOp a'.eval oe = execOp a.eval oe ∧ K (a'.put dst v) w') a w := by
  unfold wpOpIn at h ⊢
  rw [hoi] at h ⊢
  dsimp only at h ⊢
  rw [wanted_put oi a dst v h1] at h
  split
  · rename_i hw
    rw [if_pos hw] at h
    refine ⟨fun _ _ => trivial, ?_⟩
    have h' := h.2
    rw [Fence.inRound_round, Oper.semAt_eq _ _ _ (noDefer_spec hnd0 hoi)] at h' ⊢
    rw [execOp_put oi hs a dst v h1] at h'
    exact uponIn_put hQ hse dst v h2 h3 h'
  · rename_i hw
    rw [if_neg hw] at h
    exact ⟨fun _ _ => trivial, execOp_put oe hse a oi.dst undef h3, by rw [← Act.put_comm a v undef h2]; exact h.2⟩
theorem earlyIn {l n0 : Nat} (hnd0 : noDefer ops = true) {Q : Exit → Act → World → Prop} (hQ : Free Q) {e : Nat} {oe : Oper} (hoe : ops[e]? = some oe) (hsel : ∀ (j : Nat) (o : Oper) cs b, ops[j]? = some o → o.op ≠ .select cs b) (hg : oe.guard = none)
    (hap : ∀ i oi, i ≠ e → ops[i]? = some oi → e ∉ direct ops i → i ∉ direct ops e → oi.apart ops oe = true) (v : Value) : ∀ (m : Nat) (L : Array Bool) (a : Act) (w : World), L.size = ops.size → e ∈ Region.ready .any ops L → (∀ w, (execOp a.eval oe).run P w = .ok (.value v) w) →
      wpAnyIn (Fence.wide.inRound l) n0 P .any ops Q m (L.setIfInBounds e true) (a.put oe.dst v) w → wpAnyIn (Fence.wide.inRound l) n0 P .any ops Q (m + 1) L a w := by
  intro m
  induction m with
  | zero =>
    intro L a w hsz he hv h
    refine ⟨fun h0 => (by rw [h0] at he; cases he), fun i hi => ?_⟩
    by_cases hie : i = e
    · subst hie
      unfold wpOpIn
      rw [hoe]
      dsimp only
      rw [if_pos (by simp [Region.wanted, hg])]
      refine ⟨fun _ _ => trivial, ?_⟩
      rw [Fence.inRound_round, Oper.semAt_eq _ _ _ (noDefer_spec hnd0 hoe), hv w]
      exact h
    · exfalso
      have hi2 : i ∈ Region.ready .any ops (L.setIfInBounds e true) := by
        obtain ⟨h1, o, h2, h3⟩ := mem_ready.1 hi
        exact mem_ready.2 ⟨by rw [getD_set_ne true (fun h => hie h.symm)]; exact h1, o, h2, fun x hx hb => getD_set_true (h3 x hx hb)⟩
      rw [h.1] at hi2
      cases hi2
  | succ m ih =>
    intro L a w hsz he hv h
    refine ⟨fun h0 => (by rw [h0] at he; cases he), fun i hi => ?_⟩
    by_cases hie : i = e
    · subst hie
      unfold wpOpIn
      rw [hoe]
      dsimp only
      rw [if_pos (by simp [Region.wanted, hg])]
      refine ⟨fun _ _ => trivial, ?_⟩
      rw [Fence.inRound_round, Oper.semAt_eq _ _ _ (noDefer_spec hnd0 hoe), hv w]
      exact h
    · obtain ⟨h1, oi, hoi, h3⟩ := mem_ready.1 hi
      have hi2 : i ∈ Region.ready .any ops (L.setIfInBounds e true) := mem_ready.2 ⟨by rw [getD_set_ne true (fun h => hie h.symm)]; exact h1, oi, hoi, fun x hx hb => getD_set_true (h3 x hx hb)⟩
      have hun : ¬ L.getD e false = true := by
        obtain ⟨g1, _⟩ := mem_ready.1 he
        have hel := (Array.getElem?_eq_some_iff.1 hoe).1
        rw [← hsz] at hel
        simp [hel] at g1 ⊢
        exact g1
      have hnd : e ∉ direct ops i := fun hd => hun (ready_direct hi e hd)
      have hnd2 : i ∉ direct ops e := fun hd => by have := ready_direct he i hd; have his := (Array.getElem?_eq_some_iff.1 hoi).1; rw [← hsz] at his; simp [his] at h1 this; rw [h1] at this; cases this
      obtain ⟨p1, p2, p3⟩ := Oper.apart_spec (hap i oi hie hoi hnd hnd2)
      have hstep := h.2 i hi2
      have hput := wpOpIn_put hnd0 hQ hoi (fun cs b => hsel i oi cs b hoi) (fun cs b => hsel e oe cs b hoe) oe.dst v p3 (fun d hd hd2 => p2 d hd2 hd) p1 hstep
      refine wpOpIn_mono (fun a' w' ⟨q1, q2⟩ => ?_) hput
      rw [set_comm] at q2
      refine ih _ a' w' (by simpa using hsz) ?_ (fun w => by rw [q1]; exact hv w) q2
      obtain ⟨g1, o, g2, g3⟩ := mem_ready.1 he
      exact mem_ready.2 ⟨by rw [getD_set_ne true hie]; exact g1, o, g2, fun x hx hb => getD_set_true (g3 x hx hb)⟩
theorem loosenIn {l n0 : Nat} (hnd0 : noDefer ops = true) {Q : Exit → Act → World → Prop} (hQ : Free Q) {s e : Nat} (hl : lateOk ops s e = true) : ∀ (n : Nat) (L : Array Bool) (a : Act) (w : World), L.size = ops.size → wpAnyInE l n0 P (addE ops s e) ops Q n L a w → wpAnyIn (Fence.wide.inRound l) n0 P .any ops Q n L a w := by
  unfold lateOk at hl
  simp only [Bool.and_eq_true, decide_eq_true_eq, List.all_eq_true] at hl
  obtain ⟨⟨⟨⟨hsel, hse⟩, hsl⟩, hmid⟩, hdir⟩ := hl
  have hsel' := Region.noSelect_spec hsel
  obtain ⟨oe, hoe⟩ : ∃ oe, ops[e]? = some oe := by
    cases h : ops[e]? with
    | none => rw [h] at hmid; cases hmid
    | some o => exact ⟨o, rfl⟩
  rw [hoe] at hmid
  simp only [Bool.and_eq_true, List.all_eq_true, List.mem_range, Bool.or_eq_true, beq_iff_eq, Option.isNone_iff_eq_none] at hmid
  obtain ⟨⟨hg, hop⟩, hap⟩ := hmid
  have hap' : ∀ i oi, i ≠ e → ops[i]? = some oi → e ∉ direct ops i → i ∉ direct ops e → oi.apart ops oe = true := by
    intro i oi h1 h2 h3 h4
    rcases hap i (Array.getElem?_eq_some_iff.1 h2).1 with ((h | h) | h) | h
    · exact absurd h h1
    · exact absurd (by simpa using h) h3
    · exact absurd (by simpa using h) h4
    · rw [h2] at h; exact h
  -- what the late operation does
  have hpure : ∀ (a : Act) (K : Act → World → Prop) (w : World), wpOpIn (Fence.wide.inRound l) n0 P ops Q e K a w → ∃ v, (∀ w, (execOp a.eval oe).run P w = .ok (.value v) w) ∧ K (a.put oe.dst v) w := by
    intro a K w h
    unfold wpOpIn at h
    rw [hoe] at h
    dsimp only at h
    rw [if_pos (by simp [Region.wanted, hg])] at h
    have h' := h.2
    rw [Fence.inRound_round, Oper.semAt_eq _ _ _ (noDefer_spec hnd0 hoe)] at h'
    exact pure_opIn hop a K w h'
  intro n
  induction n using Nat.strongRecOn with
  | _ n ih =>
    intro L a w hsz h
    have hready : ∀ i, i ∈ Region.ready .any ops L → ¬ i ∈ Region.ready .any (addE ops s e) L → i = s ∧ e ∈ Region.ready .any (addE ops s e) L := by
      intro i hi hn
      rw [mem_addE hsl] at hn
      have his : i = s := Classical.byContradiction fun h0 => hn ⟨hi, fun h1 => absurd h1 h0⟩
      subst his
      refine ⟨rfl, (mem_addE hsl).2 ⟨?_, fun h1 => absurd h1.symm hse⟩⟩
      have hun : ¬ L.getD e false = true := fun h1 => hn ⟨hi, fun _ => h1⟩
      have hel := (Array.getElem?_eq_some_iff.1 hoe).1
      refine mem_ready.2 ⟨?_, oe, hoe, fun x hx hb => ?_⟩
      · rw [← hsz] at hel
        simp [hel] at hun ⊢
        exact hun
      · have hd : x.on ∈ direct ops e := by
          unfold direct
          rw [hoe]
          exact List.mem_map.2 ⟨x, List.mem_filter.2 ⟨by simpa using hx, hb⟩, rfl⟩
        have := hdir _ hd
        exact ready_direct hi _ (by simpa using this)
    cases n with
    | zero =>
      refine ⟨?_, h.2⟩
      rw [List.eq_nil_iff_forall_not_mem]
      intro i hi
      by_cases hi2 : i ∈ Region.ready .any (addE ops s e) L
      · rw [h.1] at hi2; cases hi2
      · have := (hready i hi hi2).2
        rw [h.1] at this; cases this
    | succ n =>
      refine ⟨fun h0 => h.1 ?_, fun i hi => ?_⟩
      · rw [List.eq_nil_iff_forall_not_mem]
        intro i hi
        have := ((mem_addE hsl).1 hi).1
        rw [h0] at this; cases this
      · by_cases hi2 : i ∈ Region.ready .any (addE ops s e) L
        · exact wpOpIn_mono (fun a' w' h' => ih n (Nat.lt_succ_self _) _ a' w' (by simpa using hsz) h') (h.2 i hi2)
        · obtain ⟨rfl, he⟩ := hready i hi hi2
          obtain ⟨v, hv, h2⟩ := hpure a _ w (h.2 e he)
          have hie : i ≠ e := hse
          obtain ⟨h1, oi, hoi, h3⟩ := mem_ready.1 hi
          have hi3 : i ∈ Region.ready .any (addE ops i e) (L.setIfInBounds e true) := by
            refine (mem_addE hsl).2 ⟨mem_ready.2 ⟨by rw [getD_set_ne true (fun h => hie h.symm)]; exact h1, oi, hoi, fun x hx hb => getD_set_true (h3 x hx hb)⟩, fun _ => ?_⟩
            have hel := (Array.getElem?_eq_some_iff.1 hoe).1
            rw [← hsz] at hel
            simp [hel]
          cases n with
          | zero => rw [h2.1] at hi3; cases hi3
          | succ m =>
            have hun : ¬ L.getD e false = true := fun h1 => hi2 ((mem_addE hsl).2 ⟨hi, fun _ => h1⟩)
            have hnd : e ∉ direct ops i := fun hd => hun (ready_direct hi e hd)
            have he3 := ((mem_addE hsl).1 he).1
            have hnd2 : i ∉ direct ops e := fun hd => by have := ready_direct he3 i hd; have his := (Array.getElem?_eq_some_iff.1 hoi).1; rw [← hsz] at his; simp [his] at h1 this; rw [h1] at this; cases this
            obtain ⟨p1, p2, p3⟩ := Oper.apart_spec (hap' i oi hie hoi hnd hnd2)
            have hput := wpOpIn_put hnd0 hQ hoi (fun cs b => hsel' i oi cs b hoi) (fun cs b => hsel' e oe cs b hoe) oe.dst v p3 (fun d hd hd2 => p2 d hd2 hd) p1 (h2.2 i hi3)
            refine wpOpIn_mono (fun a' w' ⟨q1, q2⟩ => ?_) hput
            refine earlyIn hnd0 hQ hoe (fun j o cs b hj => hsel' j o cs b hj) hg hap' v m _ a' w' (by simpa using hsz) ?_ (fun w => by rw [q1]; exact hv w) ?_
            · have he2 := ((mem_addE hsl).1 he).1
              obtain ⟨g1, o, g2, g3⟩ := mem_ready.1 he2
              exact mem_ready.2 ⟨by rw [getD_set_ne true hie]; exact g1, o, g2, fun x hx hb => getD_set_true (g3 x hx hb)⟩
            · rw [set_comm] at q2
              exact ih m (by omega) _ _ _ (by simpa using hsz) q2
theorem wpIn_region_calm_late {l n0 id : Nat} {Q : Exit → Act → World → Prop} (s e : Nat) (hlate : lateOk ops s e = true) (hQ : Free Q) {a : Act} {w : World} (m : Nat) (A : Als) (hm : P.follows .mixedOrders = true) (hnd0 : noDefer ops = true) (hl : looksE ops (addE ops s e) m (A.map (·.1)) = true) (hn : (A.map (·.1)).Nodup)
    (C : World → Prop) (N0 : Nat) (hN : ∀ w, C w → N0 ≤ w.heap.size) (hC : C w.drew)
    (h : WalkI P ops C N0 A (FinIn l n0 P ops C N0 (alOf A) m Q) (idxs m (A.map (·.1))) (fun _ => 0) a) : (Code.region id ops true).wpIn (Fence.wide.inRound l) n0 P Q a w := by
  have hl' := hl
  simp only [looksE, Bool.and_eq_true, decide_eq_true_eq, List.all_eq_true, List.mem_range, Bool.or_eq_true, List.mem_range'_1, beq_iff_eq] at hl'
  obtain ⟨⟨⟨⟨⟨⟨⟨_, hms⟩, hal⟩, _⟩, _⟩, _⟩, _⟩, _⟩ := hl'
  have hAL : ∀ i, (alOf A i).isSome = true ↔ i ∈ A.map (·.1) := by
    intro i
    simp [alOf, List.find?_isSome]
  have hnone : ∀ i, alOf A i = none ↔ i ∉ A.map (·.1) := fun i => by rw [← hAL i]; cases alOf A i <;> simp
  have hlt : ∀ i ∈ idxs m (A.map (·.1)), i < m := by
    intro i hi
    rcases List.mem_append.1 hi with h | h
    · exact List.mem_range.1 (List.mem_filter.1 h).1
    · exact (hal i h).1
  have hmap := withOps_map (ops := ops) (l := idxs m (A.map (·.1))) fun i hi => Nat.lt_of_lt_of_le (hlt i hi) hms
  have hmem : ∀ i, i < m → i ∈ idxs m (A.map (·.1)) := by
    intro i hi
    by_cases h : i ∈ A.map (·.1)
    · exact List.mem_append_right _ h
    · exact List.mem_append_left _ (List.mem_filter.2 ⟨List.mem_range.2 hi, by simpa using h⟩)
  have hnd : (idxs m (A.map (·.1))).Nodup := by
    refine List.nodup_append.2 ⟨List.nodup_range.filter _, hn, fun x hx y hy e => ?_⟩
    subst e
    have := (List.mem_filter.1 hx).2
    simp at this
    obtain ⟨z, hz, rfl⟩ := List.mem_map.1 hy
    exact this z.2.1 z.2.2 hz
  have hpw : (idxs m (A.map (·.1))).Pairwise (fun i j => ((alOf A i).isSome = true → (alOf A j).isSome = true) ∧ (alOf A i = none → alOf A j = none → i < j)) := by
    refine List.pairwise_append.2 ⟨?_, ?_, fun x hx y hy => ⟨fun _ => (hAL y).2 hy, fun _ h => absurd hy ((hnone y).1 h)⟩⟩
    · refine ((List.pairwise_lt_range (n := m)).filter _).imp_of_mem fun {x y} hx hy h => ⟨fun h1 => ?_, fun _ _ => h⟩
      have := (List.mem_filter.1 hx).2
      exact absurd ((hAL x).1 h1) (by simpa using this)
    · exact (List.pairwise_of_forall (R := fun _ _ => True) (fun _ _ => trivial)).imp_of_mem fun {x y} hx hy _ => ⟨fun _ => (hAL y).2 hy, fun h => absurd hx ((hnone x).1 h)⟩
  have hlen : (withOps ops (idxs m (A.map (·.1)))).length = m := by
    have h1 := congrArg List.length hmap
    rw [List.length_map] at h1
    rw [h1]
    have hp : (idxs m (A.map (·.1))).Perm (List.range m) := by
      refine (List.perm_ext_iff_of_nodup hnd List.nodup_range).2 fun i => ⟨fun hi => List.mem_range.2 (hlt i hi), fun hi => hmem i (List.mem_range.1 hi)⟩
    simpa using hp.length_eq
  refine wpIn_region_any hm ?_
  have hops : ∀ x ∈ withOps ops (idxs m (A.map (·.1))), ops[x.1]? = some x.2 ∧ x.1 < m := by
    intro x hx
    obtain ⟨i, hi, hx⟩ := List.mem_filterMap.1 hx
    obtain ⟨o, ho, rfl⟩ := Option.map_eq_some_iff.1 hx
    exact ⟨ho, hlt i hi⟩
  have h' : Walk P ops C N0 (alOf A) (FinIn l n0 P ops C N0 (alOf A) m Q) (withOps ops (idxs m (A.map (·.1)))) (fun _ => 0) a := h
  have key := anyInE (l := l) (n0 := n0) (P := P) (Q := Q) (E := addE ops s e) (by simp [addE]) hnd0 hl hAL hN m _ (Array.replicate ops.size false) (fun _ => 0) a w.drew hlen (by simp) hops
    (by rw [hmap]; exact hnd) (by
      have h1 : ((withOps ops (idxs m (A.map fun x => x.1))).map fun x => x.1).Pairwise (fun i j => ((alOf A i).isSome = true → (alOf A j).isSome = true) ∧ (alOf A i = none → alOf A j = none → i < j)) := by rw [hmap]; exact hpw
      have h2 := List.pairwise_map.1 h1
      exact h2)
    (fun i hi => by
      rw [hmap]
      simp only [Array.getD_eq_getD_getElem?, Array.getElem?_replicate, if_pos hi, Option.getD_some, true_iff]
      by_cases h : i < m
      · exact .inl (hmem i h)
      · exact .inr (by omega))
    (fun j hj => by
      exfalso
      by_cases h : j < ops.size <;> simp [h] at hj)
    ⟨hC, fun i T cs hi => by
      exfalso
      by_cases h : i < ops.size <;> simp [h] at hi, fun i j x y hi => by
      exfalso
      by_cases h : i < ops.size <;> simp [h] at hi⟩ h'
  rw [show m + (ops.size - m) = ops.size from by omega] at key
  exact loosenIn hnd0 hQ hlate _ _ _ _ (by simp) key
theorem wpIn_region_late {l n0 id : Nat} {Q : Exit → Act → World → Prop} (s e : Nat) (hlate : lateOk ops s e = true) {a : Act} {w : World} (m : Nat) (A : Als) (hm : P.follows .mixedOrders = true) (hnd0 : noDefer ops = true) (hl : looksE ops (addE ops s e) m (A.map (·.1)) = true) (hn : (A.map (·.1)).Nodup)
    (C : World → Prop) (N0 : Nat) (hN : ∀ w, C w → N0 ≤ w.heap.size) (hC : C w.drew)
    (h : WalkI P ops C N0 A (FinIn l n0 P ops C N0 (alOf A) m (NoPanic Q)) (idxs m (A.map (·.1))) (fun _ => 0) a) : (Code.region id ops true).wpIn (Fence.wide.inRound l) n0 P Q a w :=
  Code.wpIn_mono NoPanic.imp (wpIn_region_calm_late s e hlate NoPanic.free m A hm hnd0 hl hn C N0 hN hC h)
end
end Go.Calm
