/- Steps to WholeMatrices' card; what each asks stands in it. -/
import Derived.Test.YtdfgmmjcamhdjaaGreatDoorA00
set_option linter.unusedVariables false
set_option linter.unusedSimpArgs false
namespace Go.Calm
open Go.RowKit Go.Proofs.YtdfgmmjcamhdjaaGreatDoor
section
variable {P : Program} {ops : Array Oper} {C : World → Prop} {N0 : Nat} {AL : Nat → Option (TypeId × Array Value)}
/-- an operation that yields v and leaves every block as it was -/
def calmUpon (P : Program) (C : World → Prop) (w : World) (v : Value) : Result Next → Prop
  | .ok (.value u) w' => w' = w ∧ u = v
  | .ok .skip w' => w' = w ∧ v = undef
  | .ok (.enter f args) w' => w' = w ∧ Calls P f args w (fun e w'' => e = .returned v ∧ Below w.heap.size w w'' ∧ C w'')
  | _ => False
def calmAt (P : Program) (o : Oper) (a : Act) (C : World → Prop) (w : World) (v : Value) : Prop := calmUpon P C w v ((execOp a.eval o).run P w)
def upd (G : Nat → Nat) (i B : Nat) : Nat → Nat := fun k => if k = i then B else G k
theorem upd_comm {G : Nat → Nat} {i j B D : Nat} (h : i ≠ j) : upd (upd G i B) j D = upd (upd G j D) i B := by
  funext k
  unfold upd
  by_cases h1 : k = j <;> by_cases h2 : k = i <;> simp [h1, h2]
  · exact absurd (h2.symm.trans h1) h
  · intro e; exact absurd e.symm h
  · intro e; exact absurd e h
/-- what is asked of one operation -/
def one (P : Program) (ops : Array Oper) (C : World → Prop) (N0 : Nat) (AL : Nat → Option (TypeId × Array Value)) (i : Nat) (o : Oper) (K : (Nat → Nat) → Act → Prop) (G : Nat → Nat) (a : Act) : Prop :=
  match AL i with
  | some (T, cs) => o.guard = none ∧ (∀ w, C w → (execOp a.eval o).run P w = .ok (.value (.pointer (some ⟨w.heap.size, 0, none⟩))) (w.alloc (.cells cs T)) ∧ C (w.alloc (.cells cs T))) ∧
      ∀ B, N0 ≤ B → K (upd G i B) (a.put o.dst (.pointer (some ⟨B, 0, none⟩)))
  | none => if Region.wanted o (yielded ops a.tmps) = true then ∃ v, (∀ w, C w → calmAt P o a C w v) ∧ K G (a.put o.dst v) else K G (a.put o.dst undef)
def Walk (P : Program) (ops : Array Oper) (C : World → Prop) (N0 : Nat) (AL : Nat → Option (TypeId × Array Value)) (Q : (Nat → Nat) → Act → Prop) : List (Nat × Oper) → (Nat → Nat) → Act → Prop
  | [], G, a => Q G a
  | (i, o) :: U, G, a => one P ops C N0 AL i o (Walk P ops C N0 AL Q U) G a
theorem one_mono {i : Nat} {o : Oper} {K K' : (Nat → Nat) → Act → Prop} {G : Nat → Nat} {a : Act} (h : ∀ G a, K G a → K' G a) (hh : one P ops C N0 AL i o K G a) : one P ops C N0 AL i o K' G a := by
  unfold one at *
  cases hA : AL i with
  | some x =>
    obtain ⟨T, cs⟩ := x
    rw [hA] at hh
    exact ⟨hh.1, hh.2.1, fun B hB => h _ _ (hh.2.2 B hB)⟩
  | none =>
    rw [hA] at hh
    dsimp only at hh ⊢
    split
    · rename_i hw
      rw [if_pos hw] at hh
      obtain ⟨v, h1, h2⟩ := hh
      exact ⟨v, h1, h _ _ h2⟩
    · rename_i hw
      rw [if_neg hw] at hh
      exact h _ _ hh
theorem calmAt_put {o : Oper} (hs : ∀ cs b, o.op ≠ .select cs b) (a : Act) (dst : Option Tmp) (u : Value) (h : ∀ d, dst = some d → d ∉ o.looksAt ops) (w : World) (v : Value) :
    calmAt P o (a.put dst u) C w v = calmAt P o a C w v := by
  unfold calmAt
  rw [execOp_put o hs a dst u h]
/-- two operations that are apart may be taken in the other order; the first is no allocation, unless the second is one -/
theorem one_swap {i j : Nat} {oi oj : Oper} (hij : j ≠ i) (hap : oj.apart ops oi = true) (hsi : ∀ cs b, oi.op ≠ .select cs b) (hsj : ∀ cs b, oj.op ≠ .select cs b) (hk : (AL j).isSome = true → (AL i).isSome = true)
    {K : (Nat → Nat) → Act → Prop} {G : Nat → Nat} {a : Act} (h : one P ops C N0 AL j oj (one P ops C N0 AL i oi K) G a) : one P ops C N0 AL i oi (one P ops C N0 AL j oj K) G a := by
  obtain ⟨h1, h2, h3⟩ := Oper.apart_spec hap
  unfold one at *
  cases hAj : AL j with
  | some x =>
    obtain ⟨T, cs⟩ := x
    rw [hAj] at h
    have := hk (by rw [hAj]; rfl)
    cases hAi : AL i with
    | none => rw [hAi] at this; cases this
    | some y =>
      obtain ⟨T', cs'⟩ := y
      rw [hAi] at h
      dsimp only at h ⊢
      obtain ⟨g, ha, hB⟩ := h
      have h0 := hB N0 (Nat.le_refl _)
      refine ⟨h0.1, fun w hw => ?_, fun B hB1 => ⟨g, fun w hw => ?_, fun B' hB2 => ?_⟩⟩
      · have := h0.2.1 w hw
        rw [execOp_put oi hsi a oj.dst _ h1] at this
        exact this
      · rw [execOp_put oj hsj a oi.dst _ h3]
        exact ha w hw
      · rw [upd_comm (Ne.symm hij), ← Act.put_comm a _ _ h2]
        exact (hB B' hB2).2.2 B hB1
  | none =>
    rw [hAj] at h
    cases hAi : AL i with
    | some y =>
      obtain ⟨T', cs'⟩ := y
      rw [hAi] at h
      dsimp only at h ⊢
      by_cases hw : Region.wanted oj (yielded ops a.tmps) = true
      · rw [if_pos hw] at h
        obtain ⟨v, hv, g, ha, hB⟩ := h
        refine ⟨g, fun w hw' => ?_, fun B hB1 => ?_⟩
        · have := ha w hw'
          rw [execOp_put oi hsi a oj.dst _ h1] at this
          exact this
        · rw [wanted_put oj a oi.dst _ h3, if_pos hw]
          refine ⟨v, fun w hw' => by rw [calmAt_put hsj a oi.dst _ h3]; exact hv w hw', ?_⟩
          rw [← Act.put_comm a _ _ h2]
          exact hB B hB1
      · rw [if_neg hw] at h
        obtain ⟨g, ha, hB⟩ := h
        refine ⟨g, fun w hw' => ?_, fun B hB1 => ?_⟩
        · have := ha w hw'
          rw [execOp_put oi hsi a oj.dst _ h1] at this
          exact this
        · rw [wanted_put oj a oi.dst _ h3, if_neg hw, ← Act.put_comm a _ _ h2]
          exact hB B hB1
    | none =>
      rw [hAi] at h
      dsimp only at h ⊢
      by_cases hw : Region.wanted oj (yielded ops a.tmps) = true
      · rw [if_pos hw] at h
        obtain ⟨v, hv, h⟩ := h
        rw [wanted_put oi a oj.dst _ h1] at h
        split
        · rename_i hwi
          rw [if_pos hwi] at h
          obtain ⟨u, hu, h⟩ := h
          refine ⟨u, fun w hw' => ?_, ?_⟩
          · have := hu w hw'
            rw [calmAt_put hsi a oj.dst _ h1] at this
            exact this
          · rw [wanted_put oj a oi.dst _ h3, if_pos hw]
            refine ⟨v, fun w hw' => by rw [calmAt_put hsj a oi.dst _ h3]; exact hv w hw', ?_⟩
            rw [← Act.put_comm a _ _ h2]
            exact h
        · rename_i hwi
          rw [if_neg hwi] at h
          rw [wanted_put oj a oi.dst _ h3, if_pos hw]
          refine ⟨v, fun w hw' => by rw [calmAt_put hsj a oi.dst _ h3]; exact hv w hw', ?_⟩
          rw [← Act.put_comm a _ _ h2]
          exact h
      · rw [if_neg hw] at h
        rw [wanted_put oi a oj.dst _ h1] at h
        split
        · rename_i hwi
          rw [if_pos hwi] at h
          obtain ⟨u, hu, h⟩ := h
          refine ⟨u, fun w hw' => ?_, ?_⟩
          · have := hu w hw'
            rw [calmAt_put hsi a oj.dst _ h1] at this
            exact this
          · rw [wanted_put oj a oi.dst _ h3, if_neg hw, ← Act.put_comm a _ _ h2]
            exact h
        · rename_i hwi
          rw [if_neg hwi] at h
          rw [wanted_put oj a oi.dst _ h3, if_neg hw, ← Act.put_comm a _ _ h2]
          exact h
theorem pull {Q : (Nat → Nat) → Act → Prop} {i : Nat} {o : Oper} {U2 : List (Nat × Oper)} (hs : ∀ (j : Nat) (o : Oper) cs b, ops[j]? = some o → o.op ≠ .select cs b) (hi : ops[i]? = some o) : ∀ (U1 : List (Nat × Oper)) (G : Nat → Nat) (a : Act),
    (∀ x ∈ U1, ops[x.1]? = some x.2 ∧ x.1 ≠ i ∧ x.2.apart ops o = true ∧ ((AL x.1).isSome = true → (AL i).isSome = true)) →
    Walk P ops C N0 AL Q (U1 ++ (i, o) :: U2) G a → one P ops C N0 AL i o (Walk P ops C N0 AL Q (U1 ++ U2)) G a
  | [], _, _, _, h => h
  | (j, oj) :: U1, G, a, hU, h => by
    obtain ⟨hj, hji, hap, hk⟩ := hU (j, oj) (by simp)
    have h' : one P ops C N0 AL j oj (Walk P ops C N0 AL Q (U1 ++ (i, o) :: U2)) G a := h
    have h2 := one_mono (fun G a => pull hs hi U1 G a (fun x hx => hU x (List.mem_cons_of_mem _ hx))) h'
    exact one_swap hji hap (fun cs b => hs i o cs b hi) (fun cs b => hs j oj cs b hj) hk h2
/-! ### every order -/
def direct (ops : Array Oper) (k : Nat) : List Nat := match ops[k]? with
  | some o => (o.after.toList.filter fun e => Region.binds .any e).map (·.on)
  | none => []
def cl (ops : Array Oper) : Nat → List Nat → List Nat
  | 0, l => l
  | f + 1, l => l ++ cl ops f (l.flatMap (direct ops))
def Down (ops : Array Oper) (L : Array Bool) : Prop := ∀ j, L.getD j false = true → ∀ d ∈ direct ops j, L.getD d false = true
theorem cl_listed {L : Array Bool} (hd : Down ops L) : ∀ (f : Nat) (l : List Nat), (∀ x ∈ l, L.getD x false = true) → ∀ x ∈ cl ops f l, L.getD x false = true
  | 0, _, h => h
  | f + 1, l, h => by
    intro x hx
    rcases List.mem_append.1 hx with hx | hx
    · exact h x hx
    · refine cl_listed hd f _ (fun y hy => ?_) x hx
      obtain ⟨z, hz, hy⟩ := List.mem_flatMap.1 hy
      exact hd z (h z hz) y hy
theorem ready_direct {L : Array Bool} {k : Nat} (h : k ∈ Region.ready .any ops L) : ∀ d ∈ direct ops k, L.getD d false = true := by
  obtain ⟨_, o, ho, hall⟩ := mem_ready.1 h
  intro d hd
  unfold direct at hd
  rw [ho] at hd
  obtain ⟨e, he, rfl⟩ := List.mem_map.1 hd
  obtain ⟨he1, he2⟩ := List.mem_filter.1 he
  exact hall e (by simpa using he1) he2
theorem Down.set {L : Array Bool} {k : Nat} (hd : Down ops L) (h : k ∈ Region.ready .any ops L) : Down ops (L.setIfInBounds k true) := by
  intro j hj d hdd
  by_cases hjk : k = j
  · subst hjk
    exact getD_set_true (ready_direct h d hdd)
  · rw [getD_set_ne false hjk] at hj
    exact getD_set_true (hd j hj d hdd)
def firsts (n k : Nat) : Array Bool := ((List.range n).map fun i => decide (i < k)).toArray
/-- the looks at the region: m operations in whatever order, behind them the others in theirs; the allocations -/
def looks (ops : Array Oper) (m : Nat) (al : List Nat) : Bool :=
  Region.noSelect ops && decide (m ≤ ops.size) &&
  (al.all fun i => decide (i < m) && (direct ops i).isEmpty) &&
  ((List.range m).all fun i => al.contains i || (direct ops i).all fun d => decide (d < i) && !al.contains d) &&
  ((List.range m).all fun i => (List.range m).all fun j => j == i || (direct ops i).contains j || (direct ops j).contains i || (match ops[j]?, ops[i]? with | some oj, some oi => oj.apart ops oi | _, _ => false)) &&
  ((List.range' m (ops.size - m)).all fun k => (List.range m).all fun j => (cl ops ops.size (direct ops k)).contains j) &&
  ((List.range' m (ops.size - m)).all fun k => Region.ready .any ops (firsts ops.size k) == [k]) &&
  (Region.ready .any ops (firsts ops.size ops.size)).isEmpty
/-- what is known once all have been carried out -/
def Known (C : World → Prop) (N0 : Nat) (AL : Nat → Option (TypeId × Array Value)) (L : Nat → Prop) (G : Nat → Nat) (w : World) : Prop :=
  C w ∧ (∀ i T cs, L i → AL i = some (T, cs) → N0 ≤ G i ∧ Blk w (G i) T cs) ∧ (∀ i j x y, L i → L j → AL i = some x → AL j = some y → i ≠ j → G i ≠ G j)
theorem firsts_set {n k : Nat} (h : k < n) : (firsts n k).setIfInBounds k true = firsts n (k + 1) := by
  apply Array.ext_getElem?
  intro i
  rw [Array.getElem?_setIfInBounds]
  simp only [firsts, List.getElem?_toArray, List.getElem?_map, List.size_toArray, List.length_map, List.length_range]
  by_cases hik : k = i
  · subst hik
    simp [h]
  · rw [if_neg hik]
    by_cases hin : i < n
    · simp [List.getElem?_range hin]; omega
    · simp [List.getElem?_eq_none (show (List.range n).length ≤ i by simp; omega)]
theorem tail_any {Q : Exit → Act → World → Prop} (n : Nat) (hn : n = ops.size) : ∀ (d k : Nat), n - k = d → k ≤ n →
    (∀ j, k ≤ j → j < n → Region.ready .any ops (firsts n j) = [j]) → Region.ready .any ops (firsts n n) = [] →
    ∀ a w, wpOps P ops Q (List.range' k (n - k)) a w → wpAny P .any ops Q (n - k) (firsts n k) a w
  | 0, k, hd, hk, hr, he, a, w, h => by
    have hkn : k = n := by omega
    subst hkn
    rw [Nat.sub_self] at h ⊢
    exact ⟨he, by simpa [wpOps] using h⟩
  | d + 1, k, hd, hk, hr, he, a, w, h => by
    have hlt : k < n := by omega
    rw [hd] at h ⊢
    rw [List.range'_succ, wpOps_cons] at h
    have hrk := hr k (Nat.le_refl _) hlt
    refine ⟨fun h0 => (by rw [hrk] at h0; cases h0), fun i hi => ?_⟩
    rw [hrk] at hi
    have hik : i = k := by simpa using hi
    subst hik
    rw [firsts_set hlt]
    have hd' : n - (i + 1) = d := by omega
    refine wpOp_mono (fun a w h => ?_) h
    rw [← hd'] at h ⊢
    exact tail_any n hn d (i + 1) hd' (by omega) (fun j h1 h2 => hr j (by omega) h2) he a w h
def Ord (AL : Nat → Option (TypeId × Array Value)) (x y : Nat × Oper) : Prop := ((AL x.1).isSome = true → (AL y.1).isSome = true) ∧ (AL x.1 = none → AL y.1 = none → x.1 < y.1)
def Fin (P : Program) (ops : Array Oper) (C : World → Prop) (N0 : Nat) (AL : Nat → Option (TypeId × Array Value)) (m : Nat) (Q : Exit → Act → World → Prop) (G : Nat → Nat) (a : Act) : Prop :=
  ∀ w, Known C N0 AL (fun i => i < m) G w → wpOps P ops Q (List.range' m (ops.size - m)) a w
theorem any {Q : Exit → Act → World → Prop} {m : Nat} {al : List Nat} (hl : looks ops m al = true) (hAL : ∀ i, (AL i).isSome = true ↔ i ∈ al) (hN : ∀ w, C w → N0 ≤ w.heap.size) :
    ∀ (d : Nat) (U : List (Nat × Oper)) (L : Array Bool) (G : Nat → Nat) (a : Act) (w : World), U.length = d → L.size = ops.size → (∀ x ∈ U, ops[x.1]? = some x.2 ∧ x.1 < m) → (U.map (·.1)).Nodup → U.Pairwise (Ord AL) →
      (∀ i, i < ops.size → (L.getD i true = false ↔ (i ∈ U.map (·.1) ∨ m ≤ i))) → Down ops L → Known C N0 AL (fun i => L.getD i false = true) G w →
      Walk P ops C N0 AL (Fin P ops C N0 AL m Q) U G a → wpAny P .any ops Q (d + (ops.size - m)) L a w := by
  simp only [looks, Bool.and_eq_true, decide_eq_true_eq, List.all_eq_true, List.mem_range, Bool.or_eq_true, List.mem_range'_1, beq_iff_eq] at hl
  obtain ⟨⟨⟨⟨⟨⟨⟨hsel, hm⟩, hal⟩, hcalm⟩, hapart⟩, hcover⟩, hready⟩, hend⟩ := hl
  have hsel' := Region.noSelect_spec hsel
  have hnone : ∀ i, AL i = none ↔ i ∉ al := fun i => by rw [← hAL i]; cases AL i <;> simp
  have getD_flip : ∀ (L : Array Bool) (i : Nat), i < L.size → (L.getD i false = true ↔ ¬ L.getD i true = false) := by
    intro L i hi
    simp [hi]
  intro d
  induction d with
  | zero =>
    intro U L G a w hU hsz hmem hnd hpw hL hd hK hW
    have hU0 : U = [] := List.eq_nil_of_length_eq_zero hU
    subst hU0
    have hLf : L = firsts ops.size m := by
      apply Array.ext_getElem?
      intro i
      simp only [firsts, List.getElem?_toArray, List.getElem?_map]
      by_cases hi : i < ops.size
      · have h1 := hL i hi
        rw [List.getElem?_range hi, Array.getElem?_eq_getElem (by omega)]
        simp only [Option.map_some, Option.some.injEq]
        by_cases him : i < m
        · have : ¬ L.getD i true = false := fun h => by
            rcases h1.1 h with h | h
            · simp at h
            · omega
          simp [hsz, hi] at this
          simp [him, this]
        · have := h1.2 (.inr (by omega))
          simp [hsz, hi] at this
          simp [him, this]
      · rw [Array.getElem?_eq_none (by omega), List.getElem?_eq_none (by simp; omega)]
        rfl
    subst hLf
    rw [Nat.zero_add]
    refine tail_any ops.size rfl (ops.size - m) m rfl hm (fun j h1 h2 => hready j ⟨h1, by omega⟩) (by simpa using hend) a w (hW w ?_)
    refine ⟨hK.1, fun i T cs hi hA => hK.2.1 i T cs ?_ hA, fun i j x y hi hj h1 h2 h3 => hK.2.2 i j x y ?_ ?_ h1 h2 h3⟩
    · simp [firsts, show i < ops.size by omega, hi]
    · simp [firsts, show i < ops.size by omega, hi]
    · simp [firsts, show j < ops.size by omega, hj]
  | succ d ih =>
    intro U L G a w hU hsz hmem hnd hpw hL hd hK hW
    have hlt : ∀ x ∈ U, x.1 < ops.size := fun x hx => (Array.getElem?_eq_some_iff.1 (hmem x hx).1).1
    have hun : ∀ x ∈ U, L.getD x.1 true = false := fun x hx => (hL x.1 (hlt x hx)).2 (.inl (List.mem_map_of_mem hx))
    have hdep : ∀ x ∈ U, (∀ e ∈ direct ops x.1, L.getD e false = true) → x.1 ∈ Region.ready .any ops L := by
      intro x hx h
      refine mem_ready.2 ⟨hun x hx, x.2, (hmem x hx).1, fun e he hb => h e.on ?_⟩
      unfold direct
      rw [(hmem x hx).1]
      exact List.mem_map.2 ⟨e, List.mem_filter.2 ⟨by simpa using he, hb⟩, rfl⟩
    rw [show d + 1 + (ops.size - m) = (d + (ops.size - m)) + 1 from by omega]
    refine ⟨fun h0 => ?_, fun i hi => ?_⟩
    · -- something may come up
      exfalso
      have key : ∀ (k : Nat), ∀ x ∈ U, x.1 = k → AL x.1 = none → False := by
        intro k
        induction k using Nat.strongRecOn with
        | _ k ihk =>
          intro x hx hxk hA
          have hnot : ¬ x.1 ∈ Region.ready .any ops L := by rw [h0]; simp
          refine hnot (hdep x hx fun e he => ?_)
          rcases hcalm x.1 (hmem x hx).2 with h | h
          · exact absurd (by simpa using h) ((hnone x.1).1 hA)
          · have h1 := h e he
            simp only [Bool.not_eq_true', List.contains_eq_mem, decide_eq_false_iff_not] at h1
            have hes : e < ops.size := by have := (hlt x hx); omega
            rw [getD_flip L e (by omega)]
            intro hf
            rcases (hL e hes).1 hf with h2 | h2
            · obtain ⟨y, hy, rfl⟩ := List.mem_map.1 h2
              exact ihk y.1 (by omega) y hy rfl ((hnone _).2 h1.2)
            · have := (hmem x hx).2; omega
      match U, hU with
      | x :: U', _ =>
        by_cases hA : AL x.1 = none
        · exact key x.1 x (by simp) rfl hA
        · have hx : x.1 ∈ al := by rw [← hAL]; cases h : AL x.1 with
            | none => exact absurd h hA
            | some _ => rfl
          have := hdep x (by simp) (fun e he => by have := (hal x.1 hx).2; rw [List.isEmpty_iff] at this; rw [this] at he; cases he)
          rw [h0] at this
          cases this
    · -- operation i comes up
      obtain ⟨hiun, oi, hoi, _⟩ := mem_ready.1 hi
      have his : i < ops.size := (Array.getElem?_eq_some_iff.1 hoi).1
      have hiU : i ∈ U.map (·.1) := by
        rcases (hL i his).1 hiun with h | h
        · exact h
        · exfalso
          match U, hU with
          | x :: U', _ =>
            have h1 := cl_listed hd ops.size (direct ops i) (ready_direct hi) x.1 (by
              have := hcover i ⟨h, by omega⟩ x.1 (hmem x (by simp)).2
              simpa using this)
            have h2 := hun x (by simp)
            rw [getD_flip L x.1 (by have := hlt x (by simp); omega)] at h1
            exact h1 h2
      obtain ⟨⟨i', o⟩, hx, rfl⟩ := List.mem_map.1 hiU
      dsimp only at *
      have hoo : oi = o := by have := (hmem (i', o) hx).1; rw [hoi] at this; exact Option.some.inj this
      subst hoo
      have him := (hmem (i', oi) hx).2
      obtain ⟨U1, U2, rfl⟩ := List.append_of_mem hx
      have hnd2 := hnd
      rw [List.map_append, List.map_cons] at hnd2
      have hU1 : ∀ x ∈ U1, ops[x.1]? = some x.2 ∧ x.1 ≠ i' ∧ x.2.apart ops oi = true ∧ ((AL x.1).isSome = true → (AL i').isSome = true) := by
        intro x hx1
        have hxU : x ∈ U1 ++ (i', oi) :: U2 := by simp [hx1]
        have hord := (List.pairwise_append.1 hpw).2.2 x hx1 (i', oi) (by simp)
        have hne : x.1 ≠ i' := fun e => (List.nodup_append.1 hnd2).2.2 x.1 (List.mem_map_of_mem hx1) i' (by simp) e
        refine ⟨(hmem x hxU).1, hne, ?_, hord.1⟩
        rcases hapart i' him x.1 (hmem x hxU).2 with ((h | h) | h) | h
        · exact absurd h hne
        · exfalso
          have h1 := ready_direct hi x.1 (by simpa using h)
          rw [getD_flip L x.1 (by have := hlt x hxU; omega)] at h1
          exact h1 (hun x hxU)
        · exfalso
          have h' : i' ∈ direct ops x.1 := by simpa using h
          rcases hcalm x.1 (hmem x hxU).2 with h1 | h1
          · have := (hal x.1 (by simpa using h1)).2
            rw [List.isEmpty_iff] at this
            rw [this] at h'
            cases h'
          · have h2 := h1 i' h'
            simp only [Bool.not_eq_true', List.contains_eq_mem, decide_eq_false_iff_not] at h2
            have hx0 : AL x.1 = none := by
              cases hxx : AL x.1 with
              | none => rfl
              | some _ =>
                have : x.1 ∈ al := by rw [← hAL, hxx]; rfl
                have := (hal x.1 this).2
                rw [List.isEmpty_iff] at this
                rw [this] at h'
                cases h'
            have := hord.2 hx0 ((hnone _).2 h2.2)
            dsimp only at this
            omega
        · rw [(hmem x hxU).1, hoi] at h
          exact h
      have hone := pull hsel' hoi U1 G a hU1 hW
      have hU' : (U1 ++ U2).length = d := by
        have := hU
        simp at this ⊢
        omega
      have hsub : (U1 ++ U2).Sublist (U1 ++ (i', oi) :: U2) := List.Sublist.append_left (List.sublist_cons_self _ _) _
      have hK' : ∀ {G' w'}, Known C N0 AL (fun k => k = i' ∨ L.getD k false = true) G' w' → Known C N0 AL (fun k => (L.setIfInBounds i' true).getD k false = true) G' w' := by
        intro G' w' h
        have hc : ∀ k, (L.setIfInBounds i' true).getD k false = true → k = i' ∨ L.getD k false = true := by
          intro k hk
          by_cases e : i' = k
          · exact .inl e.symm
          · rw [getD_set_ne false e] at hk
            exact .inr hk
        exact ⟨h.1, fun k T cs hk hA => h.2.1 k T cs (hc k hk) hA, fun k l x y h1 h2 => h.2.2 k l x y (hc k h1) (hc l h2)⟩
      have hnext : ∀ G' a' w', Known C N0 AL (fun k => k = i' ∨ L.getD k false = true) G' w' → Walk P ops C N0 AL (Fin P ops C N0 AL m Q) (U1 ++ U2) G' a' → wpAny P .any ops Q (d + (ops.size - m)) (L.setIfInBounds i' true) a' w' := by
        intro G' a' w' h1 h2
        refine ih (U1 ++ U2) _ G' a' w' hU' (by simpa using hsz) (fun x hx => hmem x (hsub.subset hx)) ((hsub.map _).nodup hnd) (hpw.sublist hsub) (fun k hk => ?_) (hd.set hi) (hK' h1) h2
        by_cases e : i' = k
        · subst e
          have h3 : ¬ (L.setIfInBounds i' true).getD i' true = false := by simp [hsz, hk]
          have h4 : ¬ i' ∈ (U1 ++ U2).map (·.1) := by
            rw [List.map_append]
            intro h
            rcases List.mem_append.1 h with h | h
            · exact (List.nodup_append.1 hnd2).2.2 i' h i' (by simp) rfl
            · have := (List.nodup_append.1 hnd2).2.1
              rw [List.nodup_cons] at this
              exact this.1 h
          constructor
          · intro h; exact absurd h h3
          · intro h
            rcases h with h | h
            · exact absurd h h4
            · omega
        · rw [getD_set_ne true e, hL k hk]
          simp only [List.map_append, List.map_cons, List.mem_append, List.mem_cons]
          constructor
          · rintro ((h | h | h) | h)
            · exact .inl (.inl h)
            · exact absurd h.symm e
            · exact .inl (.inr h)
            · exact .inr h
          · rintro ((h | h) | h)
            · exact .inl (.inl h)
            · exact .inl (.inr (.inr h))
            · exact .inr h
      have hKsame : AL i' = none → ∀ {w'}, C w' → (∀ b T cs, Blk w b T cs → Blk w' b T cs) → Known C N0 AL (fun k => k = i' ∨ L.getD k false = true) G w' := by
        intro hA w' hc hb
        refine ⟨hc, fun k T cs hk hk2 => ?_, fun k l x y h1 h2 h3 h4 => ?_⟩
        · rcases hk with rfl | hk
          · rw [hA] at hk2; cases hk2
          · exact ⟨(hK.2.1 k T cs hk hk2).1, hb _ _ _ (hK.2.1 k T cs hk hk2).2⟩
        · rcases h1 with rfl | h1
          · rw [hA] at h3; cases h3
          · rcases h2 with rfl | h2
            · rw [hA] at h4; cases h4
            · exact hK.2.2 k l x y h1 h2 h3 h4
      unfold wpOp
      rw [hoi]
      dsimp only
      unfold one at hone
      cases hA : AL i' with
      | some x =>
        obtain ⟨T, cs⟩ := x
        rw [hA] at hone
        obtain ⟨hg, hrun, hB⟩ := hone
        rw [if_pos (by simp [Region.wanted, hg])]
        refine .inl ?_
        unfold Oper.wp
        rw [(hrun w hK.1).1, Oper.upon_value]
        have hlt' : ∀ k T cs, L.getD k false = true → AL k = some (T, cs) → G k < w.heap.size := fun k T cs h1 h2 => (hK.2.1 k T cs h1 h2).2.lt
        refine hnext (upd G i' w.heap.size) _ _ ⟨(hrun w hK.1).2, fun k T' cs' hk hk2 => ?_, fun k l x y h1 h2 h3 h4 h5 => ?_⟩ (hB w.heap.size (hN w hK.1))
        · by_cases e : k = i'
          · subst e
            rw [hA] at hk2
            cases hk2
            simp only [upd, if_true]
            exact ⟨hN w hK.1, Blk.new _ _ _⟩
          · have hk' := hk.resolve_left e
            simp only [upd, if_neg e]
            exact ⟨(hK.2.1 k T' cs' hk' hk2).1, (hK.2.1 k T' cs' hk' hk2).2.alloc _⟩
        · by_cases e : k = i'
          · have e' : ¬ l = i' := fun h => h5 (e.trans h.symm)
            have := hlt' l y.1 y.2 (h2.resolve_left e') h4
            simp only [upd, if_pos e, if_neg e']
            omega
          · by_cases e' : l = i'
            · have := hlt' k x.1 x.2 (h1.resolve_left e) h3
              simp only [upd, if_neg e, if_pos e']
              omega
            · simp only [upd, if_neg e, if_neg e']
              exact hK.2.2 k l x y (h1.resolve_left e) (h2.resolve_left e') h3 h4 h5
      | none =>
        rw [hA] at hone
        dsimp only at hone
        split
        · rename_i hw
          rw [if_pos hw] at hone
          obtain ⟨v, hv, hW2⟩ := hone
          refine .inl ?_
          have h3 := hv w hK.1
          unfold calmAt at h3
          unfold Oper.wp
          generalize (execOp a.eval oi).run P w = r at h3 ⊢
          cases r with
          | ok n w' =>
            cases n <;> simp only [calmUpon] at h3 <;> simp only [Oper.upon]
            case value u =>
              obtain ⟨rfl, rfl⟩ := h3
              exact hnext _ _ _ (hKsame hA hK.1 fun _ _ _ h => h) hW2
            case skip =>
              obtain ⟨rfl, rfl⟩ := h3
              exact hnext _ _ _ (hKsame hA hK.1 fun _ _ _ h => h) hW2
            case enter f args =>
              obtain ⟨rfl, hc⟩ := h3
              exact hc.mono fun e w'' ⟨he, hb, hc'⟩ => by
                subst he
                exact hnext _ _ _ (hKsame hA hc' fun _ _ _ h => h.below hb) hW2
          | halt x w' => simp only [calmUpon] at h3
        · rename_i hw
          rw [if_neg hw] at hone
          exact hnext _ _ _ (hKsame hA hK.1 fun _ _ _ h => h) hone
end
end Go.Calm
namespace Go.Calm
open Go.RowKit Go.Proofs.YtdfgmmjcamhdjaaGreatDoor
section
variable {P : Program} {ops : Array Oper} {C : World → Prop} {N0 : Nat}
abbrev Als := List (Nat × TypeId × Array Value)
def alOf (A : Als) (i : Nat) : Option (TypeId × Array Value) := (A.find? fun x => x.1 == i).map (·.2)
def idxs (m : Nat) (al : List Nat) : List Nat := (List.range m).filter (fun i => !al.contains i) ++ al
def withOps (ops : Array Oper) (l : List Nat) : List (Nat × Oper) := l.filterMap fun i => (ops[i]?).map fun o => (i, o)
def WalkI (P : Program) (ops : Array Oper) (C : World → Prop) (N0 : Nat) (A : Als) (Q : (Nat → Nat) → Act → Prop) (l : List Nat) (G : Nat → Nat) (a : Act) : Prop := Walk P ops C N0 (alOf A) Q (withOps ops l) G a
theorem withOps_cons {i : Nat} {l : List Nat} {o : Oper} (h : ops[i]? = some o) : withOps ops (i :: l) = (i, o) :: withOps ops l := by
  simp [withOps, h]
theorem withOps_map {l : List Nat} (h : ∀ i ∈ l, i < ops.size) : (withOps ops l).map (·.1) = l := by
  induction l with
  | nil => rfl
  | cons i l ih =>
    rw [withOps_cons (Array.getElem?_eq_getElem (h i (by simp))), List.map_cons, ih fun j hj => h j (by simp [hj])]
theorem wp_region_calm {id : Nat} {Q : Exit → Act → World → Prop} {a : Act} {w : World} (m : Nat) (A : Als) (hm : P.follows .mixedOrders = true) (hl : looks ops m (A.map (·.1)) = true) (hn : (A.map (·.1)).Nodup)
    (C : World → Prop) (N0 : Nat) (hN : ∀ w, C w → N0 ≤ w.heap.size) (hC : C w.drew)
    (h : WalkI P ops C N0 A (Fin P ops C N0 (alOf A) m Q) (idxs m (A.map (·.1))) (fun _ => 0) a) : (Code.region id ops true).wp P Q a w := by
  have hl' := hl
  simp only [looks, Bool.and_eq_true, decide_eq_true_eq, List.all_eq_true, List.mem_range, Bool.or_eq_true, List.mem_range'_1, beq_iff_eq] at hl'
  obtain ⟨⟨⟨⟨⟨⟨⟨_, hms⟩, hal⟩, _⟩, _⟩, _⟩, _⟩, _⟩ := hl'
  have hAL : ∀ i, (alOf A i).isSome = true ↔ i ∈ A.map (·.1) := by
    intro i
    simp [alOf, List.find?_isSome]
  have hnone : ∀ i, alOf A i = none ↔ i ∉ A.map (·.1) := fun i => by rw [← hAL i]; cases alOf A i <;> simp
  have hlt : ∀ i ∈ idxs m (A.map (·.1)), i < m := by
    intro i hi
    rcases List.mem_append.1 hi with h | h
    · exact List.mem_range.1 (List.mem_filter.1 h).1
    · exact (hal i h).1
  have hmap := withOps_map (ops := ops) (l := idxs m (A.map (·.1))) fun i hi => Nat.lt_of_lt_of_le (hlt i hi) hms
  have hmem : ∀ i, i < m → i ∈ idxs m (A.map (·.1)) := by
    intro i hi
    by_cases h : i ∈ A.map (·.1)
    · exact List.mem_append_right _ h
    · exact List.mem_append_left _ (List.mem_filter.2 ⟨List.mem_range.2 hi, by simpa using h⟩)
  have hnd : (idxs m (A.map (·.1))).Nodup := by
    refine List.nodup_append.2 ⟨List.nodup_range.filter _, hn, fun x hx y hy e => ?_⟩
    subst e
    have := (List.mem_filter.1 hx).2
    simp at this
    obtain ⟨z, hz, rfl⟩ := List.mem_map.1 hy
    exact this z.2.1 z.2.2 hz
  have hpw : (idxs m (A.map (·.1))).Pairwise (fun i j => ((alOf A i).isSome = true → (alOf A j).isSome = true) ∧ (alOf A i = none → alOf A j = none → i < j)) := by
    refine List.pairwise_append.2 ⟨?_, ?_, fun x hx y hy => ⟨fun _ => (hAL y).2 hy, fun _ h => absurd hy ((hnone y).1 h)⟩⟩
    · refine ((List.pairwise_lt_range (n := m)).filter _).imp_of_mem fun {x y} hx hy h => ⟨fun h1 => ?_, fun _ _ => h⟩
      have := (List.mem_filter.1 hx).2
      exact absurd ((hAL x).1 h1) (by simpa using this)
    · exact (List.pairwise_of_forall (R := fun _ _ => True) (fun _ _ => trivial)).imp_of_mem fun {x y} hx hy _ => ⟨fun _ => (hAL y).2 hy, fun h => absurd hx ((hnone x).1 h)⟩
  have hlen : (withOps ops (idxs m (A.map (·.1)))).length = m := by
    have h1 := congrArg List.length hmap
    rw [List.length_map] at h1
    rw [h1]
    have hp : (idxs m (A.map (·.1))).Perm (List.range m) := by
      refine (List.perm_ext_iff_of_nodup hnd List.nodup_range).2 fun i => ⟨fun hi => List.mem_range.2 (hlt i hi), fun hi => hmem i (List.mem_range.1 hi)⟩
    simpa using hp.length_eq
  refine wp_region_any hm ?_
  have hops : ∀ x ∈ withOps ops (idxs m (A.map (·.1))), ops[x.1]? = some x.2 ∧ x.1 < m := by
    intro x hx
    obtain ⟨i, hi, hx⟩ := List.mem_filterMap.1 hx
    obtain ⟨o, ho, rfl⟩ := Option.map_eq_some_iff.1 hx
    exact ⟨ho, hlt i hi⟩
  have h' : Walk P ops C N0 (alOf A) (Fin P ops C N0 (alOf A) m Q) (withOps ops (idxs m (A.map (·.1)))) (fun _ => 0) a := h
  have key := any (P := P) (Q := Q) hl hAL hN m _ (Array.replicate ops.size false) (fun _ => 0) a w.drew hlen (by simp) hops
    (by rw [hmap]; exact hnd) (by
      have h1 : ((withOps ops (idxs m (A.map fun x => x.1))).map fun x => x.1).Pairwise (fun i j => ((alOf A i).isSome = true → (alOf A j).isSome = true) ∧ (alOf A i = none → alOf A j = none → i < j)) := by rw [hmap]; exact hpw
      have h2 := List.pairwise_map.1 h1
      exact h2)
    (fun i hi => by
      rw [hmap]
      simp only [Array.getD_eq_getD_getElem?, Array.getElem?_replicate, if_pos hi, Option.getD_some, true_iff]
      by_cases h : i < m
      · exact .inl (hmem i h)
      · exact .inr (by omega))
    (fun j hj => by
      exfalso
      by_cases h : j < ops.size <;> simp [h] at hj)
    ⟨hC, fun i T cs hi => by
      exfalso
      by_cases h : i < ops.size <;> simp [h] at hi, fun i j x y hi => by
      exfalso
      by_cases h : i < ops.size <;> simp [h] at hi⟩ h'
  rw [show m + (ops.size - m) = ops.size from by omega] at key
  exact key
/-! ### the steps -/
variable {A : Als} {Q : (Nat → Nat) → Act → Prop} {G : Nat → Nat} {a : Act} {l : List Nat}
theorem calm_step {i : Nat} {o : Oper} (ho : ops[i]? = some o) (hA : alOf A i = none) (hg : Region.wanted o (yielded ops a.tmps) = true)
    (h : ∃ v, (∀ w, C w → calmAt P o a C w v) ∧ ∀ K : Act → Prop, (∀ a', WalkI P ops C N0 A Q l G a' → K a') → K (a.put o.dst v)) : WalkI P ops C N0 A Q (i :: l) G a := by
  obtain ⟨v, h1, h2⟩ := h
  unfold WalkI
  rw [withOps_cons ho]
  show one P ops C N0 (alOf A) i o _ G a
  unfold one
  rw [hA]
  dsimp only
  rw [if_pos hg]
  exact ⟨v, h1, h2 _ fun _ h => h⟩
theorem calm_alloc {i : Nat} {o : Oper} {T : TypeId} {cs : Array Value} (ho : ops[i]? = some o) (hA : alOf A i = some (T, cs)) (hg : o.guard = none)
    (h1 : ∀ w, C w → (execOp a.eval o).run P w = .ok (.value (.pointer (some ⟨w.heap.size, 0, none⟩))) (w.alloc (.cells cs T)) ∧ C (w.alloc (.cells cs T)))
    (h2 : ∀ B, N0 ≤ B → ∀ K : Act → Prop, (∀ a', WalkI P ops C N0 A Q l (upd G i B) a' → K a') → K (a.put o.dst (.pointer (some ⟨B, 0, none⟩)))) : WalkI P ops C N0 A Q (i :: l) G a := by
  unfold WalkI
  rw [withOps_cons ho]
  show one P ops C N0 (alOf A) i o _ G a
  unfold one
  rw [hA]
  exact ⟨hg, h1, fun B hB => h2 B hB _ fun _ h => h⟩
theorem calm_end {m : Nat} {Q : Exit → Act → World → Prop} (L : List Oper) (hL : ∀ j, L[j]? = ops[m + j]?) (hlen : L.length = ops.size - m) (h : ∀ w, Known C N0 (alOf A) (fun i => i < m) G w → wpList P ops Q L a w) :
    WalkI P ops C N0 A (Fin P ops C N0 (alOf A) m Q) [] G a := by
  show Fin P ops C N0 (alOf A) m Q G a
  intro w hK
  rw [← hlen, wpOps_eq_wpList L m hL]
  exact h w hK
theorem calm_end_lit {ol : List Oper} {m : Nat} {Q : Exit → Act → World → Prop} (h : ∀ w, Known C N0 (alOf A) (fun i => i < m) G w → wpList P ol.toArray Q (ol.drop m) a w) :
    WalkI P ol.toArray C N0 A (Fin P ol.toArray C N0 (alOf A) m Q) [] G a :=
  calm_end (ol.drop m) (fun j => by simp) (by simp) h
theorem calm_value {o : Oper} {w : World} {v : Value} (h : (execOp a.eval o).run P w = .ok (.value v) w) : calmAt P o a C w v := by
  unfold calmAt
  rw [h]
  exact ⟨rfl, rfl⟩
theorem calm_call {o : Oper} {w : World} {v : Value} {f : FuncId} {args : Array Value} (h : (execOp a.eval o).run P w = .ok (.enter f args) w) (hc : Calls P f args w (fun e w'' => e = .returned v ∧ Below w.heap.size w w'' ∧ C w'')) : calmAt P o a C w v := by
  unfold calmAt
  rw [h]
  exact ⟨rfl, hc⟩
end
end Go.Calm
namespace Go.Proofs.YtdfgmmjcamhdjaaGreatDoor
section
open Go.RowKit
attribute [local go_sem ↓] Go.wp_at_zero Go.wp_at_succ
theorem Blk.set4 {w : World} {b : Nat} {T : TypeId} {x0 x1 x2 x3 : Value} (h : Blk w b T #[x0, x1, x2, x3]) (v0 v1 v2 v3 : Value) : Blk ((((w.setCell ⟨b, 0, none⟩ v0).setCell ⟨b, 1, none⟩ v1).setCell ⟨b, 2, none⟩ v2).setCell ⟨b, 3, none⟩ v3) b T #[v0, v1, v2, v3] := (((h.set 0 v0).set 1 v1).set 2 v2).set 3 v3
theorem Blk.far4 {w : World} {b p : Nat} {T : TypeId} {cs : Array Value} (h : Blk w b T cs) (hp : b ≠ p) (v0 v1 v2 v3 : Value) : Blk ((((w.setCell ⟨p, 0, none⟩ v0).setCell ⟨p, 1, none⟩ v1).setCell ⟨p, 2, none⟩ v2).setCell ⟨p, 3, none⟩ v3) b T cs := (((h.far hp v0).far hp v1).far hp v2).far hp v3
theorem below_set4 {B : Nat} {a w : World} {p : Nat} (h : Below B a w) (hp : B ≤ p) (v0 v1 v2 v3 : Value) : Below B a ((((w.setCell ⟨p, 0, none⟩ v0).setCell ⟨p, 1, none⟩ v1).setCell ⟨p, 2, none⟩ v2).setCell ⟨p, 3, none⟩ v3) := (((h.setCell hp v0).setCell hp v1).setCell hp v2).setCell hp v3
def Q.get (q : Q) : Nat → Int
  | 0 => q.a
  | 1 => q.b
  | 2 => q.c
  | _ => q.d
theorem Q.get_le {q : Q} {m : Int} (h : q.Le m) (i : Nat) : -m ≤ q.get i ∧ q.get i ≤ m := by
  obtain ⟨h1, h2, h3, h4, h5, h6, h7, h8⟩ := h
  match i with
  | 0 => exact ⟨h1, h2⟩
  | 1 => exact ⟨h3, h4⟩
  | 2 => exact ⟨h5, h6⟩
  | n + 3 => exact ⟨h7, h8⟩
/-- p, its first i coefficients put together with q's -/
def partQ (op : Int → Int → Int) (p q : Q) (i j : Nat) : Int := if j < i then op (p.get j) (q.get j) else p.get j
def mapQ (op : Int → Int → Int) (p q : Q) : Q := ⟨op p.a q.a, op p.b q.b, op p.c q.c, op p.d q.d⟩
def partCells (op : Int → Int → Int) (p q : Q) (i : Nat) : Array Value := #[.int .i64 (partQ op p q i 0), .int .i64 (partQ op p q i 1), .int .i64 (partQ op p q i 2), .int .i64 (partQ op p q i 3)]
theorem partCells_at {op : Int → Int → Int} {p q : Q} {i : Nat} (h : i < 4) : (partCells op p q i)[i]? = some (.int .i64 (p.get i)) := by
  match i, h with
  | 0, _ => simp [partCells, partQ]
  | 1, _ => simp [partCells, partQ]
  | 2, _ => simp [partCells, partQ]
  | 3, _ => simp [partCells, partQ]
theorem partCells_set {op : Int → Int → Int} {p q : Q} {i : Nat} (h : i < 4) : (partCells op p q i).setIfInBounds i (.int .i64 (op (p.get i) (q.get i))) = partCells op p q (i + 1) := by
  match i, h with
  | 0, _ => simp [partCells, partQ]
  | 1, _ => simp [partCells, partQ]
  | 2, _ => simp [partCells, partQ]
  | 3, _ => simp [partCells, partQ]
def cellsQ (q : Q) : Array Value := #[.int .i64 (q.get 0), .int .i64 (q.get 1), .int .i64 (q.get 2), .int .i64 (q.get 3)]
theorem cellsQ_at {q : Q} {i : Nat} (h : i < 4) : (cellsQ q)[i]? = some (.int .i64 (q.get i)) := by
  match i, h with
  | 0, _ => simp [cellsQ]
  | 1, _ => simp [cellsQ]
  | 2, _ => simp [cellsQ]
  | 3, _ => simp [cellsQ]
set_option maxHeartbeats 8000000 in
set_option maxRecDepth 100000 in
theorem f79_any (op : Int → Int → Int) (p q M : Q) (k j m : Nat) (g : Nat) (w : World) (hp : p.Le 1073741824) (hq : q.Le 1073741824) (hk : k ≤ 30) (hj : j ≤ 30)
    (eg : ∀ args w, (callFunc g args).run Tryz.prog w = .ok (.enter g args) w)
    (hop : ∀ (a b : Int) (w : World), -1152921504606846976 ≤ a → a ≤ 1152921504606846976 → -1152921504606846976 ≤ b → b ≤ 1152921504606846976 → Calls Tryz.prog g #[.int .i64 a, .int .i64 b] w fun e w' => e = .returned (.int .i64 (op a b)) ∧ Below w.heap.size w w')
    (HM : Hid (m = max k j)) (HMM : Hid (M = mapQ op (raiseQ (m - k) p) (raiseQ (m - j) q))) (hML : M.Le 4000000000000000000) :
    Calls Tryz.prog 79 #[.agg #[.int .i64 p.a, .int .i64 p.b, .int .i64 p.c, .int .i64 p.d, .int .i64 k, .func (.func g) #[] #[]], .agg #[.int .i64 q.a, .int .i64 q.b, .int .i64 q.c, .int .i64 q.d, .int .i64 j]] w fun e w' => e = .returned (.tuple #[.agg #[.int .i64 (leastQ M m).1.a, .int .i64 (leastQ M m).1.b, .int .i64 (leastQ M m).1.c, .int .i64 (leastQ M m).1.d, .int .i64 (leastQ M m).2.1], .int .i64 (leastQ M m).2.2]) ∧ Below w.heap.size w w' := by
  have hm := HM.out
  have hm1 : k ≤ m := by omega
  have hm2 : j ≤ m := by omega
  have hm3 : m ≤ 30 := by omega
  clear hm
  have hPle := (raiseQ_le (m - k) 0 (q := p) hp)
  have hQle := (raiseQ_le (m - j) 0 (q := q) hq)
  have hb1 := bound_le (j := 0 + (m - k)) (by omega)
  have hb2 := bound_le (j := 0 + (m - j)) (by omega)
  have hPle := hPle.mono hb1
  have hQle := hQle.mono hb2
  clear hb1 hb2
  go_enter Tryz.func79, Tryz.ntmps79
  go_upto_region 1 with (fail)
  go_cut [6] from 10 (fun s6 wr => s6 = .int .i64 m ∧ wr = ((w.alloc (.cells #[.int .i64 p.a, .int .i64 p.b, .int .i64 p.c, .int .i64 p.d, .int .i64 k, .func (.func g) #[] #[]] 125)).alloc (.cells #[.int .i64 q.a, .int .i64 q.b, .int .i64 q.c, .int .i64 q.d, .int .i64 j] 38)).alloc (.cells #[.int .i64 0, .int .i64 0, .int .i64 0, .int .i64 0, .int .i64 0] 38))
  case first =>
    have HM2 := HM.out
    rcases Nat.lt_or_ge k j with h | h
    · have hmj : m = j := by omega
      subst hmj
      clear HM HM2 HMM
      go_wp2
      go_meet
      case rel => exact ⟨rfl, rfl⟩
    · have hmk : m = k := by omega
      subst hmk
      clear HM HM2 HMM
      go_wp2
      go_meet
      case rel => exact ⟨rfl, rfl⟩
  case rest =>
    clear HM
    obtain ⟨rfl, rfl⟩ := hcut
    go_wp2
    go_cut [7, 8] from 10 (fun s7 s8 wr => ∃ B7 B8, s7 = .pointer (some ⟨B7, 0, none⟩) ∧ s8 = .pointer (some ⟨B8, 0, none⟩) ∧ w.heap.size + 2 < B7 ∧ w.heap.size + 2 < B8 ∧ B7 ≠ B8 ∧ Blk wr B7 162 #[.int .i64 (raiseQ (m - k) p).a, .int .i64 (raiseQ (m - k) p).b, .int .i64 (raiseQ (m - k) p).c, .int .i64 (raiseQ (m - k) p).d] ∧ Blk wr B8 162 #[.int .i64 (raiseQ (m - j) q).a, .int .i64 (raiseQ (m - j) q).b, .int .i64 (raiseQ (m - j) q).c, .int .i64 (raiseQ (m - j) q).d] ∧ Blk wr w.heap.size 125 #[.int .i64 p.a, .int .i64 p.b, .int .i64 p.c, .int .i64 p.d, .int .i64 k, .func (.func g) #[] #[]] ∧ Blk wr (w.heap.size + 2) 38 #[.int .i64 0, .int .i64 0, .int .i64 0, .int .i64 0, .int .i64 0] ∧ Below w.heap.size w wr)
    case first =>
      refine Calm.wp_region_calm 9 [(7, 162, #[.int .i64 0, .int .i64 0, .int .i64 0, .int .i64 0]), (8, 162, #[.int .i64 0, .int .i64 0, .int .i64 0, .int .i64 0])] (by kernel_rfl) (by kernel_rfl) (by decide) (fun w' => Blk w' w.heap.size 125 #[.int .i64 p.a, .int .i64 p.b, .int .i64 p.c, .int .i64 p.d, .int .i64 k, .func (.func g) #[] #[]] ∧ Blk w' (w.heap.size + 1) 38 #[.int .i64 q.a, .int .i64 q.b, .int .i64 q.c, .int .i64 q.d, .int .i64 j] ∧ Blk w' (w.heap.size + 2) 38 #[.int .i64 0, .int .i64 0, .int .i64 0, .int .i64 0, .int .i64 0] ∧ Below w.heap.size w w' ∧ w.heap.size + 3 ≤ w'.heap.size) (w.heap.size + 3) (fun _ h => h.2.2.2.2) ⟨(((Blk.new' 125 #[.int .i64 p.a, .int .i64 p.b, .int .i64 p.c, .int .i64 p.d, .int .i64 k, .func (.func g) #[] #[]] (by simp)).alloc _).alloc _).drew, ((Blk.new' 38 #[.int .i64 q.a, .int .i64 q.b, .int .i64 q.c, .int .i64 q.d, .int .i64 j] (by simp)).alloc _).drew, (Blk.new' 38 #[.int .i64 0, .int .i64 0, .int .i64 0, .int .i64 0, .int .i64 0] (by simp)).drew, ((((Below.refl _ _).alloc (Nat.le_refl _) _).alloc (by first | (simp; done) | (simp; omega) | omega) _).alloc (by first | (simp; done) | (simp; omega) | omega) _).drew, by simp⟩ ?_
      show Calm.WalkI _ _ _ _ _ _ [0, 1, 2, 3, 4, 5, 6, 7, 8] _ _
      refine Calm.calm_step rfl rfl rfl ?_; apply Exists.intro; refine ⟨fun w' hw' => ?_, ?_⟩
      · obtain ⟨hA, hB, hR, hW, hz⟩ := hw'
        have cA := hA.cells
        have cB := hB.cells
        apply Calm.calm_value
        go_simp
        exact rfl
      intro K hK; go_simp; refine hK _ ?_; clear hK K
      refine Calm.calm_step rfl rfl rfl ?_; apply Exists.intro; refine ⟨fun w' hw' => ?_, ?_⟩
      · obtain ⟨hA, hB, hR, hW, hz⟩ := hw'
        have cA := hA.cells
        have cB := hB.cells
        apply Calm.calm_value
        go_simp
        exact rfl
      intro K hK; go_simp; refine hK _ ?_; clear hK K
      refine Calm.calm_step rfl rfl rfl ?_; apply Exists.intro; refine ⟨fun w' hw' => ?_, ?_⟩
      · obtain ⟨hA, hB, hR, hW, hz⟩ := hw'
        have cA := hA.cells
        have cB := hB.cells
        apply Calm.calm_call
        · go_simp
          exact ⟨rfl, rfl⟩
        refine (f127_any p k m g _ hp (by omega) (by omega) (by omega)).mono ?_
        rintro e w'' ⟨rfl, hb⟩
        exact ⟨rfl, hb, hA.below hb, hB.below hb, hR.below hb, bt hW hb, Nat.le_trans hz hb.size⟩
      intro K hK; go_simp; refine hK _ ?_; clear hK K
      refine Calm.calm_step rfl rfl rfl ?_; apply Exists.intro; refine ⟨fun w' hw' => ?_, ?_⟩
      · obtain ⟨hA, hB, hR, hW, hz⟩ := hw'
        have cA := hA.cells
        have cB := hB.cells
        apply Calm.calm_value
        go_simp
        exact rfl
      intro K hK; go_simp; refine hK _ ?_; clear hK K
      refine Calm.calm_step rfl rfl rfl ?_; apply Exists.intro; refine ⟨fun w' hw' => ?_, ?_⟩
      · obtain ⟨hA, hB, hR, hW, hz⟩ := hw'
        have cA := hA.cells
        have cB := hB.cells
        apply Calm.calm_call
        · go_simp
          exact ⟨rfl, rfl⟩
        refine (f78_any q _ _).mono ?_
        rintro e w'' ⟨rfl, hb⟩
        exact ⟨rfl, hb, hA.below hb, hB.below hb, hR.below hb, bt hW hb, Nat.le_trans hz hb.size⟩
      intro K hK; go_simp; refine hK _ ?_; clear hK K
      refine Calm.calm_step rfl rfl rfl ?_; apply Exists.intro; refine ⟨fun w' hw' => ?_, ?_⟩
      · obtain ⟨hA, hB, hR, hW, hz⟩ := hw'
        have cA := hA.cells
        have cB := hB.cells
        apply Calm.calm_value
        go_simp
        exact rfl
      intro K hK; go_simp; refine hK _ ?_; clear hK K
      refine Calm.calm_step rfl rfl rfl ?_; apply Exists.intro; refine ⟨fun w' hw' => ?_, ?_⟩
      · obtain ⟨hA, hB, hR, hW, hz⟩ := hw'
        have cA := hA.cells
        have cB := hB.cells
        apply Calm.calm_call
        · go_simp
          exact ⟨rfl, rfl⟩
        refine (f127_any q j m 126 _ hq (by omega) (by omega) (by omega)).mono ?_
        rintro e w'' ⟨rfl, hb⟩
        exact ⟨rfl, hb, hA.below hb, hB.below hb, hR.below hb, bt hW hb, Nat.le_trans hz hb.size⟩
      intro K hK; go_simp; refine hK _ ?_; clear hK K
      refine Calm.calm_alloc rfl rfl rfl (fun w' hw' => ?_) (fun B7 hB7 => ?_)
      · obtain ⟨hA, hB, hR, hW, hz⟩ := hw'
        have cA := hA.cells
        have cB := hB.cells
        refine ⟨by go_simp, hA.alloc _, hB.alloc _, hR.alloc _, hW.alloc hW.size _, by simp; omega⟩
      intro K hK; go_simp; refine hK _ ?_; clear hK K
      refine Calm.calm_alloc rfl rfl rfl (fun w' hw' => ?_) (fun B8 hB8 => ?_)
      · obtain ⟨hA, hB, hR, hW, hz⟩ := hw'
        have cA := hA.cells
        have cB := hB.cells
        refine ⟨by go_simp, hA.alloc _, hB.alloc _, hR.alloc _, hW.alloc hW.size _, by simp; omega⟩
      intro K hK; go_simp; refine hK _ ?_; clear hK K
      refine Calm.calm_end_lit (fun wk hk => ?_)
      simp only [List.drop_succ_cons, List.drop_zero]
      obtain ⟨⟨hA, hB, hR, hW, hz⟩, hfacts, hdist⟩ := hk
      obtain ⟨h71, h72⟩ := hfacts 7 _ _ (by decide) rfl
      obtain ⟨h81, h82⟩ := hfacts 8 _ _ (by decide) rfl
      have h78 := hdist 7 8 _ _ (by decide) (by decide) rfl rfl (by decide)
      change w.heap.size + 3 ≤ B7 at h71
      change w.heap.size + 3 ≤ B8 at h81
      change Blk wk B7 _ _ at h72
      change Blk wk B8 _ _ at h82
      change B7 ≠ B8 at h78
      clear hfacts hdist
      have c7 := h72.cells
      have f7 := h72.frozen
      have c8 := h82.cells
      have f8 := h82.frozen
      go_wp2
      go_meet
      case rel =>
        exact ⟨B7, B8, rfl, rfl, by omega, by omega, h78, (h72.set4 _ _ _ _).far4 h78 _ _ _ _, (h82.far4 (Ne.symm h78) _ _ _ _).set4 _ _ _ _, (hA.far4 (by omega) _ _ _ _).far4 (by omega) _ _ _ _, (hR.far4 (by omega) _ _ _ _).far4 (by omega) _ _ _ _, below_set4 (below_set4 hW (by omega) _ _ _ _) (by omega) _ _ _ _⟩
    case rest =>
      obtain ⟨B7, B8, rfl, rfl, hl7, hl8, h78, h7, h8, hA, hR, hW⟩ := hcut
      go_wp2
      go_loopg [23] 4 (fun gg s23 wr => ∃ kk : Nat, kk ≤ 4 ∧ 4 - kk ≤ gg ∧ s23 = .int .i64 kk ∧ Blk wr w.heap.size 125 #[.int .i64 p.a, .int .i64 p.b, .int .i64 p.c, .int .i64 p.d, .int .i64 k, .func (.func g) #[] #[]] ∧ Blk wr B7 162 (partCells op (raiseQ (m - k) p) (raiseQ (m - j) q) kk) ∧ Blk wr B8 162 (cellsQ (raiseQ (m - j) q)) ∧ Blk wr (w.heap.size + 2) 38 #[.int .i64 0, .int .i64 0, .int .i64 0, .int .i64 0, .int .i64 0] ∧ Aside (Below w.heap.size w wr))
      case atStart => exact ⟨0, by omega, by omega, rfl, hA, h7, h8, hR, hW⟩
      case round =>
        clear h7 h8 hA hR hW
        obtain ⟨kk, hkk, hg, rfl, hA, h7, h8, hR, BW⟩ := hrel
        by_cases hlt : kk < 4
        · have hltz : (kk : Int) < 4 := by omega
          have gP : -1152921504606846976 ≤ (raiseQ (m - k) p).get kk ∧ (raiseQ (m - k) p).get kk ≤ 1152921504606846976 := Q.get_le hPle kk
          have gQ : -1152921504606846976 ≤ (raiseQ (m - j) q).get kk ∧ (raiseQ (m - j) q).get kk ≤ 1152921504606846976 := Q.get_le hQle kk
          obtain ⟨gP1, gP2⟩ := gP
          obtain ⟨gQ1, gQ2⟩ := gQ
          go_wp2
          refine Calm.wp_region_calm 11 [] (by kernel_rfl) (by kernel_rfl) (by decide) (fun w' => Blk w' w.heap.size 125 #[.int .i64 p.a, .int .i64 p.b, .int .i64 p.c, .int .i64 p.d, .int .i64 k, .func (.func g) #[] #[]] ∧ Blk w' B7 162 (partCells op (raiseQ (m - k) p) (raiseQ (m - j) q) kk) ∧ Blk w' B8 162 (cellsQ (raiseQ (m - j) q)) ∧ Blk w' (w.heap.size + 2) 38 #[.int .i64 0, .int .i64 0, .int .i64 0, .int .i64 0, .int .i64 0] ∧ Below w.heap.size w w') (0) (fun _ _ => Nat.zero_le _) ⟨hA.drew, h7.drew, h8.drew, hR.drew, BW.out.drew⟩ ?_
          show Calm.WalkI _ _ _ _ _ _ [0, 1, 2, 3, 4, 5, 6, 7, 8, 9, 10] _ _
          refine Calm.calm_step rfl rfl rfl ?_; apply Exists.intro; refine ⟨fun w' hw' => ?_, ?_⟩
          · obtain ⟨hA, h7, h8, hR, hW⟩ := hw'
            have cA := hA.cells
            have c7 : w'.cell? ⟨B7, kk, none⟩ = some (.int .i64 ((raiseQ (m - k) p).get kk)) := (h7.cells kk).trans (partCells_at hlt)
            have c8 : w'.cell? ⟨B8, kk, none⟩ = some (.int .i64 ((raiseQ (m - j) q).get kk)) := (h8.cells kk).trans (cellsQ_at hlt)
            apply Calm.calm_value
            go_simp
            exact rfl
          intro K hK; go_simp; refine hK _ ?_; clear hK K
          refine Calm.calm_step rfl rfl rfl ?_; apply Exists.intro; refine ⟨fun w' hw' => ?_, ?_⟩
          · obtain ⟨hA, h7, h8, hR, hW⟩ := hw'
            have cA := hA.cells
            have c7 : w'.cell? ⟨B7, kk, none⟩ = some (.int .i64 ((raiseQ (m - k) p).get kk)) := (h7.cells kk).trans (partCells_at hlt)
            have c8 : w'.cell? ⟨B8, kk, none⟩ = some (.int .i64 ((raiseQ (m - j) q).get kk)) := (h8.cells kk).trans (cellsQ_at hlt)
            apply Calm.calm_value
            go_simp
            exact rfl
          intro K hK; go_simp; refine hK _ ?_; clear hK K
          refine Calm.calm_step rfl rfl rfl ?_; apply Exists.intro; refine ⟨fun w' hw' => ?_, ?_⟩
          · obtain ⟨hA, h7, h8, hR, hW⟩ := hw'
            have cA := hA.cells
            have c7 : w'.cell? ⟨B7, kk, none⟩ = some (.int .i64 ((raiseQ (m - k) p).get kk)) := (h7.cells kk).trans (partCells_at hlt)
            have c8 : w'.cell? ⟨B8, kk, none⟩ = some (.int .i64 ((raiseQ (m - j) q).get kk)) := (h8.cells kk).trans (cellsQ_at hlt)
            apply Calm.calm_value
            go_simp
            exact rfl
          intro K hK; go_simp; refine hK _ ?_; clear hK K
          refine Calm.calm_step rfl rfl rfl ?_; apply Exists.intro; refine ⟨fun w' hw' => ?_, ?_⟩
          · obtain ⟨hA, h7, h8, hR, hW⟩ := hw'
            have cA := hA.cells
            have c7 : w'.cell? ⟨B7, kk, none⟩ = some (.int .i64 ((raiseQ (m - k) p).get kk)) := (h7.cells kk).trans (partCells_at hlt)
            have c8 : w'.cell? ⟨B8, kk, none⟩ = some (.int .i64 ((raiseQ (m - j) q).get kk)) := (h8.cells kk).trans (cellsQ_at hlt)
            apply Calm.calm_value
            go_simp
            exact rfl
          intro K hK; go_simp; refine hK _ ?_; clear hK K
          refine Calm.calm_step rfl rfl rfl ?_; apply Exists.intro; refine ⟨fun w' hw' => ?_, ?_⟩
          · obtain ⟨hA, h7, h8, hR, hW⟩ := hw'
            have cA := hA.cells
            have c7 : w'.cell? ⟨B7, kk, none⟩ = some (.int .i64 ((raiseQ (m - k) p).get kk)) := (h7.cells kk).trans (partCells_at hlt)
            have c8 : w'.cell? ⟨B8, kk, none⟩ = some (.int .i64 ((raiseQ (m - j) q).get kk)) := (h8.cells kk).trans (cellsQ_at hlt)
            apply Calm.calm_value
            go_simp
            exact rfl
          intro K hK; go_simp; refine hK _ ?_; clear hK K
          refine Calm.calm_step rfl rfl rfl ?_; apply Exists.intro; refine ⟨fun w' hw' => ?_, ?_⟩
          · obtain ⟨hA, h7, h8, hR, hW⟩ := hw'
            have cA := hA.cells
            have c7 : w'.cell? ⟨B7, kk, none⟩ = some (.int .i64 ((raiseQ (m - k) p).get kk)) := (h7.cells kk).trans (partCells_at hlt)
            have c8 : w'.cell? ⟨B8, kk, none⟩ = some (.int .i64 ((raiseQ (m - j) q).get kk)) := (h8.cells kk).trans (cellsQ_at hlt)
            apply Calm.calm_value
            go_simp
            exact rfl
          intro K hK; go_simp; refine hK _ ?_; clear hK K
          refine Calm.calm_step rfl rfl rfl ?_; apply Exists.intro; refine ⟨fun w' hw' => ?_, ?_⟩
          · obtain ⟨hA, h7, h8, hR, hW⟩ := hw'
            have cA := hA.cells
            have c7 : w'.cell? ⟨B7, kk, none⟩ = some (.int .i64 ((raiseQ (m - k) p).get kk)) := (h7.cells kk).trans (partCells_at hlt)
            have c8 : w'.cell? ⟨B8, kk, none⟩ = some (.int .i64 ((raiseQ (m - j) q).get kk)) := (h8.cells kk).trans (cellsQ_at hlt)
            apply Calm.calm_value
            go_simp
            exact rfl
          intro K hK; go_simp; refine hK _ ?_; clear hK K
          refine Calm.calm_step rfl rfl rfl ?_; apply Exists.intro; refine ⟨fun w' hw' => ?_, ?_⟩
          · obtain ⟨hA, h7, h8, hR, hW⟩ := hw'
            have cA := hA.cells
            have c7 : w'.cell? ⟨B7, kk, none⟩ = some (.int .i64 ((raiseQ (m - k) p).get kk)) := (h7.cells kk).trans (partCells_at hlt)
            have c8 : w'.cell? ⟨B8, kk, none⟩ = some (.int .i64 ((raiseQ (m - j) q).get kk)) := (h8.cells kk).trans (cellsQ_at hlt)
            apply Calm.calm_value
            go_simp
            exact rfl
          intro K hK; go_simp; refine hK _ ?_; clear hK K
          refine Calm.calm_step rfl rfl rfl ?_; apply Exists.intro; refine ⟨fun w' hw' => ?_, ?_⟩
          · obtain ⟨hA, h7, h8, hR, hW⟩ := hw'
            have cA := hA.cells
            have c7 : w'.cell? ⟨B7, kk, none⟩ = some (.int .i64 ((raiseQ (m - k) p).get kk)) := (h7.cells kk).trans (partCells_at hlt)
            have c8 : w'.cell? ⟨B8, kk, none⟩ = some (.int .i64 ((raiseQ (m - j) q).get kk)) := (h8.cells kk).trans (cellsQ_at hlt)
            apply Calm.calm_value
            go_simp
            exact rfl
          intro K hK; go_simp; refine hK _ ?_; clear hK K
          refine Calm.calm_step rfl rfl rfl ?_; apply Exists.intro; refine ⟨fun w' hw' => ?_, ?_⟩
          · obtain ⟨hA, h7, h8, hR, hW⟩ := hw'
            have cA := hA.cells
            have c7 : w'.cell? ⟨B7, kk, none⟩ = some (.int .i64 ((raiseQ (m - k) p).get kk)) := (h7.cells kk).trans (partCells_at hlt)
            have c8 : w'.cell? ⟨B8, kk, none⟩ = some (.int .i64 ((raiseQ (m - j) q).get kk)) := (h8.cells kk).trans (cellsQ_at hlt)
            apply Calm.calm_call
            · go_simp
              exact ⟨rfl, rfl⟩
            refine (hop _ _ _ gP1 gP2 gQ1 gQ2).mono ?_
            rintro e w'' ⟨rfl, hb⟩
            exact ⟨rfl, hb, hA.below hb, h7.below hb, h8.below hb, hR.below hb, bt hW hb⟩
          intro K hK; go_simp; refine hK _ ?_; clear hK K
          refine Calm.calm_step rfl rfl rfl ?_; apply Exists.intro; refine ⟨fun w' hw' => ?_, ?_⟩
          · obtain ⟨hA, h7, h8, hR, hW⟩ := hw'
            have cA := hA.cells
            have c7 : w'.cell? ⟨B7, kk, none⟩ = some (.int .i64 ((raiseQ (m - k) p).get kk)) := (h7.cells kk).trans (partCells_at hlt)
            have c8 : w'.cell? ⟨B8, kk, none⟩ = some (.int .i64 ((raiseQ (m - j) q).get kk)) := (h8.cells kk).trans (cellsQ_at hlt)
            apply Calm.calm_value
            go_simp
            exact rfl
          intro K hK; go_simp; refine hK _ ?_; clear hK K
          refine Calm.calm_end_lit (fun wk hk => ?_)
          simp only [List.drop_succ_cons, List.drop_zero]
          obtain ⟨⟨hA, h7, h8, hR, hW⟩, hfacts, hdist⟩ := hk
          clear hfacts hdist
          have c7 : wk.cell? ⟨B7, kk, none⟩ = some (.int .i64 ((raiseQ (m - k) p).get kk)) := (h7.cells kk).trans (partCells_at hlt)
          have f7 := h7.frozen
          go_wp2
          go_roundg (4 - (kk + 1))
          case measure => omega
          case rel =>
            refine ⟨kk + 1, by omega, by omega, by go_num, hA.far (by simp; omega) _, ?_, h8.far (by simp; omega) _, hR.far (by simp; omega) _, (show Aside _ from hW.setCell (by simp; omega) _)⟩
            rw [← partCells_set hlt]
            exact h7.set kk _
        · have hltz : ¬ (kk : Int) < 4 := by omega
          have hk4 : kk = 4 := by omega
          subst hk4
          have h7' : Blk wr B7 162 #[.int .i64 M.a, .int .i64 M.b, .int .i64 M.c, .int .i64 M.d] := by rw [HMM.out]; exact h7
          clear h7 HMM
          have c7 := h7'.cells
          have cR := hR.cells
          have fR := hR.frozen
          go_wp2_with (first
            | (go_at_call 124; refine (f124_any M _ _).mono ?_; rintro e w1 ⟨rfl, hb1⟩)
            | (go_at_call 78; refine (f78_any M _ _).mono ?_; rintro e w2 ⟨rfl, hb2⟩)
            | (go_at_call 97; refine (f97_any M m 126 #[] _ hML (by omega)).mono ?_; rintro e w3 ⟨rfl, hb3⟩; have hR3 := ((hR.below hb1).below hb2).below hb3; clear cR fR; have cR := hR3.cells; have fR := hR3.frozen))
          have hF := (((((hR3.set 0 (.int .i64 (leastQ M m).1.a)).set 1 (.int .i64 (leastQ M m).1.b)).set 2 (.int .i64 (leastQ M m).1.c)).set 3 (.int .i64 (leastQ M m).1.d)).set 4 (.int .i64 (leastQ M m).2.1))
          have cF := hF.cells
          have hb := bt (bt (bt BW.out hb1) hb2) hb3
          refine bodyPost_ret (v := .tuple #[.agg #[.int .i64 (leastQ M m).1.a, .int .i64 (leastQ M m).1.b, .int .i64 (leastQ M m).1.c, .int .i64 (leastQ M m).1.d, .int .i64 (leastQ M m).2.1], .int .i64 (leastQ M m).2.2]) (by simp [results, Tryz.results79, go_sem, cF]) rfl ⟨rfl, ?_⟩
          exact (((((hb.setCell (by first | (simp; done) | (simp; omega) | omega) _).setCell (by first | (simp; done) | (simp; omega) | omega) _).setCell (by first | (simp; done) | (simp; omega) | omega) _).setCell (by first | (simp; done) | (simp; omega) | omega) _).setCell (by first | (simp; done) | (simp; omega) | omega) _)
end
end Go.Proofs.YtdfgmmjcamhdjaaGreatDoor
