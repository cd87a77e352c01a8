/- Steps to WholeMatrices' card; what each asks stands in it. -/
import Derived.Shelf.Spec.SlicesInsertGrow
import Derived.Test.YtdfgmmjcamhdjaaGreatDoorA07
set_option linter.unusedVariables false
set_option linter.unusedSimpArgs false
namespace Go.Proofs.YtdfgmmjcamhdjaaGreatDoor
section
open Go.RowKit Go.Shelf
def renI : Ren := ⟨fun n => if n = 21 then 38 else if n = 27 then 89 else if n = 28 then 90 else if n = 35 then 128 else if n = 39 then 150 else 0, fun n => if n = 22 then 25 else n, fun n => n⟩
theorem laysI : Lays2.n21 Tryz.prog renI where
  mixed := by kernel_rfl
  f21 := by kernel_rfl
  f27 := by kernel_rfl
  f28 := by kernel_rfl
  f35 := by kernel_rfl
  f39 := by kernel_rfl
  t0 := by kernel_rfl
  a0 := fun _ => by kernel_rfl
  z0 := fun _ => by kernel_rfl
  v0 := fun _ => by kernel_rfl
  t3 := by kernel_rfl
  a3 := fun _ => by kernel_rfl
  z3 := fun _ => by kernel_rfl
  v3 := fun _ => by kernel_rfl
  t4 := by kernel_rfl
  a4 := fun _ => by kernel_rfl
  z4 := fun _ => by kernel_rfl
  v4 := fun _ => by kernel_rfl
  t22 := by kernel_rfl
  a22 := fun _ => by kernel_rfl
  z22 := fun _ => by kernel_rfl
  v22 := fun _ => by kernel_rfl
  i3 := by kernel_rfl
end
section
open Go.RowKit Go.Shelf
theorem Blk.setCells {b : Nat} {T : TypeId} : ∀ (vs : List Value) (o : Nat) (w : World) (cs : Array Value), Blk w b T cs → ∃ cs' : Array Value, Blk (w.setCells b o vs) b T cs' ∧ cs'.size = cs.size
  | [], _, _, cs, h => ⟨cs, h, rfl⟩
  | v :: r, o, w, cs, h => by
    obtain ⟨cs', h1, h2⟩ := Blk.setCells r (o + 1) (w.setCell ⟨b, o, none⟩ v) _ (h.set o v)
    exact ⟨cs', h1, by simpa using h2⟩
theorem KeepX.setCells {B : Nat} {a w : World} (h : KeepX B a w) : ∀ (vs : List Value) (o : Nat), KeepX B a (w.setCells B o vs) := by
  intro vs
  induction vs generalizing w with
  | nil => intro o; exact h
  | cons v r ih => intro o; exact ih (h.setCell o v) (o + 1)
theorem KeepX.setCellsOwn {B : Nat} {a w : World} (h : KeepX B a w) {b : Nat} (hb : a.heap.size ≤ b) : ∀ (vs : List Value) (o : Nat), KeepX B a (w.setCells b o vs) := by
  intro vs
  induction vs generalizing w with
  | nil => intro o; exact h
  | cons v r ih => intro o; exact ih (h.setOwn (p := ⟨b, o, none⟩) hb v) (o + 1)
/-- a list of ints in a block of one's own -/
def OwnI (w : World) (b c : Nat) (zs : List Int) : Prop := ∃ cs : Array Value, Blk w b 3 cs ∧ cs.size = c ∧ zs.length ≤ c ∧ c ≤ 9223372036854775807 ∧ ∀ (j : Nat) (z : Int), zs[j]? = some z → cs[j]? = some (Value.int .i64 z)
def iv (z : Int) : Value := .int .i64 z
theorem OwnI.of {w : World} {b c : Nat} {zs : List Int} {cs : Array Value} (h : Blk w b 3 cs) (hs : cs.size = c) (hl : zs.length ≤ c) (hc : c ≤ 9223372036854775807) (hz : ∀ j z, zs[j]? = some z → w.cell? ⟨b, j, none⟩ = some (iv z)) : OwnI w b c zs :=
  ⟨cs, h, hs, hl, hc, fun j z hj => by rw [← h.cells]; exact hz j z hj⟩
theorem OwnI.cell {w : World} {b c : Nat} {zs : List Int} (h : OwnI w b c zs) {j : Nat} {z : Int} (hj : zs[j]? = some z) : w.cell? ⟨b, j, none⟩ = some (iv z) := by
  obtain ⟨cs, h1, h2, h3, h4, h5⟩ := h
  rw [h1.cells]
  exact h5 j z hj
theorem getMap {zs : List Int} {j : Nat} {v : Value} (h : (zs.map iv)[j]? = some v) : ∃ z, zs[j]? = some z ∧ v = iv z := by
  rw [List.getElem?_map] at h
  cases hz : zs[j]? with
  | none => rw [hz] at h; cases h
  | some z => rw [hz] at h; cases h; exact ⟨z, rfl, rfl⟩
theorem one1 (zs : List Int) : ∀ v ∈ zs.map iv, v.oneCell' = true := fun v hv => by
  obtain ⟨z, _, rfl⟩ := List.mem_map.1 hv
  rfl
theorem ins_get (zs : List Int) (v : Int) (i : Nat) (hi : i ≤ zs.length) (j : Nat) : (zs.take i ++ v :: zs.drop i)[j]? = if j < i then zs[j]? else if j = i then some v else zs[j - 1]? := by
  by_cases h1 : j < i
  · rw [if_pos h1, List.getElem?_append_left (by simp; omega), List.getElem?_take, if_pos h1]
  · rw [if_neg h1, List.getElem?_append_right (by simp; omega)]
    simp only [List.length_take, Nat.min_eq_left hi]
    by_cases h2 : j = i
    · subst h2; simp
    · rw [if_neg h2, show j - i = (j - 1 - i) + 1 from by omega, List.getElem?_cons_succ, List.getElem?_drop]
      congr 1
      omega
set_option maxHeartbeats 1000000 in
theorem f38_one (b c k i vb : Nat) (zs : List Int) (v : Int) (w : World) (hO : OwnI w b c zs) (hk : zs.length = k) (hi : i ≤ k) (hV : Blk w vb 3 #[.int .i64 v]) (hne : vb ≠ b) (hk10 : k ≤ 1000) :
    Calls Tryz.prog 38 #[.slice (some ⟨b, 0, none⟩) k c, .int .i64 i, .slice (some ⟨vb, 0, none⟩) 1 1] w fun e w' => ∃ b' c', e = .returned (.slice (some ⟨b', 0, none⟩) (k + 1 : Nat) c') ∧ OwnI w' b' c' (zs.take i ++ v :: zs.drop i) ∧ (b' = b ∨ b' = w.heap.size) ∧ KeepX b w w' := by
  have hcell := fun j z (h : zs[j]? = some z) => hO.cell h
  obtain ⟨cs, h1, h2, h3, h4, h5⟩ := hO
  have hlen : (zs.take i ++ v :: zs.drop i).length = k + 1 := by simp; omega
  have hcs : ∀ j u, (zs.map iv)[j]? = some u → w.cell? ⟨b, 0 + j, none⟩ = some u := fun j u hj => by
    obtain ⟨z, hz, rfl⟩ := getMap hj
    rw [Nat.zero_add]
    exact hcell j z hz
  have hvs : ∀ j u, ([v].map iv)[j]? = some u → w.cell? ⟨vb, 0 + j, none⟩ = some u := fun j u hj => by
    obtain ⟨z, hz, rfl⟩ := getMap hj
    match j, hz with
    | 0, hz => cases hz; exact hV.cells 0
  have hsome : ∀ j, j < c → (w.cell? ⟨b, 0 + j, none⟩).isSome = true := fun j hj => by
    rw [h1.cells, Nat.zero_add, Array.getElem?_eq_getElem (by omega)]
    rfl
  have hbl := h1.lt
  by_cases hik : i = k
  · subst hik
    have e : zs.take i ++ v :: zs.drop i = zs ++ [v] := by rw [← hk]; simp
    rw [e]
    by_cases hr : i + 1 ≤ c
    · refine (Any2.slices_Insert_int_end_room laysI b 0 i c vb 0 1 1 ([v].map iv) w (by omega) hr h4 rfl (fun j hj => by rw [Nat.zero_add]; have := hsome (i + j) (by omega); rwa [Nat.zero_add] at this) (fun j hj => h1.frozen _) hvs (one1 _)).mono ?_
      rintro e' w' ⟨rfl, rfl⟩
      obtain ⟨cs', g1, g2⟩ := Blk.setCells ([v].map iv) (0 + i) w cs h1
      refine ⟨b, c, rfl, OwnI.of g1 (by omega) (by simp; omega) h4 (fun j z hj => ?_), .inl rfl, (KeepX.refl b w).setCells _ _⟩
      by_cases hj2 : j < i
      · rw [World.cell?_setCells_out _ _ _ _ _ (fun _ _ => .inl (by show j < 0 + i; omega))]
        exact hcell j z (by rw [List.getElem?_append_left (by omega)] at hj; exact hj)
      · obtain rfl : j = i := by
          have := (List.getElem?_eq_some_iff.1 hj).1
          simp at this
          omega
        have := World.cell?_setCells_in b ([v].map iv) (0 + j) w (fun q hq => by rw [Nat.zero_add]; have := hsome (j + q) (by simp at hq; omega); rwa [Nat.zero_add] at this) 0 (by simp)
        simp only [Nat.zero_add, Nat.add_zero] at this ⊢
        rw [this]
        rw [List.getElem?_append_right (by omega), hk, Nat.sub_self] at hj
        cases hj
        rfl
    · refine (Any2.slices_Insert_int_end_grow laysI (some ⟨b, 0, none⟩) i c vb 0 1 1 (zs.map iv) ([v].map iv) w (by omega) (by omega) (by omega) (by omega) (by simpa using hk) rfl (fun h => by cases h) (fun a ha j u hj => by cases ha; rw [Addr.add_lit]; exact hcs j u hj) hvs (one1 _)).mono ?_
      rintro e' w' ⟨rfl, rfl⟩
      have hg := grownCap_ge w (i + 1) c (renI.t 3)
      have hg2 := grownCap_le_maxLen w (i + 1) c (renI.t 3) (by unfold maxLen; omega)
      generalize grownCap w (i + 1) c (renI.t 3) = G at hg hg2 ⊢
      unfold maxLen at hg2
      refine ⟨w.heap.size, G, rfl, OwnI.of (Blk.new' _ _ rfl) (by simp [Builtin.zeroCells, Value.cells]; omega) (by simp; omega) (by omega) (fun j z hj => ?_), .inr rfl, (KeepX.refl b w).drew.alloc _⟩
      have hjl := (List.getElem?_eq_some_iff.1 hj).1
      simp at hjl
      refine ((Blk.new' (w := w.drew) (n := w.heap.size) _ _ rfl).cells j).trans ?_
      rw [Array.getElem?_append_left (by simp; omega), List.getElem?_toArray, ← List.map_append, List.getElem?_map, hj]
      rfl
  · have hik2 : i < k := by omega
    by_cases hr : k + 1 ≤ c
    · refine (Any2.slices_Insert_int_shift laysI b 0 k c i vb 0 1 1 (zs.map iv) ([v].map iv) w hik2 (by omega) hr h4 hne (by simpa using hk) rfl hcs (fun j hj => hsome j (by omega)) (fun j hj => h1.frozen _) hvs (one1 _) (one1 _) 3 3 1 c ?_ ?_ (by omega) (hV.frozen _) (hV.frozen _)).mono ?_
      · unfold Blk at hV; simp [World.shape?, hV]
      · unfold Blk at h1; simp [World.shape?, h1, h2]
      rintro e' w' ⟨rfl, rfl⟩
      obtain ⟨cs1, g1, g2⟩ := Blk.setCells ((zs.map iv).drop i) (0 + (i + 1)) w.drew cs h1.drew
      obtain ⟨cs2, g3, g4⟩ := Blk.setCells ([v].map iv) (0 + i) _ cs1 g1
      have hl1 : ((zs.map iv).drop i).length = k - i := by simp; omega
      refine ⟨b, c, rfl, OwnI.of g3 (by omega) (by omega) h4 (fun j z hj => ?_), .inl rfl, ((KeepX.refl b w).drew.setCells _ _).setCells _ _⟩
      rw [ins_get zs v i (by omega)] at hj
      have hs1 : ∀ j, j < c → (w.drew.cell? ⟨b, j, none⟩).isSome = true := fun j hj => by have := hsome j hj; rwa [Nat.zero_add] at this
      have hs2 : ∀ j, j < c → ((w.drew.setCells b (0 + (i + 1)) ((zs.map iv).drop i)).cell? ⟨b, j, none⟩).isSome = true := fun j hj => by
        rw [g1.cells, Array.getElem?_eq_getElem (by omega)]
        rfl
      by_cases hj1 : j < i
      · rw [if_pos hj1] at hj
        rw [World.cell?_setCells_out _ _ _ _ _ (fun _ _ => .inl (by show j < 0 + i; omega)), World.cell?_setCells_out _ _ _ _ _ (fun _ _ => .inl (by show j < 0 + (i + 1); omega))]
        exact hcell j z hj
      · rw [if_neg hj1] at hj
        by_cases hj2 : j = i
        · subst hj2
          rw [if_pos rfl] at hj
          cases hj
          have := World.cell?_setCells_in b ([v].map iv) (0 + j) _ (fun q hq => hs2 (0 + j + q) (by simp at hq; omega)) 0 (by simp)
          simp only [Nat.zero_add, Nat.add_zero] at this ⊢
          rw [this]
          rfl
        · rw [if_neg hj2] at hj
          have hjl := (List.getElem?_eq_some_iff.1 hj).1
          rw [World.cell?_setCells_out _ _ _ _ _ (fun _ _ => .inr (by show 0 + i + _ ≤ j; simp; omega))]
          have := World.cell?_setCells_in b ((zs.map iv).drop i) (0 + (i + 1)) w.drew (fun q hq => hs1 _ (by omega)) (j - (i + 1)) (by omega)
          rw [show 0 + (i + 1) + (j - (i + 1)) = j from by omega] at this
          rw [this]
          rw [List.getElem_drop, List.getElem_map]
          have e3 : zs[i + (j - (i + 1))]? = some z := by rw [show i + (j - (i + 1)) = j - 1 from by omega]; exact hj
          rw [List.getElem?_eq_some_iff] at e3
          obtain ⟨_, e3⟩ := e3
          rw [e3]
    · refine (Any2.slices_Insert_int_grow laysI b 0 k c i vb 0 1 1 (zs.map iv) ([v].map iv) w hik2 (by omega) (by omega) (by omega) (by omega) (by simpa using hk) rfl hcs hvs (one1 _) (one1 _)).mono ?_
      rintro e' w' ⟨rfl, rfl⟩
      have hg := grownCap_ge w (k + 1) c (renI.t 3)
      have hg2 := grownCap_le_maxLen w (k + 1) c (renI.t 3) (by unfold maxLen; omega)
      generalize grownCap w (k + 1) c (renI.t 3) = G at hg hg2 ⊢
      unfold maxLen at hg2
      obtain ⟨ROW, hROW⟩ : ∃ ROW : Array Value, ((zs.map iv).take i).toArray ++ Builtin.zeroCells (Value.int .i64 0).cells (k + 1 - i) ++ Builtin.zeroCells (Value.int .i64 0).cells (G - (k + 1)) = ROW := ⟨_, rfl⟩
      have hRs : ROW.size = G := by rw [← hROW]; simp [Builtin.zeroCells, Value.cells]; omega
      rw [hROW]
      have hRg : ∀ j z, j < i → zs[j]? = some z → ROW[j]? = some (iv z) := fun j z hj hz => by
        rw [← hROW, Array.getElem?_append_left (by simp [Builtin.zeroCells, Value.cells]; omega), Array.getElem?_append_left (by simp; omega), List.getElem?_toArray, List.getElem?_take, if_pos hj, List.getElem?_map, hz]
        rfl
      clear hROW
      have b0 : Blk (w.alloc (.cells ROW (renI.t 3))).drew w.heap.size 3 ROW := (Blk.new' 3 ROW rfl).drew
      obtain ⟨cs1, g1, g2⟩ := Blk.setCells ([v].map iv) i _ ROW b0
      obtain ⟨cs2, g3, g4⟩ := Blk.setCells ((zs.map iv).drop i) (i + 1) _ cs1 g1.drew
      have hl1 : ((zs.map iv).drop i).length = k - i := by simp; omega
      have hs1 : ∀ j, j < G → ((w.alloc (.cells ROW (renI.t 3))).drew.cell? ⟨w.heap.size, j, none⟩).isSome = true := fun j hj => by
        rw [b0.cells, Array.getElem?_eq_getElem (by omega)]
        rfl
      have hs2 : ∀ j, j < G → ((((w.alloc (.cells ROW (renI.t 3))).drew.setCells w.heap.size i ([v].map iv)).drew).cell? ⟨w.heap.size, j, none⟩).isSome = true := fun j hj => by
        rw [g1.drew.cells, Array.getElem?_eq_getElem (by omega)]
        rfl
      refine ⟨w.heap.size, G, rfl, OwnI.of g3 (by omega) (by omega) (by omega) (fun j z hj => ?_), .inr rfl, (((((KeepX.refl b w).alloc _).drew.setCellsOwn (Nat.le_refl _) _ _).drew).setCellsOwn (Nat.le_refl _) _ _)⟩
      rw [ins_get zs v i (by omega)] at hj
      by_cases hj1 : j < i
      · rw [if_pos hj1] at hj
        rw [World.cell?_setCells_out _ _ _ _ _ (fun _ _ => .inl (by show j < i + 1; omega))]
        refine (World.cell?_setCells_out _ _ _ _ _ (fun _ _ => .inl (by show j < i; omega))).trans ?_
        rw [b0.cells]
        exact hRg j z hj1 hj
      · rw [if_neg hj1] at hj
        by_cases hj2 : j = i
        · subst hj2
          rw [if_pos rfl] at hj
          cases hj
          rw [World.cell?_setCells_out _ _ _ _ _ (fun _ _ => .inl (by show j < j + 1; omega))]
          have := World.cell?_setCells_in w.heap.size ([v].map iv) j _ (fun q hq => hs1 (j + q) (by simp at hq; omega)) 0 (by simp)
          simp only [Nat.add_zero] at this
          exact this
        · rw [if_neg hj2] at hj
          have hjl := (List.getElem?_eq_some_iff.1 hj).1
          have := World.cell?_setCells_in w.heap.size ((zs.map iv).drop i) (i + 1) _ (fun q hq => hs2 _ (by omega)) (j - (i + 1)) (by omega)
          rw [show i + 1 + (j - (i + 1)) = j from by omega] at this
          rw [this]
          rw [List.getElem_drop, List.getElem_map]
          have e3 : zs[i + (j - (i + 1))]? = some z := by rw [show i + (j - (i + 1)) = j - 1 from by omega]; exact hj
          rw [List.getElem?_eq_some_iff] at e3
          obtain ⟨_, e3⟩ := e3
          rw [e3]
/-- the first one -/
theorem f38_nil (vb : Nat) (v : Int) (w : World) (hV : Blk w vb 3 #[.int .i64 v]) :
    Calls Tryz.prog 38 #[.slice none 0 0, .int .i64 0, .slice (some ⟨vb, 0, none⟩) 1 1] w fun e w' => ∃ c', e = .returned (.slice (some ⟨w.heap.size, 0, none⟩) 1 c') ∧ OwnI w' w.heap.size c' [v] ∧ Below w.heap.size w w' := by
  have hvs : ∀ j u, ([v].map iv)[j]? = some u → w.cell? ⟨vb, 0 + j, none⟩ = some u := fun j u hj => by
    obtain ⟨z, hz, rfl⟩ := getMap hj
    match j, hz with
    | 0, hz => cases hz; exact hV.cells 0
  refine (Any2.slices_Insert_int_end_grow laysI none 0 0 vb 0 1 1 [] ([v].map iv) w (by omega) (by omega) (by omega) (by omega) rfl rfl (fun _ => rfl) (fun a ha => by cases ha) hvs (one1 _)).mono ?_
  rintro e' w' ⟨rfl, rfl⟩
  have hg := grownCap_ge w (0 + 1) 0 (renI.t 3)
  have hg2 := grownCap_le_maxLen w (0 + 1) 0 (renI.t 3) (by unfold maxLen; omega)
  generalize grownCap w (0 + 1) 0 (renI.t 3) = G at hg hg2 ⊢
  unfold maxLen at hg2
  refine ⟨G, rfl, OwnI.of (Blk.new' _ _ rfl) (by simp [Builtin.zeroCells, Value.cells]; omega) (by simp; omega) (by omega) (fun j z hj => ?_), (Below.refl _ _).drew.alloc (Nat.le_refl _) _⟩
  have hjl := (List.getElem?_eq_some_iff.1 hj).1
  simp at hjl
  subst hjl
  cases hj
  refine ((Blk.new' (w := w.drew) (n := w.heap.size) _ _ rfl).cells 0).trans ?_
  rw [Array.getElem?_append_left (by simp)]
  rfl
end
end Go.Proofs.YtdfgmmjcamhdjaaGreatDoor
