/- Steps to WholeMatrices' card; what each asks stands in it. -/
import Derived.Test.YtdfgmmjcamhdjaaGreatDoorA08
import Derived.Test.YtdfgmmjcamhdjaaGreatDoorA18
set_option linter.unusedVariables false
set_option linter.unusedSimpArgs false
namespace Go.Proofs.YtdfgmmjcamhdjaaGreatDoor
open Go.RowKit
attribute [local go_sem ↓] Go.wp_at_zero Go.wp_at_succ
theorem StoreAt.keepX {w w' : World} {B b n : Nat} (h : StoreAt w B n) (hk : KeepX b w w') (hlt : B < b) : StoreAt w' B n := by
  obtain ⟨⟨A, n0, c, k, st, h1, h2, h3, h4, h5, h6⟩⟩ := h
  refine ⟨⟨A, n0, c, k, st, h1.keepX hk (by omega), h2, h3, h4, h5, fun h => ?_⟩⟩
  obtain ⟨b', off, e, g1, g3⟩ := h6 h
  refine ⟨b', off, e, g1, fun i hi => ?_⟩
  obtain ⟨v, a1, a2, a3⟩ := g3 i hi
  exact ⟨v, a1, a2, (hk.cell (p := ⟨b', off + i, none⟩) (Nat.lt_trans g1 h1.lt) (by show b' ≠ b; omega)).trans a3⟩
theorem KeepX.own {B b : Nat} {a w w' : World} (h : KeepX B a w) (hk : KeepX b w w') (hb : a.heap.size ≤ b) : KeepX B a w' :=
  ⟨hk.os.trans h.os, hk.tape.trans h.tape, hk.output.trans h.output, Nat.le_trans h.size hk.size, fun i hi hne => (hk.block i (Nat.lt_of_lt_of_le hi h.size) (by omega)).trans (h.block i hi hne)⟩
theorem OwnI.keepX {w w' : World} {B b c : Nat} {zs : List Int} (h : OwnI w b c zs) (hk : KeepX B w w') (hne : b ≠ B) : OwnI w' b c zs := by
  obtain ⟨cs, h1, h2⟩ := h
  exact ⟨cs, h1.keepX hk hne, h2⟩
theorem OwnI.alloc {w : World} {b c : Nat} {zs : List Int} (h : OwnI w b c zs) (o : Obj) : OwnI (w.alloc o) b c zs := by
  obtain ⟨cs, h1, h2⟩ := h
  exact ⟨cs, h1.alloc o, h2⟩
theorem OwnI.below {w w' : World} {b c : Nat} {zs : List Int} (h : OwnI w b c zs) (hb : Below w.heap.size w w') : OwnI w' b c zs := by
  obtain ⟨cs, h1, h2⟩ := h
  exact ⟨cs, h1.below hb, h2⟩
theorem OwnI.lt {w : World} {b c : Nat} {zs : List Int} (h : OwnI w b c zs) : b < w.heap.size := by
  obtain ⟨cs, h1, h2⟩ := h
  exact h1.lt
def zInts (zs : List Nat) : List Int := zs.map fun (z : Nat) => ((z : Nat) : Int)
theorem zInts_ins (zs : List Nat) (i v : Nat) : (zInts zs).take i ++ (v : Int) :: (zInts zs).drop i = zInts (zs.take i ++ v :: zs.drop i) := by simp [zInts]
/-- what a growing list of ints is: nil, or a block of one's own -/
def Grows (w : World) (lo k : Nat) (zs : List Nat) (s : Value) : Prop := zs.length = k ∧ ((k = 0 ∧ s = .slice none 0 0) ∨ ∃ b c, lo ≤ b ∧ s = .slice (some ⟨b, 0, none⟩) k c ∧ OwnI w b c (zInts zs))
theorem perm_ins {zs : List Nat} {k i : Nat} (h : zs.Perm (List.range k)) : (zs.take i ++ k :: zs.drop i).Perm (List.range (k + 1)) := by
  rw [List.range_succ]
  refine List.perm_middle.trans ?_
  rw [List.take_append_drop]
  exact (List.Perm.cons k h).trans (List.perm_append_singleton k _).symm
set_option maxHeartbeats 1000000 in
set_option maxRecDepth 100000 in
theorem f8_any (B nx n : Nat) (w : World) (hS : StoreAt w B nx) (hx : nx ≤ 999990000) (hn : 1 ≤ n) (hn6 : n ≤ 100) :
    Calls Tryz.prog 8 #[.pointer (some ⟨B, 0, none⟩), .int .i64 n] w fun e w' => ∃ zs, zs.Perm (List.range n) ∧ ∃ b c, e = .returned (.slice (some ⟨b, 0, none⟩) n c) ∧ OwnI w' b c (zInts zs) ∧ w.heap.size ≤ b ∧ StoreAt w' B (nx + n) ∧ KeepX B w w' := by
  have hBl := hS.lt
  go_enter Tryz.func8, Tryz.ntmps8
  go_wp2
  go_loopg [5, 8] n (fun gg s5 s8 wr => ∃ kk : Nat, kk ≤ n ∧ n - kk ≤ gg ∧ s8 = .int .i64 kk ∧ Aside (∃ zs, Grows wr w.heap.size kk zs s5 ∧ zs.Perm (List.range kk)) ∧ Aside (StoreAt wr B (nx + kk)) ∧ Aside (KeepX B w wr))
  case atStart => exact ⟨0, Nat.zero_le _, by omega, rfl, ⟨[], ⟨rfl, .inl ⟨rfl, rfl⟩⟩, List.Perm.refl _⟩, hS, KeepX.refl _ _⟩
  case round =>
    obtain ⟨kk, hkk, hg, rfl, AG, AS, AK⟩ := hrel
    obtain ⟨zs, ⟨hlen, hG⟩, hP⟩ := AG.out
    have hS1 := AS.out
    have hK1 := AK.out
    clear AG AS AK
    by_cases hlt : kk < n
    · have hltz : (kk : Int) < (n : Int) := by omega
      have H5 : Calls Tryz.prog 5 #[.pointer (some ⟨B, 0, none⟩), .int .i64 ((kk : Int) + 1)] wr fun e w' => ∃ v : Nat, v < kk + 1 ∧ e = .returned (.int .i64 v) ∧ StoreAt w' B (nx + kk + 1) ∧ KeepX B wr w' := f5_any B (nx + kk) (kk + 1) wr hS1 (by omega) (by omega) (by omega)
      obtain ⟨h0, rfl⟩ | ⟨b, c, hlo, rfl, hO⟩ := hG
      · subst h0
        obtain rfl : zs = [] := List.eq_nil_of_length_eq_zero hlen
        have H5 : Calls Tryz.prog 5 #[.pointer (some ⟨B, 0, none⟩), .int .i64 1] wr fun e w' => ∃ v : Nat, v < 1 ∧ e = .returned (.int .i64 v) ∧ StoreAt w' B (nx + 0 + 1) ∧ KeepX B wr w' := H5
        clear hkk
        go_wp2_with (first
          | (go_at_call 5; refine H5.mono ?_; clear H5; rintro e w1 ⟨v, hv, rfl, hS2, hK2⟩; obtain rfl : v = 0 := (by omega); have hV := Blk.new w1 3 #[.int .i64 0])
          | (go_at_call 38; refine (f38_nil _ 0 _ hV).mono ?_; rintro e w2 ⟨c', rfl, hO2, hb2⟩))
        have hO2 : OwnI w2 (w1.heap.size + 1) c' (zInts [0]) := by have h := hO2; rw [show (w1.alloc (.cells #[.int .i64 0] 3)).heap.size = w1.heap.size + 1 from by simp] at h; exact h
        have hS3 := (hS2.below ((Below.refl _ _).alloc (Nat.le_refl _) (.cells #[.int .i64 0] 3))).below hb2
        have hK3 := ((hK1.trans hK2).alloc (.cells #[.int .i64 0] 3)).below hb2
        have hsz := (hK1.trans hK2).size
        go_roundg (n - (0 + 1))
        case measure => omega
        case rel => exact ⟨1, by omega, by omega, by go_num, (show Aside _ from ⟨[0], ⟨rfl, .inr ⟨_, c', by omega, by simp, hO2⟩⟩, List.Perm.refl _⟩), (show Aside _ from hS3), (show Aside _ from hK3)⟩
      · have hne : b ≠ B := by omega
        go_wp2_with (first
          | (go_at_call 5; refine H5.mono ?_; clear H5; rintro e w1 ⟨v, hv, rfl, hS2, hK2⟩; have hV := Blk.new w1 3 #[.int .i64 kk]; have hO1 := (hO.keepX hK2 hne).alloc (.cells #[.int .i64 kk] 3); have hbl : w1.heap.size ≠ b := (by have := (hO.keepX hK2 hne).lt; omega))
          | (go_at_call 38; refine (f38_one b c kk v _ (zInts zs) kk _ hO1 (by simpa [zInts] using hlen) (by omega) hV hbl (by omega)).mono ?_; rintro e w2 ⟨b', c', rfl, hO2, hb', hk2⟩))
        have hS3 := (hS2.below ((Below.refl _ _).alloc (Nat.le_refl _) (.cells #[.int .i64 kk] 3))).keepX hk2 (by omega)
        have hK3 := ((hK1.trans hK2).alloc (.cells #[.int .i64 kk] 3)).own hk2 hlo
        have hsz := (hK1.trans hK2).size
        rw [zInts_ins] at hO2
        go_roundg (n - (kk + 1))
        case measure => omega
        case rel => exact ⟨kk + 1, by omega, by omega, by go_num, (show Aside _ from ⟨zs.take v ++ kk :: zs.drop v, ⟨by simp; omega, .inr ⟨b', c', by obtain rfl | rfl := hb'; exact hlo; simp; omega, rfl, hO2⟩⟩, perm_ins hP⟩), (show Aside _ from hS3), (show Aside _ from hK3)⟩
    · have hltz : ¬ (kk : Int) < (n : Int) := by omega
      obtain rfl : kk = n := by omega
      obtain ⟨h0, rfl⟩ | ⟨b, c, hlo, rfl, hO⟩ := hG
      · omega
      clear hlt
      go_wp2
      go_ret
      exact ⟨zs, hP, b, c, rfl, hO, hlo, hS1, hK1⟩
/-- a gate -/
structure Gt where
  k : Nat
  ws : List Nat
/-- a gate that takes basis states to basis states, on right wires -/
structure Gt.ok (g : Gt) (n : Nat) : Prop where
  k1 : 1 ≤ g.k
  k2 : g.k ≤ 12
  k3 : g.k ≠ 4
  len : g.ws.length = arK g.k
  lt : ∀ i ∈ g.ws, i < n
  nd : g.ws.Nodup
theorem f66_1 (w : World) : Calls Tryz.prog 66 #[.int .i64 1] w fun e w' => e = .returned (.int .i64 1) ∧ w' = w := f66_any 1 w (by decide) (by decide)
theorem OwnI.far {w : World} {b c : Nat} {zs : List Int} (h : OwnI w b c zs) {p : Addr} (hp : b ≠ p.block) (u : Value) : OwnI (w.setCell p u) b c zs := by
  obtain ⟨cs, h1, h2⟩ := h
  exact ⟨cs, h1.far hp u, h2⟩
theorem ownI_take {w : World} {b c : Nat} {zs : List Nat} (h : OwnI w b c (zInts zs)) (m : Nat) : OwnI w b c (zInts (zs.take m)) := by
  obtain ⟨cs, h1, h2, h3, h4, h5⟩ := h
  refine ⟨cs, h1, h2, ?_, h4, fun j z hj => h5 j z ?_⟩
  · simp [zInts] at h3 ⊢; omega
  · unfold zInts at hj ⊢
    rw [List.map_take, List.getElem?_take] at hj
    split at hj
    · exact hj
    · cases hj
set_option maxHeartbeats 1000000 in
set_option maxRecDepth 100000 in
theorem f23_any (B nx n kb : Nat) (w : World) (hS : StoreAt w B nx) (hx : nx ≤ 999980000) (hn : 1 ≤ n) (hn6 : n ≤ 6) (hK : Blk w kb 3 kinds3) (hkB : kb ≠ B) :
    Calls Tryz.prog 23 #[.pointer (some ⟨B, 0, none⟩), .int .i64 n, .slice (some ⟨kb, 0, none⟩) 12 12] w fun e w' => ∃ g, Gt.ok g n ∧ ∃ b c, e = .returned (.agg #[.int .i64 g.k, .slice (some ⟨b, 0, none⟩) g.ws.length c, .int .i64 0, .int .i64 0]) ∧ OwnI w' b c (zInts g.ws) ∧ w.heap.size ≤ b ∧ StoreAt w' B (nx + 10) ∧ KeepX B w w' := by
  have hBl := hS.lt
  have hb0 : Below w.heap.size w (w.alloc (.cells #[.int .i64 0, .slice none 0 0, .int .i64 0, .int .i64 0] 45)) := (Below.refl _ _).alloc (Nat.le_refl _) _
  have hR0 := Blk.new w 45 #[.int .i64 0, .slice none 0 0, .int .i64 0, .int .i64 0]
  have hkinds : ∀ v, v < 12 → ∃ kd : Nat, kinds3[v]? = some (.int .i64 kd) ∧ 1 ≤ kd ∧ kd ≤ 12 ∧ kd ≠ 4 := by
    intro v hv
    have h : v = 0 ∨ v = 1 ∨ v = 2 ∨ v = 3 ∨ v = 4 ∨ v = 5 ∨ v = 6 ∨ v = 7 ∨ v = 8 ∨ v = 9 ∨ v = 10 ∨ v = 11 := by omega
    obtain rfl | rfl | rfl | rfl | rfl | rfl | rfl | rfl | rfl | rfl | rfl | rfl := h
    · exact ⟨1, rfl, by omega⟩
    · exact ⟨2, rfl, by omega⟩
    · exact ⟨3, rfl, by omega⟩
    · exact ⟨5, rfl, by omega⟩
    · exact ⟨6, rfl, by omega⟩
    · exact ⟨7, rfl, by omega⟩
    · exact ⟨8, rfl, by omega⟩
    · exact ⟨9, rfl, by omega⟩
    · exact ⟨10, rfl, by omega⟩
    · exact ⟨11, rfl, by omega⟩
    · exact ⟨12, rfl, by omega⟩
    · exact ⟨12, rfl, by omega⟩
  have H5 := f5_any B nx 12 _ (hS.below hb0) (by omega) (by omega) (by omega)
  have H8 := fun W hW => f8_any B (nx + 1) n W hW (by omega) hn (by omega)
  clear hx
  have harl : ∀ k, 1 ≤ arK k ∧ arK k ≤ 3 := by intro k; unfold arK; split; omega; split <;> omega
  go_enter Tryz.func23, Tryz.ntmps23
  go_wp2_with (first
    | (go_at_call 5; refine H5.mono ?_; clear H5; rintro e w1 ⟨v, hv, rfl, hS1, hK1⟩; obtain ⟨kd, hkd, hk1, hk2, hk4⟩ := hkinds v hv; clear hkinds; have hz : (v : Int) < 12 := (by omega); have hR1 := hR0.keepX hK1 (by omega); have hK01 := (KeepX.of_below (B := B) hb0).trans hK1; have hcell : w1.cell? ⟨kb, v, none⟩ = some (.int .i64 kd) := (((hK.below hb0).keepX hK1 hkB).cells v).trans hkd; have hcell0 : w1.cell? ⟨kb, 0, none⟩ = some (.int .i64 1) := (((hK.below hb0).keepX hK1 hkB).cells 0)))
  refine (f66_any kd _ hk1 hk2).mono ?_
  rintro e w3 ⟨rfl, rfl⟩
  by_cases hlt : arK kd ≤ n
  · have hak := hlt
    have hakz : ¬ ((n : Int) < (arK kd : Int)) := by omega
    go_wp2_with (fail)
    refine (H8 _ hS1).mono ?_
    rintro e w2 ⟨zs, hP, b, c, rfl, hO2, hb2, hS2, hK2⟩
    have hzl : zs.length = n := by have := hP.length_eq; simpa using this
    have hc : n ≤ c := by obtain ⟨_, _, _, h, _⟩ := hO2; simp [zInts] at h; omega
    have hR2 := hR1.keepX hK2 (by omega)
    have hK12 := hK01.trans hK2
    have cR2 := hR2.cells
    have fR2 := hR2.frozen
    have lR2 := hR2.lt
    have hbR : w.heap.size + 1 ≤ b := Nat.le_trans (by have := hK1.size; simpa using this) hb2
    obtain ⟨m, hm⟩ : ∃ m, arK kd = m := ⟨_, rfl⟩
    rw [hm] at hak
    have hmz : (m : Int) ≤ (c : Int) := by omega
    go_wp2_with (go_at_call 66; refine (f66_any kd _ hk1 hk2).mono ?_; rintro e w3 ⟨rfl, rfl⟩; rw [hm])
    have hF := ((((hR2.set 0 (.int .i64 kd)).set 1 (.slice (some ⟨b, 0, none⟩) m c)).set 2 (.int .i64 0)).set 3 (.int .i64 0))
    have cF := hF.cells
    have hl : (zs.take m).length = m := by simp; omega
    refine bodyPost_ret (v := .agg #[.int .i64 kd, .slice (some ⟨b, 0, none⟩) m c, .int .i64 0, .int .i64 0]) (by simp [results, Tryz.results23, go_sem, cF]) rfl ⟨⟨kd, zs.take m⟩, ⟨hk1, hk2, hk4, by show (zs.take m).length = _; rw [hl, hm], fun i hi => by have := hP.mem_iff.1 (List.mem_of_mem_take hi); simpa using this, (hP.nodup_iff.2 List.nodup_range).sublist (List.take_sublist _ _)⟩, b, c, by simp [hl], ?_, by omega, ?_, ?_⟩
    · exact ((((ownI_take hO2 m).far (by simp; omega) _).far (by simp; omega) _).far (by simp; omega) _).far (by simp; omega) _
    · exact ((((hS2.mono (by omega)).far (by simp; omega) _).far (by simp; omega) _).far (by simp; omega) _).far (by simp; omega) _
    · exact (((hK12.setOwn (by simp) _).setOwn (by simp) _).setOwn (by simp) _).setOwn (by simp) _
  · have hakz : ((n : Int) < (arK kd : Int)) := by omega
    have hak : arK 1 ≤ n := by show 1 ≤ n; omega
    go_wp2_with (fail)
    refine (H8 _ hS1).mono ?_
    rintro e w2 ⟨zs, hP, b, c, rfl, hO2, hb2, hS2, hK2⟩
    have hzl : zs.length = n := by have := hP.length_eq; simpa using this
    have hc : n ≤ c := by obtain ⟨_, _, _, h, _⟩ := hO2; simp [zInts] at h; omega
    have hR2 := hR1.keepX hK2 (by omega)
    have hK12 := hK01.trans hK2
    have cR2 := hR2.cells
    have fR2 := hR2.frozen
    have lR2 := hR2.lt
    have hbR : w.heap.size + 1 ≤ b := Nat.le_trans (by have := hK1.size; simpa using this) hb2
    have hmz : (1 : Int) ≤ (c : Int) := by omega
    go_wp2_with (go_at_call 66; refine (f66_1 _).mono ?_; rintro e w3 ⟨rfl, rfl⟩)
    have hF := ((((hR2.set 0 (.int .i64 1)).set 1 (.slice (some ⟨b, 0, none⟩) 1 c)).set 2 (.int .i64 0)).set 3 (.int .i64 0))
    have cF := hF.cells
    have hl : (zs.take 1).length = 1 := by simp; omega
    refine bodyPost_ret (v := .agg #[.int .i64 1, .slice (some ⟨b, 0, none⟩) 1 c, .int .i64 0, .int .i64 0]) (by simp [results, Tryz.results23, go_sem, cF]) rfl ⟨⟨1, zs.take 1⟩, ⟨(by show 1 ≤ 1; omega), (by show 1 ≤ 12; omega), (by show 1 ≠ 4; omega), by show (zs.take 1).length = _; rw [hl]; rfl, fun i hi => by have := hP.mem_iff.1 (List.mem_of_mem_take hi); simpa using this, (hP.nodup_iff.2 List.nodup_range).sublist (List.take_sublist _ _)⟩, b, c, by simp [hl], ?_, by omega, ?_, ?_⟩
    · exact ((((ownI_take hO2 1).far (by simp; omega) _).far (by simp; omega) _).far (by simp; omega) _).far (by simp; omega) _
    · exact ((((hS2.mono (by omega)).far (by simp; omega) _).far (by simp; omega) _).far (by simp; omega) _).far (by simp; omega) _
    · exact (((hK12.setOwn (by simp) _).setOwn (by simp) _).setOwn (by simp) _).setOwn (by simp) _
end Go.Proofs.YtdfgmmjcamhdjaaGreatDoor
