/- Steps to WholeMatrices' card; what each asks stands in it. -/
import Derived.Test.YtdfgmmjcamhdjaaGreatDoorA24
set_option linter.unusedVariables false
set_option linter.unusedSimpArgs false
namespace Go.Proofs.YtdfgmmjcamhdjaaGreatDoor
section
open Go.RowKit
attribute [local go_sem ↓] Go.wp_at_zero Go.wp_at_succ run_eqN
/-- what is there of the state after a gate, when x rows are done -/
def appR (F : Nat → Num) (x j : Nat) : Num := if j < x then F j else Num.zero
theorem appR_put (F : Nat → Num) (x : Nat) : put1 (appR F x) x (F x) = appR F (x + 1) := by
  funext j
  unfold put1 appR
  by_cases h : j = x
  · subst h; rw [if_pos rfl, if_pos (by omega)]
  · rw [if_neg h]
    by_cases h2 : j < x
    · rw [if_pos h2, if_pos (by omega)]
    · rw [if_neg h2, if_neg (by omega)]
theorem w_ne : ∀ a : Nat, a < 8 → ((Num.w a).q.a == 0 && ((Num.w a).q.b == 0 && ((Num.w a).q.c == 0 && ((Num.w a).q.d == 0 && (((Num.w a).k : Nat) : Int) == 0)))) = false := by decide +kernel
theorem w_ok (a : Nat) (h : a < 8) : (Num.w a).ok ∧ (Num.w a).q.Le 536870912 := by
  unfold Num.ok okN Q.Le
  obtain rfl | rfl | rfl | rfl | rfl | rfl | rfl | rfl : a = 0 ∨ a = 1 ∨ a = 2 ∨ a = 3 ∨ a = 4 ∨ a = 5 ∨ a = 6 ∨ a = 7 := by omega
  all_goals decide +kernel
theorem z_ok : Num.zero.ok ∧ Num.zero.q.Le 536870912 := by
  unfold Num.ok okN Q.Le
  decide +kernel
theorem RowB.below1 {w w' : World} {b n m : Nat} {f : Nat → Num} (h : RowB w b n f) (hb : Below m w w') (hm : b < m) : RowB w' b n f := by
  obtain ⟨cs, q1, q2, q3⟩ := h
  exact ⟨cs, (hb.block b hm).trans q1, q2, q3⟩
theorem dec_succ {cc col : Nat} (h : ¬ cc = col) : decide (cc ≤ col) = decide (cc + 1 ≤ col) := by
  rw [decide_eq_decide]
  omega
theorem ite_succ {α : Type} {cc col : Nat} (h : ¬ cc = col) (A B : α) : (if cc ≤ col then A else B) = if cc + 1 ≤ col then A else B := by
  by_cases h1 : cc ≤ col
  · rw [if_pos h1, if_pos (by omega)]
  · rw [if_neg h1, if_neg (by omega)]
set_option maxHeartbeats 4000000 in
set_option maxRecDepth 100000 in
theorem f120_any (mb : Nat) (g : Gt) (b c vb n N t p : Nat) (w : World) (hn : n ≤ 6) (hN : Hid (2 ^ n = N)) (hg : Gt.ok g n) (hW : WiresAt w b g.ws) (hc : g.ws.length ≤ c) (hO : OpsAt mb w) (hv : RowB w vb N (stV t p)) (ht : t < N) (hp : p < 8) :
    Calls Tryz.prog 120 #[.map (some mb), .slice (some ⟨vb, 0, none⟩) N N, gtV g b c] w fun e w' => ∃ B, w.heap.size ≤ B ∧ e = .returned (.tuple #[.slice (some ⟨B, 0, none⟩) N N, .int .i64 0]) ∧ RowB w' B N (appR (appF g t p) N) ∧ OpsAt mb w' ∧ KeepX mb w w' := by
  obtain ⟨g1, g2, g3, hlen, hlt, hnd⟩ := hg
  obtain ⟨k, ws⟩ := g
  dsimp only at *
  obtain ⟨F, hF⟩ : ∃ F, appF ⟨k, ws⟩ t p = F := ⟨_, rfl⟩
  rw [hF]
  unfold gtV
  dsimp only
  obtain ⟨m, hm⟩ : ∃ m, ws.length = m := ⟨_, rfl⟩
  have hbd := arK_bd k g1 g2
  have hD := dimK_pow k g1 g2
  have hopm := opM_at k g1 g2 g3
  rw [← hlen, hm] at hD
  rw [← hlen, hm] at hbd
  rw [hm] at hc ⊢
  clear hlen hnd
  have hNb : 2 ^ n ≤ 64 := Nat.pow_le_pow_right (n := 2) (by decide) hn
  rw [hN.out] at hNb
  have hvm : vb ≠ mb := fun e => by
    obtain ⟨es, c', h1, _⟩ := hO
    obtain ⟨cs, h2, _⟩ := hv
    unfold Blk at h2
    rw [e, h1] at h2
    cases h2
  have hbm : ∀ j q, ws[j]? = some q → b ≠ mb := fun j q hj e => by
    obtain ⟨es, c', h1, _⟩ := hO
    obtain ⟨cs, T, f, hb⟩ := cells_of_cell (hW.2 j q hj)
    rw [show (Addr.mk b j none).block = b from rfl, e, h1] at hb
    cases hb
  have hl : ∀ j, j < m → ws.getD j 0 < 6 := fun j hj => by
    rw [List.getD_eq_getElem?_getD, List.getElem?_eq_getElem (by omega : j < ws.length), Option.getD_some]
    exact Nat.lt_of_lt_of_le (hlt _ (List.getElem_mem _)) hn
  have hln : ∀ j, j < m → ws.getD j 0 < n := fun j hj => by
    rw [List.getD_eq_getElem?_getD, List.getElem?_eq_getElem (by omega : j < ws.length), Option.getD_some]
    exact hlt _ (List.getElem_mem _)
  have hbA : Below w.heap.size w (w.alloc (.cells #[.int .i64 k, .slice (some ⟨b, 0, none⟩) m c, .int .i64 0, .int .i64 0] 45)) := (Below.refl _ w).alloc (Nat.le_refl _) _
  have hG0 : Blk (w.alloc (.cells #[.int .i64 k, .slice (some ⟨b, 0, none⟩) m c, .int .i64 0, .int .i64 0] 45)) w.heap.size 45 #[.int .i64 k, .slice (some ⟨b, 0, none⟩) m c, .int .i64 0, .int .i64 0] := Blk.new w 45 #[.int .i64 k, .slice (some ⟨b, 0, none⟩) m c, .int .i64 0, .int .i64 0]
  have hO0 := hO.below hbA
  have H146 := f146_any mb k _ hO0 g1 g2
  obtain ⟨D, hDe⟩ : ∃ D, dimK k = D := ⟨_, rfl⟩
  rw [hDe] at H146 hD hopm
  clear hDe
  have hD8 : D ≤ 8 := by rw [← hD]; exact Nat.pow_le_pow_right (n := 2) (by decide) hbd.2
  have hlO := hO.lt
  have hmk := fun w => mk72 N w (by omega)
  have hv0 := hv.below hbA
  have hW0 := hW.below hbA hW.1
  clear hlt
  go_enter Tryz.func120, Tryz.ntmps120
  go_wp2_with (go_at_call 146; refine H146.mono ?_; clear H146; rintro e w1 ⟨ob, oo, rfl, hOp, hO1, hk1⟩; have hGb1 := hG0.keepX hk1 (by omega); have cG1 := hGb1.cells)
  obtain ⟨rb, ro, rc, HM⟩ : ∃ rb ro rc, MatIn w1 ob oo rb ro rc D D (opM k) := by
    obtain ⟨b', off', rb, ro, rc, e, H⟩ := hOp
    cases e
    exact ⟨rb, ro, rc, H⟩
  have hs1 := hk1.size
  rw [show (w.alloc (.cells #[.int .i64 k, .slice (some ⟨b, 0, none⟩) m c, .int .i64 0, .int .i64 0] 45)).heap.size = w.heap.size + 1 from by simp] at hs1
  have hv1 : RowB w1 vb N (stV t p) := by
    obtain ⟨cs, q1, q2, q3⟩ := hv0
    exact ⟨cs, q1.keepX hk1 hvm, q2, q3⟩
  have HC1 : ∀ j, j < m → w1.cell? ⟨b, j, none⟩ = some (.int .i64 (ws.getD j 0)) := fun j hj => by
    have hq : ws[j]? = some (ws.getD j 0) := by rw [List.getD_eq_getElem?_getD, List.getElem?_eq_getElem (by omega : j < ws.length)]; rfl
    exact (hk1.cell (p := ⟨b, j, none⟩) hW0.1 (hbm j _ hq)).trans (hW0.2 j _ hq)
  have hlb : b < w1.heap.size := Nat.lt_of_lt_of_le hW0.1 hk1.size
  have hlv := hv1.lt
  have hlg := hGb1.lt
  obtain ⟨w2, hw2⟩ : ∃ w2, w1.alloc (.cells (zrow N) 38) = w2 := ⟨_, rfl⟩
  have hB2 : RowB w2 w1.heap.size N (appR F 0) := by
    rw [← hw2]
    exact RowB.zero (Blk.new _ _ _)
  have hb2 : Below w1.heap.size w1 w2 := by
    rw [← hw2]
    exact (Below.refl _ _).alloc (Nat.le_refl _) _
  rw [hw2]
  have HOut : Aside (w.heap.size ≤ w1.heap.size ∧ OpsAt mb w1 ∧ KeepX mb w w1) := ⟨by omega, hO1, (KeepX.of_below hbA).trans hk1⟩
  have HCA : Aside (∀ j, j < m → w1.cell? ⟨b, j, none⟩ = some (.int .i64 (ws.getD j 0))) := HC1
  clear hw2 hO1 hk1 hO hO0 hv hv0 hW hW0 hbA hG0 hOp hlO hmk hbm HC1 hs1 hvm
  go_loopg [32] N (fun gg s32 wr => ∃ x : Nat, x ≤ N ∧ N - x ≤ gg ∧ s32 = .int .i64 x ∧ Aside (RowB wr w1.heap.size N (appR F x)) ∧ Aside (Below w1.heap.size w1 wr))
  case atStart => exact ⟨0, Nat.zero_le _, by omega, rfl, hB2, hb2⟩
  case round =>
    obtain ⟨x, hx, hg, rfl, AB, AW⟩ := hrel
    have hB := AB.out
    have hW := AW.out
    clear AB AW
    by_cases hlt : x < N
    · have hltz : (x : Int) < (N : Int) := by omega
      have hx64 : x < 64 := by omega
      have HC : Aside (∀ j, j < m → wr.cell? ⟨b, j, none⟩ = some (.int .i64 (ws.getD j 0))) := fun j hj => keep_cell (p := ⟨b, j, none⟩) hW hlb (HCA.out j hj)
      have cGr := (hGb1.below hW).cells
      have hAW : Aside (Below w1.heap.size w1 wr) := hW
      have hAB : Aside (RowB wr w1.heap.size N (appR F x)) := hB
      clear hB2 hb2 hB
      go_wp2_with (fail)
      go_loopg [11, 12, 39] m (fun gg s11 s12 s39 wq => ∃ kk : Nat, kk ≤ m ∧ m - kk ≤ gg ∧ s11 = .int .i64 (inK ws x kk) ∧ s12 = .int .i64 (restK ws x kk) ∧ s39 = .int .i64 kk ∧ Aside (wq = wr))
      case atStart => exact ⟨0, Nat.zero_le _, by omega, rfl, rfl, rfl, (show Aside _ from rfl)⟩
      case round =>
        obtain ⟨kk, hkk, hg', rfl, rfl, rfl, AE⟩ := hrel
        obtain rfl := AE.out
        clear AE
        by_cases hlt' : kk < m
        · have hTrue := True.intro
          have hltz' : (kk : Int) < (m : Int) := by omega
          have hcl := HC.out kk hlt'
          have hwl := hl kk hlt'
          have hi1 := inK_lt ws x kk
          have hi2 : 2 ^ kk ≤ 32 := pw6 kk (by omega)
          have hr1 := restK_le ws x kk
          have hinS : inK ws x (kk + 1) = inK ws x kk ||| (x / 2 ^ ws.getD kk 0 % 2) * 2 ^ kk := rfl
          have hreS : restK ws x (kk + 1) = andNot (restK ws x kk) (2 ^ ws.getD kk 0) := rfl
          obtain ⟨q, hq⟩ : ∃ q, ws.getD kk 0 = q := ⟨_, rfl⟩
          rw [hq] at hcl hwl hinS hreS
          obtain ⟨a, ha⟩ : ∃ a, x / 2 ^ q % 2 = a := ⟨_, rfl⟩
          rw [ha] at hinS
          have ha2 : a < 2 := by omega
          have hx2 : x / 2 ^ q ≤ x := Nat.div_le_self _ _
          have e1 : bits BinOp.and IntKind.i64 ((x : Int) / 2 ^ q) 1 = (a : Int) := by
            rw [show ((x : Int) / 2 ^ q) = ((x / 2 ^ q : Nat) : Int) from by simp]
            have := i64_and (x / 2 ^ q) 1 (by omega) (by omega)
            rw [Nat.and_one_is_mod, ha] at this
            exact this
          have e2 := w64m a kk ha2 (by omega)
          have e3 := i64_or (inK ws x kk) (a * 2 ^ kk) (by omega) (w64b a kk ha2 (by omega))
          have e4 := w64p q (by omega)
          have e5 := i64_andNot (restK ws x kk) (2 ^ q) (by omega) (by have := pw6 q (by omega); omega)
          rw [← hinS] at e3
          rw [← hreS] at e5
          obtain ⟨i', hi'⟩ : ∃ i', inK ws x (kk + 1) = i' := ⟨_, rfl⟩
          obtain ⟨r', hr'⟩ : ∃ r', restK ws x (kk + 1) = r' := ⟨_, rfl⟩
          rw [hi'] at e3
          rw [hr'] at e5
          obtain ⟨m1, hm1⟩ : ∃ m, a * 2 ^ kk = m := ⟨_, rfl⟩
          obtain ⟨m2, hm2⟩ : ∃ m, 2 ^ q = m := ⟨_, rfl⟩
          rw [hm1] at e2 e3
          rw [hm2] at e4 e5
          clear hm1 hm2
          have hiH : Hid (inK ws x (kk + 1) = i') := hi'
          have hrH : Hid (restK ws x (kk + 1) = r') := hr'
          obtain ⟨i0, hi0⟩ : ∃ i0, inK ws x kk = i0 := ⟨_, rfl⟩
          obtain ⟨r0, hr0⟩ : ∃ r0, restK ws x kk = r0 := ⟨_, rfl⟩
          rw [hi0] at e3 hi1
          rw [hr0] at e5 hr1
          rw [hi0, hr0]
          clear hi' hr' hi0 hr0 hq ha hinS hreS hx2 hg hopm hF
          go_wp2_with (fail)
          go_roundg (m - (kk + 1))
          case measure => omega
          case rel => exact ⟨kk + 1, by omega, by omega, congrArg (fun z : Nat => Value.int .i64 (z : Int)) hiH.out.symm, congrArg (fun z : Nat => Value.int .i64 (z : Int)) hrH.out.symm, by go_num, (show Aside _ from rfl)⟩
        · have hltz' : ¬ (kk : Int) < (m : Int) := by omega
          obtain rfl : kk = m := by omega
          have hi0 := inK_lt ws x kk
          rw [hD] at hi0
          have hr0 := restK_le ws x kk
          have hFx : F x = if outK ws (restK ws x kk) (colK k (inK ws x kk)) kk = t then Num.w ((phK k (inK ws x kk) + p) % 8) else Num.zero := by
            rw [← hF]
            unfold appF
            dsimp only
            rw [hm]
          have hop := fun j hj => hopm (inK ws x kk) j hi0 hj
          obtain ⟨i, hi⟩ : ∃ i, inK ws x kk = i := ⟨_, rfl⟩
          obtain ⟨r, hr⟩ : ∃ r, restK ws x kk = r := ⟨_, rfl⟩
          rw [hi, hr] at hFx
          rw [hi] at hi0 hop
          rw [hr] at hr0
          rw [hi, hr]
          have G := HM.below hAW.out
          obtain ⟨d1, d2⟩ := G.row i hi0
          have hiz : (i : Int) < (D : Int) := by omega
          have hobl := G.lt
          clear hi hr hopm hF hlt'
          go_wp2_with (fail)
          obtain ⟨col, hcol⟩ : ∃ col, colK k i = col := ⟨_, rfl⟩
          obtain ⟨ph, hph⟩ : ∃ ph, phK k i = ph := ⟨_, rfl⟩
          rw [hcol, hph] at hop hFx
          have hcolD := (hop i hi0).2
          clear hcol hph
          have hrN : r < 2 ^ n := by rw [hN.out]; omega
          go_loopg [15, 62] D (fun gg s15 s62 wq => ∃ cc : Nat, cc ≤ D ∧ D - cc ≤ gg ∧ s15 = .bool (decide (cc ≤ col)) ∧ s62 = .int .i64 cc ∧ Aside (RowB wq w1.heap.size N (if cc ≤ col then appR F x else appR F (x + 1))) ∧ Aside (Below w1.heap.size w1 wq))
          case atStart => exact ⟨0, Nat.zero_le _, by omega, by simp, rfl, (show Aside _ from by rw [if_pos (Nat.zero_le _)]; exact hAB.out), (show Aside _ from hAW.out)⟩
          case round =>
            obtain ⟨cc, hcc, hg'', rfl, rfl, AB, AW⟩ := hrel
            have hBq := AB.out
            have hWq := AW.out
            clear AB AW
            by_cases hltc : cc < D
            · have hltzc : (cc : Int) < (D : Int) := by omega
              have hcell := (hop cc hltc).1
              have Gq := HM.below hWq
              have hnum := Gq.num i cc hi0 hltc
              have hlr := (Gq.row i hi0).2
              have cGq := (hGb1.below hWq).cells
              by_cases hcol : cc = col
              · subst hcol
                rw [if_pos rfl] at hcell
                rw [hcell] at hnum
                rw [if_pos (Nat.le_refl _)] at hBq
                obtain ⟨xw, hxw⟩ : ∃ xw, Num.w ph = xw := ⟨_, rfl⟩
                have hxz := w_ne ph hcolD.2
                rw [hxw] at hnum hxz
                obtain ⟨y0, y1, y2, y3, y4⟩ := hnum
                obtain ⟨xa, hxa⟩ : ∃ xa, xw.q.a = xa := ⟨_, rfl⟩
                obtain ⟨xb, hxb⟩ : ∃ xa, xw.q.b = xa := ⟨_, rfl⟩
                obtain ⟨xc, hxc⟩ : ∃ xa, xw.q.c = xa := ⟨_, rfl⟩
                obtain ⟨xd, hxd⟩ : ∃ xa, xw.q.d = xa := ⟨_, rfl⟩
                obtain ⟨xk, hxk⟩ : ∃ xa, xw.k = xa := ⟨_, rfl⟩
                rw [hxa] at y0 hxz
                rw [hxb] at y1 hxz
                rw [hxc] at y2 hxz
                rw [hxd] at y3 hxz
                rw [hxk] at y4 hxz
                have hX0 := Blk.new wr 38 #[.int .i64 xa, .int .i64 xb, .int .i64 xc, .int .i64 xd, .int .i64 xk]
                have hW0 := hWq.alloc hWq.size (.cells #[.int .i64 xa, .int .i64 xb, .int .i64 xc, .int .i64 xd, .int .i64 xk] 38)
                have hB0 := hBq.alloc (.cells #[.int .i64 xa, .int .i64 xb, .int .i64 xc, .int .i64 xd, .int .i64 xk] 38)
                obtain ⟨wz, hwz⟩ : ∃ wz, wr.alloc (.cells #[.int .i64 xa, .int .i64 xb, .int .i64 xc, .int .i64 xd, .int .i64 xk] 38) = wz := ⟨_, rfl⟩
                rw [hwz] at hX0 hW0 hB0
                have cGz := (hGb1.below hW0).cells
                have cXz := hX0.cells
                have HCz : Aside (∀ j, j < kk → wz.cell? ⟨b, j, none⟩ = some (.int .i64 (ws.getD j 0))) := fun j hj => keep_cell (p := ⟨b, j, none⟩) hW0 hlb (HCA.out j hj)
                have hlw : w1.heap.size < wr.heap.size := hBq.lt
                clear hcell hop G d1 Gq hBq hWq hAW hAB cGr cGq HC hW
                go_wp2_with (fail)
                obtain ⟨xp, hxp⟩ : ∃ xp, wr.heap.size = xp := ⟨_, rfl⟩
                rw [hxp] at hX0 ⊢
                have hxp1 : w1.heap.size < xp := by
                  rw [← hxp]
                  exact hlw
                clear hwz hxp hlw y0 y1 y2 y3 y4
                go_loopg [18, 74] kk (fun gg s18 s74 wq => ∃ jj : Nat, jj ≤ kk ∧ kk - jj ≤ gg ∧ s18 = .int .i64 (outK ws r cc jj) ∧ s74 = .int .i64 jj ∧ Aside (wq = wz))
                case atStart => exact ⟨0, Nat.zero_le _, by omega, rfl, rfl, (show Aside _ from rfl)⟩
                case round =>
                  obtain ⟨jj, hjj, hg3, rfl, rfl, AE⟩ := hrel
                  obtain rfl := AE.out
                  clear AE
                  have ho1 := outK_lt ws r cc n hrN kk hln jj hjj
                  rw [hN.out] at ho1
                  by_cases hltj : jj < kk
                  · have hltzj : (jj : Int) < (kk : Int) := by omega
                    have hcl := HCz.out jj hltj
                    have hwl := hl jj hltj
                    have hoS : outK ws r cc (jj + 1) = outK ws r cc jj ||| (cc / 2 ^ jj % 2) * 2 ^ ws.getD jj 0 := rfl
                    obtain ⟨v, hv⟩ : ∃ v, ws.getD jj 0 = v := ⟨_, rfl⟩
                    rw [hv] at hcl hwl hoS
                    obtain ⟨a, ha⟩ : ∃ a, cc / 2 ^ jj % 2 = a := ⟨_, rfl⟩
                    rw [ha] at hoS
                    have ha2 : a < 2 := by omega
                    have hx2 : cc / 2 ^ jj ≤ cc := Nat.div_le_self _ _
                    have e1 : bits BinOp.and IntKind.i64 ((cc : Int) / 2 ^ jj) 1 = (a : Int) := by
                      rw [show ((cc : Int) / 2 ^ jj) = ((cc / 2 ^ jj : Nat) : Int) from by simp]
                      have := i64_and (cc / 2 ^ jj) 1 (by omega) (by omega)
                      rw [Nat.and_one_is_mod, ha] at this
                      exact this
                    have e2 := w64m a v ha2 (by omega)
                    have e3 := i64_or (outK ws r cc jj) (a * 2 ^ v) (by omega) (w64b a v ha2 (by omega))
                    rw [← hoS] at e3
                    obtain ⟨i', hi'⟩ : ∃ i', outK ws r cc (jj + 1) = i' := ⟨_, rfl⟩
                    rw [hi'] at e3
                    obtain ⟨m1, hm1⟩ : ∃ m, a * 2 ^ v = m := ⟨_, rfl⟩
                    rw [hm1] at e2 e3
                    clear hm1
                    have hiH : Hid (outK ws r cc (jj + 1) = i') := hi'
                    obtain ⟨i0, hi0⟩ : ∃ i0, outK ws r cc jj = i0 := ⟨_, rfl⟩
                    rw [hi0] at e3 ho1
                    rw [hi0]
                    clear hi' hi0 hv ha hoS hx2 hFx hxz
                    go_wp2_with (fail)
                    go_roundg (kk - (jj + 1))
                    case measure => omega
                    case rel => exact ⟨jj + 1, by omega, by omega, congrArg (fun z : Nat => Value.int .i64 (z : Int)) hiH.out.symm, by go_num, (show Aside _ from rfl)⟩
                  · have hltzj : ¬ (jj : Int) < (kk : Int) := by omega
                    obtain rfl : jj = kk := by omega
                    obtain ⟨from', hfr⟩ : ∃ y, outK ws r cc jj = y := ⟨_, rfl⟩
                    rw [hfr] at ho1 hFx
                    rw [hfr]
                    clear hltj hfr
                    go_wp2_with (fail)
                    obtain ⟨vw, hvw⟩ : ∃ vw, stV t p from' = vw := ⟨_, rfl⟩
                    have hvn := (hv1.below1 hW0 hlv).numAt ho1
                    rw [hvw] at hvn
                    obtain ⟨v0, v1, v2, v3, v4⟩ := hvn
                    obtain ⟨y, hy⟩ : ∃ y, F x = y := ⟨_, rfl⟩
                    have hmul : Hid (mulN xw vw = (y, 0)) := by
                      show mulN xw vw = (y, 0)
                      rw [← hxw, ← hvw, ← hy, hFx]
                      unfold stV
                      by_cases e : from' = t
                      · rw [if_pos e, if_pos e]
                        exact (mulN_w ph hcolD.2).2 p hp
                      · rw [if_neg e, if_neg e]
                        exact (mulN_w ph hcolD.2).1
                    have hvok : vw.ok ∧ vw.q.Le 536870912 := by
                      rw [← hvw]
                      unfold stV
                      by_cases e : from' = t
                      · rw [if_pos e]; exact w_ok p hp
                      · rw [if_neg e]; exact z_ok
                    have hxok : xw.ok ∧ xw.q.Le 536870912 := by
                      rw [← hxw]
                      exact w_ok ph hcolD.2
                    have H56 := fun W => f56_any xw vw W hxok.1 hvok.1 hxok.2 hvok.2 y 0 hmul
                    rw [hxa, hxb, hxc, hxd, hxk] at H56
                    have hlv2 : vb < wr.heap.size := Nat.lt_of_lt_of_le hlv hW0.size
                    have hyH : Hid (F x = y) := hy
                    clear hFx hxz hxw hxa hxb hxc hxd hxk hmul hvok hxok hvw hy HCz
                    have hfrz : (from' : Int) < (N : Int) := by omega
                    refine Calm.wp_region_late 10 8 (by kernel_rfl) 10 [(9, 38, #[.int .i64 0, .int .i64 0, .int .i64 0, .int .i64 0, .int .i64 0])] (by kernel_rfl) (by kernel_rfl) (by decide) (fun w' => Below wr.heap.size wr w') (wr.heap.size) (fun _ h => h.size) (Below.refl _ _).drew ?_
                    show Calm.WalkI _ _ _ _ _ _ [0, 1, 2, 3, 4, 5, 6, 7, 8, 9] _ _
                    iterate 5
                      refine Calm.calm_step rfl rfl rfl ?_; apply Exists.intro; refine ⟨fun w' hw' => ?_, ?_⟩
                      · have cX' := (hX0.below hw').cells
                        have v0' := keep_cell (p := ⟨vb, from' * 5, none⟩) hw' hlv2 v0
                        have v1' := keep_cell (p := ⟨vb, from' * 5 + 1, none⟩) hw' hlv2 v1
                        have v2' := keep_cell (p := ⟨vb, from' * 5 + 2, none⟩) hw' hlv2 v2
                        have v3' := keep_cell (p := ⟨vb, from' * 5 + 3, none⟩) hw' hlv2 v3
                        have v4' := keep_cell (p := ⟨vb, from' * 5 + 4, none⟩) hw' hlv2 v4
                        apply Calm.calm_value
                        go_simp
                        exact rfl
                      intro K hK; go_simp; refine hK _ ?_; clear hK K
                    refine Calm.calm_step rfl rfl rfl ?_; apply Exists.intro; refine ⟨fun w' hw' => ?_, ?_⟩
                    · have cX' := (hX0.below hw').cells
                      have v0' := keep_cell (p := ⟨vb, from' * 5, none⟩) hw' hlv2 v0
                      have v1' := keep_cell (p := ⟨vb, from' * 5 + 1, none⟩) hw' hlv2 v1
                      have v2' := keep_cell (p := ⟨vb, from' * 5 + 2, none⟩) hw' hlv2 v2
                      have v3' := keep_cell (p := ⟨vb, from' * 5 + 3, none⟩) hw' hlv2 v3
                      have v4' := keep_cell (p := ⟨vb, from' * 5 + 4, none⟩) hw' hlv2 v4
                      apply Calm.calm_call
                      · go_simp
                        exact ⟨rfl, rfl⟩
                      refine (H56 w').mono ?_
                      rintro e w'' ⟨rfl, hb⟩
                      exact ⟨rfl, hb, bt hw' hb⟩
                    intro K hK; go_simp; refine hK _ ?_; clear hK K
                    iterate 3
                      refine Calm.calm_step rfl rfl rfl ?_; apply Exists.intro; refine ⟨fun w' hw' => ?_, ?_⟩
                      · have cX' := (hX0.below hw').cells
                        have v0' := keep_cell (p := ⟨vb, from' * 5, none⟩) hw' hlv2 v0
                        have v1' := keep_cell (p := ⟨vb, from' * 5 + 1, none⟩) hw' hlv2 v1
                        have v2' := keep_cell (p := ⟨vb, from' * 5 + 2, none⟩) hw' hlv2 v2
                        have v3' := keep_cell (p := ⟨vb, from' * 5 + 3, none⟩) hw' hlv2 v3
                        have v4' := keep_cell (p := ⟨vb, from' * 5 + 4, none⟩) hw' hlv2 v4
                        apply Calm.calm_value
                        go_simp
                        exact rfl
                      intro K hK; go_simp; refine hK _ ?_; clear hK K
                    refine Calm.calm_alloc rfl rfl rfl (fun w' hw' => ?_) (fun B9 hB9 => ?_)
                    · have cX' := (hX0.below hw').cells
                      have v0' := keep_cell (p := ⟨vb, from' * 5, none⟩) hw' hlv2 v0
                      have v1' := keep_cell (p := ⟨vb, from' * 5 + 1, none⟩) hw' hlv2 v1
                      have v2' := keep_cell (p := ⟨vb, from' * 5 + 2, none⟩) hw' hlv2 v2
                      have v3' := keep_cell (p := ⟨vb, from' * 5 + 3, none⟩) hw' hlv2 v3
                      have v4' := keep_cell (p := ⟨vb, from' * 5 + 4, none⟩) hw' hlv2 v4
                      refine ⟨by go_simp, hw'.alloc hw'.size _⟩
                    intro K hK; go_simp; refine hK _ ?_; clear hK K
                    refine Calm.calm_end_lit (fun wk hk => ?_)
                    simp only [List.drop_succ_cons, List.drop_zero]
                    obtain ⟨hBk, hfacts, _⟩ := hk
                    obtain ⟨h91, h92⟩ := hfacts 9 _ _ (by decide) rfl
                    change wr.heap.size ≤ B9 at h91
                    change Blk wk B9 _ _ at h92
                    clear hfacts
                    have c9 := h92.cells
                    have f9 := h92.frozen
                    have l9 := h92.lt
                    have hWk := bt hW0 hBk
                    have hBk2 := hB0.below hBk
                    have hlB := hB0.lt
                    have n9 : ¬ (B9 = w1.heap.size) := by omega
                    have n9' : ¬ (w1.heap.size = B9) := by omega
                    have hfB := hBk2.frozen
                    have hlBk := hBk2.lt
                    obtain ⟨q0, q1, q2, q3, q4⟩ := hBk2.numAt hlt
                    go_wp2_with (fail)
                    refine NoPanic.normal ?_
                    have hYb : Blk ((((((wk.setCell ⟨B9, 0, none⟩ (.int .i64 y.q.a)).setCell ⟨B9, 1, none⟩ (.int .i64 y.q.b)).setCell ⟨B9, 2, none⟩ (.int .i64 y.q.c)).setCell ⟨B9, 3, none⟩ (.int .i64 y.q.d)).setCell ⟨B9, 4, none⟩ (.int .i64 y.k))) B9 38 _ := (((((h92.set 0 (.int .i64 y.q.a)).set 1 (.int .i64 y.q.b)).set 2 (.int .i64 y.q.c)).set 3 (.int .i64 y.q.d)).set 4 (.int .i64 y.k))
                    have hWy := (((((hWk.setCell (p := ⟨B9, 0, none⟩) (by show _ ≤ B9; omega) (.int .i64 y.q.a)).setCell (p := ⟨B9, 1, none⟩) (by show _ ≤ B9; omega) (.int .i64 y.q.b)).setCell (p := ⟨B9, 2, none⟩) (by show _ ≤ B9; omega) (.int .i64 y.q.c)).setCell (p := ⟨B9, 3, none⟩) (by show _ ≤ B9; omega) (.int .i64 y.q.d)).setCell (p := ⟨B9, 4, none⟩) (by show _ ≤ B9; omega) (.int .i64 y.k))
                    have hBy := (((((hBk2.far (p := ⟨B9, 0, none⟩) n9' (.int .i64 y.q.a)).far (p := ⟨B9, 1, none⟩) n9' (.int .i64 y.q.b)).far (p := ⟨B9, 2, none⟩) n9' (.int .i64 y.q.c)).far (p := ⟨B9, 3, none⟩) n9' (.int .i64 y.q.d)).far (p := ⟨B9, 4, none⟩) n9' (.int .i64 y.k))
                    generalize hwy : (((((wk.setCell ⟨B9, 0, none⟩ (.int .i64 y.q.a)).setCell ⟨B9, 1, none⟩ (.int .i64 y.q.b)).setCell ⟨B9, 2, none⟩ (.int .i64 y.q.c)).setCell ⟨B9, 3, none⟩ (.int .i64 y.q.d)).setCell ⟨B9, 4, none⟩ (.int .i64 y.k)) = wy at hYb hWy hBy ⊢
                    clear hwy
                    have hYb' : Blk wy B9 38 #[.int .i64 y.q.a, .int .i64 y.q.b, .int .i64 y.q.c, .int .i64 y.q.d, .int .i64 y.k] := hYb
                    have cY := hYb'.cells
                    have fB := hBy.frozen
                    have lB := hBy.lt
                    obtain ⟨p0, p1, p2, p3, p4⟩ := hBy.numAt hlt
                    have hNew := hBy.put hlt y
                    rw [← hyH.out, appR_put, hyH.out] at hNew
                    clear hYb hBk2 hB0 hyH H56
                    go_wp2_with (fail)
                    go_roundg (D - (cc + 1))
                    case measure => omega
                    case rel => exact ⟨cc + 1, by omega, by omega, (congrArg Value.bool (decide_eq_false (by omega : ¬ cc + 1 ≤ cc)).symm), by go_num, (show Aside _ from by rw [if_neg (by omega)]; exact hNew), (show Aside _ from below_setNum hWy (Nat.le_refl _) x y)⟩
              · rw [if_neg hcol] at hcell
                rw [hcell] at hnum
                have z0 : wr.cell? ⟨rb i, ro i + cc * 5, none⟩ = some (.int .i64 0) := hnum.1
                have z1 : wr.cell? ⟨rb i, ro i + cc * 5 + 1, none⟩ = some (.int .i64 0) := hnum.2.1
                have z2 : wr.cell? ⟨rb i, ro i + cc * 5 + 2, none⟩ = some (.int .i64 0) := hnum.2.2.1
                have z3 : wr.cell? ⟨rb i, ro i + cc * 5 + 3, none⟩ = some (.int .i64 0) := hnum.2.2.2.1
                have z4 : wr.cell? ⟨rb i, ro i + cc * 5 + 4, none⟩ = some (.int .i64 0) := hnum.2.2.2.2
                clear hnum
                clear hcell hop hFx G d1 Gq
                go_wp2_with (fail)
                go_roundg (D - (cc + 1))
                case measure => omega
                case rel => exact ⟨cc + 1, by omega, by omega, (congrArg Value.bool (dec_succ hcol)), by go_num, (show Aside _ from (ite_succ hcol _ _) ▸ hBq.alloc _), (show Aside _ from hWq.alloc hWq.size _)⟩
            · have hltzc : ¬ (cc : Int) < (D : Int) := by omega
              obtain rfl : cc = D := by omega
              clear hltc
              rw [if_neg (by omega)] at hBq
              go_wp2_with (fail)
              go_roundg (N - (x + 1))
              case measure => omega
              case rel => exact ⟨x + 1, by omega, by omega, by go_num, (show Aside _ from hBq), (show Aside _ from hWq)⟩
    · have hltz : ¬ (x : Int) < (N : Int) := by omega
      obtain rfl : x = N := by omega
      clear hlt
      obtain ⟨o1, o2, o3⟩ := HOut.out
      go_wp2_with (fail)
      exact bodyPost_ret (v := .tuple #[.slice (some ⟨w1.heap.size, 0, none⟩) x x, .int .i64 0]) (by simp [results, Tryz.results120, go_sem]) rfl ⟨w1.heap.size, o1, rfl, hB, o2.below hW, o3.below hW⟩
end
section
open Go.RowKit
attribute [local go_sem ↓] Go.wp_at_zero Go.wp_at_succ run_eqN
theorem KeepX.toBelow {B : Nat} {a b c : World} (h : Below a.heap.size a b) (k : KeepX B b c) (hB : a.heap.size ≤ B) : Below a.heap.size a c :=
  ⟨k.os.trans h.os, k.tape.trans h.tape, k.output.trans h.output, Nat.le_trans h.size k.size, fun i hi => (k.block i (Nat.lt_of_lt_of_le hi h.size) (by omega)).trans (h.block i hi)⟩
/-- basis states with powers of w, through gates -/
def runG (gs : List Gt) (s : Nat × Nat) : Nat × Nat := gs.foldl (fun s g => (stepG g s.1, stepP g s.1 s.2)) s
theorem runG_succ (gs : List Gt) (s : Nat × Nat) {i : Nat} {g : Gt} (h : gs[i]? = some g) : runG (gs.take (i + 1)) s = (stepG g (runG (gs.take i) s).1, stepP g (runG (gs.take i) s).1 (runG (gs.take i) s).2) := by
  unfold runG
  rw [List.take_add_one, h, Option.toList_some, List.foldl_append]
  rfl
theorem runG_bd (n : Nat) : ∀ (gs : List Gt) (s : Nat × Nat), (∀ g ∈ gs, Gt.ok g n) → s.1 < 2 ^ n → s.2 < 8 → (runG gs s).1 < 2 ^ n ∧ (runG gs s).2 < 8
  | [], s, _, h1, h2 => ⟨h1, h2⟩
  | g :: gs, s, hg, h1, h2 => runG_bd n gs (stepG g s.1, stepP g s.1 s.2) (fun g' h' => hg g' (by simp [h'])) (step_lt g n s.1 (hg g (by simp)) h1) (Nat.mod_lt _ (by decide))
theorem RowB.congr {w : World} {b n : Nat} {f g : Nat → Num} (h : RowB w b n f) (e : ∀ j, j < n → f j = g j) : RowB w b n g := by
  obtain ⟨cs, q1, q2, q3⟩ := h
  exact ⟨cs, q1, q2, fun j hj => by rw [← e j hj]; exact q3 j hj⟩
theorem OpsAt.new (w : World) : OpsAt w.heap.size (w.alloc (.map #[] 0)) := ⟨#[], 0, World.alloc_heap_new _ _, fun e he => by simp at he, fun e he => by simp at he⟩
set_option maxHeartbeats 2000000 in
set_option maxRecDepth 100000 in
theorem f70_any (lo n k N : Nat) (gv : Value) (gs : List Gt) (w : World) (hn1 : 1 ≤ n) (hn : n ≤ 6) (hN : Hid (2 ^ n = N)) (hk : k < N) (hg : ∀ gt ∈ gs, Gt.ok gt n) (hL : gs.length ≤ 120) (hR : GatesR w lo gv gs) :
    Calls Tryz.prog 70 #[.agg #[.int .i64 n, .int .i64 0, gv], .int .i64 k] w fun e w' => ∃ B, w.heap.size ≤ B ∧ e = .returned (.tuple #[.slice (some ⟨B, 0, none⟩) N N, .int .i64 0]) ∧ RowB w' B N (stV (runG gs (k, 0)).1 (runG gs (k, 0)).2) ∧ Below w.heap.size w w' := by
  have e120 : ∀ args w, (callFunc 120 args).run Tryz.prog w = .ok (.enter 120 args) w := enters_of Tryz.func120 (by kernel_rfl) rfl
  have hmm := @run_makeMap Tryz.prog
  have hNb : 2 ^ n ≤ 64 := Nat.pow_le_pow_right (n := 2) (by decide) hn
  rw [hN.out] at hNb
  have hbA : Below w.heap.size w (w.alloc (.cells #[.int .i64 n, .int .i64 0, gv] 43)) := (Below.refl _ w).alloc (Nat.le_refl _) _
  have hC0 : Blk (w.alloc (.cells #[.int .i64 n, .int .i64 0, gv] 43)) w.heap.size 43 #[.int .i64 n, .int .i64 0, gv] := Blk.new _ _ _
  obtain ⟨A, c, hgv, hat⟩ := (hR.below hbA).at_
  subst hgv
  obtain ⟨L, hLe⟩ : ∃ L, gs.length = L := ⟨_, rfl⟩
  rw [hLe] at hL hat hbA hC0 ⊢
  obtain ⟨w0, hw0⟩ : ∃ w0, w.alloc (.cells #[.int .i64 n, .int .i64 0, .slice A L c] 43) = w0 := ⟨_, rfl⟩
  rw [hw0] at hbA hC0 hat
  have hl0 := hC0.lt
  have cC := hC0.cells
  clear hR
  go_enter Tryz.func70, Tryz.ntmps70
  go_wp2_with (go_at_call 119; refine (f119_any n k N _ hn hN hk).mono ?_; rintro e w1 ⟨rfl, hv1, hb1⟩; obtain ⟨w2, hw2⟩ : ∃ w2, w1.alloc (.map #[] 0) = w2 := ⟨_, rfl⟩; have hb2 : Below w0.heap.size w0 w2 := (by rw [← hw2]; exact hb1.alloc hb1.size _); have hO2 : OpsAt w1.heap.size w2 := (by rw [← hw2]; exact OpsAt.new w1); have hv2 : RowB w2 w0.heap.size N (stV k 0) := (by rw [← hw2]; exact hv1.alloc _); have cC2 := (hC0.below hb2).cells)
  have hs01 : w0.heap.size ≤ w1.heap.size := hb1.size
  have hs12 : w1.heap.size < w2.heap.size := by rw [← hw2]; simp
  obtain ⟨mb, hmb⟩ : ∃ mb, w1.heap.size = mb := ⟨_, rfl⟩
  rw [hmb] at hO2 hs01 hs12 ⊢
  have hBl2 := bt hbA hb2
  clear hmm hw2 hv1 hb1 hmb hw0 cC
  go_loopg [6, 25] L (fun gg s6 s25 wr => ∃ ii : Nat, ii ≤ L ∧ L - ii ≤ gg ∧ (∃ vb : Nat, s6 = .slice (some ⟨vb, 0, none⟩) N N ∧ w.heap.size ≤ vb ∧ Aside (RowB wr vb N (stV (runG (gs.take ii) (k, 0)).1 (runG (gs.take ii) (k, 0)).2))) ∧ s25 = .int .i64 ii ∧ Aside (OpsAt mb wr) ∧ Aside (KeepX mb w2 wr))
  case atStart => exact ⟨0, Nat.zero_le _, by omega, ⟨_, rfl, by omega, (show Aside _ from hv2)⟩, rfl, (show Aside _ from hO2), (show Aside _ from KeepX.refl _ _)⟩
  case round =>
    obtain ⟨ii, hii, hg', ⟨vb, rfl, hvl, AV⟩, rfl, AO, AK⟩ := hrel
    have hV := AV.out
    have hO := AO.out
    have hK := AK.out
    clear AV AO AK
    have hst := runG_bd n (gs.take ii) (k, 0) (fun g hgm => hg g (List.mem_of_mem_take hgm)) (by rw [hN.out]; exact hk) (by show 0 < 8; decide)
    rw [hN.out] at hst
    by_cases hlt : ii < L
    · have hltz : (ii : Int) < (L : Int) := by omega
      obtain ⟨gt, hgt⟩ : ∃ gt, gs[ii]? = some gt := ⟨_, List.getElem?_eq_getElem (by omega)⟩
      obtain ⟨g, b, cc, rfl, _, a5, a1, a2, a3, a4, _, a6, a7⟩ := hat ii gt hgt
      have hok := hg gt (List.mem_of_getElem? hgt)
      have hrun := runG_succ gs (k, 0) hgt
      obtain ⟨t, ht⟩ : ∃ t, (runG (gs.take ii) (k, 0)).1 = t := ⟨_, rfl⟩
      obtain ⟨p, hp⟩ : ∃ p, (runG (gs.take ii) (k, 0)).2 = p := ⟨_, rfl⟩
      rw [ht, hp] at hV hst hrun
      have hkc : ∀ {q : Addr} {v : Value}, q.block < w0.heap.size → w0.cell? q = some v → wr.cell? q = some v := fun {q v} hq hc => ((hK.cell (by omega) (by omega)).trans (hb2.cell hq)).trans hc
      have d1 := hkc (q := ⟨g, ii * 4, none⟩) a5 a1
      have d2 := hkc (q := ⟨g, ii * 4 + 1, none⟩) a5 a2
      have d3 := hkc (q := ⟨g, ii * 4 + 2, none⟩) a5 a3
      have d4 := hkc (q := ⟨g, ii * 4 + 3, none⟩) a5 a4
      have hkW : WiresAt wr b gt.ws := ⟨by have := a7.1; have := hK.size; omega, fun j x hj => hkc (q := ⟨b, j, none⟩) a7.1 (a7.2 j x hj)⟩
      obtain ⟨gl, hgl⟩ : ∃ gl, gt.ws.length = gl := ⟨_, rfl⟩
      obtain ⟨gk', hgk⟩ : ∃ gk', gt.k = gk' := ⟨_, rfl⟩
      have hbG : Below wr.heap.size wr (wr.alloc (.cells #[.int .i64 gk', .slice (some ⟨b, 0, none⟩) gl cc, .int .i64 0, .int .i64 0] 45)) := (Below.refl _ _).alloc (Nat.le_refl _) _
      have H120 := f120_any mb gt b cc vb n N t p _ hn hN hok (hkW.below hbG hkW.1) a6 (hO.below hbG) (hV.below hbG) hst.1 hst.2
      unfold gtV at H120
      rw [hgl] at d2 H120
      rw [hgk] at d1 H120
      have hF := fun j (hj : j < N) => app_step gt n t p j hok hn (by omega) (by omega)
      clear hgl hgk hat hg a7 a1 a2 a3 a4 hgt a6 a5 hkW ht hp hkc
      go_wp2_with (go_at_fn 120; refine H120.mono ?_; clear H120; rintro e w5 ⟨B, hBl, rfl, hRB, hO5, hK5⟩)
      go_roundg (L - (ii + 1))
      case measure => omega
      case rel =>
        refine ⟨ii + 1, by omega, by omega, ⟨B, rfl, ?_, (show Aside _ from ?_)⟩, by go_num, (show Aside _ from hO5), (show Aside _ from (hK.below hbG).trans hK5)⟩
        · have := hK.size
          have := hBl2.size
          simp at hBl
          omega
        · rw [hrun]
          exact hRB.congr fun j hj => by
            unfold appR
            rw [if_pos hj]
            exact hF j hj
    · have hltz : ¬ (ii : Int) < (L : Int) := by omega
      obtain rfl : ii = L := by omega
      clear hlt hat hg
      rw [← hLe, List.take_length] at hV
      go_wp2_with (fail)
      exact bodyPost_ret (v := .tuple #[.slice (some ⟨vb, 0, none⟩) N N, .int .i64 0]) (by simp [results, Tryz.results70, go_sem]) rfl ⟨vb, hvl, rfl, hV, KeepX.toBelow hBl2 hK (by omega)⟩
end
section
open Go.RowKit
attribute [local go_sem ↓] Go.wp_at_zero Go.wp_at_succ
/-- a gate and where its wires lie -/
structure GX where
  g : Gt
  b : Nat
  c : Nat
def GX.cells (x : GX) : List Value := [.int .i64 x.g.k, .slice (some ⟨x.b, 0, none⟩) x.g.ws.length x.c, .int .i64 0, .int .i64 0]
def flatG (xs : List GX) : List Value := (xs.map GX.cells).flatten
theorem flatG_snoc (xs : List GX) (x : GX) : flatG (xs ++ [x]) = flatG xs ++ x.cells := by simp [flatG]
/-- gates in a list of one's own -/
structure OwnG (w : World) (lo B : Nat) (gv : Value) (xs : List GX) : Prop where
  row : w.ownsRow lo 45 4 gv xs.length (flatG xs)
  ws : ∀ x ∈ xs, lo ≤ x.b ∧ x.b ≠ B ∧ gv.ownBlock ≠ some x.b ∧ OwnI w x.b x.c (zInts x.g.ws)
theorem OwnI.heap {w w' : World} {b c : Nat} {zs : List Int} (h : OwnI w b c zs) (hk : w'.heap[b]? = w.heap[b]?) : OwnI w' b c zs := by
  obtain ⟨cs, h1, h2⟩ := h
  exact ⟨cs, hk.trans h1, h2⟩
theorem OwnG.keep {w w' : World} {lo B : Nat} {gv : Value} {xs : List GX} (h : OwnG w lo B gv xs) (hB : B < lo) (hk : ∀ k, lo ≤ k → k < w.heap.size → w'.heap[k]? = w.heap[k]?) : OwnG w' lo B gv xs :=
  ⟨ownsRow_keep h.row (fun k hk2 => hk k (ownsRow_block h.row k hk2).1 (ownsRow_block h.row k hk2).2), fun x hx => by
    obtain ⟨h1, h2, h3, h4⟩ := h.ws x hx
    exact ⟨h1, h2, h3, h4.heap (hk _ h1 h4.lt)⟩⟩
theorem OwnG.keepX {w w' : World} {lo B : Nat} {gv : Value} {xs : List GX} (h : OwnG w lo B gv xs) (hB : B < lo) (hk : KeepX B w w') : OwnG w' lo B gv xs := h.keep hB (fun k h1 h2 => hk.block k h2 (by omega))
theorem OwnG.below {w w' : World} {lo B : Nat} {gv : Value} {xs : List GX} (h : OwnG w lo B gv xs) (hB : B < lo) (hk : Below w.heap.size w w') : OwnG w' lo B gv xs := h.keep hB (fun k _ h2 => hk.block k h2)
/-- one gate more -/
theorem OwnG.app {w w' : World} {lo B g cap Hn : Nat} {gv : Value} {xs : List GX} {x : GX} (h : OwnG w lo B gv xs) (hO : w'.ownsRow lo 45 4 (.slice (some ⟨g, 0, none⟩) (xs.length + 1 : Nat) cap) (xs.length + 1) (flatG xs ++ x.cells)) (hg : w.grownBy w' gv.ownBlock) (hat : gv.ownBlock = some g ∨ g = Hn) (hH : w.heap.size = Hn)
    (hx : lo ≤ x.b ∧ x.b ≠ B ∧ gv.ownBlock ≠ some x.b ∧ OwnI w x.b x.c (zInts x.g.ws)) : OwnG w' lo B (.slice (some ⟨g, 0, none⟩) (xs.length + 1 : Nat) cap) (xs ++ [x]) := by
  have hall : ∀ y ∈ xs ++ [x], lo ≤ y.b ∧ y.b ≠ B ∧ gv.ownBlock ≠ some y.b ∧ OwnI w y.b y.c (zInts y.g.ws) := by
    intro y hy
    rcases List.mem_append.1 hy with hy | hy
    · exact h.ws y hy
    · obtain rfl : y = x := by simpa using hy
      exact hx
  refine ⟨?_, fun y hy => ?_⟩
  · rw [List.length_append, flatG_snoc]
    exact hO
  · obtain ⟨h1, h2, h3, h4⟩ := hall y hy
    refine ⟨h1, h2, ?_, h4.heap (hg.block _ h4.lt (fun e => h3 e.symm))⟩
    intro e
    have e2 : g = y.b := Option.some.inj (show (some g : Option Nat) = some y.b from e)
    rcases hat with hat | hat
    · exact h3 (by rw [hat, e2])
    · have := h4.lt
      omega
theorem OwnG.gates {w : World} {lo B lo' : Nat} {gv : Value} {xs : List GX} (h : OwnG w lo B gv xs) (hlo : lo' ≤ lo) : GatesR w lo' gv (xs.map (·.g)) := by
  have hlen : (xs.map (·.g)).length = xs.length := by simp
  rcases h.row.2 with ⟨h1, h2⟩ | ⟨g, cap, cur, h1, h2, h3, h4, h5, h6, h7⟩
  · exact ⟨none, 0, by rw [h1, hlen, h2], fun h0 => by omega⟩
  · refine ⟨some ⟨g, 0, none⟩, cap, by rw [h1, hlen], fun h0 => ⟨g, rfl, by omega, (Array.getElem?_eq_some_iff.1 h3).1, fun i gt hi => ?_⟩⟩
    rw [List.getElem?_map] at hi
    obtain ⟨x, hx, rfl⟩ := Option.map_eq_some_iff.1 hi
    obtain ⟨w1, w2, w3, w4⟩ := h.ws x (List.mem_of_getElem? hx)
    have hown : gv.ownBlock = some g := by rw [h1]; rfl
    have hc : ∀ j v, x.cells[j]? = some v → w.cell? ⟨g, i * 4 + j, none⟩ = some v := by
      intro j v hj
      have h8 := h.row.cells hown (i * 4 + j) v (flat_at 4 (xs.map GX.cells) (fun y hy => by obtain ⟨z, _, rfl⟩ := List.mem_map.1 hy; rfl) i x.cells j v (by rw [List.getElem?_map, hx]; rfl) hj)
      rw [Addr.add_lit, Nat.zero_add] at h8
      exact h8
    obtain ⟨cs, o1, o2, o3, o4, o5⟩ := w4
    refine ⟨x.b, x.c, hc 0 _ rfl, hc 1 _ rfl, hc 2 _ rfl, hc 3 _ rfl, by omega, o1.lt, (by unfold zInts at o3; rw [List.length_map] at o3; exact o3), fun j y hj => ?_⟩
    rw [o1.cells]
    refine o5 j _ ?_
    unfold zInts
    rw [List.getElem?_map, hj]
    rfl
/-- an append's run -/
theorem run_app {w : World} (t ty base : Nat) (e : TypeId) (z : Value) (size bytes : Nat) (ht : Tryz.prog.underlying t = some (.slice e)) (hinfo : (Tryz.prog.info? e).map (fun i => (i.zero, i.size, i.bytes)) = some (some z, size, bytes))
    (hzs : z.cells.size = size) (hsz : 0 < size) (hby : bytes ≤ 1000) (v : Value) (n : Nat) (xs : List Value) (hown : w.ownsRow base e size v n xs) (b : Nat) (T : TypeId) (news : Array Value) (hB : Blk w b T news) (hl : news.size = size) (h1 : ∀ u ∈ news.toList, u.oneCell' = true) (hn : n ≤ 1000000) (hbase : base ≤ w.heap.size) :
    ∃ g cap w', (Builtin.append_ #[t, t] ty #[v, .slice (some ⟨b, 0, none⟩) 1 1]).run Tryz.prog w = .ok (.slice (some ⟨g, 0, none⟩) (n + 1 : Nat) cap) w' ∧ w'.ownsRow base e size (.slice (some ⟨g, 0, none⟩) (n + 1 : Nat) cap) (n + 1) (xs ++ news.toList) ∧ w.grownBy w' v.ownBlock ∧ (v.ownBlock = some g ∨ g = w.heap.size) ∧ g < w'.heap.size := by
  obtain ⟨i0, hi, hz0, hz1, hz2⟩ := info_parts hinfo
  refine run_append_lies (P := Tryz.prog) w t ty base e i0 z size bytes ht hi hz0 hz1 hz2 hzs hsz v n xs hown ⟨b, 0, none⟩ 1 1 news.toList (by simpa using hl) (fun j u hj => ?_) h1 (by omega) (by unfold maxLen; omega) ?_ hbase _ rfl
  · rw [Addr.add_lit, hB.cells, Nat.zero_add, ← Array.getElem?_toList]
    exact hj
  · have := Nat.mul_le_mul (show n + 1 ≤ 1000001 by omega) hby
    omega
end
end Go.Proofs.YtdfgmmjcamhdjaaGreatDoor
