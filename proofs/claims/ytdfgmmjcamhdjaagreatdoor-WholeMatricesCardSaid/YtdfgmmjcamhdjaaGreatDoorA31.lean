/- Steps to WholeMatrices' card; what each asks stands in it. -/
import Derived.Test.YtdfgmmjcamhdjaaGreatDoorA30
set_option linter.unusedVariables false
set_option linter.unusedSimpArgs false
namespace Go.Proofs.YtdfgmmjcamhdjaaGreatDoor
section
open Go.RowKit
attribute [local go_sem ↓] Go.wp_at_zero Go.wp_at_succ
set_option maxHeartbeats 4000000 in
set_option maxRecDepth 100000 in
theorem f112_any (n px pz pp qx qz qp qb cap : Nat) (w : World) (hn1 : 1 ≤ n) (hn : n ≤ 6) (h1 : px < 64) (h2 : pz < 64) (h3 : qx < 64) (h4 : qz < 64) (h5 : pp < 4) (h6 : qp < 4) (hQ : Blk w qb 49 #[.int .i64 n, .int .i64 qx, .int .i64 qz, .int .i64 qp])
    (hpq : ∀ k, k < n → letK px pz k = 0 ∨ letK qx qz k = 0 ∨ letK px pz k = letK qx qz k ∨ (letK px pz k = 3 ∧ letK qx qz k = 1)) :
    Calls Tryz.prog 112 #[pauV n px pz pp, .slice (some ⟨qb, 0, none⟩) 1 cap] w fun e w' => e = .returned (pauV n (timX px pz qx qz n) (timZ px pz qx qz n) ((pp + qp + timP px pz qx qz n) % 4)) ∧ Below w.heap.size w w' := by
  have e60 : ∀ args w, (callFunc 60 args).run Tryz.prog w = .ok (.enter 60 args) w := enters_of Tryz.func60 (by kernel_rfl) rfl
  have cQ := hQ.cells
  have lQ := hQ.lt
  have hb0 : Below w.heap.size w ((w.alloc (.cells #[.int .i64 n, .int .i64 px, .int .i64 pz, .int .i64 pp] 49)).alloc (.cells #[.int .i64 0, .int .i64 0, .int .i64 0, .int .i64 0] 49)) := ((Below.refl _ _).alloc (Nat.le_refl _) _).alloc (by simp) _
  have hP0 : Blk ((w.alloc (.cells #[.int .i64 n, .int .i64 px, .int .i64 pz, .int .i64 pp] 49)).alloc (.cells #[.int .i64 0, .int .i64 0, .int .i64 0, .int .i64 0] 49)) w.heap.size 49 #[.int .i64 n, .int .i64 px, .int .i64 pz, .int .i64 pp] := (Blk.new _ _ _).alloc _
  have hR0 : Blk ((w.alloc (.cells #[.int .i64 n, .int .i64 px, .int .i64 pz, .int .i64 pp] 49)).alloc (.cells #[.int .i64 0, .int .i64 0, .int .i64 0, .int .i64 0] 49)) (w.heap.size + 1) 49 #[.int .i64 0, .int .i64 0, .int .i64 0, .int .i64 0] := Blk.new' _ _ (by simp)
  unfold pauV
  obtain ⟨pX, hpX⟩ : ∃ x, timX px pz qx qz n = x := ⟨_, rfl⟩
  obtain ⟨pZ, hpZ⟩ : ∃ x, timZ px pz qx qz n = x := ⟨_, rfl⟩
  obtain ⟨pP, hpP⟩ : ∃ x, (pp + qp + timP px pz qx qz n) % 4 = x := ⟨_, rfl⟩
  rw [hpX, hpZ, hpP]
  go_enter Tryz.func112, Tryz.ntmps112
  go_wp2_with (fail)
  generalize hw0 : ((w.alloc (.cells #[.int .i64 n, .int .i64 px, .int .i64 pz, .int .i64 pp] 49)).alloc (.cells #[.int .i64 0, .int .i64 0, .int .i64 0, .int .i64 0] 49)) = w0 at hb0 hP0 hR0 ⊢
  clear hw0
  go_loopg [15] 1 (fun gg s15 wr => ∃ kk : Nat, kk ≤ 1 ∧ 1 - kk ≤ gg ∧ s15 = .int .i64 kk ∧ Aside (Blk wr w.heap.size 49 (if kk = 0 then #[.int .i64 n, .int .i64 px, .int .i64 pz, .int .i64 pp] else #[.int .i64 n, .int .i64 pX, .int .i64 pZ, .int .i64 pP])) ∧ Aside (Blk wr (w.heap.size + 1) 49 #[.int .i64 0, .int .i64 0, .int .i64 0, .int .i64 0]) ∧ Aside (Below w.heap.size w wr))
  case atStart => exact ⟨0, Nat.zero_le _, by omega, rfl, (show Aside _ from hP0), (show Aside _ from hR0), (show Aside _ from hb0)⟩
  case round =>
    obtain ⟨kk, hkk, hg, rfl, AP, AR, AW⟩ := hrel
    have hP := AP.out
    have hR := AR.out
    have hW := AW.out
    clear AP AR AW hP0 hR0 hb0
    by_cases hlt : kk < 1
    · obtain rfl : kk = 0 := by omega
      rw [if_pos rfl] at hP
      have cQr := (hQ.below hW).cells
      clear cQ
      go_wp2_with (fail)
      have hbA : Below wr.heap.size wr (wr.alloc (.cells #[.int .i64 n, .int .i64 qx, .int .i64 qz, .int .i64 qp] 49)) := (Below.refl _ _).alloc (Nat.le_refl _) _
      have hPa := hP.below hbA
      have hRa := hR.below hbA
      have hWa := bt hW hbA
      have hQa : Blk (wr.alloc (.cells #[.int .i64 n, .int .i64 qx, .int .i64 qz, .int .i64 qp] 49)) wr.heap.size 49 #[.int .i64 n, .int .i64 qx, .int .i64 qz, .int .i64 qp] := Blk.new _ _ _
      generalize hwa : wr.alloc (.cells #[.int .i64 n, .int .i64 qx, .int .i64 qz, .int .i64 qp] 49) = wa at hPa hRa hWa hQa ⊢
      obtain ⟨bq, hbq⟩ : ∃ b, wr.heap.size = b := ⟨_, rfl⟩
      rw [hbq] at hQa ⊢
      have hbqw : w.heap.size + 1 < bq := by have := hR.lt; omega
      clear hwa hbA hbq hP hR hW cQr
      have cPa := hPa.cells
      have cQa := hQa.cells
      go_region
      have hbD : Below wa.heap.size wa ((wa.alloc (.cells #[.int .i64 n, .int .i64 0, .int .i64 0, .int .i64 ((pp : Int) + (qp : Int))] 49)).drew) := ((Below.refl _ wa).alloc (Nat.le_refl _) _).drew
      have hPd := hPa.below hbD
      have hRd := hRa.below hbD
      have hQd := hQa.below hbD
      have hWd := bt hWa hbD
      have hOd : Blk ((wa.alloc (.cells #[.int .i64 n, .int .i64 0, .int .i64 0, .int .i64 ((pp : Int) + (qp : Int))] 49)).drew) wa.heap.size 49 #[.int .i64 n, .int .i64 0, .int .i64 0, .int .i64 ((pp : Int) + (qp : Int))] := Blk.new wa 49 #[.int .i64 n, .int .i64 0, .int .i64 0, .int .i64 ((pp : Int) + (qp : Int))]
      have hbow : bq < wa.heap.size := hQa.lt
      have lPa := hPa.lt
      clear hbD
      go_wp2_with (fail)
      generalize hwd : (wa.alloc (.cells #[.int .i64 n, .int .i64 0, .int .i64 0, .int .i64 ((pp : Int) + (qp : Int))] 49)).drew = wd at hPd hRd hQd hWd hOd ⊢
      obtain ⟨bo, hbo⟩ : ∃ b, wa.heap.size = b := ⟨_, rfl⟩
      rw [hbo] at hOd hbow ⊢
      clear hwd hbo cPa cQa hPa hRa hWa hQa lPa
      have hOd' : Blk wd bo 49 #[.int .i64 n, .int .i64 (timX px pz qx qz 0), .int .i64 (timZ px pz qx qz 0), .int .i64 ((pp + qp + timP px pz qx qz 0 : Nat) : Int)] := by
        rw [show ((pp + qp + timP px pz qx qz 0 : Nat) : Int) = (pp : Int) + (qp : Int) from by simp [timP]]
        exact hOd
      clear hOd
      go_loopg [35] n (fun gg s35 wr => ∃ k : Nat, k ≤ n ∧ n - k ≤ gg ∧ s35 = .int .i64 k ∧ Aside (Blk wr bo 49 #[.int .i64 n, .int .i64 (timX px pz qx qz k), .int .i64 (timZ px pz qx qz k), .int .i64 ((pp + qp + timP px pz qx qz k : Nat) : Int)]) ∧ Aside (Blk wr w.heap.size 49 #[.int .i64 n, .int .i64 px, .int .i64 pz, .int .i64 pp]) ∧ Aside (Blk wr (w.heap.size + 1) 49 #[.int .i64 0, .int .i64 0, .int .i64 0, .int .i64 0]) ∧ Aside (Below w.heap.size w wr))
      case atStart => exact ⟨0, Nat.zero_le _, by omega, rfl, (show Aside _ from hOd'), (show Aside _ from hPd), (show Aside _ from hRd), (show Aside _ from hWd)⟩
      case round =>
        obtain ⟨k, hk, hg2, rfl, AO, AP, AR, AW⟩ := hrel
        have hO := AO.out
        have hP := AP.out
        have hR := AR.out
        have hW := AW.out
        clear AO AP AR AW hOd' hPd hRd hWd hQd
        by_cases hltk : k < n
        · as_aux_lemma =>
            have hltz : (k : Int) < (n : Int) := by omega
            have hok := hpq k hltk
            have hl1 := letK_lt px pz k
            have hl2 := letK_lt qx qz k
            have hX : timX px pz qx qz (k + 1) = timX px pz qx qz k ||| oneX (prodK (letK px pz k) (letK qx qz k)).1 k := rfl
            have hZ : timZ px pz qx qz (k + 1) = timZ px pz qx qz k ||| oneZ (prodK (letK px pz k) (letK qx qz k)).1 k := rfl
            have hPh : timP px pz qx qz (k + 1) = timP px pz qx qz k + (prodK (letK px pz k) (letK qx qz k)).2 := rfl
            have H1 := fun W => f60_any n px pz pp k .nilFunc W h1 h2 (by omega)
            have H2 := fun W => f60_any n qx qz qp k .nilFunc W h3 h4 (by omega)
            have bX := timX_lt px pz qx qz k 6 (by omega)
            have bZ := timZ_lt px pz qx qz k 6 (by omega)
            have bP := timP_le px pz qx qz k
            obtain ⟨x0, hx0⟩ : ∃ x, timX px pz qx qz k = x := ⟨_, rfl⟩
            obtain ⟨z0, hz0⟩ : ∃ x, timZ px pz qx qz k = x := ⟨_, rfl⟩
            obtain ⟨p0, hp0⟩ : ∃ x, timP px pz qx qz k = x := ⟨_, rfl⟩
            rw [hx0] at hX hO bX
            rw [hz0] at hZ hO bZ
            rw [hp0] at hPh hO bP
            obtain ⟨la, hla⟩ : ∃ x, letK px pz k = x := ⟨_, rfl⟩
            obtain ⟨lb, hlb⟩ : ∃ x, letK qx qz k = x := ⟨_, rfl⟩
            rw [hla] at hok hl1 hX hZ hPh H1
            rw [hlb] at hok hl2 hX hZ hPh H2
            have H141 := fun W => f141_all la lb W hl1 hl2 hok
            have hpb := prodK_bd la lb hl1 hl2
            unfold kv at H141
            obtain ⟨m1, hm1⟩ : ∃ x, (prodK la lb).1 = x := ⟨_, rfl⟩
            obtain ⟨m2, hm2⟩ : ∃ x, (prodK la lb).2 = x := ⟨_, rfl⟩
            rw [hm1] at hX hZ H141 hpb
            rw [hm2] at hPh H141 hpb
            have H110 := fun W => f110_any n k m1 W (by omega) hpb.1
            unfold pauV at H110
            have oX := oneX_lt m1 k 6 (by omega)
            have oZ := oneZ_lt m1 k 6 (by omega)
            obtain ⟨c1, hc1⟩ : ∃ x, oneX m1 k = x := ⟨_, rfl⟩
            obtain ⟨c2, hc2⟩ : ∃ x, oneZ m1 k = x := ⟨_, rfl⟩
            rw [hc1] at hX H110 oX
            rw [hc2] at hZ H110 oZ
            clear hm1 hm2 hc1 hc2 hla hlb hok hpX hpZ hpP hpq hx0 hz0 hp0
            have cO := hO.cells
            have cP := hP.cells
            go_wp2_with (first
              | (go_at_fn 60; refine (H1 _).mono ?_; clear H1; rintro e w1 ⟨rfl, hb1⟩)
              | (go_at_fn 60; refine (H2 _).mono ?_; clear H2; rintro e w2 ⟨rfl, hb2⟩; have hb12 := bt hb1 hb2)
              | (go_at_call 141; refine (H141 _).mono ?_; clear H141; rintro e w3 ⟨rfl, hb3⟩; have hb13 := bt hb12 hb3; have hP3 := hP.below hb13; have cP3 := hP3.cells; have lP3 := hP3.lt; have hM3 := Blk.new w3 176 #[.int .i64 m1, .int .i64 m2])
              | (go_at_call 110; refine (H110 _).mono ?_; clear H110; rintro e w4 ⟨rfl, hb4⟩; have hM4 := hM3.below hb4; have hb14 := bt (hb13.alloc hb13.size (.cells #[.int .i64 m1, .int .i64 m2] 176)) hb4; have hO4 := hO.below hb14; have hP4 := hP.below hb14; have hR4 := hR.below hb14; have hW4 := bt hW hb14))
            as_aux_lemma =>
              have hbE : Below w4.heap.size w4 (w4.alloc (.cells #[.int .i64 n, .int .i64 c1, .int .i64 c2, .int .i64 0] 49)) := (Below.refl _ _).alloc (Nat.le_refl _) _
              have hO5 := hO4.below hbE
              have hP5 := hP4.below hbE
              have hR5 := hR4.below hbE
              have hM5 := hM4.below hbE
              have hW5 := bt hW4 hbE
              have hC5 : Blk (w4.alloc (.cells #[.int .i64 n, .int .i64 c1, .int .i64 c2, .int .i64 0] 49)) w4.heap.size 49 #[.int .i64 n, .int .i64 c1, .int .i64 c2, .int .i64 0] := Blk.new _ _ _
              generalize hw5 : w4.alloc (.cells #[.int .i64 n, .int .i64 c1, .int .i64 c2, .int .i64 0] 49) = w5 at hO5 hP5 hR5 hM5 hW5 hC5 ⊢
              obtain ⟨bc, hbc⟩ : ∃ b, w4.heap.size = b := ⟨_, rfl⟩
              obtain ⟨bm, hbm⟩ : ∃ b, w3.heap.size = b := ⟨_, rfl⟩
              have n1 : bo < bm := by rw [← hbm]; have := hO.lt; have := hb13.size; omega
              have n2 : bm < bc := by rw [← hbc, ← hbm]; exact hM4.lt
              rw [hbc] at hC5 ⊢
              rw [hbm] at hM5 ⊢
              clear hw5 hbc hbm hbE hO4 hP4 hR4 hM4 hW4 hO hP hR hW hb14 hb4 hM3 lP3 cP3 hP3 hb13 hb3 hb12 hb2 hb1 cO cP
              have e1 := i64_or x0 c1 (by omega) (by omega)
              have e2 := i64_or z0 c2 (by omega) (by omega)
              obtain ⟨xo, hxo⟩ : ∃ xo, x0 ||| c1 = xo := ⟨_, rfl⟩
              obtain ⟨zo, hzo⟩ : ∃ zo, z0 ||| c2 = zo := ⟨_, rfl⟩
              rw [hxo] at e1 hX
              rw [hzo] at e2 hZ
              have HX := Lib.hid hX
              have HZ := Lib.hid hZ
              have HPh := Lib.hid hPh
              clear hX hZ hPh hxo hzo
              have cO5 := hO5.cells
              have fO5 := hO5.frozen
              have cM5 := hM5.cells
              have cC5 := hC5.cells
              go_region
              have hO6 : Blk ((((w5.setCell ⟨bo, 1, none⟩ (.int .i64 (xo : Int))).setCell ⟨bo, 2, none⟩ (.int .i64 (zo : Int))).setCell ⟨bo, 3, none⟩ (.int .i64 ((pp : Int) + (qp : Int) + (p0 : Int) + (m2 : Int)))).drew) bo 49 #[.int .i64 n, .int .i64 (xo : Int), .int .i64 (zo : Int), .int .i64 ((pp : Int) + (qp : Int) + (p0 : Int) + (m2 : Int))] := (((hO5.set 1 (.int .i64 (xo : Int))).set 2 (.int .i64 (zo : Int))).set 3 (.int .i64 ((pp : Int) + (qp : Int) + (p0 : Int) + (m2 : Int))))
              have hP6 : Blk ((((w5.setCell ⟨bo, 1, none⟩ (.int .i64 (xo : Int))).setCell ⟨bo, 2, none⟩ (.int .i64 (zo : Int))).setCell ⟨bo, 3, none⟩ (.int .i64 ((pp : Int) + (qp : Int) + (p0 : Int) + (m2 : Int)))).drew) w.heap.size 49 #[.int .i64 n, .int .i64 px, .int .i64 pz, .int .i64 pp] := (((hP5.far (p := ⟨bo, 1, none⟩) (by show w.heap.size ≠ bo; omega) (.int .i64 (xo : Int))).far (p := ⟨bo, 2, none⟩) (by show w.heap.size ≠ bo; omega) (.int .i64 (zo : Int))).far (p := ⟨bo, 3, none⟩) (by show w.heap.size ≠ bo; omega) (.int .i64 ((pp : Int) + (qp : Int) + (p0 : Int) + (m2 : Int))))
              have hR6 : Blk ((((w5.setCell ⟨bo, 1, none⟩ (.int .i64 (xo : Int))).setCell ⟨bo, 2, none⟩ (.int .i64 (zo : Int))).setCell ⟨bo, 3, none⟩ (.int .i64 ((pp : Int) + (qp : Int) + (p0 : Int) + (m2 : Int)))).drew) (w.heap.size + 1) 49 #[.int .i64 0, .int .i64 0, .int .i64 0, .int .i64 0] := (((hR5.far (p := ⟨bo, 1, none⟩) (by show w.heap.size + 1 ≠ bo; omega) (.int .i64 (xo : Int))).far (p := ⟨bo, 2, none⟩) (by show w.heap.size + 1 ≠ bo; omega) (.int .i64 (zo : Int))).far (p := ⟨bo, 3, none⟩) (by show w.heap.size + 1 ≠ bo; omega) (.int .i64 ((pp : Int) + (qp : Int) + (p0 : Int) + (m2 : Int))))
              have hW6 : Below w.heap.size w ((((w5.setCell ⟨bo, 1, none⟩ (.int .i64 (xo : Int))).setCell ⟨bo, 2, none⟩ (.int .i64 (zo : Int))).setCell ⟨bo, 3, none⟩ (.int .i64 ((pp : Int) + (qp : Int) + (p0 : Int) + (m2 : Int)))).drew) := ((((hW5.setCell (p := ⟨bo, 1, none⟩) (by show _ ≤ bo; omega) (.int .i64 (xo : Int))).setCell (p := ⟨bo, 2, none⟩) (by show _ ≤ bo; omega) (.int .i64 (zo : Int))).setCell (p := ⟨bo, 3, none⟩) (by show _ ≤ bo; omega) (.int .i64 ((pp : Int) + (qp : Int) + (p0 : Int) + (m2 : Int))))).drew
              generalize (((w5.setCell ⟨bo, 1, none⟩ (.int .i64 (xo : Int))).setCell ⟨bo, 2, none⟩ (.int .i64 (zo : Int))).setCell ⟨bo, 3, none⟩ (.int .i64 ((pp : Int) + (qp : Int) + (p0 : Int) + (m2 : Int)))).drew = w6 at hO6 hP6 hR6 hW6 ⊢
              clear hO5 hP5 hR5 hM5 hW5 hC5 e1 e2 cO5 fO5 cM5 cC5
              clear bX bZ bP oX oZ hpb hl1 hl2 n1 n2 hbow hbqw hg lQ hQ
              go_wp2_with (fail)
              go_roundg (n - (k + 1))
              case measure => omega
              case rel => exact ⟨k + 1, by omega, by omega, by go_num, (show Aside _ from by rw [HX.out, HZ.out, HPh.out, show ((pp + qp + (p0 + m2) : Nat) : Int) = (pp : Int) + (qp : Int) + (p0 : Int) + (m2 : Int) from by simp [Nat.add_assoc, Int.add_assoc]]; exact hO6), (show Aside _ from hP6), (show Aside _ from hR6), (show Aside _ from hW6)⟩
        · as_aux_lemma =>
            have hltz : ¬ (k : Int) < (n : Int) := by omega
            obtain rfl : k = n := by omega
            clear hltk
            have hS0 : pp + qp + timP px pz qx qz k ≤ 100 := by have := timP_le px pz qx qz k; omega
            obtain ⟨S, hS⟩ : ∃ S, pp + qp + timP px pz qx qz k = S := ⟨_, rfl⟩
            rw [hpX, hpZ, hS] at hO
            rw [hS] at hpP hS0
            have hmod : (S : Int) % 4 = (pP : Int) := by rw [← hpP]; simp
            clear hpX hpZ hpP hpq hS
            have cO := hO.cells
            have fO := hO.frozen
            have cP := hP.cells
            have fP := hP.frozen
            have hPlt := hP.lt
            have hbow2 : w.heap.size ≠ bo := by omega
            go_wp2_with (fail)
            have hPn : Blk (((((wr.setCell ⟨bo, 3, none⟩ (.int .i64 pP)).setCell ⟨w.heap.size, 0, none⟩ (.int .i64 k)).setCell ⟨w.heap.size, 1, none⟩ (.int .i64 pX)).setCell ⟨w.heap.size, 2, none⟩ (.int .i64 pZ)).setCell ⟨w.heap.size, 3, none⟩ (.int .i64 pP)) w.heap.size 49 #[.int .i64 k, .int .i64 pX, .int .i64 pZ, .int .i64 pP] := ((((hP.far (p := ⟨bo, 3, none⟩) hbow2 (.int .i64 pP)).set 0 (.int .i64 k)).set 1 (.int .i64 pX)).set 2 (.int .i64 pZ)).set 3 (.int .i64 pP)
            have hRn : Blk (((((wr.setCell ⟨bo, 3, none⟩ (.int .i64 pP)).setCell ⟨w.heap.size, 0, none⟩ (.int .i64 k)).setCell ⟨w.heap.size, 1, none⟩ (.int .i64 pX)).setCell ⟨w.heap.size, 2, none⟩ (.int .i64 pZ)).setCell ⟨w.heap.size, 3, none⟩ (.int .i64 pP)) (w.heap.size + 1) 49 #[.int .i64 0, .int .i64 0, .int .i64 0, .int .i64 0] := ((((hR.far (p := ⟨bo, 3, none⟩) (by show w.heap.size + 1 ≠ bo; omega) (.int .i64 pP)).far (p := ⟨w.heap.size, 0, none⟩) (by show w.heap.size + 1 ≠ w.heap.size; omega) (.int .i64 k)).far (p := ⟨w.heap.size, 1, none⟩) (by show w.heap.size + 1 ≠ w.heap.size; omega) (.int .i64 pX)).far (p := ⟨w.heap.size, 2, none⟩) (by show w.heap.size + 1 ≠ w.heap.size; omega) (.int .i64 pZ)).far (p := ⟨w.heap.size, 3, none⟩) (by show w.heap.size + 1 ≠ w.heap.size; omega) (.int .i64 pP)
            have hWn : Below w.heap.size w (((((wr.setCell ⟨bo, 3, none⟩ (.int .i64 pP)).setCell ⟨w.heap.size, 0, none⟩ (.int .i64 k)).setCell ⟨w.heap.size, 1, none⟩ (.int .i64 pX)).setCell ⟨w.heap.size, 2, none⟩ (.int .i64 pZ)).setCell ⟨w.heap.size, 3, none⟩ (.int .i64 pP)) := ((((hW.setCell (p := ⟨bo, 3, none⟩) (by show w.heap.size ≤ bo; omega) (.int .i64 pP)).setCell (p := ⟨w.heap.size, 0, none⟩) (Nat.le_refl _) (.int .i64 k)).setCell (p := ⟨w.heap.size, 1, none⟩) (Nat.le_refl _) (.int .i64 pX)).setCell (p := ⟨w.heap.size, 2, none⟩) (Nat.le_refl _) (.int .i64 pZ)).setCell (p := ⟨w.heap.size, 3, none⟩) (Nat.le_refl _) (.int .i64 pP)
            generalize (((((wr.setCell ⟨bo, 3, none⟩ (.int .i64 pP)).setCell ⟨w.heap.size, 0, none⟩ (.int .i64 k)).setCell ⟨w.heap.size, 1, none⟩ (.int .i64 pX)).setCell ⟨w.heap.size, 2, none⟩ (.int .i64 pZ)).setCell ⟨w.heap.size, 3, none⟩ (.int .i64 pP)) = wn at hPn hRn hWn ⊢
            clear cO fO cP fP hO hP hR hW
            go_roundg 0
            case measure => omega
            case rel => exact ⟨1, Nat.le_refl _, by omega, rfl, (show Aside _ from (by rw [if_neg (by decide)]; exact hPn)), (show Aside _ from hRn), (show Aside _ from hWn)⟩
    · obtain rfl : kk = 1 := by omega
      rw [if_neg (by decide)] at hP
      have cP := hP.cells
      have cR := hR.cells
      have fR := hR.frozen
      have lR := hR.lt
      have hF := (((hR.set 0 (.int .i64 n)).set 1 (.int .i64 pX)).set 2 (.int .i64 pZ)).set 3 (.int .i64 pP)
      have cF := hF.cells
      have hWF := (((hW.setCell (p := ⟨w.heap.size + 1, 0, none⟩) (by show _ ≤ w.heap.size + 1; omega) (.int .i64 n)).setCell (p := ⟨w.heap.size + 1, 1, none⟩) (by show _ ≤ w.heap.size + 1; omega) (.int .i64 pX)).setCell (p := ⟨w.heap.size + 1, 2, none⟩) (by show _ ≤ w.heap.size + 1; omega) (.int .i64 pZ)).setCell (p := ⟨w.heap.size + 1, 3, none⟩) (by show _ ≤ w.heap.size + 1; omega) (.int .i64 pP)
      go_wp2_with (fail)
      exact bodyPost_ret (v := .agg #[.int .i64 n, .int .i64 pX, .int .i64 pZ, .int .i64 pP]) (by simp [results, Tryz.results112, go_sem, cF]) rfl ⟨rfl, hWF⟩
end
section
open Go.RowKit
attribute [local go_sem ↓] Go.wp_at_zero Go.wp_at_succ
theorem tim31 (n kk : Nat) (hkk : kk < n) : timX (oneX 3 kk) (oneZ 3 kk) (oneX 1 kk) (oneZ 1 kk) n = oneX 2 kk ∧ timZ (oneX 3 kk) (oneZ 3 kk) (oneX 1 kk) (oneZ 1 kk) n = oneZ 2 kk ∧ timP (oneX 3 kk) (oneZ 3 kk) (oneX 1 kk) (oneZ 1 kk) n = 1 := by
  have h : letK (oneX 3 kk) (oneZ 3 kk) kk = 3 := by rw [letK_one 3 kk kk (by decide), if_pos rfl]
  have he := letK_ext (timX_lt (oneX 3 kk) (oneZ 3 kk) (oneX 1 kk) (oneZ 1 kk) n n (Nat.le_refl _)) (timZ_lt (oneX 3 kk) (oneZ 3 kk) (oneX 1 kk) (oneZ 1 kk) n n (Nat.le_refl _)) (oneX_lt 2 kk n hkk) (oneZ_lt 2 kk n hkk) (fun i hi => by
    rw [letK_times _ _ _ _ _ _ (by decide) hi, h, letK_one 2 kk i (by decide), letK_one 3 kk i (by decide)]
    by_cases e : i = kk
    · rw [if_pos e, if_pos e]; rfl
    · rw [if_neg e, if_neg e, if_neg e])
  refine ⟨he.1, he.2, ?_⟩
  rw [timP_one _ _ _ _ (by decide), if_pos hkk, h]
  rfl
/-- the letter of a wire, through the gate H -/
def DoesPost (n kk i l : Nat) (w : World) (e : Ending) (w' : World) : Prop := e = .returned (pauV n (oneX (hL kk i l) i) (oneZ (hL kk i l) i) (hP kk i l)) ∧ Below w.heap.size w w'
set_option maxHeartbeats 2000000 in
set_option maxRecDepth 100000 in
theorem f109_far (n x z p kk i l b c G P : Nat) (w : World) (hn : n ≤ 6) (hi : i < n) (hkk : kk < n) (hl : l < 4) (hik : i ≠ kk) (hG : Blk w G 45 #[.int .i64 4, .slice (some ⟨b, 0, none⟩) 1 c, .int .i64 0, .int .i64 0]) (hPb : Blk w P 49 #[.int .i64 n, .int .i64 x, .int .i64 z, .int .i64 p]) (hW : WiresAt w b [kk]) :
    Calls Tryz.prog 109 #[.int .i64 i, .int .i64 l, .pointer (some ⟨G, 0, none⟩), .pointer (some ⟨P, 0, none⟩)] w (DoesPost n kk i l w) := by
  have hb0 : Below w.heap.size w (w.alloc (.cells #[.int .i64 0, .int .i64 0, .int .i64 0, .int .i64 0] 49)) := (Below.refl _ _).alloc (Nat.le_refl _) _
  have hR0 : Blk (w.alloc (.cells #[.int .i64 0, .int .i64 0, .int .i64 0, .int .i64 0] 49)) w.heap.size 49 #[.int .i64 0, .int .i64 0, .int .i64 0, .int .i64 0] := Blk.new _ _ _
  have hG0 := hG.below hb0
  have hP0 := hPb.below hb0
  have H95 := f95_one b c kk i _ (hW.below hb0 hW.1) (by omega) (by omega)
  rw [if_neg hik] at H95
  have e1 : hL kk i l = l := by unfold hL; rw [if_neg hik]
  have e2 : hP kk i l = 0 := by unfold hP; rw [if_neg (fun h => hik h.1)]
  unfold DoesPost
  rw [e1, e2]
  have H110 : ∀ W, Calls Tryz.prog 110 #[.int .i64 n, .int .i64 i, .int .i64 l] W fun e w' => e = .returned (.agg #[.int .i64 n, .int .i64 (oneX l i), .int .i64 (oneZ l i), .int .i64 0]) ∧ Below W.heap.size W w' := fun W => f110_any n i l W (by omega) hl
  unfold pauV
  obtain ⟨x1, hx1⟩ : ∃ x, oneX l i = x := ⟨_, rfl⟩
  obtain ⟨z1, hz1⟩ : ∃ x, oneZ l i = x := ⟨_, rfl⟩
  rw [hx1, hz1] at H110 ⊢
  clear hx1 hz1 e1 e2
  obtain ⟨w0, hw0⟩ : ∃ w0, w.alloc (.cells #[.int .i64 0, .int .i64 0, .int .i64 0, .int .i64 0] 49) = w0 := ⟨_, rfl⟩
  rw [hw0] at hb0 hR0 hG0 hP0 H95
  have cG := hG0.cells
  have cP := hP0.cells
  clear hG hPb hW
  go_enter Tryz.func109, Tryz.ntmps109
  go_wp2_with (first
    | (go_at_call 95; refine H95.mono ?_; clear H95; rintro e w1 ⟨rfl, hb1⟩; have cP1 := (hP0.below hb1).cells; have hR1 := hR0.below hb1)
    | (go_at_call 110; refine (H110 _).mono ?_; clear H110; rintro e w2 ⟨rfl, hb2⟩; have hR2 := hR1.below hb2; have cR2 := hR2.cells; have fR2 := hR2.frozen; have lR2 := hR2.lt; have hB2 := bt (bt hb0 hb1) hb2))
  have hF := (((hR2.set 0 (.int .i64 n)).set 1 (.int .i64 x1)).set 2 (.int .i64 z1)).set 3 (.int .i64 0)
  have cF := hF.cells
  have hWF := (((hB2.setCell (p := ⟨w.heap.size, 0, none⟩) (by show _ ≤ w.heap.size; omega) (.int .i64 n)).setCell (p := ⟨w.heap.size, 1, none⟩) (by show _ ≤ w.heap.size; omega) (.int .i64 x1)).setCell (p := ⟨w.heap.size, 2, none⟩) (by show _ ≤ w.heap.size; omega) (.int .i64 z1)).setCell (p := ⟨w.heap.size, 3, none⟩) (by show _ ≤ w.heap.size; omega) (.int .i64 0)
  exact bodyPost_ret (v := .agg #[.int .i64 n, .int .i64 x1, .int .i64 z1, .int .i64 0]) (by simp [results, Tryz.results109, go_sem, cF]) rfl ⟨rfl, hWF⟩
set_option maxHeartbeats 4000000 in
set_option maxRecDepth 100000 in
theorem f109_near (n x z p kk l b c G P : Nat) (w : World) (hn : n ≤ 6) (hkk : kk < n) (hl1 : 1 ≤ l) (hl : l < 4) (hc : 1 ≤ c) (hG : Blk w G 45 #[.int .i64 4, .slice (some ⟨b, 0, none⟩) 1 c, .int .i64 0, .int .i64 0]) (hPb : Blk w P 49 #[.int .i64 n, .int .i64 x, .int .i64 z, .int .i64 p]) (hW : WiresAt w b [kk]) :
    Calls Tryz.prog 109 #[.int .i64 kk, .int .i64 l, .pointer (some ⟨G, 0, none⟩), .pointer (some ⟨P, 0, none⟩)] w (DoesPost n kk kk l w) := by
  have hb0 : Below w.heap.size w (w.alloc (.cells #[.int .i64 0, .int .i64 0, .int .i64 0, .int .i64 0] 49)) := (Below.refl _ _).alloc (Nat.le_refl _) _
  have hR0 : Blk (w.alloc (.cells #[.int .i64 0, .int .i64 0, .int .i64 0, .int .i64 0] 49)) w.heap.size 49 #[.int .i64 0, .int .i64 0, .int .i64 0, .int .i64 0] := Blk.new _ _ _
  have hG0 := hG.below hb0
  have hP0 := hPb.below hb0
  have hW0 := hW.below hb0 hW.1
  have H95 := f95_one b c kk kk _ hW0 (by omega) (by omega)
  rw [if_pos rfl] at H95
  have H111 : ∀ W, WiresAt W b [kk] → Calls Tryz.prog 111 #[.int .i64 n, .agg #[.int .i64 4, .slice (some ⟨b, 0, none⟩) 1 c, .int .i64 0, .int .i64 0], .int .i64 0] W fun e w' => e = .returned (.tuple #[.agg #[.int .i64 n, .int .i64 (oneX 3 kk), .int .i64 (oneZ 3 kk), .int .i64 0], .agg #[.int .i64 n, .int .i64 (oneX 1 kk), .int .i64 (oneZ 1 kk), .int .i64 0]]) ∧ Below W.heap.size W w' := fun W hW => f111_4 n kk b c W hW (by omega) hc
  have H112 : ∀ W qb cap, Blk W qb 49 #[.int .i64 n, .int .i64 (oneX 1 kk), .int .i64 (oneZ 1 kk), .int .i64 0] → Calls Tryz.prog 112 #[.agg #[.int .i64 n, .int .i64 (oneX 3 kk), .int .i64 (oneZ 3 kk), .int .i64 0], .slice (some ⟨qb, 0, none⟩) 1 cap] W fun e w' => e = .returned (.agg #[.int .i64 n, .int .i64 (oneX 2 kk), .int .i64 (oneZ 2 kk), .int .i64 1]) ∧ Below W.heap.size W w' := by
    intro W qb cap hQ
    have h := f112_any n (oneX 3 kk) (oneZ 3 kk) 0 (oneX 1 kk) (oneZ 1 kk) 0 qb cap W (by omega) hn (oneX_lt _ _ 6 (by omega)) (oneZ_lt _ _ 6 (by omega)) (oneX_lt _ _ 6 (by omega)) (oneZ_lt _ _ 6 (by omega)) (by decide) (by decide) hQ (fun k hk => by
      rw [letK_one 3 kk k (by decide), letK_one 1 kk k (by decide)]
      by_cases e : k = kk
      · rw [if_pos e, if_pos e]; exact .inr (.inr (.inr ⟨rfl, rfl⟩))
      · rw [if_neg e]; exact .inl rfl)
    obtain ⟨t1, t2, t3⟩ := tim31 n kk hkk
    rw [t1, t2, t3] at h
    exact h
  have hcase : (l = 1 ∧ hL kk kk l = 3 ∧ hP kk kk l = 0) ∨ (l = 2 ∧ hL kk kk l = 2 ∧ hP kk kk l = 2) ∨ (l = 3 ∧ hL kk kk l = 1 ∧ hP kk kk l = 0) := by
    have : l = 1 ∨ l = 2 ∨ l = 3 := by omega
    unfold hL hP
    rcases this with rfl | rfl | rfl
    · exact .inl ⟨rfl, by simp, by simp⟩
    · exact .inr (.inl ⟨rfl, by simp, by simp⟩)
    · exact .inr (.inr ⟨rfl, by simp, by simp⟩)
  unfold DoesPost pauV
  obtain ⟨w0, hw0⟩ : ∃ w0, w.alloc (.cells #[.int .i64 0, .int .i64 0, .int .i64 0, .int .i64 0] 49) = w0 := ⟨_, rfl⟩
  rw [hw0] at hb0 hR0 hG0 hP0 H95 hW0
  have cG := hG0.cells
  have cP := hP0.cells
  clear hG hPb hW
  obtain ⟨rfl, e1, e2⟩ | ⟨rfl, e1, e2⟩ | ⟨rfl, e1, e2⟩ := hcase
  all_goals rw [e1, e2]
  all_goals clear e1 e2
  all_goals obtain ⟨x1, hx1⟩ : ∃ x, oneX 1 kk = x := ⟨_, rfl⟩
  all_goals obtain ⟨x2, hx2⟩ : ∃ x, oneX 2 kk = x := ⟨_, rfl⟩
  all_goals obtain ⟨x3, hx3⟩ : ∃ x, oneX 3 kk = x := ⟨_, rfl⟩
  all_goals obtain ⟨z1, hz1⟩ : ∃ x, oneZ 1 kk = x := ⟨_, rfl⟩
  all_goals obtain ⟨z2, hz2⟩ : ∃ x, oneZ 2 kk = x := ⟨_, rfl⟩
  all_goals obtain ⟨z3, hz3⟩ : ∃ x, oneZ 3 kk = x := ⟨_, rfl⟩
  all_goals rw [hx1, hz1, hx3, hz3] at H111 H112
  all_goals rw [hx2, hz2] at H112
  all_goals first | rw [hx1, hz1] | rw [hx2, hz2] | rw [hx3, hz3]
  all_goals clear hx1 hx2 hx3 hz1 hz2 hz3
  all_goals
    go_enter Tryz.func109, Tryz.ntmps109
    go_wp2_with (first
      | (go_at_call 95; refine H95.mono ?_; clear H95; rintro e w1 ⟨rfl, hb1⟩; have cP1 := (hP0.below hb1).cells; have cG1 := (hG0.below hb1).cells; have hR1 := hR0.below hb1; have hW1 := hW0.below hb1 hW0.1)
      | (go_at_call 111; refine (H111 _ hW1).mono ?_; clear H111; rintro e w2 ⟨rfl, hb2⟩; have hR2 := hR1.below hb2; have hB2 := bt (bt hb0 hb1) hb2; have hK2 : Below w2.heap.size w2 ((w2.alloc (.cells #[.int .i64 n, .int .i64 x3, .int .i64 z3, .int .i64 0] 49)).alloc (.cells #[.int .i64 n, .int .i64 x1, .int .i64 z1, .int .i64 0] 49)) := ((Below.refl _ _).alloc (Nat.le_refl _) _).alloc (by simp) _; have cR2 := hR2.cells; have fR2 := hR2.frozen; have lR2 := hR2.lt)
      | (go_at_call 112; refine (H112 _ _ _ (Blk.new' _ _ (by simp))).mono ?_; clear H112; rintro e w4 ⟨rfl, hb4⟩; have hK4 : Below w2.heap.size w2 (((w2.alloc (.cells #[.int .i64 n, .int .i64 x3, .int .i64 z3, .int .i64 0] 49)).alloc (.cells #[.int .i64 n, .int .i64 x1, .int .i64 z1, .int .i64 0] 49)).alloc (.cells #[.int .i64 n, .int .i64 x1, .int .i64 z1, .int .i64 0] 49)) := (((Below.refl _ _).alloc (Nat.le_refl _) _).alloc (by simp) _).alloc (by simp; omega) _; have hR4 := hR2.below (bt hK4 hb4); have hB4 := bt hB2 (bt hK4 hb4); have hR5 := hR4.alloc (.cells #[.int .i64 n, .int .i64 x2, .int .i64 z2, .int .i64 1] 49); have hB5 := hB4.alloc hB4.size (.cells #[.int .i64 n, .int .i64 x2, .int .i64 z2, .int .i64 1] 49); have hO5 := Blk.new w4 49 #[.int .i64 n, .int .i64 x2, .int .i64 z2, .int .i64 1]; have cR4 := hR4.cells; have fR4 := hR4.frozen; have cR5 := hR5.cells; have fR5 := hR5.frozen; have cO5 := hO5.cells; have lR4 := hR4.lt))
  · have hF := (((hR2.set4 (.int .i64 n) (.int .i64 x3) (.int .i64 z3) (.int .i64 0)).alloc (.cells #[.int .i64 n, .int .i64 x3, .int .i64 z3, .int .i64 0] 49)).alloc (.cells #[.int .i64 n, .int .i64 x1, .int .i64 z1, .int .i64 0] 49))
    have cF := hF.cells
    have hWF := (((below_set4 hB2 (p := w.heap.size) (Nat.le_refl _) (.int .i64 n) (.int .i64 x3) (.int .i64 z3) (.int .i64 0)).alloc (by simp; omega) (.cells #[.int .i64 n, .int .i64 x3, .int .i64 z3, .int .i64 0] 49)).alloc (by simp; omega) (.cells #[.int .i64 n, .int .i64 x1, .int .i64 z1, .int .i64 0] 49))
    exact bodyPost_ret (v := .agg #[.int .i64 n, .int .i64 x3, .int .i64 z3, .int .i64 0]) (by simp [results, Tryz.results109, go_sem, cF]) rfl ⟨rfl, hWF⟩
  · have hF := ((hR4.set4 (.int .i64 n) (.int .i64 x2) (.int .i64 z2) (.int .i64 2)).alloc (.cells #[.int .i64 n, .int .i64 x2, .int .i64 z2, .int .i64 2] 49))
    have cF := hF.cells
    have hWF := ((below_set4 hB4 (p := w.heap.size) (Nat.le_refl _) (.int .i64 n) (.int .i64 x2) (.int .i64 z2) (.int .i64 2)).alloc (by simp; omega) (.cells #[.int .i64 n, .int .i64 x2, .int .i64 z2, .int .i64 2] 49))
    exact bodyPost_ret (v := .agg #[.int .i64 n, .int .i64 x2, .int .i64 z2, .int .i64 2]) (by simp [results, Tryz.results109, go_sem, cF]) rfl ⟨rfl, hWF⟩
  · have hF := (((hR2.set4 (.int .i64 n) (.int .i64 x1) (.int .i64 z1) (.int .i64 0)).alloc (.cells #[.int .i64 n, .int .i64 x3, .int .i64 z3, .int .i64 0] 49)).alloc (.cells #[.int .i64 n, .int .i64 x1, .int .i64 z1, .int .i64 0] 49))
    have cF := hF.cells
    have hWF := (((below_set4 hB2 (p := w.heap.size) (Nat.le_refl _) (.int .i64 n) (.int .i64 x1) (.int .i64 z1) (.int .i64 0)).alloc (by simp; omega) (.cells #[.int .i64 n, .int .i64 x3, .int .i64 z3, .int .i64 0] 49)).alloc (by simp; omega) (.cells #[.int .i64 n, .int .i64 x1, .int .i64 z1, .int .i64 0] 49))
    exact bodyPost_ret (v := .agg #[.int .i64 n, .int .i64 x1, .int .i64 z1, .int .i64 0]) (by simp [results, Tryz.results109, go_sem, cF]) rfl ⟨rfl, hWF⟩
end
section
open Go.RowKit Go.Shelf
attribute [local go_sem] Oper.semAt_some
/-- the string at work, behind some wires -/
def thrC (n kk x z : Nat) (s : Nat × Nat × Nat) (l : List Nat) : Array Value := #[.int .i64 n, .int .i64 (thrF n kk x z s l).1, .int .i64 (thrF n kk x z s l).2.1, .int .i64 (thrF n kk x z s l).2.2]
theorem thrF_snoc (n kk x z : Nat) (s : Nat × Nat × Nat) (l : List Nat) (i : Nat) : thrF n kk x z s (l ++ [i]) = thrS n kk x z (thrF n kk x z s l) i := by
  unfold thrF
  rw [List.foldl_append]
  rfl
def ThrPost (n kk x z p : Nat) (w : World) (e : Ending) (w' : World) : Prop := e = .returned (pauV n (thrF n kk x z (0, 0, p) (wiresK x z n)).1 (thrF n kk x z (0, 0, p) (wiresK x z n)).2.1 (thrF n kk x z (0, 0, p) (wiresK x z n)).2.2) ∧ Below w.heap.size w w'
/-- the promises of the region's operations -/
def thrR (n kk i la qx qz qp s1 s2 s3 : Nat) (FV KV : Value) (Kb : Nat) (r : Value) (j : Nat) (v : Value) (W : World) : Prop :=
  match j with
  | 0 => v = .agg #[.int .i64 n, .int .i64 s1, .int .i64 s2, .int .i64 s3]
  | 1 => v = .pointer (some ⟨Kb, 4, none⟩)
  | 2 => v = FV
  | 3 => v = .int .i64 i
  | 4 => v = KV
  | 5 => v = .int .i64 i
  | 6 => v = .int .i64 la
  | 7 => v = .agg #[.int .i64 n, .int .i64 qx, .int .i64 qz, .int .i64 qp]
  | 8 => ∃ bq, v = .slice (some ⟨bq, 0, none⟩) 1 1 ∧ Blk W bq 49 #[.int .i64 n, .int .i64 qx, .int .i64 qz, .int .i64 qp]
  | 9 => v = r
  | _ => True
theorem thrR_below {n kk i la qx qz qp s1 s2 s3 : Nat} {FV KV : Value} {Kb : Nat} {r : Value} {j : Nat} {v : Value} {W W' : World} (hb : Below W.heap.size W W') (h : thrR n kk i la qx qz qp s1 s2 s3 FV KV Kb r j v W) : thrR n kk i la qx qz qp s1 s2 s3 FV KV Kb r j v W' := by
  unfold thrR at *
  split at h
  case h_9 =>
    obtain ⟨bq, h1, h2⟩ := h
    exact ⟨bq, h1, h2.below hb⟩
  all_goals exact h
theorem tailT_lit {P : Program} {l n0 m : Nat} {ol : List Oper} {Q : Exit → Act → World → Prop} {a : Act} {w : World} (h : wpListIn (Fence.wide.inRound l) n0 P ol.toArray Q (ol.drop m) a w) : wpOpsIn (Fence.wide.inRound l) n0 P ol.toArray Q (List.range' m (ol.toArray.size - m)) a w := by
  rw [show ol.toArray.size - m = (ol.drop m).length from by simp, wpOpsIn_eq_wpListIn (ol.drop m) m (fun j => by simp)]
  exact h
theorem keepsFrom_set4 (B : Nat) (w : World) (p : Nat) (v0 v1 v2 v3 : Value) : KeepsFrom B w ((((w.setCell ⟨p, 0, none⟩ v0).setCell ⟨p, 1, none⟩ v1).setCell ⟨p, 2, none⟩ v2).setCell ⟨p, 3, none⟩ v3) :=
  ((((KeepsOthers.setCell _ _ _).from B).trans ((KeepsOthers.setCell _ _ _).from B)).trans ((KeepsOthers.setCell _ _ _).from B)).trans ((KeepsOthers.setCell _ _ _).from B)
theorem keepsBlk_set4 {b p : Nat} {w : World} (h : b ≠ p) (v0 v1 v2 v3 : Value) : KeepsBlk b w ((((w.setCell ⟨p, 0, none⟩ v0).setCell ⟨p, 1, none⟩ v1).setCell ⟨p, 2, none⟩ v2).setCell ⟨p, 3, none⟩ v3) := fun i v hv =>
  keep_set (p := ⟨b, i, none⟩) h (keep_set (p := ⟨b, i, none⟩) h (keep_set (p := ⟨b, i, none⟩) h (keep_set (p := ⟨b, i, none⟩) h hv)))
def notDstM (ops : Array Oper) (m x : Nat) : Bool := (List.range m).all fun d => Rely.dstOf ops d != some x
theorem notDstM_spec {ops : Array Oper} {m x : Nat} (h : notDstM ops m x = true) : ∀ d, d < m → ∀ t, Rely.dstOf ops d = some t → Operand.tmp x ≠ .tmp t := by
  intro d hd t ht e
  cases e
  have := List.all_eq_true.1 h d (List.mem_range.2 hd)
  rw [ht] at this
  simp at this
set_option maxHeartbeats 4000000 in
set_option maxRecDepth 100000 in
theorem f58_any (n x z p kk b c : Nat) (w : World) (hn1 : 1 ≤ n) (hn : n ≤ 6) (hx : x < 64) (hz : z < 64) (hp : p < 4) (hkk : kk < n) (hc : 1 ≤ c) (hW : WiresAt w b [kk]) :
    Calls Tryz.prog 58 #[.agg #[.int .i64 n, .int .i64 x, .int .i64 z, .int .i64 p], .agg #[.int .i64 4, .slice (some ⟨b, 0, none⟩) 1 c, .int .i64 0, .int .i64 0]] w (ThrPost n kk x z p w) := by
  have hlb := hW.1
  have hP0 : Blk ((((((w.alloc (.cells #[.int .i64 n, .int .i64 x, .int .i64 z, .int .i64 p] 49)).alloc (.cells #[.int .i64 4, .slice (some ⟨b, 0, none⟩) 1 c, .int .i64 0, .int .i64 0] 45)).alloc (.cells #[.int .i64 0, .int .i64 0, .int .i64 0, .int .i64 0] 49)).alloc (.cells #[.int .i64 n, .int .i64 x, .int .i64 z, .int .i64 p, (.func (.func 109) #[] #[.pointer (some ⟨w.heap.size + 1, 0, none⟩), .pointer (some ⟨w.heap.size, 0, none⟩)])] 108)).alloc (.cells #[.int .i64 n, .int .i64 0, .int .i64 0, .int .i64 p] 49)).alloc (.cells #[.int .i64 n, .int .i64 x, .int .i64 z, .int .i64 p, (.func (.func 109) #[] #[.pointer (some ⟨w.heap.size + 1, 0, none⟩), .pointer (some ⟨w.heap.size, 0, none⟩)])] 108)) (w.heap.size) 49 #[.int .i64 n, .int .i64 x, .int .i64 z, .int .i64 p] := ((((((Blk.new' _ _ (by simp)).alloc _).alloc _).alloc _).alloc _).alloc _)
  have hG0 : Blk ((((((w.alloc (.cells #[.int .i64 n, .int .i64 x, .int .i64 z, .int .i64 p] 49)).alloc (.cells #[.int .i64 4, .slice (some ⟨b, 0, none⟩) 1 c, .int .i64 0, .int .i64 0] 45)).alloc (.cells #[.int .i64 0, .int .i64 0, .int .i64 0, .int .i64 0] 49)).alloc (.cells #[.int .i64 n, .int .i64 x, .int .i64 z, .int .i64 p, (.func (.func 109) #[] #[.pointer (some ⟨w.heap.size + 1, 0, none⟩), .pointer (some ⟨w.heap.size, 0, none⟩)])] 108)).alloc (.cells #[.int .i64 n, .int .i64 0, .int .i64 0, .int .i64 p] 49)).alloc (.cells #[.int .i64 n, .int .i64 x, .int .i64 z, .int .i64 p, (.func (.func 109) #[] #[.pointer (some ⟨w.heap.size + 1, 0, none⟩), .pointer (some ⟨w.heap.size, 0, none⟩)])] 108)) (w.heap.size + 1) 45 #[.int .i64 4, .slice (some ⟨b, 0, none⟩) 1 c, .int .i64 0, .int .i64 0] := (((((Blk.new' _ _ (by simp)).alloc _).alloc _).alloc _).alloc _)
  have hR0 : Blk ((((((w.alloc (.cells #[.int .i64 n, .int .i64 x, .int .i64 z, .int .i64 p] 49)).alloc (.cells #[.int .i64 4, .slice (some ⟨b, 0, none⟩) 1 c, .int .i64 0, .int .i64 0] 45)).alloc (.cells #[.int .i64 0, .int .i64 0, .int .i64 0, .int .i64 0] 49)).alloc (.cells #[.int .i64 n, .int .i64 x, .int .i64 z, .int .i64 p, (.func (.func 109) #[] #[.pointer (some ⟨w.heap.size + 1, 0, none⟩), .pointer (some ⟨w.heap.size, 0, none⟩)])] 108)).alloc (.cells #[.int .i64 n, .int .i64 0, .int .i64 0, .int .i64 p] 49)).alloc (.cells #[.int .i64 n, .int .i64 x, .int .i64 z, .int .i64 p, (.func (.func 109) #[] #[.pointer (some ⟨w.heap.size + 1, 0, none⟩), .pointer (some ⟨w.heap.size, 0, none⟩)])] 108)) (w.heap.size + 1 + 1) 49 #[.int .i64 0, .int .i64 0, .int .i64 0, .int .i64 0] := ((((Blk.new' _ _ (by simp)).alloc _).alloc _).alloc _)
  have hK0 : Blk ((((((w.alloc (.cells #[.int .i64 n, .int .i64 x, .int .i64 z, .int .i64 p] 49)).alloc (.cells #[.int .i64 4, .slice (some ⟨b, 0, none⟩) 1 c, .int .i64 0, .int .i64 0] 45)).alloc (.cells #[.int .i64 0, .int .i64 0, .int .i64 0, .int .i64 0] 49)).alloc (.cells #[.int .i64 n, .int .i64 x, .int .i64 z, .int .i64 p, (.func (.func 109) #[] #[.pointer (some ⟨w.heap.size + 1, 0, none⟩), .pointer (some ⟨w.heap.size, 0, none⟩)])] 108)).alloc (.cells #[.int .i64 n, .int .i64 0, .int .i64 0, .int .i64 p] 49)).alloc (.cells #[.int .i64 n, .int .i64 x, .int .i64 z, .int .i64 p, (.func (.func 109) #[] #[.pointer (some ⟨w.heap.size + 1, 0, none⟩), .pointer (some ⟨w.heap.size, 0, none⟩)])] 108)) (w.heap.size + 1 + 1 + 1) 108 #[.int .i64 n, .int .i64 x, .int .i64 z, .int .i64 p, (.func (.func 109) #[] #[.pointer (some ⟨w.heap.size + 1, 0, none⟩), .pointer (some ⟨w.heap.size, 0, none⟩)])] := (((Blk.new' _ _ (by simp)).alloc _).alloc _)
  have hO0 : Blk ((((((w.alloc (.cells #[.int .i64 n, .int .i64 x, .int .i64 z, .int .i64 p] 49)).alloc (.cells #[.int .i64 4, .slice (some ⟨b, 0, none⟩) 1 c, .int .i64 0, .int .i64 0] 45)).alloc (.cells #[.int .i64 0, .int .i64 0, .int .i64 0, .int .i64 0] 49)).alloc (.cells #[.int .i64 n, .int .i64 x, .int .i64 z, .int .i64 p, (.func (.func 109) #[] #[.pointer (some ⟨w.heap.size + 1, 0, none⟩), .pointer (some ⟨w.heap.size, 0, none⟩)])] 108)).alloc (.cells #[.int .i64 n, .int .i64 0, .int .i64 0, .int .i64 p] 49)).alloc (.cells #[.int .i64 n, .int .i64 x, .int .i64 z, .int .i64 p, (.func (.func 109) #[] #[.pointer (some ⟨w.heap.size + 1, 0, none⟩), .pointer (some ⟨w.heap.size, 0, none⟩)])] 108)) (w.heap.size + 1 + 1 + 1 + 1) 49 #[.int .i64 n, .int .i64 0, .int .i64 0, .int .i64 p] := ((Blk.new' _ _ (by simp)).alloc _)
  have hS0 : Blk ((((((w.alloc (.cells #[.int .i64 n, .int .i64 x, .int .i64 z, .int .i64 p] 49)).alloc (.cells #[.int .i64 4, .slice (some ⟨b, 0, none⟩) 1 c, .int .i64 0, .int .i64 0] 45)).alloc (.cells #[.int .i64 0, .int .i64 0, .int .i64 0, .int .i64 0] 49)).alloc (.cells #[.int .i64 n, .int .i64 x, .int .i64 z, .int .i64 p, (.func (.func 109) #[] #[.pointer (some ⟨w.heap.size + 1, 0, none⟩), .pointer (some ⟨w.heap.size, 0, none⟩)])] 108)).alloc (.cells #[.int .i64 n, .int .i64 0, .int .i64 0, .int .i64 p] 49)).alloc (.cells #[.int .i64 n, .int .i64 x, .int .i64 z, .int .i64 p, (.func (.func 109) #[] #[.pointer (some ⟨w.heap.size + 1, 0, none⟩), .pointer (some ⟨w.heap.size, 0, none⟩)])] 108)) (w.heap.size + 1 + 1 + 1 + 1 + 1) 108 #[.int .i64 n, .int .i64 x, .int .i64 z, .int .i64 p, (.func (.func 109) #[] #[.pointer (some ⟨w.heap.size + 1, 0, none⟩), .pointer (some ⟨w.heap.size, 0, none⟩)])] := (Blk.new' _ _ (by simp))
  have hB0 : Below w.heap.size w ((((((w.alloc (.cells #[.int .i64 n, .int .i64 x, .int .i64 z, .int .i64 p] 49)).alloc (.cells #[.int .i64 4, .slice (some ⟨b, 0, none⟩) 1 c, .int .i64 0, .int .i64 0] 45)).alloc (.cells #[.int .i64 0, .int .i64 0, .int .i64 0, .int .i64 0] 49)).alloc (.cells #[.int .i64 n, .int .i64 x, .int .i64 z, .int .i64 p, (.func (.func 109) #[] #[.pointer (some ⟨w.heap.size + 1, 0, none⟩), .pointer (some ⟨w.heap.size, 0, none⟩)])] 108)).alloc (.cells #[.int .i64 n, .int .i64 0, .int .i64 0, .int .i64 p] 49)).alloc (.cells #[.int .i64 n, .int .i64 x, .int .i64 z, .int .i64 p, (.func (.func 109) #[] #[.pointer (some ⟨w.heap.size + 1, 0, none⟩), .pointer (some ⟨w.heap.size, 0, none⟩)])] 108)) := (((((((Below.refl _ _).alloc (Nat.le_refl _) _).alloc (by simp) _).alloc (by simp; omega) _).alloc (by simp; omega) _).alloc (by simp; omega) _).alloc (by simp; omega) _)
  refine (callsIn_wide (n := 6)).1 ?_
  refine callsIn_of_wp_marks Tryz.func58 rfl trivial ?_ rfl
  simp only [Tryz.ntmps58, List.size_toArray, List.length_cons, List.length_nil, Nat.reduceAdd, Nat.reduceSub, Array.replicate_succ, Array.replicate_zero, List.push_toArray, List.append_toArray, List.nil_append, List.cons_append]
  gi_wp2_with (refine ⟨trivial, ?_⟩; gi_at_call 113; refine (f113_in _ _ trivial rfl _ _ _ _ _ _).mono ?_; rintro e w3 ⟨rfl, rfl⟩)
  obtain ⟨W0, hW0⟩ : ∃ W0, ((((((w.alloc (.cells #[.int .i64 n, .int .i64 x, .int .i64 z, .int .i64 p] 49)).alloc (.cells #[.int .i64 4, .slice (some ⟨b, 0, none⟩) 1 c, .int .i64 0, .int .i64 0] 45)).alloc (.cells #[.int .i64 0, .int .i64 0, .int .i64 0, .int .i64 0] 49)).alloc (.cells #[.int .i64 n, .int .i64 x, .int .i64 z, .int .i64 p, (.func (.func 109) #[] #[.pointer (some ⟨w.heap.size + 1, 0, none⟩), .pointer (some ⟨w.heap.size, 0, none⟩)])] 108)).alloc (.cells #[.int .i64 n, .int .i64 0, .int .i64 0, .int .i64 p] 49)).alloc (.cells #[.int .i64 n, .int .i64 x, .int .i64 z, .int .i64 p, (.func (.func 109) #[] #[.pointer (some ⟨w.heap.size + 1, 0, none⟩), .pointer (some ⟨w.heap.size, 0, none⟩)])] 108)) = W0 := ⟨_, rfl⟩
  rw [hW0] at hP0 hG0 hR0 hK0 hO0 hS0 hB0 ⊢
  clear hW0
  obtain ⟨Gb, hGb⟩ : ∃ Gb, w.heap.size + 1 = Gb := ⟨_, rfl⟩
  rw [hGb] at hG0 hR0 hK0 hO0 hS0 ⊢
  obtain ⟨Rb, hRb⟩ : ∃ Rb, Gb + 1 = Rb := ⟨_, rfl⟩
  rw [hRb] at hR0 hK0 hO0 hS0 ⊢
  obtain ⟨Kb, hKb⟩ : ∃ Kb, Rb + 1 = Kb := ⟨_, rfl⟩
  rw [hKb] at hK0 hO0 hS0 ⊢
  obtain ⟨Ob, hOb⟩ : ∃ Ob, Kb + 1 = Ob := ⟨_, rfl⟩
  rw [hOb] at hO0 hS0 ⊢
  obtain ⟨Bs, hBs⟩ : ∃ Bs, Ob + 1 = Bs := ⟨_, rfl⟩
  rw [hBs] at hS0 ⊢
  have l1 : w.heap.size < Gb := by omega
  have l2 : Gb < Rb := by omega
  have l3 : Rb < Kb := by omega
  have l4 : Kb < Ob := by omega
  have l5 : Ob < Bs := by omega
  clear hGb hRb hKb hOb hBs
  replace hO0 : Blk W0 Ob 49 (thrC n kk x z (0, 0, p) (([] : List (Wi n x z)).map fun i => i.1)) := hO0
  refine wpIn_rangeFunc_ownH rfl (by omega) (gf := 142) (lb := #[.pointer (some ⟨Bs, 0, none⟩)]) rfl trivial (enters_of Tryz.func142 (by kernel_rfl) rfl)
    (f142_stops (n := n) (x := x) (z := z) _ (by omega) Bs p (.func (.func 109) #[] #[.pointer (some ⟨Gb, 0, none⟩), .pointer (some ⟨w.heap.size, 0, none⟩)]) hn hx hz W0 hS0) keepsBlk_t keepsBlk_b (Below.refl _ _) (fun _ => rfl)
    (fun pre W => (((((Blk W w.heap.size 49 #[.int .i64 n, .int .i64 x, .int .i64 z, .int .i64 p] ∧ Blk W Gb 45 #[.int .i64 4, .slice (some ⟨b, 0, none⟩) 1 c, .int .i64 0, .int .i64 0]) ∧ Blk W Rb 49 #[.int .i64 0, .int .i64 0, .int .i64 0, .int .i64 0]) ∧ Blk W Kb 108 #[.int .i64 n, .int .i64 x, .int .i64 z, .int .i64 p, (.func (.func 109) #[] #[.pointer (some ⟨Gb, 0, none⟩), .pointer (some ⟨w.heap.size, 0, none⟩)])]) ∧ Blk W Bs 108 #[.int .i64 n, .int .i64 x, .int .i64 z, .int .i64 p, (.func (.func 109) #[] #[.pointer (some ⟨Gb, 0, none⟩), .pointer (some ⟨w.heap.size, 0, none⟩)])]) ∧ Blk W Ob 49 (thrC n kk x z (0, 0, p) (pre.map fun i => i.1))) ∧ Below w.heap.size w W)
    (fun _ _ _ => False)
    (OwnFrom.and (Own.from (fun s X Y row hs hg hr => ⟨⟨⟨⟨⟨blk_own _ _ (fun (_ : Unit) => _) () X Y row hs.1.1.1.1.1 hg hr, blk_own _ _ (fun (_ : Unit) => _) () X Y row hs.1.1.1.1.2 hg hr⟩, blk_own _ _ (fun (_ : Unit) => _) () X Y row hs.1.1.1.2 hg hr⟩, blk_own _ _ (fun (_ : Unit) => _) () X Y row hs.1.1.2 hg hr⟩, blk_own _ _ (fun (_ : Unit) => _) () X Y row hs.1.2 hg hr⟩, blk_own _ _ (fun (_ : Unit) => _) () X Y row hs.2 hg hr⟩) _) (ownFrom_below (Nat.le_refl _) hB0.size))
    (fun _ _ _ _ _ hs _ _ => hs)
    ⟨⟨⟨⟨⟨⟨hP0, hG0⟩, hR0⟩, hK0⟩, hS0⟩, hO0⟩, hB0⟩
    (fun i a' W => a' = { tmps := #[.agg #[.int .i64 n, .int .i64 x, .int .i64 z, .int .i64 p], .agg #[.int .i64 4, .slice (some ⟨b, 0, none⟩) 1 c, .int .i64 0, .int .i64 0], .pointer (some ⟨w.heap.size, 0, none⟩), .pointer (some ⟨Gb, 0, none⟩), .pointer (some ⟨Rb, 0, none⟩), .pointer (some ⟨Kb, 0, none⟩), .pointer (some ⟨Ob, 0, none⟩), .int .i64 (i.1 : Int), .agg #[.int .i64 n, .int .i64 x, .int .i64 z, .int .i64 p], .agg #[.int .i64 n, .int .i64 x, .int .i64 z, .int .i64 p, .nilFunc], (.func (.func 109) #[] #[.pointer (some ⟨Gb, 0, none⟩), .pointer (some ⟨w.heap.size, 0, none⟩)]), .pointer (some ⟨Kb, 4, none⟩), .pointer (some ⟨w.heap.size, 0, none⟩), .int .i64 n, .pointer (some ⟨w.heap.size, 3, none⟩), .int .i64 p, .agg #[.int .i64 n, .int .i64 0, .int .i64 0, .int .i64 p], .agg #[.int .i64 n, .int .i64 x, .int .i64 z, .int .i64 p, (.func (.func 109) #[] #[.pointer (some ⟨Gb, 0, none⟩), .pointer (some ⟨w.heap.size, 0, none⟩)])], .func (.func 142) #[] #[.pointer (some ⟨Bs, 0, none⟩)], .int .i64 (i.1 : Int), undef, undef, undef, undef, undef, undef, undef, undef, undef, undef, undef], defers := [] })
    (fun x a' _ X Y row hs _ _ => hs)
    ?assign ?body ?done ?stop
  case assign =>
    rintro l pre i W K h hK
    simp only [encWi]
    gi_wp2
    exact hK _ _ (keepsFrom_below _ (Below.refl _ _)) (KeepsBlk.refl _ _) h rfl
  case body =>
    rintro l pre ⟨i, hi, hli⟩ a' W hl ⟨r, hr⟩ ⟨⟨⟨⟨⟨⟨hPb, hG⟩, hR0⟩, hK⟩, hS⟩, hO⟩, hB⟩ rfl hlt
    have hHT := ThrOk.fold (pre.map fun i => i.1) (ThrOk.start n kk x z p hp)
    have hsn := thrF_snoc n kk x z (0, 0, p) (pre.map fun i => i.1) i
    unfold thrC at hO
    obtain ⟨s, hs⟩ : ∃ s, thrF n kk x z (0, 0, p) (pre.map fun i => i.1) = s := ⟨_, rfl⟩
    rw [hs] at hHT hsn hO
    clear hs
    have hTn := hHT.step i
    obtain ⟨s1, s2, s3⟩ := s
    have hla := letK_lt x z i
    have hpr := fun k hk => hHT.pairs i k hk
    have hqb := hL_lt kk i _ hla
    have h2n : 2 ^ n ≤ 64 := Nat.pow_le_pow_right (n := 2) (by decide) hn
    have b1 := hHT.hx
    have b2 := hHT.hz
    have b3 := hHT.hp
    have hqp : hP kk i (letK x z i) < 4 := by unfold hP; split <;> decide
    have H60 : ∀ W1, Calls Tryz.prog 60 #[.agg #[.int .i64 n, .int .i64 x, .int .i64 z, .int .i64 p, (.func (.func 109) #[] #[.pointer (some ⟨Gb, 0, none⟩), .pointer (some ⟨w.heap.size, 0, none⟩)])], .int .i64 i] W1 fun e w' => e = .returned (.int .i64 (letK x z i)) ∧ Below W1.heap.size W1 w' := fun W1 => f60_any n x z p i (.func (.func 109) #[] #[.pointer (some ⟨Gb, 0, none⟩), .pointer (some ⟨w.heap.size, 0, none⟩)]) W1 hx hz (by omega)
    have H109 : ∀ W1, Below W.heap.size W W1 → Calls Tryz.prog 109 #[.int .i64 i, .int .i64 (letK x z i), .pointer (some ⟨Gb, 0, none⟩), .pointer (some ⟨w.heap.size, 0, none⟩)] W1 fun e w' => e = .returned (.agg #[.int .i64 n, .int .i64 (oneX (hL kk i (letK x z i)) i), .int .i64 (oneZ (hL kk i (letK x z i)) i), .int .i64 (hP kk i (letK x z i))]) ∧ Below W1.heap.size W1 w' := fun W1 hb => by
      by_cases hik : i = kk
      · subst hik
        exact f109_near n x z p i _ b c Gb w.heap.size W1 hn hkk (by omega) hla hc (hG.below hb) (hPb.below hb) (hW.below (bt hB hb) hlb)
      · exact f109_far n x z p kk i _ b c Gb w.heap.size W1 hn hi hkk hla hik (hG.below hb) (hPb.below hb) (hW.below (bt hB hb) hlb)
    have H112 : ∀ W1 bq cap, Blk W1 bq 49 #[.int .i64 n, .int .i64 (oneX (hL kk i (letK x z i)) i), .int .i64 (oneZ (hL kk i (letK x z i)) i), .int .i64 (hP kk i (letK x z i))] → Calls Tryz.prog 112 #[.agg #[.int .i64 n, .int .i64 s1, .int .i64 s2, .int .i64 s3], .slice (some ⟨bq, 0, none⟩) 1 cap] W1 fun e w' => e = .returned (.agg #[.int .i64 n, .int .i64 (thrS n kk x z (s1, s2, s3) i).1, .int .i64 (thrS n kk x z (s1, s2, s3) i).2.1, .int .i64 (thrS n kk x z (s1, s2, s3) i).2.2]) ∧ Below W1.heap.size W1 w' := fun W1 bq cap hq =>
      f112_any n s1 s2 s3 _ _ _ bq cap W1 hn1 hn (by dsimp only at b1; omega) (by dsimp only at b2; omega) (oneX_lt _ _ 6 (by omega)) (oneZ_lt _ _ 6 (by omega)) b3 hqp hq (fun k hk => by
        rcases hpr k hk with h | h | h
        · exact .inl h
        · exact .inr (.inl h)
        · exact .inr (.inr (.inl h)))
    obtain ⟨t, ht⟩ : ∃ t, thrS n kk x z (s1, s2, s3) i = t := ⟨_, rfl⟩
    rw [ht] at H112 hsn
    obtain ⟨t1, t2, t3⟩ := t
    obtain ⟨la, hlae⟩ : ∃ la, letK x z i = la := ⟨_, rfl⟩
    rw [hlae] at H60 H109 H112
    obtain ⟨qx, hqx⟩ : ∃ q, oneX (hL kk i la) i = q := ⟨_, rfl⟩
    obtain ⟨qz, hqz⟩ : ∃ q, oneZ (hL kk i la) i = q := ⟨_, rfl⟩
    obtain ⟨qp, hqpe⟩ : ∃ q, hP kk i la = q := ⟨_, rfl⟩
    rw [hqx, hqz, hqpe] at H109 H112
    have hsnH := Lib.hid hsn
    clear hqx hqz hqpe hlae ht hTn hpr hqb b1 b2 b3 hqp hla hHT hsn
    dsimp only at H112 hO
    gi_wp2
    refine Rely.wpIn_region_tail (C := fun W1 => Below W.heap.size W W1) (T := fun A B => Below A.heap.size A B) (R := fun j vs W1 => thrR n kk i la qx qz qp s1 s2 s3 (.func (.func 109) #[] #[.pointer (some ⟨Gb, 0, none⟩), .pointer (some ⟨w.heap.size, 0, none⟩)]) (.agg #[.int .i64 n, .int .i64 x, .int .i64 z, .int .i64 p, (.func (.func 109) #[] #[.pointer (some ⟨Gb, 0, none⟩), .pointer (some ⟨w.heap.size, 0, none⟩)])]) Kb (.agg #[.int .i64 n, .int .i64 t1, .int .i64 t2, .int .i64 t3]) j (vs j) W1) (N := 31) (m := 10) (by kernel_rfl) (by kernel_rfl) (by kernel_rfl) (by kernel_rfl) (fun j vs A B hb h => thrR_below hb h) (fun j vs vs' A hi hd h => by rw [← hi]; exact h) ((Below.refl _ W).drew) (fun j o hj ho ρ vs W1 hC hk => ?hstep) (fun vs W1 hC hR => ?hQ)
    case hQ =>
      have r9 : vs 9 = .agg #[.int .i64 n, .int .i64 t1, .int .i64 t2, .int .i64 t3] := hR 9 (by decide)
      generalize hA : Rely.putL _ _ vs (fun _ => true) 10 = A
      have hA2 : A = { tmps := #[.agg #[.int .i64 n, .int .i64 x, .int .i64 z, .int .i64 p], .agg #[.int .i64 4, .slice (some ⟨b, 0, none⟩) 1 c, .int .i64 0, .int .i64 0], .pointer (some ⟨w.heap.size, 0, none⟩), .pointer (some ⟨Gb, 0, none⟩), .pointer (some ⟨Rb, 0, none⟩), .pointer (some ⟨Kb, 0, none⟩), .pointer (some ⟨Ob, 0, none⟩), .int .i64 (i : Int), .agg #[.int .i64 n, .int .i64 x, .int .i64 z, .int .i64 p], .agg #[.int .i64 n, .int .i64 x, .int .i64 z, .int .i64 p, .nilFunc], (.func (.func 109) #[] #[.pointer (some ⟨Gb, 0, none⟩), .pointer (some ⟨w.heap.size, 0, none⟩)]), .pointer (some ⟨Kb, 4, none⟩), .pointer (some ⟨w.heap.size, 0, none⟩), .int .i64 n, .pointer (some ⟨w.heap.size, 3, none⟩), .int .i64 p, .agg #[.int .i64 n, .int .i64 0, .int .i64 0, .int .i64 p], .agg #[.int .i64 n, .int .i64 x, .int .i64 z, .int .i64 p, (.func (.func 109) #[] #[.pointer (some ⟨Gb, 0, none⟩), .pointer (some ⟨w.heap.size, 0, none⟩)])], .func (.func 142) #[] #[.pointer (some ⟨Bs, 0, none⟩)], .int .i64 (i : Int), vs 0, vs 1, vs 2, vs 3, vs 4, vs 5, vs 6, vs 7, vs 8, vs 9, undef], defers := [] } := by rw [← hA]; kernel_rfl
      refine tailT_lit ?_
      simp only [List.drop_succ_cons, List.drop_zero]
      rw [hA2, r9]
      clear hA hA2 hR r9
      have cO := (hO.below hC).cells
      have fO := (hO.below hC).frozen
      gi_wp2
      have hO2 := (hO.below hC).set4 (.int .i64 n) (.int .i64 t1) (.int .i64 t2) (.int .i64 t3)
      exact ⟨(keepsFrom_below _ hC).trans (keepsFrom_set4 _ _ _ _ _ _ _), (KeepsBlk.of_below hC hS.lt).trans (keepsBlk_set4 (by omega) _ _ _ _), ⟨⟨⟨⟨⟨(hPb.below hC).far4 (by omega) _ _ _ _, (hG.below hC).far4 (by omega) _ _ _ _⟩, (hR0.below hC).far4 (by omega) _ _ _ _⟩, (hK.below hC).far4 (by omega) _ _ _ _⟩, (hS.below hC).far4 (by omega) _ _ _ _⟩, by
        rw [List.map_append]
        show Blk _ _ _ (thrC n kk x z (0, 0, p) ((pre.map fun i => i.1) ++ [i]))
        unfold thrC
        rw [hsnH.out]
        exact hO2⟩, below_set4 (bt hB hC) (by omega) _ _ _ _⟩
    case hstep =>
      obtain rfl | rfl | rfl | rfl | rfl | rfl | rfl | rfl | rfl | rfl : j = 0 ∨ j = 1 ∨ j = 2 ∨ j = 3 ∨ j = 4 ∨ j = 5 ∨ j = 6 ∨ j = 7 ∨ j = 8 ∨ j = 9 := by omega
      · obtain rfl : _ = o := Option.some.inj ho
        have e6 : ρ (.tmp 6) = (.pointer (some ⟨Ob, 0, none⟩)) := hk.2 (.tmp 6) (notDstM_spec (by kernel_rfl))
        have cO := (hO.below hC).cells
        clear hk
        go_simp
        exact ⟨hC, Below.refl _ _, rfl⟩
      · obtain rfl : _ = o := Option.some.inj ho
        have e5 : ρ (.tmp 5) = (.pointer (some ⟨Kb, 0, none⟩)) := hk.2 (.tmp 5) (notDstM_spec (by kernel_rfl))
        clear hk
        go_simp
        exact ⟨hC, Below.refl _ _, rfl⟩
      · obtain rfl : _ = o := Option.some.inj ho
        have e21 : ρ (.tmp 21) = vs 1 := (hk.1 1 (mem_direct (by kernel_rfl))).2 21 (by kernel_rfl)
        have q1 : vs 1 = (.pointer (some ⟨Kb, 4, none⟩)) := (hk.1 1 (mem_direct (by kernel_rfl))).1
        rw [q1] at e21
        have cK := (hK.below hC).cells
        clear hk q1
        go_simp
        exact ⟨hC, Below.refl _ _, rfl⟩
      · obtain rfl : _ = o := Option.some.inj ho
        have e7 : ρ (.tmp 7) = (.int .i64 (i : Int)) := hk.2 (.tmp 7) (notDstM_spec (by kernel_rfl))
        clear hk
        go_simp
        exact ⟨hC, Below.refl _ _, rfl⟩
      · obtain rfl : _ = o := Option.some.inj ho
        have e5 : ρ (.tmp 5) = (.pointer (some ⟨Kb, 0, none⟩)) := hk.2 (.tmp 5) (notDstM_spec (by kernel_rfl))
        have cK := (hK.below hC).cells
        clear hk
        go_simp
        exact ⟨hC, Below.refl _ _, rfl⟩
      · obtain rfl : _ = o := Option.some.inj ho
        have e7 : ρ (.tmp 7) = (.int .i64 (i : Int)) := hk.2 (.tmp 7) (notDstM_spec (by kernel_rfl))
        clear hk
        go_simp
        exact ⟨hC, Below.refl _ _, rfl⟩
      · obtain rfl : _ = o := Option.some.inj ho
        have e24 : ρ (.tmp 24) = vs 4 := (hk.1 4 (mem_direct (by kernel_rfl))).2 24 (by kernel_rfl)
        have q4 : vs 4 = .agg #[.int .i64 n, .int .i64 x, .int .i64 z, .int .i64 p, (.func (.func 109) #[] #[.pointer (some ⟨Gb, 0, none⟩), .pointer (some ⟨w.heap.size, 0, none⟩)])] := (hk.1 4 (mem_direct (by kernel_rfl))).1
        rw [q4] at e24
        have e25 : ρ (.tmp 25) = vs 5 := (hk.1 5 (mem_direct (by kernel_rfl))).2 25 (by kernel_rfl)
        have q5 : vs 5 = .int .i64 (i : Int) := (hk.1 5 (mem_direct (by kernel_rfl))).1
        rw [q5] at e25
        have ef : ρ (.func 60) = .func (.func 60) #[] #[] := hk.2 (.func 60) (fun _ _ _ _ e => by cases e)
        clear hk q4 q5
        go_simp
        exact (H60 W1).mono fun e w' ⟨he, hb⟩ => ⟨_, he, bt hC hb, hb, rfl⟩
      · obtain rfl : _ = o := Option.some.inj ho
        have e22 : ρ (.tmp 22) = vs 2 := (hk.1 2 (mem_direct (by kernel_rfl))).2 22 (by kernel_rfl)
        have q2 : vs 2 = (.func (.func 109) #[] #[.pointer (some ⟨Gb, 0, none⟩), .pointer (some ⟨w.heap.size, 0, none⟩)]) := (hk.1 2 (mem_direct (by kernel_rfl))).1
        rw [q2] at e22
        have e23 : ρ (.tmp 23) = vs 3 := (hk.1 3 (mem_direct (by kernel_rfl))).2 23 (by kernel_rfl)
        have q3 : vs 3 = .int .i64 (i : Int) := (hk.1 3 (mem_direct (by kernel_rfl))).1
        rw [q3] at e23
        have e26 : ρ (.tmp 26) = vs 6 := (hk.1 6 (mem_direct (by kernel_rfl))).2 26 (by kernel_rfl)
        have q6 : vs 6 = .int .i64 (la : Int) := (hk.1 6 (mem_direct (by kernel_rfl))).1
        rw [q6] at e26
        clear hk q2 q3 q6
        have e109 : ∀ args w, (callFunc 109 args).run Tryz.prog w = .ok (.enter 109 args) w := enters_of Tryz.func109 (by kernel_rfl) rfl
        go_simp
        exact (H109 W1 hC).mono fun e w' ⟨he, hb⟩ => ⟨_, he, bt hC hb, hb, rfl⟩
      · obtain rfl : _ = o := Option.some.inj ho
        have e27 : ρ (.tmp 27) = vs 7 := (hk.1 7 (mem_direct (by kernel_rfl))).2 27 (by kernel_rfl)
        have q7 : vs 7 = .agg #[.int .i64 n, .int .i64 qx, .int .i64 qz, .int .i64 qp] := (hk.1 7 (mem_direct (by kernel_rfl))).1
        rw [q7] at e27
        clear hk q7
        go_simp
        exact ⟨hC.alloc hC.size _, (Below.refl _ _).alloc (Nat.le_refl _) _, W1.heap.size, rfl, Blk.new _ _ _⟩
      · obtain rfl : _ = o := Option.some.inj ho
        have e20 : ρ (.tmp 20) = vs 0 := (hk.1 0 (mem_direct (by kernel_rfl))).2 20 (by kernel_rfl)
        have q0 : vs 0 = .agg #[.int .i64 n, .int .i64 s1, .int .i64 s2, .int .i64 s3] := (hk.1 0 (mem_direct (by kernel_rfl))).1
        rw [q0] at e20
        have e28 : ρ (.tmp 28) = vs 8 := (hk.1 8 (mem_direct (by kernel_rfl))).2 28 (by kernel_rfl)
        obtain ⟨bq, q8, q9⟩ : ∃ bq, vs 8 = .slice (some ⟨bq, 0, none⟩) 1 1 ∧ Blk W1 bq 49 #[.int .i64 n, .int .i64 qx, .int .i64 qz, .int .i64 qp] := (hk.1 8 (mem_direct (by kernel_rfl))).1
        rw [q8] at e28
        have ef : ρ (.func 112) = .func (.func 112) #[] #[] := hk.2 (.func 112) (fun _ _ _ _ e => by cases e)
        clear hk q0 q8
        go_simp
        exact (H112 W1 bq 1 q9).mono fun e w' ⟨he, hb⟩ => ⟨_, he, bt hC hb, hb, rfl⟩
  case done =>
    rintro D ys W hD hfull ⟨⟨⟨⟨⟨⟨hP, hG⟩, hR⟩, hK⟩, hS⟩, hO⟩, hB⟩ hKD
    have hO' : Blk W Ob 49 (thrC n kk x z (0, 0, p) (wiresK x z n)) := by rw [show wiresK x z n = ys.map (fun i => i.1) from hfull.symm]; exact hO
    unfold thrC at hO'
    obtain ⟨X, hX⟩ : ∃ X, thrF n kk x z (0, 0, p) (wiresK x z n) = X := ⟨_, rfl⟩
    rw [hX] at hO'
    obtain ⟨o1, o2, o3⟩ := X
    dsimp only at hO'
    have hXH := Lib.hid hX
    clear hX hO
    have cO := hO'.cells
    have cR := hR.cells
    have fR := hR.frozen
    gi_wp2
    have hK' := (keepsFrom_set4 0 W Rb (.int .i64 n) (.int .i64 o1) (.int .i64 o2) (.int .i64 o3)).same D _ (Nat.zero_le _) hKD rfl
    refine ⟨by simp, .inl ⟨_, _, rfl, run_takeDeferred hK', ?_⟩⟩
    have hF := hR.set4 (.int .i64 n) (.int .i64 o1) (.int .i64 o2) (.int .i64 o3)
    have cG := (blk_own Rb 49 (fun (_ : Unit) => _) () _ _ _ hF (grownBy_putObj' _ D (.deferred none)) (fun r e => by cases e; exact ⟨_, hK', rfl⟩)).cells
    refine ⟨.agg #[.int .i64 n, .int .i64 o1, .int .i64 o2, .int .i64 o3], by simp [results, Tryz.results58, go_sem, cG], (show ThrPost n kk x z p w _ _ from ⟨by unfold pauV; rw [hXH.out], ?_⟩)⟩
    exact (below_set4 hB (by omega) _ _ _ _).trans (belowK_b (w := w) (Nat.le_refl _) _ D _ _ (Nat.le_trans hB0.size hD) hK' rfl rfl)
  case stop =>
    rintro D c pre W _ _ h _
    exact h.elim
end
section
open Go.RowKit
attribute [local go_sem ↓] Go.wp_at_zero Go.wp_at_succ
/-- the gates H on all wires -/
def hGs (n : Nat) : List Gt := (List.range n).map fun k => ⟨4, [k]⟩
theorem hGs_len (n : Nat) : (hGs n).length = n := by simp [hGs]
theorem hGs_at {n i : Nat} (hi : i < n) : (hGs n)[i]? = some ⟨4, [i]⟩ := by simp [hGs, hi]
theorem hGs_ok {n : Nat} : ∀ gt ∈ hGs n, Gt.okH gt n := by
  intro gt h
  obtain ⟨k, hk, rfl⟩ := List.mem_map.1 h
  have hk' := List.mem_range.1 hk
  exact ⟨(show 1 ≤ 4 by decide), (show 4 ≤ 12 by decide), (show 1 = arK 4 by decide), fun i hi => by
    have : i = k := by simpa using hi
    omega, by simp⟩
theorem hGs_four {n : Nat} : ∀ gt ∈ hGs n, gt.k = 4 := by
  intro gt h
  obtain ⟨k, hk, rfl⟩ := List.mem_map.1 h
  rfl
def alC (n x z p k : Nat) : Array Value := #[.int .i64 n, .int .i64 (alS n x z p k).1, .int .i64 (alS n x z p k).2.1, .int .i64 (alS n x z p k).2.2]
def AlPost (n x z p : Nat) (w : World) (e : Ending) (w' : World) : Prop := e = .returned (.tuple #[pauV n z x ((p + 2 * cntY x z n) % 4), .int .i64 0]) ∧ Below w.heap.size w w'
set_option maxHeartbeats 4000000 in
set_option maxRecDepth 100000 in
theorem f16_any (n x z p lo N : Nat) (gv : Value) (w : World) (hn1 : 1 ≤ n) (hn : n ≤ 6) (hN : Hid (2 ^ n = N)) (hx : x < N) (hz : z < N) (hp : p < 4) (hR : GatesR w lo gv (hGs n)) :
    Calls Tryz.prog 16 #[.agg #[.int .i64 n, .int .i64 x, .int .i64 z, .int .i64 p], .agg #[.int .i64 n, .int .i64 0, gv]] w (AlPost n x z p w) := by
  have h2n : 2 ^ n ≤ 64 := Nat.pow_le_pow_right (n := 2) (by decide) hn
  have hAl := al_all n x z p (by rw [hN.out]; exact hx) (by rw [hN.out]; exact hz) hp
  have hend := Lib.hid (al_end n x z p (by rw [hN.out]; exact hx) (by rw [hN.out]; exact hz) hp)
  have hb0 : Below w.heap.size w (((w.alloc (.cells #[.int .i64 n, .int .i64 x, .int .i64 z, .int .i64 p] 49)).alloc (.cells #[.int .i64 n, .int .i64 0, gv] 43)).alloc (.cells #[.int .i64 0, .int .i64 0, .int .i64 0, .int .i64 0] 49)) := (((Below.refl _ _).alloc (Nat.le_refl _) _).alloc (by simp) _).alloc (by simp; omega) _
  have hP0 : Blk (((w.alloc (.cells #[.int .i64 n, .int .i64 x, .int .i64 z, .int .i64 p] 49)).alloc (.cells #[.int .i64 n, .int .i64 0, gv] 43)).alloc (.cells #[.int .i64 0, .int .i64 0, .int .i64 0, .int .i64 0] 49)) w.heap.size 49 #[.int .i64 n, .int .i64 x, .int .i64 z, .int .i64 p] := ((Blk.new _ _ _).alloc _).alloc _
  have hC0 : Blk (((w.alloc (.cells #[.int .i64 n, .int .i64 x, .int .i64 z, .int .i64 p] 49)).alloc (.cells #[.int .i64 n, .int .i64 0, gv] 43)).alloc (.cells #[.int .i64 0, .int .i64 0, .int .i64 0, .int .i64 0] 49)) (w.heap.size + 1) 43 #[.int .i64 n, .int .i64 0, gv] := (Blk.new' _ _ (by simp)).alloc _
  have hO0 : Blk (((w.alloc (.cells #[.int .i64 n, .int .i64 x, .int .i64 z, .int .i64 p] 49)).alloc (.cells #[.int .i64 n, .int .i64 0, gv] 43)).alloc (.cells #[.int .i64 0, .int .i64 0, .int .i64 0, .int .i64 0] 49)) (w.heap.size + 1 + 1) 49 #[.int .i64 0, .int .i64 0, .int .i64 0, .int .i64 0] := Blk.new' _ _ (by simp)
  obtain ⟨w0, hw0⟩ : ∃ w0, (((w.alloc (.cells #[.int .i64 n, .int .i64 x, .int .i64 z, .int .i64 p] 49)).alloc (.cells #[.int .i64 n, .int .i64 0, gv] 43)).alloc (.cells #[.int .i64 0, .int .i64 0, .int .i64 0, .int .i64 0] 49)) = w0 := ⟨_, rfl⟩
  rw [hw0] at hb0 hP0 hC0 hO0
  have hR0 := hR.below hb0
  have H57 := f57_any n x z p lo N gv (hGs n) w0 hn1 hn hN hx hz hp hGs_ok hGs_four (by rw [hGs_len]; omega) hR0
  unfold pauV at H57
  obtain ⟨A, c, hgv, hat⟩ := hR.at_
  rw [hGs_len] at hgv
  subst hgv
  have cP := hP0.cells
  have cC := hC0.cells
  clear hR hR0
  go_enter Tryz.func16, Tryz.ntmps16
  go_wp2_with (go_at_call 57; refine H57.mono ?_; clear H57; rintro e w1 ⟨rfl, hb1⟩; have hP1 := hP0.below hb1; have hC1 := hC0.below hb1; have hO1 := hO0.below hb1; have hB1 := bt hb0 hb1; have cC1 := hC1.cells)
  have hs01 := hb1.size
  replace hP1 : Blk w1 w.heap.size 49 (alC n x z p 0) := hP1
  go_loopg [8, 19] n (fun gg s8 s19 wr => ∃ k : Nat, k ≤ n ∧ n - k ≤ gg ∧ s19 = .int .i64 k ∧ Aside (Blk wr w.heap.size 49 (alC n x z p k)) ∧ Aside (Blk wr (w.heap.size + 1 + 1) 49 #[.int .i64 0, .int .i64 0, .int .i64 0, .int .i64 0]) ∧ Aside (Below w.heap.size w wr))
  case atStart => exact ⟨0, Nat.zero_le _, by omega, rfl, (show Aside _ from hP1), (show Aside _ from hO1), (show Aside _ from hB1)⟩
  case round =>
    obtain ⟨k, hk, hg, rfl, AP, AO, AB⟩ := hrel
    have hP := AP.out
    have hO := AO.out
    have hB := AB.out
    clear AP AO AB hP1 hO1 hB1 hC1 cC1 cC cP
    by_cases hlt : k < n
    · as_aux_lemma =>
      have hltz : (k : Int) < (n : Int) := by omega
      obtain ⟨g, b, cc, rfl, _, a5, a1, a2, a3, a4, _, a6, a7⟩ := hat k _ (hGs_at hlt)
      have d1 : wr.cell? ⟨g, k * 4, none⟩ = some (.int .i64 4) := (hB.cell (p := ⟨g, k * 4, none⟩) a5).trans a1
      have d2 : wr.cell? ⟨g, k * 4 + 1, none⟩ = some (.slice (some ⟨b, 0, none⟩) 1 cc) := (hB.cell (p := ⟨g, k * 4 + 1, none⟩) a5).trans a2
      have d3 : wr.cell? ⟨g, k * 4 + 2, none⟩ = some (.int .i64 0) := (hB.cell (p := ⟨g, k * 4 + 2, none⟩) a5).trans a3
      have d4 : wr.cell? ⟨g, k * 4 + 3, none⟩ = some (.int .i64 0) := (hB.cell (p := ⟨g, k * 4 + 3, none⟩) a5).trans a4
      have hbG : Below wr.heap.size wr (wr.alloc (.cells #[.int .i64 4, .slice (some ⟨b, 0, none⟩) 1 cc, .int .i64 0, .int .i64 0] 45)) := (Below.refl _ _).alloc (Nat.le_refl _) _
      have hWg : WiresAt (wr.alloc (.cells #[.int .i64 4, .slice (some ⟨b, 0, none⟩) 1 cc, .int .i64 0, .int .i64 0] 45)) b [k] := (a7.below hB a7.1).below hbG (a7.below hB a7.1).1
      have hAk := hAl k hk
      have hsucc : alS n x z p (k + 1) = thrF n k (alS n x z p k).1 (alS n x z p k).2.1 (0, 0, (alS n x z p k).2.2) (wiresK (alS n x z p k).1 (alS n x z p k).2.1 n) := rfl
      unfold alC at hP
      obtain ⟨s, hs⟩ : ∃ s, alS n x z p k = s := ⟨_, rfl⟩
      rw [hs] at hAk hsucc hP
      obtain ⟨s1, s2, s3⟩ := s
      have b1 := hAk.hx
      have b2 := hAk.hz
      have b3 := hAk.hp
      dsimp only at b1 b2 b3 hsucc hP
      have H58 := f58_any n s1 s2 s3 k b cc _ hn1 hn (by omega) (by omega) b3 hlt a6 hWg
      unfold ThrPost pauV at H58
      rw [← hsucc] at H58
      obtain ⟨t, ht⟩ : ∃ t, alS n x z p (k + 1) = t := ⟨_, rfl⟩
      rw [ht] at H58
      have htH := Lib.hid ht
      obtain ⟨t1, t2, t3⟩ := t
      dsimp only at H58
      clear ht hsucc hs hAk hAl b1 b2 b3 hat a1 a2 a3 a4 a5 a6 a7 hWg hx hz hp
      have cP := (hP.below hbG).cells
      have lP := hP.lt
      go_wp2_with (go_at_call 58; refine H58.mono ?_; clear H58; rintro e w5 ⟨rfl, hb5⟩; have hP5 := (hP.below hbG).below hb5; have cP5 := hP5.cells; have fP5 := hP5.frozen; have hO5 := (hO.below hbG).below hb5; have hB5 := bt hB (bt hbG hb5))
      have hP6 := hP5.set4 (.int .i64 n) (.int .i64 t1) (.int .i64 t2) (.int .i64 t3)
      have hO6 := hO5.far4 (p := w.heap.size) (by omega) (.int .i64 n) (.int .i64 t1) (.int .i64 t2) (.int .i64 t3)
      have hB6 := below_set4 hB5 (p := w.heap.size) (Nat.le_refl _) (.int .i64 n) (.int .i64 t1) (.int .i64 t2) (.int .i64 t3)
      go_roundg (n - (k + 1))
      case measure => omega
      case rel => exact ⟨k + 1, by omega, by omega, by go_num, (show Aside _ from by unfold alC; rw [htH.out]; exact hP6), (show Aside _ from hO6), (show Aside _ from hB6)⟩
    · as_aux_lemma =>
      obtain rfl : k = n := by omega
      have hltz : ¬ (k : Int) < (k : Int) := by omega
      clear hlt hat
      unfold alC at hP
      rw [hend.out] at hP
      dsimp only at hP
      obtain ⟨pe, hpe⟩ : ∃ pe, (p + 2 * cntY x z k) % 4 = pe := ⟨_, rfl⟩
      rw [hpe] at hP
      have hpeH := Lib.hid hpe
      clear hpe hend hAl
      have cP := hP.cells
      have cO := hO.cells
      have fO := hO.frozen
      go_wp2_with (fail)
      have hF := hO.set4 (.int .i64 k) (.int .i64 z) (.int .i64 x) (.int .i64 pe)
      have cF := hF.cells
      have hWF := below_set4 hB (p := w.heap.size + 1 + 1) (by omega) (.int .i64 k) (.int .i64 z) (.int .i64 x) (.int .i64 pe)
      exact bodyPost_ret (v := .tuple #[.agg #[.int .i64 k, .int .i64 z, .int .i64 x, .int .i64 pe], .int .i64 0]) (by simp [results, Tryz.results16, go_sem, cF]) rfl (show AlPost _ _ _ _ _ _ _ from ⟨by unfold pauV; rw [hpeH.out], hWF⟩)
end
end Go.Proofs.YtdfgmmjcamhdjaaGreatDoor
