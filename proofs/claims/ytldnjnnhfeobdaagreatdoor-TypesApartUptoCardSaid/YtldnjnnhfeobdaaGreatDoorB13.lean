/- Parts of the proof, joined: Contract of the reference: CheckApart. Conditions: lengths below 2^20; Contract of the reference: is a pair in a list? Conditions: lengths below 2^20; What the reference's search keeps in memory: the spots to do, the pairs seen; how appends change it. No condition. -/
import Derived.Test.YtldnjnnhfeobdaaGreatDoorB10
import Derived.Test.YtldnjnnhfeobdaaGreatDoorB12
import Derived.Test.YtldnjnnhfeobdaaGreatDoorB7
import Derived.Test.YtldnjnnhfeobdaaGreatDoorB4
import Derived.Test.YtldnjnnhfeobdaaGreatDoorB9
namespace Go.Proofs.YtldnjnnhfeobdaaGreatDoor
set_option linter.all false
set_option linter.unusedSimpArgs false
set_option linter.unusedVariables false
open Go.RowKit Go.Shelf

set_option maxRecDepth 100000 in
set_option maxHeartbeats 16000000 in
theorem rcheckApart_any (w : World) (gv v : Value) (g : Graph) (a b : Int) (way : List Int) (hg : Sl tyE w gv g) (hT : Tidy g) (hv : Sl intE w v way) (hwn : way.length ≤ 1048576) :
    Calls Tryz.prog 18 #[gv, .int .i64 a, .int .i64 b, v] w (Ret w (.tuple #[.bool (checkApartG g a b way), .int .i64 (errG g [a, b])])) := by
  have hop := rchecked_any (w.alloc (.cells #[.int .i64 a, .int .i64 b] 3)) gv _ g [a, b] (hg.mono ((Ext.refl w).alloc _)) hT (lit_ints w [a, b] 2 rfl) (by simp)
  have hn := hT.len
  have hty : ∀ i, i < g.length → TySmall (getT g i) := fun i hi => (hT.ty _ (getT_mem hi)).1
  obtain ⟨A, cap, rfl, hs⟩ := hg.ty
  obtain ⟨Aw, cw, rfl, hsw⟩ := hv.int
  have Hs := Lib.hid hs
  have Hsw := Lib.hid hsw
  have Hty := Lib.hid hty
  clear hs hsw hty
  unfold checkApartG
  by_cases h0 : errG g [a, b] = 0
  · rw [if_pos h0]
    rw [h0] at hop ⊢
    obtain ⟨hW, hab⟩ := errG_zero h0
    obtain ⟨a0, a1⟩ := hab a (by simp)
    obtain ⟨b0, b1⟩ := hab b (by simp)
    obtain ⟨i, rfl⟩ := Int.eq_ofNat_of_zero_le a0
    obtain ⟨j, rfl⟩ := Int.eq_ofNat_of_zero_le b0
    rw [Int.toNat_natCast, Int.toNat_natCast]
    have hi : i < g.length := by omega
    have hj : j < g.length := by omega
    have Hop := Lib.hid hop
    have HW := Lib.hid hW
    have Hrl := Lib.hid (fun (i : Nat) (hi : i < g.length) => (refsN_length g i).symm ▸ (hW.fine (getT_mem hi)).refs_le)
    clear hop hg hv hT h0 hab hW a0 a1 b0 b1
    go_enter Tryz.func18, Tryz.ntmps18
    go_wp2_with fail
    refine Hop.out.mono ?_
    rintro e w1 ⟨rfl, hx1⟩
    have Hx1 := Lib.hid (((Ext.refl w).alloc (.cells #[.int .i64 i, .int .i64 j] 3)).trans hx1)
    clear hx1
    go_wp2_with fail
    go_loopw [1, 2, 11] (fun sa sb s wr => ∃ k p q : Nat, k ≤ way.length ∧ s = .int .i64 k ∧ p < g.length ∧ q < g.length ∧ sa = .int .i64 p ∧ sb = .int .i64 q ∧ Hid (Ext w wr) ∧ Hid (tellsI g i j way = tellsI g p q (way.drop k))) (fun _ _ s _ => way.length - (intOf s).toNat)
    case atStart => exact ⟨0, i, j, by omega, by simp, hi, hj, rfl, rfl, Hx1, Lib.hid rfl⟩
    case round =>
      clear Hx1 hi hj
      obtain ⟨k, p, q, hk, rfl, hp, hq, rfl, rfl, Hx, Ht⟩ := hrel
      obtain ⟨gb, go, pvp, pvm, pvo, eAp, hatp, hofp⟩ := Hs.out p hp
      subst eAp
      obtain ⟨gb', go', qvp, qvm, qvo, eAq, hatq, hofq⟩ := Hs.out q hq
      cases eAq
      rw [← getT_lt hp] at hatp hofp
      rw [← getT_lt hq] at hatq hofq
      have Hagr := Lib.hid (fun w' (hx' : Ext w w') => ragree_any w' (getT g p) (getT g q) _ _ _ _ _ _ (Hty.out p hp) (Hty.out q hq) (hofp.mono hx') (hofq.mono hx'))
      have Hrp := Lib.hid (fun w' (hx' : Ext w w') => rrefs_any w' g.length (getT g p) _ _ _ (hofp.mono hx') (HW.out.fine (getT_mem hp)))
      have Hrq := Lib.hid (fun w' (hx' : Ext w w') => rrefs_any w' g.length (getT g q) _ _ _ (hofq.mono hx') (HW.out.fine (getT_mem hq)))
      rw [refsL_nat HW.out hp] at Hrp
      rw [refsL_nat HW.out hq] at Hrq
      have HlP := Lib.hid (refsN_length g p)
      have HlQ := Lib.hid (refsN_length g q)
      have Had := Lib.hid (show agN g p q = agreeT (getT g p) (getT g q) from rfl)
      generalize getT g p = s at *
      generalize getT g q = t at *
      obtain ⟨P1, p1, e1⟩ := hofp.parts.len
      obtain ⟨P2, p2, e2⟩ := hofp.methods.len
      obtain ⟨P3, p3, e3⟩ := hofp.overs.len
      subst e1 e2 e3
      obtain ⟨Q1, q1, e1⟩ := hofq.parts.len
      obtain ⟨Q2, q2, e2⟩ := hofq.methods.len
      obtain ⟨Q3, q3, e3⟩ := hofq.overs.len
      subst e1 e2 e3
      have HatP := Lib.hid hatp
      have HatQ := Lib.hid hatq
      have ip0 : (0 : Int) ≤ (p : Int) := by omega
      have ip1 : (p : Int) < (g.length : Int) := by omega
      have iq0 : (0 : Int) ≤ (q : Int) := by omega
      have iq1 : (q : Int) < (g.length : Int) := by omega
      have HrlP := Lib.hid (Hrl.out p hp)
      have HrlQ := Lib.hid (Hrl.out q hq)
      clear hatp hatq hofp hofq
      by_cases hlt : k < way.length
      · skip
        obtain ⟨bw, ow, eW, c0⟩ := Hsw.out k hlt
        subst eW
        have C0 := Lib.hid c0
        have hd := List.drop_eq_getElem_cons hlt
        have Hno1 := Lib.hid (fun (h : agN g p q = false) => (show tellsI g i j way = false by rw [Ht.out, hd, tellsI, h]; rfl))
        have Hno2 := Lib.hid (fun (h : hasB (refsN g p).length way[k] = false) => (show tellsI g i j way = false by rw [Ht.out, hd, tellsI, h]; simp))
        have Hgo := Lib.hid (fun (m : Nat) (hm : way[k] = (m : Int)) (h1 : agN g p q = true) (h : m < (refsN g p).length) => (show tellsI g i j way = tellsI g ((refsN g p).getD m 0) ((refsN g q).getD m 0) (way.drop (k + 1)) by
          rw [Ht.out, hd, tellsI, h1, hasB_iff.2 (by omega), hm, Int.toNat_natCast]; rfl))
        have i0 : (0 : Int) ≤ (k : Int) := by omega
        have i1 : (k : Int) < (way.length : Int) := by omega
        generalize way[k] = x at *
        clear c0 hd
        cases ha : agN g p q with
        | false =>
          as_aux_lemma =>
            have Ha := Lib.hid ha
            have Hv := Lib.hid (Hno1.out ha)
            rw [← Had.out, ha] at Hagr
            clear ha
            obtain ⟨d0, d1, d2, d3, d4, d5, d6, d7, d8, d9⟩ := HatP.out.mono Hx.out
            have ld := cell_lt d0
            go_wp2_with fail
            refine (Hrp.out _ Hx.out).mono ?_
            rintro e wa ⟨va, rfl, hva, hxa⟩
            have Hxa := Lib.hid (Hx.out.trans hxa)
            have Hva := Lib.hid hva
            clear hva hxa d0 d1 d2 d3 d4 d5 d6 d7 d8 d9 ld
            obtain ⟨f0, f1, f2, f3, f4, f5, f6, f7, f8, f9⟩ := HatQ.out.mono Hxa.out
            have lf := cell_lt f0
            go_wp2_with fail
            refine (Hrq.out _ Hxa.out).mono ?_
            rintro e wb ⟨vb, rfl, hvb, hxb⟩
            have Hxb := Lib.hid (Hxa.out.trans hxb)
            replace Hva := Lib.hid (Hva.out.any.mono hxb)
            have Hvb := Lib.hid hvb.any
            clear hvb hxb f0 f1 f2 f3 f4 f5 f6 f7 f8 f9 lf
            obtain ⟨Aa, ca, ea⟩ := Hva.out.len
            rw [List.length_map] at ea
            subst ea
            obtain ⟨Ab, cbb, eb⟩ := Hvb.out.len
            rw [List.length_map] at eb
            subst eb
            obtain ⟨d0, d1, d2, d3, d4, d5, d6, d7, d8, d9⟩ := HatP.out.mono Hxb.out
            have ld := cell_lt d0
            obtain ⟨f0, f1, f2, f3, f4, f5, f6, f7, f8, f9⟩ := HatQ.out.mono Hxb.out
            have lf := cell_lt f0
            have c0 := Hxb.out.cell C0.out
            have lw := cell_lt c0
            go_wp2_with fail
            refine wp_region_X (by kernel_rfl) (by kernel_rfl) (fun w3 => Ext wb w3) ((Ext.refl _).drew) ?_
            refine X_want rfl ?_
            refine X_val (v := ?_) (fun w1 hC => ?_) ?_
            rotate_left
            · go_simp
              (first | done | exact rfl)
            simp only [Act.put, List.setIfInBounds_toArray, List.set_cons_zero, List.set_cons_succ]
            refine X_want rfl ?_
            refine X_val (v := ?_) (fun w1 hC => ?_) ?_
            rotate_left
            · go_simp
              (first | done | exact rfl)
            simp only [Act.put, List.setIfInBounds_toArray, List.set_cons_zero, List.set_cons_succ]
            refine X_want rfl ?_
            refine X_val (v := ?_) (fun w1 hC => ?_) ?_
            rotate_left
            · go_simp
              (first | done | exact rfl)
            simp only [Act.put, List.setIfInBounds_toArray, List.set_cons_zero, List.set_cons_succ]
            refine X_want rfl ?_
            refine X_val (v := ?_) (fun w1 hC => ?_) ?_
            rotate_left
            · have q_d0 := hC.cell d0
              have q_d1 := hC.cell d1
              have q_d2 := hC.cell d2
              have q_d3 := hC.cell d3
              have q_d4 := hC.cell d4
              have q_d5 := hC.cell d5
              have q_d6 := hC.cell d6
              have q_d7 := hC.cell d7
              have q_d8 := hC.cell d8
              have q_d9 := hC.cell d9
              have q_f0 := hC.cell f0
              have q_f1 := hC.cell f1
              have q_f2 := hC.cell f2
              have q_f3 := hC.cell f3
              have q_f4 := hC.cell f4
              have q_f5 := hC.cell f5
              have q_f6 := hC.cell f6
              have q_f7 := hC.cell f7
              have q_f8 := hC.cell f8
              have q_f9 := hC.cell f9
              have q_c0 := hC.cell c0
              go_simp
              (first | done | exact rfl)
            simp only [Act.put, List.setIfInBounds_toArray, List.set_cons_zero, List.set_cons_succ]
            refine X_want rfl ?_
            refine X_val (v := ?_) (fun w1 hC => ?_) ?_
            rotate_left
            · go_simp
              (first | done | exact rfl)
            simp only [Act.put, List.setIfInBounds_toArray, List.set_cons_zero, List.set_cons_succ]
            refine X_want rfl ?_
            refine X_val (v := ?_) (fun w1 hC => ?_) ?_
            rotate_left
            · go_simp
              (first | done | exact rfl)
            simp only [Act.put, List.setIfInBounds_toArray, List.set_cons_zero, List.set_cons_succ]
            refine X_want rfl ?_
            refine X_val (v := ?_) (fun w1 hC => ?_) ?_
            rotate_left
            · go_simp
              (first | done | exact rfl)
            simp only [Act.put, List.setIfInBounds_toArray, List.set_cons_zero, List.set_cons_succ]
            refine X_want rfl ?_
            refine X_val (v := ?_) (fun w1 hC => ?_) ?_
            rotate_left
            · have q_d0 := hC.cell d0
              have q_d1 := hC.cell d1
              have q_d2 := hC.cell d2
              have q_d3 := hC.cell d3
              have q_d4 := hC.cell d4
              have q_d5 := hC.cell d5
              have q_d6 := hC.cell d6
              have q_d7 := hC.cell d7
              have q_d8 := hC.cell d8
              have q_d9 := hC.cell d9
              have q_f0 := hC.cell f0
              have q_f1 := hC.cell f1
              have q_f2 := hC.cell f2
              have q_f3 := hC.cell f3
              have q_f4 := hC.cell f4
              have q_f5 := hC.cell f5
              have q_f6 := hC.cell f6
              have q_f7 := hC.cell f7
              have q_f8 := hC.cell f8
              have q_f9 := hC.cell f9
              have q_c0 := hC.cell c0
              go_simp
              (first | done | exact rfl)
            simp only [Act.put, List.setIfInBounds_toArray, List.set_cons_zero, List.set_cons_succ]
            refine X_want rfl ?_
            refine X_call (v := .bool false) (f := 41) (args := #[.agg #[.int .u8 s.kind, .int .i64 s.low, .int .i64 s.high, .bool s.branded, .string s.brand, .string s.opaq, .int .i64 s.super, .slice P1 s.parts.length p1, .slice P2 s.methods.length p2, .slice P3 s.overs.length p3], .agg #[.int .u8 t.kind, .int .i64 t.low, .int .i64 t.high, .bool t.branded, .string t.brand, .string t.opaq, .int .i64 t.super, .slice Q1 t.parts.length q1, .slice Q2 t.methods.length q2, .slice Q3 t.overs.length q3]]) (fun w1 => ?_) (fun w1 hC => (Hagr.out w1 (Hxb.out.trans hC)).mono fun e w2 ⟨he, hx⟩ => ⟨he, hC.trans hx⟩) ?_
            · go_simp
            simp only [Act.put, List.setIfInBounds_toArray, List.set_cons_zero, List.set_cons_succ]
            refine X_want rfl ?_
            refine X_val (v := ?_) (fun w1 hC => ?_) ?_
            rotate_left
            · go_simp
              (first | done | exact rfl)
            simp only [Act.put, List.setIfInBounds_toArray, List.set_cons_zero, List.set_cons_succ]
            refine X_want rfl ?_
            refine X_val (v := ?_) (fun w1 hC => ?_) ?_
            rotate_left
            · go_simp
              (first | done | exact rfl)
            simp only [Act.put, List.setIfInBounds_toArray, List.set_cons_zero, List.set_cons_succ]
            refine X_skip rfl ?_
            simp only [Act.put, List.setIfInBounds_toArray, List.set_cons_zero, List.set_cons_succ]
            refine X_skip rfl ?_
            simp only [Act.put, List.setIfInBounds_toArray, List.set_cons_zero, List.set_cons_succ]
            refine X_skip rfl ?_
            simp only [Act.put, List.setIfInBounds_toArray, List.set_cons_zero, List.set_cons_succ]
            refine X_skip rfl ?_
            simp only [Act.put, List.setIfInBounds_toArray, List.set_cons_zero, List.set_cons_succ]
            refine X_skip rfl ?_
            simp only [Act.put, List.setIfInBounds_toArray, List.set_cons_zero, List.set_cons_succ]
            refine X_want rfl ?_
            refine X_val (v := ?_) (fun w1 hC => ?_) ?_
            rotate_left
            · go_simp
              (first | done | exact rfl)
            simp only [Act.put, List.setIfInBounds_toArray, List.set_cons_zero, List.set_cons_succ]
            refine X_want rfl ?_
            refine X_val (v := ?_) (fun w1 hC => ?_) ?_
            rotate_left
            · go_simp
              (first | done | exact rfl)
            simp only [Act.put, List.setIfInBounds_toArray, List.set_cons_zero, List.set_cons_succ]
            refine X_skip rfl ?_
            simp only [Act.put, List.setIfInBounds_toArray, List.set_cons_zero, List.set_cons_succ]
            refine X_skip rfl ?_
            simp only [Act.put, List.setIfInBounds_toArray, List.set_cons_zero, List.set_cons_succ]
            refine X_skip rfl ?_
            simp only [Act.put, List.setIfInBounds_toArray, List.set_cons_zero, List.set_cons_succ]
            refine X_skip rfl ?_
            simp only [Act.put, List.setIfInBounds_toArray, List.set_cons_zero, List.set_cons_succ]
            refine X_skip rfl ?_
            simp only [Act.put, List.setIfInBounds_toArray, List.set_cons_zero, List.set_cons_succ]
            refine X_skip rfl ?_
            simp only [Act.put, List.setIfInBounds_toArray, List.set_cons_zero, List.set_cons_succ]
            refine X_skip rfl ?_
            simp only [Act.put, List.setIfInBounds_toArray, List.set_cons_zero, List.set_cons_succ]
            refine X_want rfl ?_
            refine X_val (v := ?_) (fun w1 hC => ?_) ?_
            rotate_left
            · go_simp
              (first | done | exact rfl)
            simp only [Act.put, List.setIfInBounds_toArray, List.set_cons_zero, List.set_cons_succ]
            refine wpQuiet_nil ?_
            intro w3 hxd
            go_wp2_with fail
            go_ret2
            exact ⟨by rw [Hv.out]; rfl, Hxb.out.trans hxd⟩
        | true =>
          have Ha := Lib.hid ha
          rw [← Had.out, ha] at Hagr
          clear ha
          by_cases c1 : x < 0
          · as_aux_lemma =>
            have Hv := Lib.hid (Hno2.out (hasB_out (by omega)))
            have t1 : decide (x < 0) = true := decide_eq_true c1
            obtain ⟨d0, d1, d2, d3, d4, d5, d6, d7, d8, d9⟩ := HatP.out.mono Hx.out
            have ld := cell_lt d0
            go_wp2_with fail
            refine (Hrp.out _ Hx.out).mono ?_
            rintro e wa ⟨va, rfl, hva, hxa⟩
            have Hxa := Lib.hid (Hx.out.trans hxa)
            have Hva := Lib.hid hva
            clear hva hxa d0 d1 d2 d3 d4 d5 d6 d7 d8 d9 ld
            obtain ⟨f0, f1, f2, f3, f4, f5, f6, f7, f8, f9⟩ := HatQ.out.mono Hxa.out
            have lf := cell_lt f0
            go_wp2_with fail
            refine (Hrq.out _ Hxa.out).mono ?_
            rintro e wb ⟨vb, rfl, hvb, hxb⟩
            have Hxb := Lib.hid (Hxa.out.trans hxb)
            replace Hva := Lib.hid (Hva.out.any.mono hxb)
            have Hvb := Lib.hid hvb.any
            clear hvb hxb f0 f1 f2 f3 f4 f5 f6 f7 f8 f9 lf
            obtain ⟨Aa, ca, ea⟩ := Hva.out.len
            rw [List.length_map] at ea
            subst ea
            obtain ⟨Ab, cbb, eb⟩ := Hvb.out.len
            rw [List.length_map] at eb
            subst eb
            obtain ⟨d0, d1, d2, d3, d4, d5, d6, d7, d8, d9⟩ := HatP.out.mono Hxb.out
            have ld := cell_lt d0
            obtain ⟨f0, f1, f2, f3, f4, f5, f6, f7, f8, f9⟩ := HatQ.out.mono Hxb.out
            have lf := cell_lt f0
            have c0 := Hxb.out.cell C0.out
            have lw := cell_lt c0
            go_wp2_with fail
            refine wp_region_X (by kernel_rfl) (by kernel_rfl) (fun w3 => Ext wb w3) ((Ext.refl _).drew) ?_
            refine X_want rfl ?_
            refine X_val (v := ?_) (fun w1 hC => ?_) ?_
            rotate_left
            · go_simp
              (first | done | exact rfl)
            simp only [Act.put, List.setIfInBounds_toArray, List.set_cons_zero, List.set_cons_succ]
            refine X_want rfl ?_
            refine X_val (v := ?_) (fun w1 hC => ?_) ?_
            rotate_left
            · go_simp
              (first | done | exact rfl)
            simp only [Act.put, List.setIfInBounds_toArray, List.set_cons_zero, List.set_cons_succ]
            refine X_want rfl ?_
            refine X_val (v := ?_) (fun w1 hC => ?_) ?_
            rotate_left
            · go_simp
              (first | done | exact rfl)
            simp only [Act.put, List.setIfInBounds_toArray, List.set_cons_zero, List.set_cons_succ]
            refine X_want rfl ?_
            refine X_val (v := ?_) (fun w1 hC => ?_) ?_
            rotate_left
            · have q_d0 := hC.cell d0
              have q_d1 := hC.cell d1
              have q_d2 := hC.cell d2
              have q_d3 := hC.cell d3
              have q_d4 := hC.cell d4
              have q_d5 := hC.cell d5
              have q_d6 := hC.cell d6
              have q_d7 := hC.cell d7
              have q_d8 := hC.cell d8
              have q_d9 := hC.cell d9
              have q_f0 := hC.cell f0
              have q_f1 := hC.cell f1
              have q_f2 := hC.cell f2
              have q_f3 := hC.cell f3
              have q_f4 := hC.cell f4
              have q_f5 := hC.cell f5
              have q_f6 := hC.cell f6
              have q_f7 := hC.cell f7
              have q_f8 := hC.cell f8
              have q_f9 := hC.cell f9
              have q_c0 := hC.cell c0
              go_simp
              (first | done | exact rfl)
            simp only [Act.put, List.setIfInBounds_toArray, List.set_cons_zero, List.set_cons_succ]
            refine X_want rfl ?_
            refine X_val (v := ?_) (fun w1 hC => ?_) ?_
            rotate_left
            · go_simp
              (first | done | exact rfl)
            simp only [Act.put, List.setIfInBounds_toArray, List.set_cons_zero, List.set_cons_succ]
            refine X_want rfl ?_
            refine X_val (v := ?_) (fun w1 hC => ?_) ?_
            rotate_left
            · go_simp
              (first | done | exact rfl)
            simp only [Act.put, List.setIfInBounds_toArray, List.set_cons_zero, List.set_cons_succ]
            refine X_want rfl ?_
            refine X_val (v := ?_) (fun w1 hC => ?_) ?_
            rotate_left
            · go_simp
              (first | done | exact rfl)
            simp only [Act.put, List.setIfInBounds_toArray, List.set_cons_zero, List.set_cons_succ]
            refine X_want rfl ?_
            refine X_val (v := ?_) (fun w1 hC => ?_) ?_
            rotate_left
            · have q_d0 := hC.cell d0
              have q_d1 := hC.cell d1
              have q_d2 := hC.cell d2
              have q_d3 := hC.cell d3
              have q_d4 := hC.cell d4
              have q_d5 := hC.cell d5
              have q_d6 := hC.cell d6
              have q_d7 := hC.cell d7
              have q_d8 := hC.cell d8
              have q_d9 := hC.cell d9
              have q_f0 := hC.cell f0
              have q_f1 := hC.cell f1
              have q_f2 := hC.cell f2
              have q_f3 := hC.cell f3
              have q_f4 := hC.cell f4
              have q_f5 := hC.cell f5
              have q_f6 := hC.cell f6
              have q_f7 := hC.cell f7
              have q_f8 := hC.cell f8
              have q_f9 := hC.cell f9
              have q_c0 := hC.cell c0
              go_simp
              (first | done | exact rfl)
            simp only [Act.put, List.setIfInBounds_toArray, List.set_cons_zero, List.set_cons_succ]
            refine X_want rfl ?_
            refine X_call (v := .bool true) (f := 41) (args := #[.agg #[.int .u8 s.kind, .int .i64 s.low, .int .i64 s.high, .bool s.branded, .string s.brand, .string s.opaq, .int .i64 s.super, .slice P1 s.parts.length p1, .slice P2 s.methods.length p2, .slice P3 s.overs.length p3], .agg #[.int .u8 t.kind, .int .i64 t.low, .int .i64 t.high, .bool t.branded, .string t.brand, .string t.opaq, .int .i64 t.super, .slice Q1 t.parts.length q1, .slice Q2 t.methods.length q2, .slice Q3 t.overs.length q3]]) (fun w1 => ?_) (fun w1 hC => (Hagr.out w1 (Hxb.out.trans hC)).mono fun e w2 ⟨he, hx⟩ => ⟨he, hC.trans hx⟩) ?_
            · go_simp
            simp only [Act.put, List.setIfInBounds_toArray, List.set_cons_zero, List.set_cons_succ]
            refine X_want rfl ?_
            refine X_val (v := ?_) (fun w1 hC => ?_) ?_
            rotate_left
            · go_simp
              (first | done | exact rfl)
            simp only [Act.put, List.setIfInBounds_toArray, List.set_cons_zero, List.set_cons_succ]
            refine X_want rfl ?_
            refine X_val (v := ?_) (fun w1 hC => ?_) ?_
            rotate_left
            · go_simp
              (first | done | exact rfl)
            simp only [Act.put, List.setIfInBounds_toArray, List.set_cons_zero, List.set_cons_succ]
            refine X_want rfl ?_
            refine X_val (v := ?_) (fun w1 hC => ?_) ?_
            rotate_left
            · go_simp
              (first | done | exact rfl)
            simp only [Act.put, List.setIfInBounds_toArray, List.set_cons_zero, List.set_cons_succ]
            refine X_want rfl ?_
            refine X_val (v := ?_) (fun w1 hC => ?_) ?_
            rotate_left
            · go_simp
              (first | done | exact rfl)
            simp only [Act.put, List.setIfInBounds_toArray, List.set_cons_zero, List.set_cons_succ]
            refine X_want rfl ?_
            refine X_val (v := ?_) (fun w1 hC => ?_) ?_
            rotate_left
            · go_simp
              (first | done | exact rfl)
            simp only [Act.put, List.setIfInBounds_toArray, List.set_cons_zero, List.set_cons_succ]
            refine X_want rfl ?_
            refine X_val (v := ?_) (fun w1 hC => ?_) ?_
            rotate_left
            · have q_d0 := hC.cell d0
              have q_d1 := hC.cell d1
              have q_d2 := hC.cell d2
              have q_d3 := hC.cell d3
              have q_d4 := hC.cell d4
              have q_d5 := hC.cell d5
              have q_d6 := hC.cell d6
              have q_d7 := hC.cell d7
              have q_d8 := hC.cell d8
              have q_d9 := hC.cell d9
              have q_f0 := hC.cell f0
              have q_f1 := hC.cell f1
              have q_f2 := hC.cell f2
              have q_f3 := hC.cell f3
              have q_f4 := hC.cell f4
              have q_f5 := hC.cell f5
              have q_f6 := hC.cell f6
              have q_f7 := hC.cell f7
              have q_f8 := hC.cell f8
              have q_f9 := hC.cell f9
              have q_c0 := hC.cell c0
              go_simp
              (first | done | exact rfl)
            simp only [Act.put, List.setIfInBounds_toArray, List.set_cons_zero, List.set_cons_succ]
            refine X_want rfl ?_
            refine X_val (v := ?_) (fun w1 hC => ?_) ?_
            rotate_left
            · go_simp
              (first | done | exact rfl)
            simp only [Act.put, List.setIfInBounds_toArray, List.set_cons_zero, List.set_cons_succ]
            refine X_want rfl ?_
            refine X_val (v := ?_) (fun w1 hC => ?_) ?_
            rotate_left
            · go_simp
              (first | done | exact rfl)
            simp only [Act.put, List.setIfInBounds_toArray, List.set_cons_zero, List.set_cons_succ]
            refine X_want rfl ?_
            refine X_val (v := ?_) (fun w1 hC => ?_) ?_
            rotate_left
            · go_simp
              (first | done | exact rfl)
            simp only [Act.put, List.setIfInBounds_toArray, List.set_cons_zero, List.set_cons_succ]
            refine X_skip rfl ?_
            simp only [Act.put, List.setIfInBounds_toArray, List.set_cons_zero, List.set_cons_succ]
            refine X_skip rfl ?_
            simp only [Act.put, List.setIfInBounds_toArray, List.set_cons_zero, List.set_cons_succ]
            refine X_skip rfl ?_
            simp only [Act.put, List.setIfInBounds_toArray, List.set_cons_zero, List.set_cons_succ]
            refine X_skip rfl ?_
            simp only [Act.put, List.setIfInBounds_toArray, List.set_cons_zero, List.set_cons_succ]
            refine X_skip rfl ?_
            simp only [Act.put, List.setIfInBounds_toArray, List.set_cons_zero, List.set_cons_succ]
            refine X_skip rfl ?_
            simp only [Act.put, List.setIfInBounds_toArray, List.set_cons_zero, List.set_cons_succ]
            refine X_skip rfl ?_
            simp only [Act.put, List.setIfInBounds_toArray, List.set_cons_zero, List.set_cons_succ]
            refine X_want rfl ?_
            refine X_val (v := ?_) (fun w1 hC => ?_) ?_
            rotate_left
            · go_simp
              (first | done | exact rfl)
            simp only [Act.put, List.setIfInBounds_toArray, List.set_cons_zero, List.set_cons_succ]
            refine wpQuiet_nil ?_
            intro w3 hxd
            go_wp2_with fail
            go_ret2
            exact ⟨by rw [Hv.out]; rfl, Hxb.out.trans hxd⟩
          have t1 : decide (x < 0) = false := decide_eq_false c1
          by_cases c2 : ((refsN g p).length : Int) ≤ x
          · as_aux_lemma =>
            have Hv := Lib.hid (Hno2.out (hasB_out (by omega)))
            have t2 : decide (((refsN g p).length : Int) ≤ x) = true := decide_eq_true c2
            obtain ⟨d0, d1, d2, d3, d4, d5, d6, d7, d8, d9⟩ := HatP.out.mono Hx.out
            have ld := cell_lt d0
            go_wp2_with fail
            refine (Hrp.out _ Hx.out).mono ?_
            rintro e wa ⟨va, rfl, hva, hxa⟩
            have Hxa := Lib.hid (Hx.out.trans hxa)
            have Hva := Lib.hid hva
            clear hva hxa d0 d1 d2 d3 d4 d5 d6 d7 d8 d9 ld
            obtain ⟨f0, f1, f2, f3, f4, f5, f6, f7, f8, f9⟩ := HatQ.out.mono Hxa.out
            have lf := cell_lt f0
            go_wp2_with fail
            refine (Hrq.out _ Hxa.out).mono ?_
            rintro e wb ⟨vb, rfl, hvb, hxb⟩
            have Hxb := Lib.hid (Hxa.out.trans hxb)
            replace Hva := Lib.hid (Hva.out.any.mono hxb)
            have Hvb := Lib.hid hvb.any
            clear hvb hxb f0 f1 f2 f3 f4 f5 f6 f7 f8 f9 lf
            obtain ⟨Aa, ca, ea⟩ := Hva.out.len
            rw [List.length_map] at ea
            subst ea
            obtain ⟨Ab, cbb, eb⟩ := Hvb.out.len
            rw [List.length_map] at eb
            subst eb
            obtain ⟨d0, d1, d2, d3, d4, d5, d6, d7, d8, d9⟩ := HatP.out.mono Hxb.out
            have ld := cell_lt d0
            obtain ⟨f0, f1, f2, f3, f4, f5, f6, f7, f8, f9⟩ := HatQ.out.mono Hxb.out
            have lf := cell_lt f0
            have c0 := Hxb.out.cell C0.out
            have lw := cell_lt c0
            go_wp2_with fail
            refine wp_region_X (by kernel_rfl) (by kernel_rfl) (fun w3 => Ext wb w3) ((Ext.refl _).drew) ?_
            refine X_want rfl ?_
            refine X_val (v := ?_) (fun w1 hC => ?_) ?_
            rotate_left
            · go_simp
              (first | done | exact rfl)
            simp only [Act.put, List.setIfInBounds_toArray, List.set_cons_zero, List.set_cons_succ]
            refine X_want rfl ?_
            refine X_val (v := ?_) (fun w1 hC => ?_) ?_
            rotate_left
            · go_simp
              (first | done | exact rfl)
            simp only [Act.put, List.setIfInBounds_toArray, List.set_cons_zero, List.set_cons_succ]
            refine X_want rfl ?_
            refine X_val (v := ?_) (fun w1 hC => ?_) ?_
            rotate_left
            · go_simp
              (first | done | exact rfl)
            simp only [Act.put, List.setIfInBounds_toArray, List.set_cons_zero, List.set_cons_succ]
            refine X_want rfl ?_
            refine X_val (v := ?_) (fun w1 hC => ?_) ?_
            rotate_left
            · have q_d0 := hC.cell d0
              have q_d1 := hC.cell d1
              have q_d2 := hC.cell d2
              have q_d3 := hC.cell d3
              have q_d4 := hC.cell d4
              have q_d5 := hC.cell d5
              have q_d6 := hC.cell d6
              have q_d7 := hC.cell d7
              have q_d8 := hC.cell d8
              have q_d9 := hC.cell d9
              have q_f0 := hC.cell f0
              have q_f1 := hC.cell f1
              have q_f2 := hC.cell f2
              have q_f3 := hC.cell f3
              have q_f4 := hC.cell f4
              have q_f5 := hC.cell f5
              have q_f6 := hC.cell f6
              have q_f7 := hC.cell f7
              have q_f8 := hC.cell f8
              have q_f9 := hC.cell f9
              have q_c0 := hC.cell c0
              go_simp
              (first | done | exact rfl)
            simp only [Act.put, List.setIfInBounds_toArray, List.set_cons_zero, List.set_cons_succ]
            refine X_want rfl ?_
            refine X_val (v := ?_) (fun w1 hC => ?_) ?_
            rotate_left
            · go_simp
              (first | done | exact rfl)
            simp only [Act.put, List.setIfInBounds_toArray, List.set_cons_zero, List.set_cons_succ]
            refine X_want rfl ?_
            refine X_val (v := ?_) (fun w1 hC => ?_) ?_
            rotate_left
            · go_simp
              (first | done | exact rfl)
            simp only [Act.put, List.setIfInBounds_toArray, List.set_cons_zero, List.set_cons_succ]
            refine X_want rfl ?_
            refine X_val (v := ?_) (fun w1 hC => ?_) ?_
            rotate_left
            · go_simp
              (first | done | exact rfl)
            simp only [Act.put, List.setIfInBounds_toArray, List.set_cons_zero, List.set_cons_succ]
            refine X_want rfl ?_
            refine X_val (v := ?_) (fun w1 hC => ?_) ?_
            rotate_left
            · have q_d0 := hC.cell d0
              have q_d1 := hC.cell d1
              have q_d2 := hC.cell d2
              have q_d3 := hC.cell d3
              have q_d4 := hC.cell d4
              have q_d5 := hC.cell d5
              have q_d6 := hC.cell d6
              have q_d7 := hC.cell d7
              have q_d8 := hC.cell d8
              have q_d9 := hC.cell d9
              have q_f0 := hC.cell f0
              have q_f1 := hC.cell f1
              have q_f2 := hC.cell f2
              have q_f3 := hC.cell f3
              have q_f4 := hC.cell f4
              have q_f5 := hC.cell f5
              have q_f6 := hC.cell f6
              have q_f7 := hC.cell f7
              have q_f8 := hC.cell f8
              have q_f9 := hC.cell f9
              have q_c0 := hC.cell c0
              go_simp
              (first | done | exact rfl)
            simp only [Act.put, List.setIfInBounds_toArray, List.set_cons_zero, List.set_cons_succ]
            refine X_want rfl ?_
            refine X_call (v := .bool true) (f := 41) (args := #[.agg #[.int .u8 s.kind, .int .i64 s.low, .int .i64 s.high, .bool s.branded, .string s.brand, .string s.opaq, .int .i64 s.super, .slice P1 s.parts.length p1, .slice P2 s.methods.length p2, .slice P3 s.overs.length p3], .agg #[.int .u8 t.kind, .int .i64 t.low, .int .i64 t.high, .bool t.branded, .string t.brand, .string t.opaq, .int .i64 t.super, .slice Q1 t.parts.length q1, .slice Q2 t.methods.length q2, .slice Q3 t.overs.length q3]]) (fun w1 => ?_) (fun w1 hC => (Hagr.out w1 (Hxb.out.trans hC)).mono fun e w2 ⟨he, hx⟩ => ⟨he, hC.trans hx⟩) ?_
            · go_simp
            simp only [Act.put, List.setIfInBounds_toArray, List.set_cons_zero, List.set_cons_succ]
            refine X_want rfl ?_
            refine X_val (v := ?_) (fun w1 hC => ?_) ?_
            rotate_left
            · go_simp
              (first | done | exact rfl)
            simp only [Act.put, List.setIfInBounds_toArray, List.set_cons_zero, List.set_cons_succ]
            refine X_want rfl ?_
            refine X_val (v := ?_) (fun w1 hC => ?_) ?_
            rotate_left
            · go_simp
              (first | done | exact rfl)
            simp only [Act.put, List.setIfInBounds_toArray, List.set_cons_zero, List.set_cons_succ]
            refine X_want rfl ?_
            refine X_val (v := ?_) (fun w1 hC => ?_) ?_
            rotate_left
            · go_simp
              (first | done | exact rfl)
            simp only [Act.put, List.setIfInBounds_toArray, List.set_cons_zero, List.set_cons_succ]
            refine X_want rfl ?_
            refine X_val (v := ?_) (fun w1 hC => ?_) ?_
            rotate_left
            · go_simp
              (first | done | exact rfl)
            simp only [Act.put, List.setIfInBounds_toArray, List.set_cons_zero, List.set_cons_succ]
            refine X_want rfl ?_
            refine X_val (v := ?_) (fun w1 hC => ?_) ?_
            rotate_left
            · go_simp
              (first | done | exact rfl)
            simp only [Act.put, List.setIfInBounds_toArray, List.set_cons_zero, List.set_cons_succ]
            refine X_want rfl ?_
            refine X_val (v := ?_) (fun w1 hC => ?_) ?_
            rotate_left
            · have q_d0 := hC.cell d0
              have q_d1 := hC.cell d1
              have q_d2 := hC.cell d2
              have q_d3 := hC.cell d3
              have q_d4 := hC.cell d4
              have q_d5 := hC.cell d5
              have q_d6 := hC.cell d6
              have q_d7 := hC.cell d7
              have q_d8 := hC.cell d8
              have q_d9 := hC.cell d9
              have q_f0 := hC.cell f0
              have q_f1 := hC.cell f1
              have q_f2 := hC.cell f2
              have q_f3 := hC.cell f3
              have q_f4 := hC.cell f4
              have q_f5 := hC.cell f5
              have q_f6 := hC.cell f6
              have q_f7 := hC.cell f7
              have q_f8 := hC.cell f8
              have q_f9 := hC.cell f9
              have q_c0 := hC.cell c0
              go_simp
              (first | done | exact rfl)
            simp only [Act.put, List.setIfInBounds_toArray, List.set_cons_zero, List.set_cons_succ]
            refine X_want rfl ?_
            refine X_val (v := ?_) (fun w1 hC => ?_) ?_
            rotate_left
            · go_simp
              (first | done | exact rfl)
            simp only [Act.put, List.setIfInBounds_toArray, List.set_cons_zero, List.set_cons_succ]
            refine X_want rfl ?_
            refine X_val (v := ?_) (fun w1 hC => ?_) ?_
            rotate_left
            · go_simp
              (first | done | exact rfl)
            simp only [Act.put, List.setIfInBounds_toArray, List.set_cons_zero, List.set_cons_succ]
            refine X_want rfl ?_
            refine X_val (v := ?_) (fun w1 hC => ?_) ?_
            rotate_left
            · go_simp
              (first | done | exact rfl)
            simp only [Act.put, List.setIfInBounds_toArray, List.set_cons_zero, List.set_cons_succ]
            refine X_want rfl ?_
            refine X_val (v := ?_) (fun w1 hC => ?_) ?_
            rotate_left
            · go_simp
              (first | done | exact rfl)
            simp only [Act.put, List.setIfInBounds_toArray, List.set_cons_zero, List.set_cons_succ]
            refine X_want rfl ?_
            refine X_val (v := ?_) (fun w1 hC => ?_) ?_
            rotate_left
            · go_simp
              (first | done | exact rfl)
            simp only [Act.put, List.setIfInBounds_toArray, List.set_cons_zero, List.set_cons_succ]
            refine X_want rfl ?_
            refine X_val (v := ?_) (fun w1 hC => ?_) ?_
            rotate_left
            · go_simp
              (first | done | exact rfl)
            simp only [Act.put, List.setIfInBounds_toArray, List.set_cons_zero, List.set_cons_succ]
            refine X_want rfl ?_
            refine X_val (v := ?_) (fun w1 hC => ?_) ?_
            rotate_left
            · have q_d0 := hC.cell d0
              have q_d1 := hC.cell d1
              have q_d2 := hC.cell d2
              have q_d3 := hC.cell d3
              have q_d4 := hC.cell d4
              have q_d5 := hC.cell d5
              have q_d6 := hC.cell d6
              have q_d7 := hC.cell d7
              have q_d8 := hC.cell d8
              have q_d9 := hC.cell d9
              have q_f0 := hC.cell f0
              have q_f1 := hC.cell f1
              have q_f2 := hC.cell f2
              have q_f3 := hC.cell f3
              have q_f4 := hC.cell f4
              have q_f5 := hC.cell f5
              have q_f6 := hC.cell f6
              have q_f7 := hC.cell f7
              have q_f8 := hC.cell f8
              have q_f9 := hC.cell f9
              have q_c0 := hC.cell c0
              go_simp
              (first | done | exact rfl)
            simp only [Act.put, List.setIfInBounds_toArray, List.set_cons_zero, List.set_cons_succ]
            refine X_want rfl ?_
            refine X_val (v := ?_) (fun w1 hC => ?_) ?_
            rotate_left
            · go_simp
              (first | done | exact rfl)
            simp only [Act.put, List.setIfInBounds_toArray, List.set_cons_zero, List.set_cons_succ]
            refine X_want rfl ?_
            refine X_val (v := ?_) (fun w1 hC => ?_) ?_
            rotate_left
            · go_simp
              (first | done | exact rfl)
            simp only [Act.put, List.setIfInBounds_toArray, List.set_cons_zero, List.set_cons_succ]
            refine X_want rfl ?_
            refine X_val (v := ?_) (fun w1 hC => ?_) ?_
            rotate_left
            · go_simp
              (first | done | exact rfl)
            simp only [Act.put, List.setIfInBounds_toArray, List.set_cons_zero, List.set_cons_succ]
            refine X_want rfl ?_
            refine X_val (v := ?_) (fun w1 hC => ?_) ?_
            rotate_left
            · go_simp
              (first | done | exact rfl)
            simp only [Act.put, List.setIfInBounds_toArray, List.set_cons_zero, List.set_cons_succ]
            refine wpQuiet_nil ?_
            intro w3 hxd
            go_wp2_with fail
            go_ret2
            exact ⟨by rw [Hv.out]; rfl, Hxb.out.trans hxd⟩
          have t2 : decide (((refsN g p).length : Int) ≤ x) = false := decide_eq_false c2
          obtain ⟨m, hm⟩ := Int.eq_ofNat_of_zero_le (show 0 ≤ x by omega)
          have hmp : m < (refsN g p).length := by omega
          have hlen : (refsN g p).length = (refsN g q).length := by
            have h := refsL_length (Had.out.symm.trans Ha.out)
            rw [HlP.out, HlQ.out]; exact h
          have Hgo1 := Lib.hid (Hgo.out m hm Ha.out hmp)
          have hrp := HW.out.abs.rng p hp _ (getD_mem (xs := refsN g p) (k := m) hmp)
          have hrq := HW.out.abs.rng q hq _ (getD_mem (xs := refsN g q) (k := m) (by omega))
          have hmq : m < (refsN g q).length := by omega
          subst hm
          clear Hno1 Hno2 Hgo hlen
          obtain ⟨d0, d1, d2, d3, d4, d5, d6, d7, d8, d9⟩ := HatP.out.mono Hx.out
          have ld := cell_lt d0
          go_wp2_with fail
          refine (Hrp.out _ Hx.out).mono ?_
          rintro e wa ⟨va, rfl, hva, hxa⟩
          have Hxa := Lib.hid (Hx.out.trans hxa)
          have Hva := Lib.hid hva
          clear hva hxa d0 d1 d2 d3 d4 d5 d6 d7 d8 d9 ld
          obtain ⟨f0, f1, f2, f3, f4, f5, f6, f7, f8, f9⟩ := HatQ.out.mono Hxa.out
          have lf := cell_lt f0
          go_wp2_with fail
          refine (Hrq.out _ Hxa.out).mono ?_
          rintro e wb ⟨vb, rfl, hvb, hxb⟩
          have Hxb := Lib.hid (Hxa.out.trans hxb)
          replace Hva := Lib.hid (Hva.out.any.mono hxb)
          have Hvb := Lib.hid hvb.any
          clear hvb hxb f0 f1 f2 f3 f4 f5 f6 f7 f8 f9 lf
          obtain ⟨Aa, ca, ea⟩ := Hva.out.len
          rw [List.length_map] at ea
          subst ea
          obtain ⟨Ab, cbb, eb⟩ := Hvb.out.len
          rw [List.length_map] at eb
          subst eb
          obtain ⟨d0, d1, d2, d3, d4, d5, d6, d7, d8, d9⟩ := HatP.out.mono Hxb.out
          have ld := cell_lt d0
          obtain ⟨f0, f1, f2, f3, f4, f5, f6, f7, f8, f9⟩ := HatQ.out.mono Hxb.out
          have lf := cell_lt f0
          have c0 := Hxb.out.cell C0.out
          have lw := cell_lt c0
          go_wp2_with fail
          refine wp_region_X (by kernel_rfl) (by kernel_rfl) (fun w3 => Ext wb w3) ((Ext.refl _).drew) ?_
          refine X_want rfl ?_
          refine X_val (v := ?_) (fun w1 hC => ?_) ?_
          rotate_left
          · go_simp
            (first | done | exact rfl)
          simp only [Act.put, List.setIfInBounds_toArray, List.set_cons_zero, List.set_cons_succ]
          refine X_want rfl ?_
          refine X_val (v := ?_) (fun w1 hC => ?_) ?_
          rotate_left
          · go_simp
            (first | done | exact rfl)
          simp only [Act.put, List.setIfInBounds_toArray, List.set_cons_zero, List.set_cons_succ]
          refine X_want rfl ?_
          refine X_val (v := ?_) (fun w1 hC => ?_) ?_
          rotate_left
          · go_simp
            (first | done | exact rfl)
          simp only [Act.put, List.setIfInBounds_toArray, List.set_cons_zero, List.set_cons_succ]
          refine X_want rfl ?_
          refine X_val (v := ?_) (fun w1 hC => ?_) ?_
          rotate_left
          · have q_d0 := hC.cell d0
            have q_d1 := hC.cell d1
            have q_d2 := hC.cell d2
            have q_d3 := hC.cell d3
            have q_d4 := hC.cell d4
            have q_d5 := hC.cell d5
            have q_d6 := hC.cell d6
            have q_d7 := hC.cell d7
            have q_d8 := hC.cell d8
            have q_d9 := hC.cell d9
            have q_f0 := hC.cell f0
            have q_f1 := hC.cell f1
            have q_f2 := hC.cell f2
            have q_f3 := hC.cell f3
            have q_f4 := hC.cell f4
            have q_f5 := hC.cell f5
            have q_f6 := hC.cell f6
            have q_f7 := hC.cell f7
            have q_f8 := hC.cell f8
            have q_f9 := hC.cell f9
            have q_c0 := hC.cell c0
            go_simp
            (first | done | exact rfl)
          simp only [Act.put, List.setIfInBounds_toArray, List.set_cons_zero, List.set_cons_succ]
          refine X_want rfl ?_
          refine X_val (v := ?_) (fun w1 hC => ?_) ?_
          rotate_left
          · go_simp
            (first | done | exact rfl)
          simp only [Act.put, List.setIfInBounds_toArray, List.set_cons_zero, List.set_cons_succ]
          refine X_want rfl ?_
          refine X_val (v := ?_) (fun w1 hC => ?_) ?_
          rotate_left
          · go_simp
            (first | done | exact rfl)
          simp only [Act.put, List.setIfInBounds_toArray, List.set_cons_zero, List.set_cons_succ]
          refine X_want rfl ?_
          refine X_val (v := ?_) (fun w1 hC => ?_) ?_
          rotate_left
          · go_simp
            (first | done | exact rfl)
          simp only [Act.put, List.setIfInBounds_toArray, List.set_cons_zero, List.set_cons_succ]
          refine X_want rfl ?_
          refine X_val (v := ?_) (fun w1 hC => ?_) ?_
          rotate_left
          · have q_d0 := hC.cell d0
            have q_d1 := hC.cell d1
            have q_d2 := hC.cell d2
            have q_d3 := hC.cell d3
            have q_d4 := hC.cell d4
            have q_d5 := hC.cell d5
            have q_d6 := hC.cell d6
            have q_d7 := hC.cell d7
            have q_d8 := hC.cell d8
            have q_d9 := hC.cell d9
            have q_f0 := hC.cell f0
            have q_f1 := hC.cell f1
            have q_f2 := hC.cell f2
            have q_f3 := hC.cell f3
            have q_f4 := hC.cell f4
            have q_f5 := hC.cell f5
            have q_f6 := hC.cell f6
            have q_f7 := hC.cell f7
            have q_f8 := hC.cell f8
            have q_f9 := hC.cell f9
            have q_c0 := hC.cell c0
            go_simp
            (first | done | exact rfl)
          simp only [Act.put, List.setIfInBounds_toArray, List.set_cons_zero, List.set_cons_succ]
          refine X_want rfl ?_
          refine X_call (v := .bool true) (f := 41) (args := #[.agg #[.int .u8 s.kind, .int .i64 s.low, .int .i64 s.high, .bool s.branded, .string s.brand, .string s.opaq, .int .i64 s.super, .slice P1 s.parts.length p1, .slice P2 s.methods.length p2, .slice P3 s.overs.length p3], .agg #[.int .u8 t.kind, .int .i64 t.low, .int .i64 t.high, .bool t.branded, .string t.brand, .string t.opaq, .int .i64 t.super, .slice Q1 t.parts.length q1, .slice Q2 t.methods.length q2, .slice Q3 t.overs.length q3]]) (fun w1 => ?_) (fun w1 hC => (Hagr.out w1 (Hxb.out.trans hC)).mono fun e w2 ⟨he, hx⟩ => ⟨he, hC.trans hx⟩) ?_
          · go_simp
          simp only [Act.put, List.setIfInBounds_toArray, List.set_cons_zero, List.set_cons_succ]
          refine X_want rfl ?_
          refine X_val (v := ?_) (fun w1 hC => ?_) ?_
          rotate_left
          · go_simp
            (first | done | exact rfl)
          simp only [Act.put, List.setIfInBounds_toArray, List.set_cons_zero, List.set_cons_succ]
          refine X_want rfl ?_
          refine X_val (v := ?_) (fun w1 hC => ?_) ?_
          rotate_left
          · go_simp
            (first | done | exact rfl)
          simp only [Act.put, List.setIfInBounds_toArray, List.set_cons_zero, List.set_cons_succ]
          refine X_want rfl ?_
          refine X_val (v := ?_) (fun w1 hC => ?_) ?_
          rotate_left
          · go_simp
            (first | done | exact rfl)
          simp only [Act.put, List.setIfInBounds_toArray, List.set_cons_zero, List.set_cons_succ]
          refine X_want rfl ?_
          refine X_val (v := ?_) (fun w1 hC => ?_) ?_
          rotate_left
          · go_simp
            (first | done | exact rfl)
          simp only [Act.put, List.setIfInBounds_toArray, List.set_cons_zero, List.set_cons_succ]
          refine X_want rfl ?_
          refine X_val (v := ?_) (fun w1 hC => ?_) ?_
          rotate_left
          · go_simp
            (first | done | exact rfl)
          simp only [Act.put, List.setIfInBounds_toArray, List.set_cons_zero, List.set_cons_succ]
          refine X_want rfl ?_
          refine X_val (v := ?_) (fun w1 hC => ?_) ?_
          rotate_left
          · have q_d0 := hC.cell d0
            have q_d1 := hC.cell d1
            have q_d2 := hC.cell d2
            have q_d3 := hC.cell d3
            have q_d4 := hC.cell d4
            have q_d5 := hC.cell d5
            have q_d6 := hC.cell d6
            have q_d7 := hC.cell d7
            have q_d8 := hC.cell d8
            have q_d9 := hC.cell d9
            have q_f0 := hC.cell f0
            have q_f1 := hC.cell f1
            have q_f2 := hC.cell f2
            have q_f3 := hC.cell f3
            have q_f4 := hC.cell f4
            have q_f5 := hC.cell f5
            have q_f6 := hC.cell f6
            have q_f7 := hC.cell f7
            have q_f8 := hC.cell f8
            have q_f9 := hC.cell f9
            have q_c0 := hC.cell c0
            go_simp
            (first | done | exact rfl)
          simp only [Act.put, List.setIfInBounds_toArray, List.set_cons_zero, List.set_cons_succ]
          refine X_want rfl ?_
          refine X_val (v := ?_) (fun w1 hC => ?_) ?_
          rotate_left
          · go_simp
            (first | done | exact rfl)
          simp only [Act.put, List.setIfInBounds_toArray, List.set_cons_zero, List.set_cons_succ]
          refine X_want rfl ?_
          refine X_val (v := ?_) (fun w1 hC => ?_) ?_
          rotate_left
          · go_simp
            (first | done | exact rfl)
          simp only [Act.put, List.setIfInBounds_toArray, List.set_cons_zero, List.set_cons_succ]
          refine X_want rfl ?_
          refine X_val (v := ?_) (fun w1 hC => ?_) ?_
          rotate_left
          · go_simp
            (first | done | exact rfl)
          simp only [Act.put, List.setIfInBounds_toArray, List.set_cons_zero, List.set_cons_succ]
          refine X_want rfl ?_
          refine X_val (v := ?_) (fun w1 hC => ?_) ?_
          rotate_left
          · go_simp
            (first | done | exact rfl)
          simp only [Act.put, List.setIfInBounds_toArray, List.set_cons_zero, List.set_cons_succ]
          refine X_want rfl ?_
          refine X_val (v := ?_) (fun w1 hC => ?_) ?_
          rotate_left
          · go_simp
            (first | done | exact rfl)
          simp only [Act.put, List.setIfInBounds_toArray, List.set_cons_zero, List.set_cons_succ]
          refine X_want rfl ?_
          refine X_val (v := ?_) (fun w1 hC => ?_) ?_
          rotate_left
          · go_simp
            (first | done | exact rfl)
          simp only [Act.put, List.setIfInBounds_toArray, List.set_cons_zero, List.set_cons_succ]
          refine X_want rfl ?_
          refine X_val (v := ?_) (fun w1 hC => ?_) ?_
          rotate_left
          · have q_d0 := hC.cell d0
            have q_d1 := hC.cell d1
            have q_d2 := hC.cell d2
            have q_d3 := hC.cell d3
            have q_d4 := hC.cell d4
            have q_d5 := hC.cell d5
            have q_d6 := hC.cell d6
            have q_d7 := hC.cell d7
            have q_d8 := hC.cell d8
            have q_d9 := hC.cell d9
            have q_f0 := hC.cell f0
            have q_f1 := hC.cell f1
            have q_f2 := hC.cell f2
            have q_f3 := hC.cell f3
            have q_f4 := hC.cell f4
            have q_f5 := hC.cell f5
            have q_f6 := hC.cell f6
            have q_f7 := hC.cell f7
            have q_f8 := hC.cell f8
            have q_f9 := hC.cell f9
            have q_c0 := hC.cell c0
            go_simp
            (first | done | exact rfl)
          simp only [Act.put, List.setIfInBounds_toArray, List.set_cons_zero, List.set_cons_succ]
          refine X_want rfl ?_
          refine X_val (v := ?_) (fun w1 hC => ?_) ?_
          rotate_left
          · go_simp
            (first | done | exact rfl)
          simp only [Act.put, List.setIfInBounds_toArray, List.set_cons_zero, List.set_cons_succ]
          refine X_want rfl ?_
          refine X_val (v := ?_) (fun w1 hC => ?_) ?_
          rotate_left
          · go_simp
            (first | done | exact rfl)
          simp only [Act.put, List.setIfInBounds_toArray, List.set_cons_zero, List.set_cons_succ]
          refine X_want rfl ?_
          refine X_val (v := ?_) (fun w1 hC => ?_) ?_
          rotate_left
          · go_simp
            (first | done | exact rfl)
          simp only [Act.put, List.setIfInBounds_toArray, List.set_cons_zero, List.set_cons_succ]
          refine X_want rfl ?_
          refine X_val (v := ?_) (fun w1 hC => ?_) ?_
          rotate_left
          · go_simp
            (first | done | exact rfl)
          simp only [Act.put, List.setIfInBounds_toArray, List.set_cons_zero, List.set_cons_succ]
          refine wpQuiet_nil ?_
          intro w3 hxd
          clear d0 d1 d2 d3 d4 d5 d6 d7 d8 d9 ld f0 f1 f2 f3 f4 f5 f6 f7 f8 f9 lf c0 lw
          have Hxd := Lib.hid (Hxb.out.trans hxd)
          have cw0 := Hxd.out.cell C0.out
          obtain ⟨Ap, cp, ep, hsp⟩ := Sl.nat (Hva.out.mono hxd)
          obtain ⟨Aq, cq, eq, hsq⟩ := Sl.nat (Hvb.out.mono hxd)
          simp only [Value.slice.injEq] at ep eq
          obtain ⟨rfl, _, rfl⟩ := ep
          obtain ⟨rfl, _, rfl⟩ := eq
          obtain ⟨b1, o1, rfl, e1⟩ := hsp m hmp
          obtain ⟨b2, o2, rfl, e2⟩ := hsq m hmq
          have lw := cell_lt cw0
          have l1 := cell_lt e1
          have l2 := cell_lt e2
          have m0 : (0 : Int) ≤ (m : Int) := by omega
          have m1 : (m : Int) < ((refsN g p).length : Int) := by omega
          have m2 : (m : Int) < ((refsN g q).length : Int) := by omega
          generalize (refsN g p).getD m 0 = pp at e1 hrp Hgo1
          generalize (refsN g q).getD m 0 = qq at e2 hrq Hgo1
          clear hsp hsq hxd
          go_wp2_with fail
          go_roundw
          case rel => exact ⟨k + 1, _, _, by omega, by go_num, hrp, hrq, rfl, rfl, Hxd, Hgo1⟩
          case measure => simp [intOf]; omega
      · have hres : tellsI g i j way = !agN g p q := by rw [Ht.out, List.drop_of_length_le (by omega), tellsI]
        have Hres := Lib.hid hres
        rw [Had.out] at Hres
        generalize agreeT s t = r at Hagr Hres
        clear hres
        have i1 : ¬ (k : Int) < (way.length : Int) := by omega
        obtain ⟨wb, rfl⟩ : ∃ wb : World, wb = wr := ⟨_, rfl⟩
        obtain ⟨d0, d1, d2, d3, d4, d5, d6, d7, d8, d9⟩ := HatP.out.mono Hx.out
        have ld := cell_lt d0
        obtain ⟨f0, f1, f2, f3, f4, f5, f6, f7, f8, f9⟩ := HatQ.out.mono Hx.out
        have lf := cell_lt f0
        go_wp2_with fail
        refine wp_region_X (by kernel_rfl) (by kernel_rfl) (fun w3 => Ext wb w3) ((Ext.refl _).drew) ?_
        refine X_want rfl ?_
        refine X_val (v := ?_) (fun w1 hC => ?_) ?_
        rotate_left
        · go_simp
          (first | done | exact rfl)
        simp only [Act.put, List.setIfInBounds_toArray, List.set_cons_zero, List.set_cons_succ]
        refine X_want rfl ?_
        refine X_val (v := ?_) (fun w1 hC => ?_) ?_
        rotate_left
        · go_simp
          (first | done | exact rfl)
        simp only [Act.put, List.setIfInBounds_toArray, List.set_cons_zero, List.set_cons_succ]
        refine X_want rfl ?_
        refine X_val (v := ?_) (fun w1 hC => ?_) ?_
        rotate_left
        · go_simp
          (first | done | exact rfl)
        simp only [Act.put, List.setIfInBounds_toArray, List.set_cons_zero, List.set_cons_succ]
        refine X_want rfl ?_
        refine X_val (v := ?_) (fun w1 hC => ?_) ?_
        rotate_left
        · have q_d0 := hC.cell d0
          have q_d1 := hC.cell d1
          have q_d2 := hC.cell d2
          have q_d3 := hC.cell d3
          have q_d4 := hC.cell d4
          have q_d5 := hC.cell d5
          have q_d6 := hC.cell d6
          have q_d7 := hC.cell d7
          have q_d8 := hC.cell d8
          have q_d9 := hC.cell d9
          have q_f0 := hC.cell f0
          have q_f1 := hC.cell f1
          have q_f2 := hC.cell f2
          have q_f3 := hC.cell f3
          have q_f4 := hC.cell f4
          have q_f5 := hC.cell f5
          have q_f6 := hC.cell f6
          have q_f7 := hC.cell f7
          have q_f8 := hC.cell f8
          have q_f9 := hC.cell f9
          go_simp
          (first | done | exact rfl)
        simp only [Act.put, List.setIfInBounds_toArray, List.set_cons_zero, List.set_cons_succ]
        refine X_want rfl ?_
        refine X_val (v := ?_) (fun w1 hC => ?_) ?_
        rotate_left
        · go_simp
          (first | done | exact rfl)
        simp only [Act.put, List.setIfInBounds_toArray, List.set_cons_zero, List.set_cons_succ]
        refine X_want rfl ?_
        refine X_val (v := ?_) (fun w1 hC => ?_) ?_
        rotate_left
        · go_simp
          (first | done | exact rfl)
        simp only [Act.put, List.setIfInBounds_toArray, List.set_cons_zero, List.set_cons_succ]
        refine X_want rfl ?_
        refine X_val (v := ?_) (fun w1 hC => ?_) ?_
        rotate_left
        · go_simp
          (first | done | exact rfl)
        simp only [Act.put, List.setIfInBounds_toArray, List.set_cons_zero, List.set_cons_succ]
        refine X_want rfl ?_
        refine X_val (v := ?_) (fun w1 hC => ?_) ?_
        rotate_left
        · have q_d0 := hC.cell d0
          have q_d1 := hC.cell d1
          have q_d2 := hC.cell d2
          have q_d3 := hC.cell d3
          have q_d4 := hC.cell d4
          have q_d5 := hC.cell d5
          have q_d6 := hC.cell d6
          have q_d7 := hC.cell d7
          have q_d8 := hC.cell d8
          have q_d9 := hC.cell d9
          have q_f0 := hC.cell f0
          have q_f1 := hC.cell f1
          have q_f2 := hC.cell f2
          have q_f3 := hC.cell f3
          have q_f4 := hC.cell f4
          have q_f5 := hC.cell f5
          have q_f6 := hC.cell f6
          have q_f7 := hC.cell f7
          have q_f8 := hC.cell f8
          have q_f9 := hC.cell f9
          go_simp
          (first | done | exact rfl)
        simp only [Act.put, List.setIfInBounds_toArray, List.set_cons_zero, List.set_cons_succ]
        refine X_want rfl ?_
        refine X_call (v := .bool r) (f := 41) (args := #[.agg #[.int .u8 s.kind, .int .i64 s.low, .int .i64 s.high, .bool s.branded, .string s.brand, .string s.opaq, .int .i64 s.super, .slice P1 s.parts.length p1, .slice P2 s.methods.length p2, .slice P3 s.overs.length p3], .agg #[.int .u8 t.kind, .int .i64 t.low, .int .i64 t.high, .bool t.branded, .string t.brand, .string t.opaq, .int .i64 t.super, .slice Q1 t.parts.length q1, .slice Q2 t.methods.length q2, .slice Q3 t.overs.length q3]]) (fun w1 => ?_) (fun w1 hC => (Hagr.out w1 (Hx.out.trans hC)).mono fun e w2 ⟨he, hx⟩ => ⟨he, hC.trans hx⟩) ?_
        · go_simp
        simp only [Act.put, List.setIfInBounds_toArray, List.set_cons_zero, List.set_cons_succ]
        refine X_want rfl ?_
        refine X_val (v := ?_) (fun w1 hC => ?_) ?_
        rotate_left
        · go_simp
          (first | done | exact rfl)
        simp only [Act.put, List.setIfInBounds_toArray, List.set_cons_zero, List.set_cons_succ]
        refine X_want rfl ?_
        refine X_val (v := ?_) (fun w1 hC => ?_) ?_
        rotate_left
        · go_simp
          (first | done | exact rfl)
        simp only [Act.put, List.setIfInBounds_toArray, List.set_cons_zero, List.set_cons_succ]
        refine X_want rfl ?_
        refine X_val (v := ?_) (fun w1 hC => ?_) ?_
        rotate_left
        · go_simp
          (first | done | exact rfl)
        simp only [Act.put, List.setIfInBounds_toArray, List.set_cons_zero, List.set_cons_succ]
        refine wpQuiet_nil ?_
        intro w3 hxd
        go_wp2_with fail
        go_ret2
        exact ⟨by rw [Hres.out]; rfl, Hx.out.trans hxd⟩
  · rw [if_neg h0]
    have hne : (errG g [a, b] != 0) = true := by simpa using h0
    generalize errG g [a, b] = er at hop hne ⊢
    have Hop := Lib.hid hop
    clear hop hg hv hT h0
    go_enter Tryz.func18, Tryz.ntmps18
    go_wp2_with fail
    refine Hop.out.mono ?_
    rintro e w1 ⟨rfl, hx1⟩
    go_wp2_with fail
    go_ret2
    exact ⟨rfl, ((Ext.refl w).alloc _).trans hx1⟩
end Go.Proofs.YtldnjnnhfeobdaaGreatDoor
/- Contract of the reference: is a pair in a list? Conditions: lengths below 2^20. -/
namespace Go.Proofs.YtldnjnnhfeobdaaGreatDoor
set_option linter.all false
set_option linter.unusedSimpArgs false
set_option linter.unusedVariables false
open Go.RowKit Go.Shelf

def pairE : Elt (Int × Int) where
  k := 2
  pos := by decide
  rel _ _ p cs := cs = [.int .i64 p.1, .int .i64 p.2]
  len := by rintro F w x cs rfl; rfl
  one := by rintro F w x cs rfl; simp [Value.oneCell']
  mono := fun _ _ _ _ _ _ _ _ h => h
theorem Sl.pair {w : World} {v : Value} {xs : List (Int × Int)} (h : Sl pairE w v xs) : ∃ A cap, v = .slice A xs.length cap ∧
    ∀ i (hi : i < xs.length), ∃ b off, A = some ⟨b, off, none⟩ ∧ w.cell? ⟨b, off + i * 2, none⟩ = some (.int .i64 xs[i].1) ∧ w.cell? ⟨b, off + i * 2 + 1, none⟩ = some (.int .i64 xs[i].2) := by
  obtain ⟨A, cap, rfl, h⟩ := h
  refine ⟨A, cap, rfl, fun i hi => ?_⟩
  obtain ⟨b, off, cs, hA, _, rfl, hc⟩ := h i xs[i] (List.getElem?_eq_getElem hi)
  exact ⟨b, off, hA, by simpa [pairE] using hc 0 _ rfl, by simpa [pairE] using hc 1 _ rfl⟩
set_option maxRecDepth 100000 in
set_option maxHeartbeats 4000000 in
theorem paired_any (w : World) (v : Value) (l : List (Int × Int)) (a b : Int) (hv : Sl pairE w v l) (hl : l.length ≤ 1048576) :
    Calls Tryz.prog 58 #[v, .int .i64 a, .int .i64 b] w fun e w' => e = .returned (.bool (decide ((a, b) ∈ l))) ∧ w' = w := by
  obtain ⟨A, cap, rfl, hs⟩ := hv.pair
  have Hs := Lib.hid hs
  clear hs hv
  go_enter Tryz.func58, Tryz.ntmps58
  go_wp2_with fail
  go_loopw [7] (fun u wr => ∃ k : Nat, k ≤ l.length ∧ u = .int .i64 k ∧ wr = w ∧ Hid (∀ j (hj : j < l.length), j < k → l[j] ≠ (a, b))) (fun u _ => l.length - (intOf u).toNat)
  case atStart => exact ⟨0, by omega, rfl, rfl, Lib.hid (fun j _ h => by omega)⟩
  case round =>
    obtain ⟨k, hk, rfl, rfl, Hno⟩ := hrel
    by_cases hlt : k < l.length
    · obtain ⟨b1, o1, rfl, c1, c2⟩ := Hs.out k hlt
      have l1 := cell_lt c1
      have i0 : (0 : Int) ≤ (k : Int) := by omega
      have i1 : (k : Int) < (l.length : Int) := by omega
      have hin : l[k] = (a, b) → decide ((a, b) ∈ l) = true := fun e => decide_eq_true (by rw [← e]; exact List.getElem_mem hlt)
      have hnext := fun (h : l[k] ≠ (a, b)) j (hj : j < l.length) (hjk : j < k + 1) => if e : j = k then by subst e; exact h else Hno.out j hj (by omega)
      have Hin := Lib.hid hin
      have Hnext := Lib.hid hnext
      clear hin hnext
      by_cases h1 : l[k].1 = a
      · by_cases h2 : l[k].2 = b
        · have Ht := Lib.hid (Hin.out (Prod.ext h1 h2))
          have q1 : (l[k].1 == a) = true := by simpa using h1
          have q2 : (l[k].2 == b) = true := by simpa using h2
          clear h1 h2
          go_wp2_with fail
          go_ret
          rw [Ht.out]
          exact ⟨rfl, rfl⟩
        · have Hn := Lib.hid (Hnext.out (fun e => h2 (by rw [e])))
          have q1 : (l[k].1 == a) = true := by simpa using h1
          have q2 : (l[k].2 == b) = false := by rw [beq_eq_false_iff_ne]; exact h2
          clear h1 h2
          go_wp2_with fail
          go_roundw
          case rel => exact ⟨k + 1, by omega, by go_num, trivial, Hn⟩
          case measure => simp [intOf]; omega
      · have Hn := Lib.hid (Hnext.out (fun e => h1 (by rw [e])))
        have q1 : (l[k].1 == a) = false := by rw [beq_eq_false_iff_ne]; exact h1
        clear h1
        go_wp2_with fail
        go_roundw
        case rel => exact ⟨k + 1, by omega, by go_num, trivial, Hn⟩
        case measure => simp [intOf]; omega
    · have i1 : ¬ (k : Int) < (l.length : Int) := by omega
      have hf : decide ((a, b) ∈ l) = false := decide_eq_false (fun hm => by
        obtain ⟨j, hj, e⟩ := List.mem_iff_getElem.1 hm
        exact Hno.out j hj (by omega) e)
      have Hf := Lib.hid hf
      clear hf
      go_wp2_with fail
      go_ret
      rw [Hf.out]
      exact ⟨rfl, rfl⟩
end Go.Proofs.YtldnjnnhfeobdaaGreatDoor
/- What the reference's search keeps in memory: the spots to do, the pairs seen; how appends change it. No condition. -/
namespace Go.Proofs.YtldnjnnhfeobdaaGreatDoor
set_option linter.all false
set_option linter.unusedSimpArgs false
set_option linter.unusedVariables false
open Go.RowKit Go.Shelf

theorem slice89 : SliceOf Tryz.prog 89 88 3 40 := .mk' Tryz.underlying89 (by kernel_rfl)
theorem slice56 : SliceOf Tryz.prog 56 61 2 16 := .mk' Tryz.underlying56 (by kernel_rfl)
theorem flat_pair : FlatE pairE := fun _ _ _ _ _ _ h => h
section
variable {α : Type} {F : Nat → Prop} {E : Elt α} {w w' : World} {base : Nat} {e : TypeId} {v : Value} {xs : List α}
theorem Own.keptG {G : Nat → Prop} (h : Own F E w base e v xs) {row : Option Nat} (hg : w.grownBy w' row) (hne : v.ownBlock = none ∨ v.ownBlock ≠ row) (hF : ∀ b, F b → some b ≠ row) (hG : ∀ b, F b → b < w.heap.size → G b) : Own G E w' base e v xs := by
  obtain ⟨rows, hl, hq, hr⟩ := h
  exact ⟨rows, hl, hq.kept hg hne, fun i x r h1 h2 => E.mono _ _ _ _ _ _ (fun b hb hlt => hg.block b hlt (hF b hb.1)) (fun b hb hlt => ⟨hG b hb.1 hlt, hb.2⟩) (hr i x r h1 h2)⟩
theorem Own.keptFlat (hflat : FlatE E) (h : Own F E w base e v xs) {row : Option Nat} (hg : w.grownBy w' row) (hne : v.ownBlock = none ∨ v.ownBlock ≠ row) : Own F E w' base e v xs := by
  obtain ⟨rows, hl, hq, hr⟩ := h
  exact ⟨rows, hl, hq.kept hg hne, fun i x r h1 h2 => hflat _ _ _ _ _ _ (hr i x r h1 h2)⟩
theorem Own.pushed {y : α} {news : List Value} {v' : Value} {rows : List (List Value)} (hl : rows.length = xs.length) (hr : ∀ (i : Nat) (x : α) (r : List Value), xs[i]? = some x → rows[i]? = some r → E.rel (fun b => F b ∧ some b ≠ v.ownBlock) w x r)
    (hy : E.rel (fun b => F b ∧ some b ≠ v.ownBlock) w y news) (hq : w'.ownsRow base e E.k v' (xs.length + 1) (rows.flatten ++ news)) (hg : w.grownBy w' v.ownBlock) (hat : v'.ownBlock = v.ownBlock ∨ ∃ b, v'.ownBlock = some b ∧ w.heap.size ≤ b) :
    Own F E w' base e v' (xs ++ [y]) := by
  have keep : ∀ x2 r2, E.rel (fun b => F b ∧ some b ≠ v.ownBlock) w x2 r2 → E.rel (fun b => F b ∧ some b ≠ v'.ownBlock) w' x2 r2 := by
    intro x2 r2 h3
    refine E.mono _ _ _ _ _ _ (fun b hb hbl => hg.block b hbl hb.2) (fun b hb hbl => ⟨hb.1, ?_⟩) h3
    rcases hat with hat | ⟨b', hat, hle⟩
    · rw [hat]; exact hb.2
    · rw [hat]; intro e; injection e with e; omega
  refine ⟨rows ++ [news], by simp [hl], by simpa using hq, fun i x r h1 h2 => ?_⟩
  by_cases hk : i < xs.length
  · rw [List.getElem?_append_left hk] at h1
    rw [List.getElem?_append_left (by omega)] at h2
    exact keep _ _ (hr i x r h1 h2)
  · rw [List.getElem?_append_right (by omega)] at h1
    rw [List.getElem?_append_right (by omega), hl] at h2
    have hk0 : i - xs.length = 0 := by have := (List.getElem?_eq_some_iff.1 h1).1; simp at this; omega
    rw [hk0] at h1 h2
    simp at h1 h2
    subst h1 h2
    exact keep _ _ hy
end
/-- append of one element to a row of the call's own, in a region that draws its order -/
theorem step_append_own {P : Program} {ops : Array Oper} {o : Oper} {a : Act} {w : World} {K : Act → World → Prop} {Q : Exit → Act → World → Prop} {E : Prop}
    (hg : o.guard = none) (s x : Operand) (t : TypeId) (hop : o.op = Op.call { callee := Callee.builtin Builtin.append, args := #[s, x], argTypes := #[t, t] })
    (base k : Nat) (e : TypeId) (i : TypeInfo) (z : Value) (bytes : Nat) (ht : P.underlying t = some (.slice e)) (hi : P.info? e = some i) (hz : i.zero = some z) (hsize : i.size = k) (hby : i.bytes = bytes) (hzs : z.cells.size = k) (hsz : 0 < k)
    (v : Value) (n : Nat) (xs : List Value) (hs : a.eval s = v) (h : w.ownsRow base e k v n xs) (hbase : base ≤ w.heap.size)
    (ad : Addr) (c : Nat) (news : List Value) (hx : a.eval x = .slice (some ad) 1 c) (hl : news.length = k) (hnews : ∀ j u, news[j]? = some u → w.cell? (ad.add j) = some u) (h1 : ∀ u ∈ news, u.oneCell' = true)
    (h63 : n + 1 ≤ maxLen) (hbytes : (n + 1) * bytes ≤ 140737488355328)
    (hK : ∀ v' w', w'.ownsRow base e k v' (n + 1) (xs ++ news) → w.grownBy w' v.ownBlock → (v'.ownBlock = v.ownBlock ∨ ∃ b, v'.ownBlock = some b ∧ w.heap.size ≤ b) → K (a.put o.dst v') w') :
    if Region.wanted o (yielded ops a.tmps) = true then Oper.wp P o a w K Q else E := by
  have hw : Region.wanted o (yielded ops a.tmps) = true := by simp [Region.wanted, hg]
  rw [if_pos hw]
  obtain ⟨v', w', hrun, h2, h3, _, h5⟩ := run_append_own_at (P := P) w base t o.type e i z k bytes ht hi hz hsize hby hzs hsz v n xs h ad 1 c news (by rw [hl, Nat.one_mul]) hnews h1 h63 hbytes hbase
  unfold Oper.wp execOp
  simp only [hop, resolve, invoke, builtin, Sem.run_bind, Sem.run_pure, Result.andThen_ok, List.map_toArray, List.map_cons, List.map_nil, hs, hx, hrun]
  refine hK v' w' h2 h3 ?_
  rcases h5 with h5 | h5
  · exact .inl h5
  · exact .inr ⟨_, h5, Nat.le_refl _⟩

/-! ### the state of the search -/
def Off (v u : Value) : Nat → Prop := fun b => some b ≠ v.ownBlock ∧ some b ≠ u.ownBlock
structure SSt (w : World) (T : List Spot) (S : List (Nat × Nat)) (vt vs : Value) (wr : World) : Prop where
  ext : Ext w wr
  todo : Own (fun b => some b ≠ vs.ownBlock) spotE wr w.heap.size 88 vt T
  seen : Own Any pairE wr w.heap.size 61 vs (S.map castP)
  ne : ∀ b, vt.ownBlock = some b → vs.ownBlock ≠ some b
variable {w wr wr' : World} {T : List Spot} {S : List (Nat × Nat)} {vt vs : Value}
theorem SSt.later (h : SSt w T S vt vs wr) (hx : Ext wr wr') : SSt w T S vt vs wr' := ⟨h.ext.trans hx, h.todo.kept hx, h.seen.kept hx, h.ne⟩
theorem SSt.ne1 (h : SSt w T S vt vs wr) : vt.ownBlock = none ∨ vt.ownBlock ≠ vs.ownBlock := by
  cases e : vt.ownBlock with
  | none => exact .inl rfl
  | some b => exact .inr fun h2 => h.ne b e h2.symm
theorem SSt.ne2 (h : SSt w T S vt vs wr) : vs.ownBlock = none ∨ vs.ownBlock ≠ vt.ownBlock := by
  cases e : vs.ownBlock with
  | none => exact .inl rfl
  | some b => exact .inr fun h2 => h.ne b h2.symm e
/-- a round of the search: the spot that is looked at, in its box, and the references of its types -/
structure USt (w : World) (bx : Nat) (x : Spot) (rp rq : List Nat) (vw va vb : Value) (T : List Spot) (S : List (Nat × Nat)) (vt vs : Value) (wr : World) : Prop where
  st : SSt w T S vt vs wr
  box : wr.heap[bx]? = some (.cells #[.int .i64 (x.1.1 : Int), .int .i64 (x.1.2 : Int), vw] 88 (0, 0))
  way : SlF (Off vt vs) intE wr vw (x.2.map fun (n : Nat) => (n : Int))
  la : SlF (Off vt vs) intE wr va (rp.map fun (n : Nat) => (n : Int))
  lb : SlF (Off vt vs) intE wr vb (rq.map fun (n : Nat) => (n : Int))
  nbx : w.heap.size ≤ bx ∧ Off vt vs bx
variable {bx : Nat} {x : Spot} {rp rq : List Nat} {vw va vb : Value}
theorem USt.later (h : USt w bx x rp rq vw va vb T S vt vs wr) (hx : Ext wr wr') : USt w bx x rp rq vw va vb T S vt vs wr' :=
  ⟨h.st.later hx, hx.heap h.box, h.way.ext hx, h.la.ext hx, h.lb.ext hx, h.nbx⟩
theorem USt.lt (h : USt w bx x rp rq vw va vb T S vt vs wr) : bx < wr.heap.size := (Array.getElem?_eq_some_iff.1 h.box).1
/-- another own block, old or new, in the place of one -/
theorem off_new {v v' u : Value} {n b : Nat} (hat : v'.ownBlock = v.ownBlock ∨ ∃ b, v'.ownBlock = some b ∧ n ≤ b) (hb : some b ≠ v.ownBlock) (hlt : b < n) : some b ≠ v'.ownBlock := by
  rcases hat with h | ⟨c, h, hle⟩
  · rw [h]; exact hb
  · rw [h]; intro e; injection e with e; omega
theorem USt.see (h : USt w bx x rp rq vw va vb T S vt vs wr) {w5 : World} {vs' : Value} {p : Nat × Nat} {rows : List (List Value)} (hl : rows.length = (S.map castP).length)
    (hr : ∀ (i : Nat) (x : Int × Int) (r : List Value), (S.map castP)[i]? = some x → rows[i]? = some r → pairE.rel (fun b => Any b ∧ some b ≠ vs.ownBlock) wr x r) {w4 : World} (hx4 : Ext wr w4)
    (hq : w5.ownsRow w.heap.size 61 2 vs' ((S.map castP).length + 1) (rows.flatten ++ [.int .i64 (p.1 : Int), .int .i64 (p.2 : Int)])) (hg : w4.grownBy w5 vs.ownBlock) (hat : vs'.ownBlock = vs.ownBlock ∨ ∃ b, vs'.ownBlock = some b ∧ w4.heap.size ≤ b) :
    USt w bx x rp rq vw va vb T (S ++ [p]) vt vs' w5 := by
  have h4 := h.later hx4
  have hoff : ∀ b, Off vt vs b → b < w4.heap.size → Off vt vs' b := fun b hb hlt => ⟨hb.1, off_new (v' := vs') (u := vs) hat hb.2 hlt⟩
  refine ⟨⟨Below.grown h4.st.ext hg h4.st.ext.size (fun b hb => (h4.st.seen.lt b hb).1), ?_, ?_, ?_⟩, ?_, ?_, ?_, ?_, ?_⟩
  · refine h4.st.todo.keptG hg h4.st.ne1 (fun b hb => hb) fun b hb hlt => ?_
    exact off_new (v' := vs') (u := vs) hat hb hlt
  · have := Own.pushed (E := pairE) (F := Any) (y := castP p) (e := 61) hl (fun i x r h1 h2 => Elt.ext (hr i x r h1 h2) hx4) (show pairE.rel _ w4 (castP p) [.int .i64 (p.1 : Int), .int .i64 (p.2 : Int)] from rfl) hq hg hat
    rw [List.map_append]
    exact this
  · intro b hb e
    have hb2 := (h4.st.todo.lt b hb).2
    exact off_new (v' := vs') (u := vs) hat (fun e2 => h4.st.ne b hb e2.symm) hb2 e.symm
  · rw [hg.block bx h4.lt (h4.nbx.2.2)]; exact h4.box
  · exact h4.way.mono (fun b hb hlt => hg.block b hlt hb.2) hoff
  · exact h4.la.mono (fun b hb hlt => hg.block b hlt hb.2) hoff
  · exact h4.lb.mono (fun b hb hlt => hg.block b hlt hb.2) hoff
  · exact ⟨h4.nbx.1, hoff bx h4.nbx.2 h4.lt⟩
theorem USt.push (h : USt w bx x rp rq vw va vb T S vt vs wr) {w4 w5 : World} {v1 vt' : Value} {p : Nat × Nat} {way : List Nat} {rows : List (List Value)} (hl : rows.length = T.length)
    (hr : ∀ (i : Nat) (y : Spot) (r : List Value), T[i]? = some y → rows[i]? = some r → spotE.rel (fun b => some b ≠ vs.ownBlock ∧ some b ≠ vt.ownBlock) wr y r) (hx4 : Ext wr w4)
    (hv1 : SlF (New wr) intE w4 v1 (way.map fun (n : Nat) => (n : Int)))
    (hq : w5.ownsRow w.heap.size 88 3 vt' (T.length + 1) (rows.flatten ++ [.int .i64 (p.1 : Int), .int .i64 (p.2 : Int), v1])) (hg : w4.grownBy w5 vt.ownBlock) (hat : vt'.ownBlock = vt.ownBlock ∨ ∃ b, vt'.ownBlock = some b ∧ w4.heap.size ≤ b) :
    USt w bx x rp rq vw va vb (T ++ [(p, way)]) S vt' vs w5 := by
  have h4 := h.later hx4
  have hoff : ∀ b, Off vt vs b → b < w4.heap.size → Off vt' vs b := fun b hb hlt => ⟨off_new (v' := vt') (u := vt) hat hb.1 hlt, hb.2⟩
  have hnew : ∀ b, New wr b → b < w4.heap.size → some b ≠ vs.ownBlock ∧ some b ≠ vt.ownBlock := by
    intro b hb _
    unfold New at hb
    refine ⟨fun e => ?_, fun e => ?_⟩
    · have := (h.st.seen.lt b e.symm).2; omega
    · have := (h.st.todo.lt b e.symm).2; omega
  refine ⟨⟨Below.grown h4.st.ext hg h4.st.ext.size (fun b hb => (h4.st.todo.lt b hb).1), ?_, ?_, ?_⟩, ?_, ?_, ?_, ?_, ?_⟩
  · exact Own.pushed (E := spotE) (F := fun b => some b ≠ vs.ownBlock) (y := (p, way)) (e := 88) hl (fun i x r h1 h2 => Elt.ext (hr i x r h1 h2) hx4) ⟨v1, rfl, hv1.mono (fun _ _ _ => rfl) hnew⟩ hq hg hat
  · exact h4.st.seen.keptFlat flat_pair hg h4.st.ne2
  · intro b hb e
    rcases hat with h5 | ⟨c, h5, hle⟩
    · exact h4.st.ne b (by rw [← h5]; exact hb) e
    · rw [h5] at hb
      injection hb with hb
      have := (h4.st.seen.lt b e).2
      omega
  · rw [hg.block bx h4.lt (h4.nbx.2.1)]; exact h4.box
  · exact h4.way.mono (fun b hb hlt => hg.block b hlt hb.1) hoff
  · exact h4.la.mono (fun b hb hlt => hg.block b hlt hb.1) hoff
  · exact h4.lb.mono (fun b hb hlt => hg.block b hlt hb.1) hoff
  · exact ⟨h4.nbx.1, hoff bx h4.nbx.2 h4.lt⟩
/-! ### its sizes -/
structure RInvA (n : Nat) (ag : Nat → Nat → Bool) (rf : Nat → List Nat) (dn o : List Spot) (S : List (Nat × Nat)) : Prop where
  rng : ∀ e ∈ dn ++ o, e.1.1 < n ∧ e.1.2 < n
  nodup : S.Nodup
  srng : ∀ p ∈ S, p.1 < n ∧ p.2 < n
  eq : (dn ++ o).length = S.length + 1
  le : ∀ e ∈ dn ++ o, e.2.length ≤ dn.length
theorem RInvA.init {n a b : Nat} {ag : Nat → Nat → Bool} {rf : Nat → List Nat} (ha : a < n) (hb : b < n) : RInvA n ag rf [] [((a, b), [])] [] :=
  ⟨fun e he => by simp at he; subst he; exact ⟨ha, hb⟩, by simp, fun p hp => by simp at hp, rfl, fun e he => by simp at he; subst he; simp⟩
theorem RInvA.step {n : Nat} {ag : Nat → Nat → Bool} {rf : Nat → List Nat} {dn o : List Spot} {S : List (Nat × Nat)} {x : Spot} (G : AbsGraph n ag rf) (I : RInvA n ag rf dn (x :: o) S) :
    RInvA n ag rf (dn ++ [x]) (pushN x.2 0 (kidsN rf x.1) S o).2 (pushN x.2 0 (kidsN rf x.1) S o).1 := by
  obtain ⟨new, hp, hnew, _, hnd⟩ := pushN_spec x.2 (kidsN rf x.1) 0 S o
  rw [hp]
  have hx := I.rng x (by simp)
  have hk : ∀ c ∈ kidsN rf x.1, c.1 < n ∧ c.2 < n := by
    intro c hc
    have h1 := List.of_mem_zip (show (c.1, c.2) ∈ (rf x.1.1).zip (rf x.1.2) from hc)
    exact ⟨G.rng _ hx.1 _ h1.1, G.rng _ hx.2 _ h1.2⟩
  have hnr : ∀ e ∈ new, e.1.1 < n ∧ e.1.2 < n := by
    intro e he
    obtain ⟨_, m, hm, h1, _⟩ := hnew e he
    rw [h1]
    exact hk _ (List.getElem_mem hm)
  have hxl := I.le x (by simp)
  refine ⟨fun e he => ?_, hnd I.nodup, fun p hp => ?_, ?_, fun e he => ?_⟩
  · simp only [List.mem_append, List.mem_singleton] at he
    rcases he with (he | rfl) | he | he
    · exact I.rng e (by simp [he])
    · exact hx
    · exact I.rng e (by simp [he])
    · exact hnr e he
  · rcases List.mem_append.1 hp with hp | hp
    · exact I.srng p hp
    · obtain ⟨e, he, rfl⟩ := List.mem_map.1 hp
      exact hnr e he
  · have := I.eq
    simp at this ⊢
    omega
  · rw [List.length_append, List.length_singleton]
    simp only [List.mem_append, List.mem_singleton] at he
    rcases he with (he | rfl) | he | he
    · have := I.le e (by simp [he]); omega
    · omega
    · have := I.le e (by simp [he]); omega
    · obtain ⟨_, m, hm, _, h2⟩ := hnew e he
      rw [h2, List.length_append, List.length_singleton]
      omega
theorem RInvA.bound {n : Nat} {ag : Nat → Nat → Bool} {rf : Nat → List Nat} {dn o : List Spot} {S : List (Nat × Nat)} (I : RInvA n ag rf dn o S) (hn : n ≤ 400) : (dn ++ o).length ≤ 160001 ∧ S.length ≤ 160000 := by
  have h1 := pairs_le I.nodup I.srng
  have h2 : n * n ≤ 400 * 400 := Nat.mul_le_mul hn hn
  have := I.eq
  omega
end Go.Proofs.YtldnjnnhfeobdaaGreatDoor
