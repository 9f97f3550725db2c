/- Parts of the proof, joined: Lists of pairs that a law of the seat is given; five parameters. No condition; Contract: CheckEqual. Conditions: a tidy graph, at most 2^20 pairs; The law TypesSame returns true. Conditions: a tidy graph, at most 2^20 pairs. -/
import Derived.Test.YtldnjnnhfeobdaaGreatDoorG09
import Derived.Test.YtldnjnnhfeobdaaGreatDoorG20
import Derived.Test.YtldnjnnhfeobdaaGreatDoorG08
import Derived.Test.YtldnjnnhfeobdaaGreatDoorG06
import Derived.Test.YtldnjnnhfeobdaaGreatDoorG11
namespace Go.Proofs.YtldnjnnhfeobdaaGreatDoor
set_option linter.all false
set_option linter.unusedSimpArgs false
set_option linter.unusedVariables false
open Go.RowKit Go.ChangeShapes Go.WideShapes Go.ChangeAt

section
variable {H : Type} {enc : TypeId × Value → H} {W : World}
theorem k61 : Tryz.prog.cellsOf 61 = 2 := by kernel_rfl
set_option maxRecDepth 100000 in
theorem opens_pair : Opens enc W 61 pairE (fun _ _ => True) := by
  intro n fuel cs x hx
  obtain ⟨ys, f, rfl, rfl, hl, hyl, hf⟩ := DataW.trod_array Tryz.underlying61 hx
  rw [k61] at hl
  obtain ⟨c0, c1, rfl⟩ := list2 hl
  have h0 := hf 0 (by omega)
  have h1 := hf 1 (by omega)
  rw [k3] at h0 h1
  obtain ⟨y0, y1, rfl⟩ := list2 hyl
  obtain ⟨a, e0, _⟩ := opens_int n _ _ _ (show DataW.trod enc Tryz.prog W 0 (fun _ => true) true f 3 [c0] = some y0 from h0)
  obtain ⟨b, e1, _⟩ := opens_int n _ _ _ (show DataW.trod enc Tryz.prog W 0 (fun _ => true) true f 3 [c1] = some y1 from h1)
  simp only [intE, List.cons.injEq, and_true] at e0 e1
  subst e0 e1
  exact ⟨(a, b), rfl, fun _ => trivial⟩
theorem opens_pairs : OpensSl enc W 56 pairE (fun _ _ => True) := opens_slice Tryz.underlying56 k61 opens_pair
end
theorem trodAll_five {base : Nat} {spare : Nat → Bool} {held : Bool} {H : Type} {enc : TypeId × Value → H} {P : Program} {w : World} {t t' t'' t3 t4 : TypeId} {args : Array Value} {ds : List (DataW H)} {ps : List MemPlace} (h : DataW.TrodAll enc P w base spare held [t, t', t'', t3, t4] args.toList ds ps) :
    ∃ v v' v'' v3 v4 d d' d'' d3 d4 p p' p'' p3 p4, args = #[v, v', v'', v3, v4] ∧ ds = [d, d', d'', d3, d4] ∧ ps = p ++ p' ++ p'' ++ p3 ++ p4 ∧ DataW.Trod enc P w base spare held t v d p ∧ DataW.Trod enc P w base spare held t' v' d' p' ∧ DataW.Trod enc P w base spare held t'' v'' d'' p'' ∧ DataW.Trod enc P w base spare held t3 v3 d3 p3 ∧ DataW.Trod enc P w base spare held t4 v4 d4 p4 := by
  obtain ⟨v, vs, d, ds', p, q, hargs, rfl, rfl, hd, hrest⟩ := trodAll_cons h
  obtain ⟨v', vs', d', ds'', p', q', rfl, rfl, rfl, hd', hrest'⟩ := trodAll_cons hrest
  obtain ⟨v'', vs'', d'', ds''', p'', q'', rfl, rfl, rfl, hd'', hrest''⟩ := trodAll_cons hrest'
  obtain ⟨v3, vs3, d3, ds3, p3, q3, rfl, rfl, rfl, hd3, hrest3⟩ := trodAll_cons hrest''
  obtain ⟨v4, vs4, d4, ds4, p4, q4, rfl, rfl, rfl, hd4, hrest4⟩ := trodAll_cons hrest3
  obtain ⟨rfl, rfl, rfl⟩ := trodAll_nil hrest4
  exact ⟨v, v', v'', v3, v4, d, d', d'', d3, d4, p, p', p'', p3, p4, by cases args; simp_all, rfl, by simp, hd, hd', hd'', hd3, hd4⟩
set_option maxRecDepth 100000 in
theorem open_pairs {H : Type} {enc : TypeId × Value → H} {W : World} {base : Nat} {v : Value} {d : DataW H} {p : List MemPlace} (hval : Value.okWide Tryz.prog W .any base 56 v) (h : DataW.Trod enc Tryz.prog W 0 (fun _ => true) true 56 v d p) {B : Nat} (hB : B = 1048576) (hb : Rows.uptoBulk d ≤ B) :
    ∃ xs, Sl pairE W v xs ∧ xs.length ≤ 1048576 := by
  obtain ⟨a, len, cap, rfl⟩ := okWide_slice Tryz.underlying56 hval
  obtain ⟨f, hf⟩ := h
  obtain ⟨v', g, e, hg, hs⟩ := opens_pairs B _ _ _ hf
  have e' : Value.slice a len cap = v' := List.cons.inj e |>.1
  subst e'
  have hs := (hs hb).1
  rw [hB] at hs
  exact ⟨g, hg, hs⟩
end Go.Proofs.YtldnjnnhfeobdaaGreatDoor
/- Contract: CheckEqual. Conditions: a tidy graph, at most 2^20 pairs. -/
namespace Go.Proofs.YtldnjnnhfeobdaaGreatDoor
set_option linter.all false
set_option linter.unusedSimpArgs false
set_option linter.unusedVariables false
open Go.RowKit Go.Shelf

set_option maxRecDepth 100000 in
set_option maxHeartbeats 16000000 in
theorem checkEqual_any (w : World) (gv lv : Value) (g : Graph) (l : List (Int × Int)) (hg : Sl tyE w gv g) (hT : Tidy g) (hG : Glob w) (hlv : Sl pairE w lv l) (hln : l.length ≤ 1048576) :
    Calls Tryz.prog 38 #[gv, lv] w (Ret w (.tuple #[.bool (chkEqB g l), .int .i64 (chkEqE g l)])) := by
  have hop := opened_any w gv (.slice none 0 0) g [] hg hT hG (Sl.nil _ _) (by simp)
  have hn := hT.len
  have hag := fun (w' : World) (hx : Ext w w') (i j : Nat) (hi : i < g.length) (hj : j < g.length) => agree_any w' gv g i j (hg.mono hx) hT hi hj
  have hls := fun (hW : WF g) (w' : World) (hx : Ext w w') (i : Nat) (hi : i < g.length) => list_any w' gv g i g.length (hg.mono hx) hi hn (hW.fine (getT_mem hi))
  obtain ⟨A, cap, rfl⟩ := hg.len
  obtain ⟨B, cl, rfl, hp⟩ := hlv.pair
  by_cases h0 : errG g [] = 0
  case neg =>
    have e1 : chkEqB g l = false := by unfold chkEqB; rw [if_neg (fun h => h0 h.1)]
    have e2 : chkEqE g l = errG g [] := by unfold chkEqE; rw [if_neg h0]
    rw [e1, e2]
    have hne : (errG g [] != 0) = true := by simpa using h0
    generalize errG g [] = er at hop hne ⊢
    have Hop := Lib.hid hop
    clear hop hag hls hg hT hG h0 hp hlv e1 e2
    go_enter Tryz.func38, Tryz.ntmps38
    go_wp2_with fail
    refine Hop.out.mono ?_
    rintro e w1 ⟨rfl, hx1⟩
    go_wp2_with fail
    go_ret2
    exact ⟨rfl, hx1.alloc _⟩
  rw [h0] at hop
  by_cases h2 : 2000 < l.length
  · have e1 : chkEqB g l = false := by unfold chkEqB; rw [if_neg (fun h => by omega)]
    have e2 : chkEqE g l = 2 := by unfold chkEqE; rw [if_pos h0, if_pos h2]
    rw [e1, e2]
    have q : (2000 : Int) < (l.length : Int) := by omega
    have Hop := Lib.hid hop
    clear hop hag hls hg hT hG h0 hp hlv e1 e2
    go_enter Tryz.func38, Tryz.ntmps38
    go_wp2_with fail
    refine Hop.out.mono ?_
    rintro e w1 ⟨rfl, hx1⟩
    go_wp2_with fail
    go_ret2
    exact ⟨rfl, hx1.alloc _⟩
  have e1 : chkEqB g l = pairsB g l := by unfold chkEqB; rw [if_pos ⟨h0, by omega⟩]
  have e2 : chkEqE g l = 0 := by unfold chkEqE; rw [if_pos h0, if_neg h2]
  rw [e1, e2]
  have q : ¬ (2000 : Int) < (l.length : Int) := by omega
  obtain ⟨hW, _⟩ := errG_zero h0
  have Hop := Lib.hid hop
  have Hag := Lib.hid hag
  have Hls := Lib.hid (hls hW)
  have Hp := Lib.hid hp
  have HW := Lib.hid hW
  have hmm := @run_makeMap Tryz.prog
  clear hop hag hls hg hT hG h0 hp hlv e1 e2 h2 hW
  go_enter Tryz.func38, Tryz.ntmps38
  go_wp2_with fail
  refine Hop.out.mono ?_
  rintro e w1 ⟨rfl, hx1⟩
  have Hst : Hid (CeSt w w1.heap.size (w1.heap.size + 1) (.slice A g.length cap) (prsF (l.take 0)) ((w1.alloc (.cells #[.slice A g.length cap] 77)).alloc (.map #[] 0))) := by
    have hmd := MapS.made pairK (w1.alloc (.cells #[.slice A g.length cap] 77))
    rw [World.size_alloc] at hmd
    rw [List.take_zero, prsF_nil]
    have := hx1.size
    exact Lib.hid ⟨(hx1.alloc _).alloc _, ((Ext.refl _).alloc _).heap (heap_alloc_self w1 (.cells #[.slice A g.length cap] 77)), hmd, by omega, by omega⟩
  clear hx1
  go_wp2_with fail
  generalize (w1.alloc (.cells #[.slice A g.length cap] 77)).alloc (.map #[] 0) = w2 at Hst ⊢
  generalize w1.heap.size = bg at Hst ⊢
  clear hmm q
  go_loopw [29] (fun u wr => ∃ k : Nat, k ≤ l.length ∧ u = .int .i64 k ∧ Hid (CeSt w bg (bg + 1) (.slice A g.length cap) (prsF (l.take k)) wr) ∧ Hid (∀ i (h : i < l.length), i < k → inG g l[i].1 = true ∧ inG g l[i].2 = true)) (fun u _ => l.length - (intOf u).toNat)
  case atStart => exact ⟨0, by omega, rfl, Hst, Lib.hid (fun i _ h => by omega)⟩
  case round =>
    clear Hst
    obtain ⟨k, hk, rfl, Hst, Hin⟩ := hrel
    have cg := heap_cell Hst.out.box 0 _ rfl
    have lg := cell_lt cg
    by_cases hlt : k < l.length
    · obtain ⟨b, off, rfl, p0, p1⟩ := Hp.out k hlt
      replace p0 := Hst.out.ext.cell p0
      replace p1 := Hst.out.ext.cell p1
      have lp := cell_lt p0
      have i0 : (0 : Int) ≤ (k : Int) := by omega
      have i1 : (k : Int) < (l.length : Int) := by omega
      have hm : l[k] ∈ l := List.getElem_mem hlt
      have htk : l.take (k + 1) = l.take k ++ [l[k]] := List.take_succ_eq_append_getElem hlt
      have Hyes := Lib.hid (fun (h : inG g l[k].1 = true ∧ inG g l[k].2 = true) i (h1 : i < l.length) (hik : i < k + 1) => if e : i = k then (by subst e; exact h : inG g l[i].1 = true ∧ inG g l[i].2 = true) else Hin.out i h1 (by omega))
      generalize l[k] = p at *
      have Hno := Lib.hid (fun (h : pairB g l p = false) => pairs_no hm h)
      have Htk := Lib.hid htk
      have hh1 := fun w => has_any w A g.length cap p.1 hn
      have hh2 := fun w => has_any w A g.length cap p.2 hn
      rw [hasB_inG] at hh1 hh2
      have Hh1 := Lib.hid hh1
      have Hh2 := Lib.hid hh2
      obtain ⟨x, y⟩ := p
      simp only at p0 p1 Hh1 Hh2 Hyes Hno
      clear hh1 hh2 htk hm Hin
      cases hx : inG g x with
      | false =>
        as_aux_lemma =>
          rw [hx] at Hh1
          have Hv := Lib.hid (Hno.out (pair_no1 hx))
          go_wp2_with fail
          refine (Hh1.out _).mono ?_
          rintro e w3 ⟨rfl, hx3⟩
          have hx4 := (Hst.out.ext.alloc _).trans hx3
          clear hx3
          go_wp2_with fail
          go_ret2
          rw [Hv.out]
          exact ⟨rfl, hx4⟩
      | true =>
        rw [hx] at Hh1
        cases hy : inG g y with
        | false =>
          as_aux_lemma =>
            rw [hy] at Hh2
            have Hv := Lib.hid (Hno.out (pair_no2 hy))
            have hb := heap_alloc_self wr (.cells #[.int .i64 x, .int .i64 y] 61)
            go_wp2_with fail
            refine (Hh1.out _).mono ?_
            rintro e w3 ⟨rfl, hx3⟩
            have cg3 := hx3.cell (((Ext.refl wr).alloc _).cell cg)
            have cb3 := heap_cell (hx3.heap hb) 1 _ rfl
            have lg3 := cell_lt cg3
            have lb3 := cell_lt cb3
            have hx4 := (Hst.out.ext.alloc _).trans hx3
            clear hx3
            go_wp2_with fail
            refine (Hh2.out _).mono ?_
            rintro e w4 ⟨rfl, hx5⟩
            go_wp2_with fail
            go_ret2
            rw [Hv.out]
            exact ⟨rfl, hx4.trans hx5⟩
        | true =>
          as_aux_lemma =>
            rw [hy] at Hh2
            have Hy := Lib.hid (Hyes.out ⟨hx, hy⟩)
            have hb := heap_alloc_self wr (.cells #[.int .i64 x, .int .i64 y] 61)
            go_wp2_with fail
            refine (Hh1.out _).mono ?_
            rintro e w3 ⟨rfl, hx3⟩
            have cg3 := hx3.cell (((Ext.refl wr).alloc _).cell cg)
            have cb3 := heap_cell (hx3.heap hb) 1 _ rfl
            have lg3 := cell_lt cg3
            have lb3 := cell_lt cb3
            have hx4 := ((Ext.refl wr).alloc (.cells #[.int .i64 x, .int .i64 y] 61)).trans hx3
            have hb3 := hx3.heap hb
            clear hx3
            go_wp2_with fail
            refine (Hh2.out _).mono ?_
            rintro e w4 ⟨rfl, hx5⟩
            have c40 := heap_cell (hx5.heap hb3) 0 _ rfl
            have c41 := heap_cell (hx5.heap hb3) 1 _ rfl
            have l40 := cell_lt c40
            have Hst4 := Lib.hid (Hst.out.later (hx4.trans hx5))
            clear hx4 hx5 cg3 cb3 lg3 lb3 hb3 hb
            go_wp2_with (at_mapUpdate; refine wpList_update_S pairK (by rfl) _ _ _ 80 4 (by rfl) Tryz.underlying80 _ (prsF (l.take k)) (x, y) (by rfl) (by rfl) Hst4.out.map ?_; intro w5 hm5 hg5)
            have hst5 : CeSt w bg (bg + 1) (.slice A g.length cap) (prsF (l.take (k + 1))) w5 := Hst4.out.put hg5 (by rw [Htk.out, ← prsF_put]; exact hm5)
            have Hst5 := Lib.hid hst5
            clear hst5 hm5 hg5 Hst4
            go_wp2_with fail
            go_roundw
            case rel => exact ⟨k + 1, by omega, by go_num, Hst5, Hy⟩
            case measure => simp [intOf]; omega
    · have hkl : k = l.length := by omega
      subst hkl
      rw [List.take_of_length_le (Nat.le_refl _)] at Hst
      have i1 : ¬ (l.length : Int) < (l.length : Int) := by omega
      clear hlt hk
      go_wp2_with (at_range; refine wpList_range_S pairK (fun q => pairB g l q = true) (by rfl) _ 80 4 (by rfl) Tryz.underlying80 _ (prsF l) (by rfl) Hst.out.map ?_; intro w3 cnt hrg hx3)
      have Hst3 := Lib.hid (Hst.out.later hx3)
      have Hrg := Lib.hid hrg
      have Hr : Hid (bg < wr.heap.size ∧ w.heap.size ≤ wr.heap.size) := Lib.hid ⟨(Array.getElem?_eq_some_iff.1 Hst.out.box).1, Hst.out.ext.size⟩
      clear hx3 hrg Hst cg lg i1
      generalize wr.heap.size = r at *
      obtain ⟨wo, rfl⟩ : ∃ wo : World, wo = wr := ⟨_, rfl⟩
      go_loopw [11] (fun u wq => Hid (CeSt w bg (bg + 1) (.slice A g.length cap) (prsF l) wq) ∧ ∃ cnt, Hid (RngS pairK wq (bg + 1) r (prsF l) (fun q => pairB g l q = true) cnt)) (fun _ wq => wq.rangeLeft (bg + 1) r)
      case atStart => exact ⟨Hst3, cnt, Hrg⟩
      case round =>
        clear Hst3 Hrg
        obtain ⟨Hst, cnt, Hrg⟩ := hrel
        go_wp2_with (at_next; refine wpList_next_S pairK (fun q => pairB g l q = true) (by rfl) _ (by rfl) (bg + 1) r (prsF l) cnt (by rfl) Hrg.out ?done ?more)
        case done =>
          intro hD
          have hv : pairsB g l = true := List.all_eq_true.2 fun p hp => hD p.1 p.2 (.bool true) (by unfold prsF; rw [if_pos hp])
          have Hv := Lib.hid hv
          clear hv hD
          go_wp2_with fail
          go_ret2
          rw [Hv.out]
          exact ⟨rfl, Hst.out.ext⟩
        case more =>
          intro px py v w4 cnt4 hpv hr4 hlt4 hg4 hen
          obtain ⟨p, hpe⟩ : ∃ p : Int × Int, p = (px, py) := ⟨_, rfl⟩
          rw [← hpe] at hpv
          replace hr4 : RngS pairK w4 (bg + 1) r (prsF l) (fun k' => pairB g l k' = true ∨ k' = p) cnt4 := by rw [hpe]; exact hr4
          replace hen : (Instr.entry (.pointer (some ⟨r, 0, none⟩))).run Tryz.prog w4 = .ok (.tuple #[.agg #[.int .i64 p.1, .int .i64 p.2], v]) w4 := by rw [hpe]; exact hen
          rw [show pairK.enc (px, py) = .agg #[.int .i64 p.1, .int .i64 p.2] by rw [hpe]; rfl]
          clear hpe px py
          have hpl := prsF_some hpv
          have hst4 : CeSt w bg (bg + 1) (.slice A g.length cap) (prsF l) w4 := ⟨Below.grown Hst.out.ext hg4 Hst.out.ext.size (fun k hk => by cases hk; exact Hr.out.2), (hg4.block bg (Array.getElem?_eq_some_iff.1 Hst.out.box).1 (by have := Hr.out.1; simp; omega)).trans Hst.out.box, hr4.mapS, Hst.out.nb⟩
          obtain ⟨q, hq, rfl⟩ := List.mem_iff_getElem.1 hpl
          obtain ⟨g1, g2⟩ := Hin.out q hq hq
          have hno := fun (h : pairB g l l[q] = false) => pairs_no hpl h
          have hno3 := fun h => hno (pair_no3 h)
          have hno4 : ∀ (k : Nat) (h1 : k < (refsL (getT g l[q].1.toNat)).length) (h2 : k < (refsL (getT g l[q].2.toNat)).length), ((refsL (getT g l[q].1.toNat))[k], (refsL (getT g l[q].2.toNat))[k]) ∉ l → pairsB g l = false := fun k h1 h2 h => hno (pair_no4 h1 h2 h)
          have hyes := @pair_yes g l l[q] g1 g2
          generalize l[q] = p at *
          obtain ⟨x, y⟩ := p
          rw [inG_iff] at g1 g2
          simp only at g1 g2 hno3 hno4 hyes
          obtain ⟨i, rfl⟩ := Int.eq_ofNat_of_zero_le g1.1
          obtain ⟨j, rfl⟩ := Int.eq_ofNat_of_zero_le g2.1
          have hi : i < g.length := by omega
          have hj : j < g.length := by omega
          rw [Int.toNat_natCast, Int.toNat_natCast] at hno3 hno4 hyes
          have hen' : (Instr.entry (.pointer (some ⟨r, 0, none⟩))).run Tryz.prog w4 = .ok (.tuple #[.agg #[.int .i64 (i : Int), .int .i64 (j : Int)], v]) w4 := hen
          have hb4 := heap_alloc_self w4 (.cells #[.int .i64 (i : Int), .int .i64 (j : Int)] 61)
          have cg4 := heap_cell (((Ext.refl w4).alloc (.cells #[.int .i64 (i : Int), .int .i64 (j : Int)] 61)).heap hst4.box) 0 _ rfl
          have lg4 := cell_lt cg4
          have Hno3 := Lib.hid hno3
          have Hno4 := Lib.hid hno4
          have Hyes := Lib.hid hyes
          have Hst4 := Lib.hid hst4
          have Hr4 := Lib.hid hr4
          have Hlt4 := Lib.hid hlt4
          have HL := Lib.hid Hrg.out.left
          have Hb4 := Lib.hid hb4
          clear hno hno3 hno4 hyes hpl hst4 hr4 hlt4 hg4 hen g1 g2 hpv hb4
          go_wp2_with fail
          cases ha : agN g i j with
          | false =>
            as_aux_lemma =>
              have Hv := Lib.hid (Hno3.out ha)
              refine (Hag.out _ (Hst4.out.ext.alloc _) i j hi hj).mono ?_
              rintro e w5 ⟨rfl, hx5⟩
              have hx6 := (Hst4.out.ext.alloc _).trans hx5
              rw [ha]
              clear hx5 cg4 lg4
              go_wp2_with fail
              go_ret2
              rw [Hv.out]
              exact ⟨rfl, hx6⟩
          | true =>
            as_aux_lemma =>
              have Ha := Lib.hid ha
              refine (Hag.out _ (Hst4.out.ext.alloc _) i j hi hj).mono ?_
              rintro e w5 ⟨rfl, hx5⟩
              have hx45 := ((Ext.refl w4).alloc (.cells #[.int .i64 (i : Int), .int .i64 (j : Int)] 61)).trans hx5
              rw [ha]
              have hb5 := hx5.heap Hb4.out
              have cb0 := heap_cell hb5 0 _ rfl
              have cb1 := heap_cell hb5 1 _ rfl
              have lb0 := cell_lt cb0
              have cg5 := heap_cell (hx45.heap Hst4.out.box) 0 _ rfl
              have lg5 := cell_lt cg5
              have Hb5 := Lib.hid hb5
              have Hx45 := Lib.hid hx45
              clear hx5 hx45 hb5 cg4 lg4 Hno3 ha
              go_wp2_with fail
              clear cb0 cb1 lb0 cg5 lg5
              refine (Hls.out _ (Hst4.out.ext.trans Hx45.out) j hj).mono ?_
              rintro e w6 ⟨v6, rfl, hv6, hx6⟩
              have hx46 := Hx45.out.trans hx6
              have hb6 := hx6.heap Hb5.out
              have cb0 := heap_cell hb6 0 _ rfl
              have lb0 := cell_lt cb0
              have cg6 := heap_cell (hx46.heap Hst4.out.box) 0 _ rfl
              have lg6 := cell_lt cg6
              have Hx46 := Lib.hid hx46
              obtain ⟨A6, c6, e6⟩ := hv6.any.len
              subst e6
              have Hv6 := Lib.hid hv6.any
              clear hx6 hx46 hb6 hv6 Hb5 Hx45
              go_wp2_with fail
              clear cb0 lb0 cg6 lg6
              refine (Hls.out _ (Hst4.out.ext.trans Hx46.out) i hi).mono ?_
              rintro e w7 ⟨v7, rfl, hv7, hx7⟩
              obtain ⟨A7, c7, e7⟩ := hv7.any.len
              subst e7
              have Hv7 := Lib.hid hv7.any
              replace Hv6 := Lib.hid (Hv6.out.mono hx7)
              have Hx47 := Lib.hid (Hx46.out.trans hx7)
              clear hx7 hv7 Hx46
              have hlen : (refsL (getT g i)).length = (refsL (getT g j)).length := refsL_length Ha.out
              have Hlen := Lib.hid hlen
              have hrl : (refsL (getT g i)).length ≤ 65 := (HW.out.fine (getT_mem hi)).refs_le
              clear hlen
              go_wp2_with fail
              obtain ⟨wo2, rfl⟩ : ∃ wo2 : World, wo2 = wr := ⟨_, rfl⟩
              go_loopw [70] (fun u wq => ∃ n : Nat, n ≤ (refsL (getT g i)).length ∧ u = .int .i64 n ∧ Hid (Ext w7 wq) ∧ Hid (∀ m (h1 : m < (refsL (getT g i)).length) (h2 : m < (refsL (getT g j)).length), m < n → ((refsL (getT g i))[m], (refsL (getT g j))[m]) ∈ l)) (fun u _ => (refsL (getT g i)).length - (intOf u).toNat)
              case atStart => exact ⟨0, by omega, rfl, Lib.hid (Ext.refl _), Lib.hid (fun m _ _ h => by omega)⟩
              case round =>
                obtain ⟨n, hn2, rfl, Hx8, Hn⟩ := hrel
                by_cases hnl : n < (refsL (getT g i)).length
                · have hnl2 : n < (refsL (getT g j)).length := by have := Hlen.out; omega
                  obtain ⟨Ax, cx, ex, xs⟩ := Hv7.out.int
                  simp only [Value.slice.injEq] at ex
                  obtain ⟨rfl, -, rfl⟩ := ex
                  obtain ⟨Ay, cy, ey, ys⟩ := Hv6.out.int
                  simp only [Value.slice.injEq] at ey
                  obtain ⟨rfl, -, rfl⟩ := ey
                  obtain ⟨xb, xo, rfl, x0⟩ := xs n hnl
                  obtain ⟨yb, yo, rfl, y0⟩ := ys n hnl2
                  replace x0 := Hx8.out.cell x0
                  replace y0 := Hx8.out.cell y0
                  have lx := cell_lt x0
                  have ly := cell_lt y0
                  have j0 : (0 : Int) ≤ (n : Int) := by omega
                  have j1 : (n : Int) < ((refsL (getT g i)).length : Int) := by omega
                  have j2 : (n : Int) < ((refsL (getT g j)).length : Int) := by omega
                  have Hn4 := Lib.hid (Hno4.out n hnl hnl2)
                  have Hnl := Lib.hid hnl
                  have Hny := Lib.hid (fun (h' : ((refsL (getT g i))[n], (refsL (getT g j))[n]) ∈ l) m (h1 : m < (refsL (getT g i)).length) (h2 : m < (refsL (getT g j)).length) (hik : m < n + 1) => if e : m = n then (by subst e; exact h' : ((refsL (getT g i))[m], (refsL (getT g j))[m]) ∈ l) else Hn.out m h1 h2 (by omega))
                  clear xs ys
                  generalize (refsL (getT g i))[n] = a at *
                  generalize (refsL (getT g j))[n] = b at *
                  have Hmap := Lib.hid ((Hr4.out.mapS.ext (Hx47.out.trans Hx8.out)).mapF)
                  by_cases hin : (a, b) ∈ l
                  · have Hy2 := Lib.hid (Hny.out hin)
                    have Hin2 := Lib.hid hin
                    clear hin
                    go_wp2_with (at_lookup; refine wpList_lookup_F pairK (by rfl) _ _ 80 4 (by rfl) Tryz.underlying80 (.bool false) zeroBool _ (prsF l) (a, b) (by rfl) (by rfl) Hmap.out ?_; rw [prsF_getD, decide_eq_true Hin2.out])
                    go_roundw
                    case rel => exact ⟨n + 1, Hnl.out, by go_num, Hx8, Hy2⟩
                    case measure =>
                      have h1 := Hnl.out
                      simp only [intOf]
                      omega
                  · have Hv := Lib.hid (Hn4.out hin)
                    have Hin2 := Lib.hid hin
                    clear hin
                    go_wp2_with (at_lookup; refine wpList_lookup_F pairK (by rfl) _ _ 80 4 (by rfl) Tryz.underlying80 (.bool false) zeroBool _ (prsF l) (a, b) (by rfl) (by rfl) Hmap.out ?_; rw [prsF_getD, decide_eq_false Hin2.out])
                    go_ret2
                    rw [Hv.out]
                    exact ⟨rfl, Hst4.out.ext.trans (Hx47.out.trans Hx8.out)⟩
                · have j1 : ¬ (n : Int) < ((refsL (getT g i)).length : Int) := by omega
                  have hD := Hyes.out Ha.out hnl (fun m h1 h2 h3 => Hn.out m h1 h2 h3)
                  have hrN := (Hr4.out.ext (Hx47.out.trans Hx8.out)).imp (fun k' (hk' : pairB g l k' = true ∨ k' = ((i : Int), (j : Int))) => by
                    rcases hk' with hk' | rfl
                    · exact hk'
                    · exact hD)
                  have HrN := Lib.hid hrN
                  clear hD hrN Hn
                  go_wp2_with fail
                  go_roundw
                  case rel => exact ⟨Lib.hid (Hst4.out.later (Hx47.out.trans Hx8.out)), cnt4, HrN⟩
                  case measure => rw [HrN.out.left, HL.out]; exact Hlt4.out
end Go.Proofs.YtldnjnnhfeobdaaGreatDoor
/- The law TypesSame returns true. Conditions: a tidy graph, at most 2^20 pairs. -/
namespace Go.Proofs.YtldnjnnhfeobdaaGreatDoor
set_option linter.all false
set_option linter.unusedSimpArgs false
set_option linter.unusedVariables false
open Go.RowKit Go.Shelf

theorem equalG_at {g : Graph} (hg : WF g) {a b : Nat} (ha : a < g.length) (hb : b < g.length) : errG g [(a : Int), (b : Int)] = 0 ∧ equalG g (a : Int) (b : Int) = sameG g a b := by
  have e : errG g [(a : Int), (b : Int)] = 0 := errG_of hg (by intro x hx; simp at hx; omega)
  refine ⟨e, ?_⟩
  unfold equalG
  rw [e, if_pos rfl, Int.toNat_natCast, Int.toNat_natCast]
set_option maxRecDepth 100000 in
set_option maxHeartbeats 8000000 in
theorem same_none (w : World) (gv lv : Value) (g : Graph) (a b c : Int) (l : List (Int × Int)) (hg : Sl tyE w gv g) (hT : Tidy g) (hG : Glob w) (hlv : Sl pairE w lv l) (hln : l.length ≤ 1048576) (h : lightG g = false ∨ 60 < l.length ∨ ¬ errG g [a, b] = 0 ∨ ¬ errG g [b, c] = 0) :
    Calls Tryz.prog 10 #[gv, .int .i64 a, .int .i64 b, .int .i64 c, lv] w (Ret w (.bool true)) := by
  have Hli := Lib.hid (light_any w gv g hg hT)
  have Hal := Lib.hid (fun w' (hx : Ext w w') => alive_any w' (hG.mono hx))
  have Heq := Lib.hid (fun x y w' (hx : Ext w w') => equal_any w' gv g x y (hg.mono hx) hT (hG.mono hx))
  have Hch := Lib.hid (fun w' (hx : Ext w w') => checkEqual_any w' gv lv g l (hg.mono hx) hT (hG.mono hx) (hlv.mono hx) hln)
  obtain ⟨A, cap, eg⟩ := hg.len
  obtain ⟨B, cl, el⟩ := hlv.len
  subst eg el
  have hn := hT.len
  clear hg hT hG hlv
  cases hl : lightG g with
  | false =>
    rw [hl] at Hli
    clear h
    go_enter Tryz.func10, Tryz.ntmps10
    go_wp2_with fail
    refine Hli.out.mono ?_
    rintro e w1 ⟨rfl, hx1⟩
    go_wp2_with fail
    refine (Hal.out _ hx1).mono ?_
    rintro e w2 ⟨rfl, hx2⟩
    go_wp2_with fail
    go_ret
    exact ⟨rfl, hx1.trans hx2⟩
  | true =>
    rw [hl] at Hli h
    by_cases h6 : 60 < l.length
    · have q : (60 : Int) < (l.length : Int) := by omega
      clear h
      go_enter Tryz.func10, Tryz.ntmps10
      go_wp2_with fail
      refine Hli.out.mono ?_
      rintro e w1 ⟨rfl, hx1⟩
      go_wp2_with fail
      refine (Hal.out _ hx1).mono ?_
      rintro e w2 ⟨rfl, hx2⟩
      go_wp2_with fail
      go_ret
      exact ⟨rfl, hx1.trans hx2⟩
    · have q : ¬ (60 : Int) < (l.length : Int) := by omega
      have h' : ¬ errG g [a, b] = 0 ∨ ¬ errG g [b, c] = 0 := by
        rcases h with h | h | h | h
        · cases h
        · exact absurd h h6
        · exact .inl h
        · exact .inr h
      clear h h6
      have E1 := Lib.hid (Heq.out a b)
      have E2 := Lib.hid (Heq.out b c)
      have E3 := Lib.hid (Heq.out a c)
      have E4 := Lib.hid (Heq.out b a)
      have E5 := Lib.hid (Heq.out a a)
      clear Heq
      generalize errG g [a, b] = e1 at *
      generalize errG g [b, c] = e2 at *
      generalize errG g [a, c] = e3 at *
      generalize errG g [b, a] = e4 at *
      generalize errG g [a, a] = e5 at *
      generalize chkEqE g l = e6 at *
      generalize chkEqB g l = ok at *
      generalize equalG g a b = x1 at *
      generalize equalG g b c = x2 at *
      generalize equalG g a c = x3 at *
      generalize equalG g b a = x4 at *
      generalize equalG g a a = x5 at *
      have go : ∀ (c1 c2 : Bool), (e1 != 0) = c1 → (e2 != 0) = c2 → (c1 = true ∨ c2 = true) → Calls Tryz.prog 10 #[.slice A g.length cap, .int .i64 a, .int .i64 b, .int .i64 c, .slice B l.length cl] w (Ret w (.bool true)) := by
        intro c1 c2 r1 r2 h12
        cases c1 with
        | true =>
          clear h12
          go_enter Tryz.func10, Tryz.ntmps10
          go_wp2_with fail
          refine Hli.out.mono ?_
          rintro e w1 ⟨rfl, hx1⟩
          go_wp2_with fail
          refine (E1.out _ hx1).mono ?_
          rintro e w2 ⟨rfl, hy1⟩
          have Hx1 := Lib.hid ((hx1).trans hy1)
          clear hy1
          go_wp2_with fail
          refine (E2.out _ Hx1.out).mono ?_
          rintro e w3 ⟨rfl, hy2⟩
          have Hx2 := Lib.hid ((Hx1.out).trans hy2)
          clear hy2
          go_wp2_with fail
          refine (E3.out _ Hx2.out).mono ?_
          rintro e w4 ⟨rfl, hy3⟩
          have Hx3 := Lib.hid ((Hx2.out).trans hy3)
          clear hy3
          go_wp2_with fail
          refine (E4.out _ Hx3.out).mono ?_
          rintro e w5 ⟨rfl, hy4⟩
          have Hx4 := Lib.hid ((Hx3.out).trans hy4)
          clear hy4
          go_wp2_with fail
          refine (E5.out _ Hx4.out).mono ?_
          rintro e w6 ⟨rfl, hy5⟩
          have Hx5 := Lib.hid ((Hx4.out).trans hy5)
          clear hy5
          go_wp2_with fail
          refine (Hch.out _ Hx5.out).mono ?_
          rintro e w7 ⟨rfl, hy7⟩
          have Hx7 := Lib.hid (Hx5.out.trans hy7)
          clear hy7
          go_wp2_with fail
          refine (Hal.out _ Hx7.out).mono ?_
          rintro e w8 ⟨rfl, hx8⟩
          go_wp2_with fail
          go_ret
          exact ⟨rfl, Hx7.out.trans hx8⟩
        | false =>
          have h13 : c2 = true := by rcases h12 with h | h; cases h; exact h
          subst h13
          clear h12
          go_enter Tryz.func10, Tryz.ntmps10
          go_wp2_with fail
          refine Hli.out.mono ?_
          rintro e w1 ⟨rfl, hx1⟩
          go_wp2_with fail
          refine (E1.out _ hx1).mono ?_
          rintro e w2 ⟨rfl, hy1⟩
          have Hx1 := Lib.hid ((hx1).trans hy1)
          clear hy1
          go_wp2_with fail
          refine (E2.out _ Hx1.out).mono ?_
          rintro e w3 ⟨rfl, hy2⟩
          have Hx2 := Lib.hid ((Hx1.out).trans hy2)
          clear hy2
          go_wp2_with fail
          refine (E3.out _ Hx2.out).mono ?_
          rintro e w4 ⟨rfl, hy3⟩
          have Hx3 := Lib.hid ((Hx2.out).trans hy3)
          clear hy3
          go_wp2_with fail
          refine (E4.out _ Hx3.out).mono ?_
          rintro e w5 ⟨rfl, hy4⟩
          have Hx4 := Lib.hid ((Hx3.out).trans hy4)
          clear hy4
          go_wp2_with fail
          refine (E5.out _ Hx4.out).mono ?_
          rintro e w6 ⟨rfl, hy5⟩
          have Hx5 := Lib.hid ((Hx4.out).trans hy5)
          clear hy5
          go_wp2_with fail
          refine (Hch.out _ Hx5.out).mono ?_
          rintro e w7 ⟨rfl, hy7⟩
          have Hx7 := Lib.hid (Hx5.out.trans hy7)
          clear hy7
          go_wp2_with fail
          refine (Hal.out _ Hx7.out).mono ?_
          rintro e w8 ⟨rfl, hx8⟩
          go_wp2_with fail
          go_ret
          exact ⟨rfl, Hx7.out.trans hx8⟩
      exact go _ _ rfl rfl (by rcases h' with h' | h' <;> simp [h'])
set_option maxRecDepth 100000 in
set_option maxHeartbeats 16000000 in
theorem same_law (w : World) (gv lv : Value) (g : Graph) (a b c : Int) (l : List (Int × Int)) (hg : Sl tyE w gv g) (hT : Tidy g) (hG : Glob w) (hlv : Sl pairE w lv l) (hln : l.length ≤ 1048576) :
    Calls Tryz.prog 10 #[gv, .int .i64 a, .int .i64 b, .int .i64 c, lv] w (Ret w (.bool true)) := by
  by_cases hq : lightG g = false ∨ 60 < l.length ∨ ¬ errG g [a, b] = 0 ∨ ¬ errG g [b, c] = 0
  · exact same_none w gv lv g a b c l hg hT hG hlv hln hq
  have hl : lightG g = true := by
    cases h : lightG g with
    | true => rfl
    | false => exact absurd (.inl h) hq
  have h6 : ¬ 60 < l.length := fun h => hq (.inr (.inl h))
  have e1 : errG g [a, b] = 0 := Classical.byContradiction fun h => hq (.inr (.inr (.inl h)))
  have e2 : errG g [b, c] = 0 := Classical.byContradiction fun h => hq (.inr (.inr (.inr h)))
  clear hq
  obtain ⟨hW, hab⟩ := errG_zero e1
  obtain ⟨_, hbc⟩ := errG_zero e2
  obtain ⟨a0, a1⟩ := hab a (by simp)
  obtain ⟨b0, b1⟩ := hab b (by simp)
  obtain ⟨c0, c1⟩ := hbc c (by simp)
  obtain ⟨i, rfl⟩ := Int.eq_ofNat_of_zero_le a0
  obtain ⟨j, rfl⟩ := Int.eq_ofNat_of_zero_le b0
  obtain ⟨k, rfl⟩ := Int.eq_ofNat_of_zero_le c0
  have hi : i < g.length := by omega
  have hj : j < g.length := by omega
  have hk : k < g.length := by omega
  have e0 : errG g [] = 0 := errG_of hW (by simp)
  have hn4 := hW.len
  have Hli := Lib.hid (light_any w gv g hg hT)
  have Hal := Lib.hid (fun w' (hx : Ext w w') => alive_any w' (hG.mono hx))
  have heq := fun (x y : Nat) (hx : x < g.length) (hy : y < g.length) w' (hx' : Ext w w') => equal_any w' gv g x y (hg.mono hx') hT (hG.mono hx')
  have Heq : Hid (∀ (x y : Nat), x < g.length → y < g.length → ∀ w', Ext w w' → Calls Tryz.prog 20 #[gv, .int .i64 (x : Int), .int .i64 (y : Int)] w' (Ret w' (.tuple #[.bool (sameG g x y), .int .i64 0]))) := Lib.hid (fun x y hx hy w' hx' => by
    have h := heq x y hx hy w' hx'
    rw [(equalG_at hW hx hy).1, (equalG_at hW hx hy).2] at h
    exact h)
  have hch := fun w' (hx : Ext w w') => checkEqual_any w' gv lv g l (hg.mono hx) hT (hG.mono hx) (hlv.mono hx) hln
  have ce : chkEqE g l = 0 := by unfold chkEqE; rw [if_pos e0, if_neg (by omega)]
  have cb : chkEqB g l = pairsB g l := by unfold chkEqB; rw [if_pos ⟨e0, by omega⟩]
  rw [ce, cb] at hch
  have Hch := Lib.hid hch
  have hty : ∀ i, i < g.length → TySmall (getT g i) := fun i hi => (hT.ty _ (getT_mem hi)).1
  have Hty := Lib.hid hty
  have HW := Lib.hid hW
  rw [hl] at Hli
  obtain ⟨A, cap, rfl, hs⟩ := hg.ty
  obtain ⟨B, cl, rfl, hp⟩ := hlv.pair
  have Hs := Lib.hid hs
  have Hp := Lib.hid hp
  have q : ¬ (60 : Int) < (l.length : Int) := by omega
  have hxw := sameG_symm g j i
  have hown := sameG_refl g i
  have htr := @sameG_trans g i j k
  have hagr := @same_agree g hW i j hi hj
  have hprs := @pairs_same g hW l
  have E1 := Lib.hid (Heq.out i j hi hj)
  have E2 := Lib.hid (Heq.out j k hj hk)
  have E3 := Lib.hid (Heq.out i k hi hk)
  have E4 := Lib.hid (Heq.out j i hj hi)
  have E5 := Lib.hid (Heq.out i i hi hi)
  rw [hxw] at E4
  rw [hown] at E5
  generalize hx1 : sameG g i j = x1 at *
  generalize hx2 : sameG g j k = x2 at *
  generalize hx3 : sameG g i k = x3 at *
  generalize hok : pairsB g l = ok at *
  have Htr := Lib.hid htr
  have Hagr := Lib.hid hagr
  have Hprs := Lib.hid hprs
  clear hg hT hG hlv hl h6 e1 e2 hab hbc a0 a1 b0 b1 c0 c1 e0 heq hch ce cb hs hp hxw hown htr hagr hprs hx1 hx2 hx3 hok hty
  have key : ∀ (y1 y2 y3 yk : Bool), x1 = y1 → x2 = y2 → x3 = y3 → ok = yk → Calls Tryz.prog 10 #[.slice A g.length cap, .int .i64 (i : Int), .int .i64 (j : Int), .int .i64 (k : Int), .slice B l.length cl] w (Ret w (.bool true)) := by
    intro y1 y2 y3 yk s1 s2 s3 s4
    subst s1 s2 s3 s4
    go_enter Tryz.func10, Tryz.ntmps10
    go_wp2_with fail
    refine Hli.out.mono ?_
    rintro e w1 ⟨rfl, hx1⟩
    go_wp2_with fail
    refine (E1.out _ hx1).mono ?_
    rintro e w2 ⟨rfl, hx2⟩
    have Hx2 := Lib.hid (hx1.trans hx2)
    clear hx1 hx2
    go_wp2_with fail
    refine (E2.out _ Hx2.out).mono ?_
    rintro e w3 ⟨rfl, hx3⟩
    have Hx3 := Lib.hid (Hx2.out.trans hx3)
    clear hx3
    go_wp2_with fail
    refine (E3.out _ Hx3.out).mono ?_
    rintro e w4 ⟨rfl, hx4⟩
    have Hx4 := Lib.hid (Hx3.out.trans hx4)
    clear hx4
    go_wp2_with fail
    refine (E4.out _ Hx4.out).mono ?_
    rintro e w5 ⟨rfl, hx5⟩
    have Hx5 := Lib.hid (Hx4.out.trans hx5)
    clear hx5
    go_wp2_with fail
    refine (E5.out _ Hx5.out).mono ?_
    rintro e w6 ⟨rfl, hx6⟩
    have Hx6 := Lib.hid (Hx5.out.trans hx6)
    clear hx6
    go_wp2_with fail
    refine (Hch.out _ Hx6.out).mono ?_
    rintro e w7 ⟨rfl, hx7⟩
    have Hx7 := Lib.hid (Hx6.out.trans hx7)
    clear hx7 Hx2 Hx3 Hx4 Hx5 Hx6 E1 E2 E3 E4 E5 Hch
    go_upto_region 11 with fail
    go_cut [120] (fun s wx => s = .bool false ∧ wx = w7)
    case first =>
      cases x1 with
      | false =>
        go_wp2_with fail
        go_meet
        exact ⟨rfl, rfl⟩
      | true =>
        cases x2 with
        | false =>
          go_wp2_with fail
          go_meet
          exact ⟨rfl, rfl⟩
        | true =>
          have := Htr.out rfl rfl
          subst this
          go_wp2_with fail
          go_meet
          exact ⟨rfl, rfl⟩
    case rest =>
      obtain ⟨rfl, hwc⟩ := hcut
      subst hwc
      go_upto_if 121 with fail
      go_cut [25] (fun s wx => Hid (Ext w wx))
      case first =>
        cases x1 with
        | false =>
          go_wp2_with fail
          go_meet
          exact Hx7
        | true =>
          obtain ⟨hag, hrl, hsm⟩ := Hagr.out rfl
          have Hsm := Lib.hid hsm
          have Hrl := Lib.hid hrl
          obtain ⟨b, off, ip, im, io, rfl, hat, hof⟩ := Hs.out i hi
          obtain ⟨_, _, jp, jm, jo, e, hat2, hof2⟩ := Hs.out j hj
          cases e
          rw [← getT_lt hi] at hat hof
          rw [← getT_lt hj] at hat2 hof2
          have hfi := HW.out.fine (getT_mem hi)
          have hfj := HW.out.fine (getT_mem hj)
          have hri := fun w' (hx : Ext w w') => rrefs_any w' g.length (getT g i) ip im io (hof.mono hx) hfi
          have hrj := fun w' (hx : Ext w w') => rrefs_any w' g.length (getT g j) jp jm jo (hof2.mono hx) hfj
          have hgr := fun w' (hx : Ext w w') => ragree_any w' (getT g i) (getT g j) ip im io jp jm jo (Hty.out i hi) (Hty.out j hj) (hof.mono hx) (hof2.mono hx)
          have hgi := hfi.refs
          have hgj := hfj.refs
          have hli := hfi.refs_le
          rw [hag] at hgr
          obtain ⟨A1, a1, e1⟩ := hof.parts.len
          obtain ⟨A2, a2, e2⟩ := hof.methods.len
          obtain ⟨A3, a3, e3⟩ := hof.overs.len
          subst e1 e2 e3
          obtain ⟨B1, b1, e1⟩ := hof2.parts.len
          obtain ⟨B2, b2, e2⟩ := hof2.methods.len
          obtain ⟨B3, b3, e3⟩ := hof2.overs.len
          subst e1 e2 e3
          unfold tyV at hri hrj hgr
          have Hri := Lib.hid hri
          have Hrj := Lib.hid hrj
          have Hgr := Lib.hid hgr
          have Hgi := Lib.hid hgi
          have Hgj := Lib.hid hgj
          clear hsm hrl hag hfi hfj hri hrj hgr hgi hgj hof hof2
          generalize refsL (getT g i) = ri at *
          generalize refsL (getT g j) = rj at *
          generalize getT g i = x at *
          generalize getT g j = y at *
          have Hat := Lib.hid hat
          have Hat2 := Lib.hid hat2
          clear hat hat2
          have j0 : (0 : Int) ≤ (i : Int) := by omega
          have j1 : (i : Int) < (g.length : Int) := by omega
          have j2 : (0 : Int) ≤ (j : Int) := by omega
          have j3 : (j : Int) < (g.length : Int) := by omega
          obtain ⟨c0, c1, c2, c3, c4, c5, c6, c7, c8, c9⟩ := Hat.out.mono Hx7.out
          go_wp2_with fail
          refine (Hri.out _ Hx7.out).mono ?_
          rintro e w8 ⟨v8, rfl, hv8, hx8⟩
          obtain ⟨A8, q8, e8⟩ := hv8.any.len
          subst e8
          have Hv8 := Lib.hid hv8.any
          have Hx8 := Lib.hid (Hx7.out.trans hx8)
          clear c0 c1 c2 c3 c4 c5 c6 c7 c8 c9 hv8 hx8
          obtain ⟨c0, c1, c2, c3, c4, c5, c6, c7, c8, c9⟩ := Hat2.out.mono Hx8.out
          go_wp2_with fail
          refine (Hrj.out _ Hx8.out).mono ?_
          rintro e w9 ⟨v9, rfl, hv9, hx9⟩
          obtain ⟨A9, q9, e9⟩ := hv9.any.len
          rw [← Hrl.out] at e9
          subst e9
          have Hv9 := Lib.hid hv9.any
          replace Hv8 := Lib.hid (Hv8.out.mono hx9)
          have Hx9 := Lib.hid (Hx8.out.trans hx9)
          clear c0 c1 c2 c3 c4 c5 c6 c7 c8 c9 hv9 hx9
          have HS := Lib.hid (show ∀ w', Ext w9 w' → w'.cell? ⟨b, off + i * 10, none⟩ = some (.int .u8 x.kind) ∧ w'.cell? ⟨b, off + i * 10 + 1, none⟩ = some (.int .i64 x.low) ∧ w'.cell? ⟨b, off + i * 10 + 2, none⟩ = some (.int .i64 x.high) ∧ w'.cell? ⟨b, off + i * 10 + 3, none⟩ = some (.bool x.branded) ∧ w'.cell? ⟨b, off + i * 10 + 4, none⟩ = some (.string x.brand) ∧ w'.cell? ⟨b, off + i * 10 + 5, none⟩ = some (.string x.opaq) ∧ w'.cell? ⟨b, off + i * 10 + 6, none⟩ = some (.int .i64 x.super) ∧ w'.cell? ⟨b, off + i * 10 + 7, none⟩ = some (.slice A1 x.parts.length a1) ∧ w'.cell? ⟨b, off + i * 10 + 8, none⟩ = some (.slice A2 x.methods.length a2) ∧ w'.cell? ⟨b, off + i * 10 + 9, none⟩ = some (.slice A3 x.overs.length a3) ∧ w'.cell? ⟨b, off + j * 10, none⟩ = some (.int .u8 y.kind) ∧ w'.cell? ⟨b, off + j * 10 + 1, none⟩ = some (.int .i64 y.low) ∧ w'.cell? ⟨b, off + j * 10 + 2, none⟩ = some (.int .i64 y.high) ∧ w'.cell? ⟨b, off + j * 10 + 3, none⟩ = some (.bool y.branded) ∧ w'.cell? ⟨b, off + j * 10 + 4, none⟩ = some (.string y.brand) ∧ w'.cell? ⟨b, off + j * 10 + 5, none⟩ = some (.string y.opaq) ∧ w'.cell? ⟨b, off + j * 10 + 6, none⟩ = some (.int .i64 y.super) ∧ w'.cell? ⟨b, off + j * 10 + 7, none⟩ = some (.slice B1 y.parts.length b1) ∧ w'.cell? ⟨b, off + j * 10 + 8, none⟩ = some (.slice B2 y.methods.length b2) ∧ w'.cell? ⟨b, off + j * 10 + 9, none⟩ = some (.slice B3 y.overs.length b3) from fun w' h => by
            obtain ⟨c0, c1, c2, c3, c4, c5, c6, c7, c8, c9⟩ := Hat.out.mono (Hx9.out.trans h)
            obtain ⟨d0, d1, d2, d3, d4, d5, d6, d7, d8, d9⟩ := Hat2.out.mono (Hx9.out.trans h)
            exact ⟨c0, c1, c2, c3, c4, c5, c6, c7, c8, c9, d0, d1, d2, d3, d4, d5, d6, d7, d8, d9⟩)
          go_wp2_with fail
          go_region_held3 (fun w' => w'.cell? ⟨b, off + i * 10, none⟩ = some (.int .u8 x.kind) ∧ w'.cell? ⟨b, off + i * 10 + 1, none⟩ = some (.int .i64 x.low) ∧ w'.cell? ⟨b, off + i * 10 + 2, none⟩ = some (.int .i64 x.high) ∧ w'.cell? ⟨b, off + i * 10 + 3, none⟩ = some (.bool x.branded) ∧ w'.cell? ⟨b, off + i * 10 + 4, none⟩ = some (.string x.brand) ∧ w'.cell? ⟨b, off + i * 10 + 5, none⟩ = some (.string x.opaq) ∧ w'.cell? ⟨b, off + i * 10 + 6, none⟩ = some (.int .i64 x.super) ∧ w'.cell? ⟨b, off + i * 10 + 7, none⟩ = some (.slice A1 x.parts.length a1) ∧ w'.cell? ⟨b, off + i * 10 + 8, none⟩ = some (.slice A2 x.methods.length a2) ∧ w'.cell? ⟨b, off + i * 10 + 9, none⟩ = some (.slice A3 x.overs.length a3) ∧ w'.cell? ⟨b, off + j * 10, none⟩ = some (.int .u8 y.kind) ∧ w'.cell? ⟨b, off + j * 10 + 1, none⟩ = some (.int .i64 y.low) ∧ w'.cell? ⟨b, off + j * 10 + 2, none⟩ = some (.int .i64 y.high) ∧ w'.cell? ⟨b, off + j * 10 + 3, none⟩ = some (.bool y.branded) ∧ w'.cell? ⟨b, off + j * 10 + 4, none⟩ = some (.string y.brand) ∧ w'.cell? ⟨b, off + j * 10 + 5, none⟩ = some (.string y.opaq) ∧ w'.cell? ⟨b, off + j * 10 + 6, none⟩ = some (.int .i64 y.super) ∧ w'.cell? ⟨b, off + j * 10 + 7, none⟩ = some (.slice B1 y.parts.length b1) ∧ w'.cell? ⟨b, off + j * 10 + 8, none⟩ = some (.slice B2 y.methods.length b2) ∧ w'.cell? ⟨b, off + j * 10 + 9, none⟩ = some (.slice B3 y.overs.length b3))
            (first | exact HS.out _ (Ext.refl _).drew | exact HS.out _ hxa)
            ((go_at_call 41; refine (Hgr.out _ Hx9.out.drew).mono ?_; rintro e wa ⟨rfl, hxa0⟩; have hxa := (Ext.refl w9).drew.trans hxa0; clear hxa0))
          all_goals
            have Hva := Lib.hid (Hv8.out.mono hxa)
            have Hvb := Lib.hid (Hv9.out.mono hxa)
            have Hxa := Lib.hid (Hx9.out.trans hxa)
            clear hxa
            go_wp2_with fail
            go_loopw [25] (fun u wq => ∃ n : Nat, n ≤ ri.length ∧ u = .int .i64 n ∧ Hid (Ext wa wq)) (fun u _ => ri.length - (intOf u).toNat)
            case atStart => exact ⟨0, by omega, rfl, Lib.hid (Ext.refl _)⟩
            case round =>
              obtain ⟨n, hn2, rfl, Hxq⟩ := hrel
              by_cases hnl : n < ri.length
              · obtain ⟨Ax, cx, ex, xs⟩ := Hva.out.int
                simp only [Value.slice.injEq] at ex
                obtain ⟨rfl, -, rfl⟩ := ex
                obtain ⟨Ay, cy, ey, ys⟩ := Hvb.out.int
                simp only [Value.slice.injEq] at ey
                obtain ⟨rfl, -, rfl⟩ := ey
                have hnl2 : n < rj.length := by have := Hrl.out; omega
                obtain ⟨xb, xo, rfl, x0⟩ := xs n hnl
                obtain ⟨yb, yo, rfl, y0⟩ := ys n hnl2
                have hs := Hsm.out n hnl
                rw [List.getD_eq_getElem?_getD, List.getElem?_eq_getElem hnl, Option.getD_some, List.getD_eq_getElem?_getD, List.getElem?_eq_getElem hnl2, Option.getD_some] at hs
                obtain ⟨p0, p1⟩ := Hgi.out _ (List.getElem_mem hnl)
                obtain ⟨r0, r1⟩ := Hgj.out _ (List.getElem_mem hnl2)
                clear xs ys
                generalize ri[n] = a at *
                generalize rj[n] = c at *
                clear hnl2
                obtain ⟨p, rfl⟩ := Int.eq_ofNat_of_zero_le p0
                obtain ⟨r, rfl⟩ := Int.eq_ofNat_of_zero_le r0
                rw [Int.toNat_natCast, Int.toNat_natCast] at hs
                have he := fun w' hx => Heq.out p r (by omega) (by omega) w' hx
                rw [hs] at he
                have He := Lib.hid he
                clear hs he p0 p1 r0 r1
                have i0 : (0 : Int) ≤ (n : Int) := by omega
                have i1 : (n : Int) < (ri.length : Int) := by omega
                have HSc := Lib.hid (show ∀ w', Ext wr w' → w'.cell? ⟨xb, xo + n, none⟩ = some (.int .i64 (p : Int)) ∧ w'.cell? ⟨yb, yo + n, none⟩ = some (.int .i64 (r : Int)) from fun w' h => ⟨(Hxq.out.trans h).cell x0, (Hxq.out.trans h).cell y0⟩)
                clear x0 y0
                go_wp2_with fail
                go_region_held3 (fun w' => w'.cell? ⟨xb, xo + n, none⟩ = some (.int .i64 (p : Int)) ∧ w'.cell? ⟨yb, yo + n, none⟩ = some (.int .i64 (r : Int)))
                  (first | exact HSc.out _ (Ext.refl _).drew | exact HSc.out _ hxe)
                  ((go_at_call 20; refine (He.out _ (Hxa.out.trans Hxq.out).drew).mono ?_; rintro e we ⟨rfl, hxe0⟩; have hxe := (Ext.refl wr).drew.trans hxe0; clear hxe0))
                all_goals
                  have Hxe := Lib.hid (Hxq.out.trans hxe)
                  clear hxe
                  go_wp2_with fail
                  go_roundw
                  case rel => exact ⟨n + 1, by omega, by go_num, Hxe⟩
                  case measure => simp [intOf]; omega
              · have i1 : ¬ (n : Int) < (ri.length : Int) := by omega
                go_wp2_with fail
                go_meet
                exact Lib.hid (Hxa.out.trans Hxq.out)
      case rest =>
        have Hc := hcut
        clear hcut Hx7 Hagr Hs Hty HW
        go_wp2_with fail
        go_loopw [28] (fun u wq => ∃ n : Nat, n ≤ l.length ∧ u = .int .i64 n ∧ Hid (Ext w wq)) (fun u _ => l.length - (intOf u).toNat)
        case atStart => exact ⟨0, by omega, rfl, Hc⟩
        case round =>
          clear Hc
          obtain ⟨n, hn2, rfl, Hxq⟩ := hrel
          have i0 : (0 : Int) ≤ (n : Int) := by omega
          by_cases hnl : n < l.length
          · have i1 : (n : Int) < (l.length : Int) := by omega
            cases ok with
            | false =>
              go_wp2_with fail
              refine (Hal.out _ Hxq.out).mono ?_
              rintro e we ⟨rfl, hxe⟩
              go_wp2_with fail
              go_ret
              exact ⟨rfl, Hxq.out.trans hxe⟩
            | true =>
              obtain ⟨g1, g2, hs⟩ := Hprs.out rfl _ (List.getElem_mem hnl)
              obtain ⟨b, off, rfl, x0, y0⟩ := Hp.out n hnl
              rw [inG_iff] at g1 g2
              generalize l[n] = pr at *
              obtain ⟨a, c⟩ := pr
              simp only at g1 g2 hs x0 y0
              obtain ⟨p, rfl⟩ := Int.eq_ofNat_of_zero_le g1.1
              obtain ⟨r, rfl⟩ := Int.eq_ofNat_of_zero_le g2.1
              rw [Int.toNat_natCast, Int.toNat_natCast] at hs
              have he := fun w' hx => Heq.out p r (by omega) (by omega) w' hx
              rw [hs] at he
              have He := Lib.hid he
              clear hs he g1 g2
              have HSc := Lib.hid (show ∀ w', Ext wr w' → w'.cell? ⟨b, off + n * 2, none⟩ = some (.int .i64 (p : Int)) ∧ w'.cell? ⟨b, off + n * 2 + 1, none⟩ = some (.int .i64 (r : Int)) from fun w' h => ⟨(Hxq.out.trans h).cell x0, (Hxq.out.trans h).cell y0⟩)
              clear x0 y0
              go_wp2_with fail
              go_region_held3 (fun w' => w'.cell? ⟨b, off + n * 2, none⟩ = some (.int .i64 (p : Int)) ∧ w'.cell? ⟨b, off + n * 2 + 1, none⟩ = some (.int .i64 (r : Int)))
                (first | exact HSc.out _ (Ext.refl _).drew | exact HSc.out _ hxe)
                ((go_at_call 20; refine (He.out _ Hxq.out.drew).mono ?_; rintro e we ⟨rfl, hxe0⟩; have hxe := (Ext.refl wr).drew.trans hxe0; clear hxe0))
              all_goals
                have Hxe := Lib.hid (Hxq.out.trans hxe)
                clear hxe
                go_wp2_with fail
                go_roundw
                case rel => exact ⟨n + 1, by omega, by go_num, Hxe⟩
                case measure => simp [intOf]; omega
          · have i1 : ¬ (n : Int) < (l.length : Int) := by omega
            go_wp2_with fail
            refine (Hal.out _ Hxq.out).mono ?_
            rintro e we ⟨rfl, hxe⟩
            go_wp2_with fail
            go_ret
            exact ⟨rfl, Hxq.out.trans hxe⟩
  exact key _ _ _ _ rfl rfl rfl rfl
end Go.Proofs.YtldnjnnhfeobdaaGreatDoor
