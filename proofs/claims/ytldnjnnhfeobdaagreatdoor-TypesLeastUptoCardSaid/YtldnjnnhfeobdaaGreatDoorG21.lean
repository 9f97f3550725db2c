/- The law TypesLeast returns true. Conditions: a tidy graph. -/
import Derived.Test.YtldnjnnhfeobdaaGreatDoorG08
import Derived.Test.YtldnjnnhfeobdaaGreatDoorG06
import Derived.Test.YtldnjnnhfeobdaaGreatDoorG13
import Derived.Test.YtldnjnnhfeobdaaGreatDoorG14
namespace Go.Proofs.YtldnjnnhfeobdaaGreatDoor
set_option linter.all false
set_option linter.unusedSimpArgs false
set_option linter.unusedVariables false
open Go.RowKit Go.Shelf

structure LeastF (g m : Graph) (tl : List Int) (a : Nat) (c : Int) : Prop where
  len : tl.length = g.length
  at_ : tl[a]? = some c
  err0 : errG m [] = 0
  err1 : errG m [c] = 0
  text : textS m c = textS g (a : Int)
  again : mergeG m = m
  own : mergeTo m = (List.range m.length).map fun (n : Nat) => (n : Int)
  cls : classesR m = (List.range m.length).map fun (n : Nat) => (n : Int)
theorem least_facts {g : Graph} (hg : WF g) {a : Nat} (ha : a < g.length) : LeastF g (mergeG g) (mergeTo g) a (mergedTo g a : Nat) := by
  have hm := merge_wf hg
  have hlt : mergedTo g a < (mergeG g).length := (List.getElem?_eq_some_iff.1 (merge_at hg ha)).1
  obtain ⟨h1, h2⟩ := merge_again hm (fun j hj => merge_cls hg hj)
  have e1 : errG (mergeG g) [((mergedTo g a : Nat) : Int)] = 0 := errG_of hm (by intro x hx; simp at hx; omega)
  have e2 : errG g [(a : Int)] = 0 := errG_of hg (by intro x hx; simp at hx; omega)
  have e0 : errG (mergeG g) [] = 0 := errG_of hm (by simp)
  refine ⟨by rw [mergeTo_at hg]; simp, by rw [mergeTo_at hg]; simp [ha], e0, e1, ?_, h1, h2, ?_⟩
  · unfold textS
    rw [e1, e2, if_pos rfl, if_pos rfl, Int.toNat_natCast, Int.toNat_natCast, merge_text hg ha]
  · unfold classesR
    rw [e0, if_pos rfl, classes_id hm (fun j hj => merge_cls hg hj)]
theorem merge_none {g : Graph} (h : ¬ errG g [] = 0) : mergeG g = [] := by unfold mergeG; rw [if_neg h]
set_option maxRecDepth 100000 in
set_option maxHeartbeats 8000000 in
theorem least_law (w : World) (gv : Value) (g : Graph) (a : Int) (hg : Sl tyE w gv g) (hT : Tidy g) (hG : Glob w) :
    Calls Tryz.prog 7 #[gv, .int .i64 a] w (Ret w (.bool true)) := by
  have Hli := Lib.hid (light_any w gv g hg hT)
  have Hal := Lib.hid (fun w' (hx : Ext w w') => alive_any w' (hG.mono hx))
  have Hme := Lib.hid (fun w' (hx : Ext w w') => merge_any w' gv g (hg.mono hx) hT (hG.mono hx))
  have Hte := Lib.hid (fun w' (hx : Ext w w') => Text_any w' gv g a (hg.mono hx) hT (hG.mono hx))
  have HGl := Lib.hid hG
  have HT := Lib.hid hT
  obtain ⟨A, cap, eg⟩ := hg.len
  subst eg
  have hn := hT.len
  clear hg hT hG
  cases hl : lightG g with
  | false =>
    rw [hl] at Hli
    go_enter Tryz.func7, Tryz.ntmps7
    go_wp2_with fail
    refine Hli.out.mono ?_
    rintro e w1 ⟨rfl, hx1⟩
    go_wp2_with fail
    refine (Hal.out _ hx1).mono ?_
    rintro e w2 ⟨rfl, hx2⟩
    go_wp2_with fail
    go_ret
    exact ⟨rfl, hx1.trans hx2⟩
  | true =>
    rw [hl] at Hli
    clear hl
    by_cases h0 : errG g [] = 0
    case neg =>
      have hmn := merge_none h0
      have hne : (errG g [] != 0) = true := by simpa using h0
      unfold MergePost at Hme
      rw [hmn] at Hme
      generalize errG g [] = er at Hme hne
      generalize errG g [a] = er2 at *
      generalize textS g a = tx at *
      clear h0 hmn
      go_enter Tryz.func7, Tryz.ntmps7
      go_wp2_with fail
      refine Hli.out.mono ?_
      rintro e w1 ⟨rfl, hx1⟩
      go_wp2_with fail
      refine (Hme.out _ hx1).mono ?_
      rintro e w2 ⟨v1, v2, rfl, hv1, hv2, hx2⟩
      have Hx2 := Lib.hid (hx1.trans hx2)
      obtain ⟨A1, c1, e1⟩ := hv1.len
      subst e1
      clear hv1 hv2 hx1 hx2
      go_wp2_with fail
      refine (Hte.out _ Hx2.out).mono ?_
      rintro e w3 ⟨rfl, hx3⟩
      have Hx3 := Lib.hid (Hx2.out.trans hx3)
      clear hx3
      go_wp2_with fail
      refine (Hal.out _ Hx3.out).mono ?_
      rintro e w4 ⟨rfl, hx4⟩
      go_wp2_with fail
      go_ret
      exact ⟨rfl, Hx3.out.trans hx4⟩
    obtain ⟨hW, _⟩ := errG_zero h0
    by_cases ha : errG g [a] = 0
    case neg =>
      have hne : (errG g [a] != 0) = true := by simpa using ha
      unfold MergePost at Hme
      rw [h0] at Hme
      generalize errG g [a] = er2 at *
      generalize textS g a = tx at *
      clear h0 ha hW
      go_enter Tryz.func7, Tryz.ntmps7
      go_wp2_with fail
      refine Hli.out.mono ?_
      rintro e w1 ⟨rfl, hx1⟩
      go_wp2_with fail
      refine (Hme.out _ hx1).mono ?_
      rintro e w2 ⟨v1, v2, rfl, hv1, hv2, hx2⟩
      have Hx2 := Lib.hid (hx1.trans hx2)
      clear hv1 hv2 hx1 hx2
      go_wp2_with fail
      refine (Hte.out _ Hx2.out).mono ?_
      rintro e w3 ⟨rfl, hx3⟩
      have Hx3 := Lib.hid (Hx2.out.trans hx3)
      clear hx3
      go_wp2_with fail
      refine (Hal.out _ Hx3.out).mono ?_
      rintro e w4 ⟨rfl, hx4⟩
      go_wp2_with fail
      go_ret
      exact ⟨rfl, Hx3.out.trans hx4⟩
    obtain ⟨_, hab⟩ := errG_zero ha
    obtain ⟨a0, a1⟩ := hab a (by simp)
    obtain ⟨i, rfl⟩ := Int.eq_ofNat_of_zero_le a0
    have hi : i < g.length := by omega
    have F := least_facts hW hi
    have hTm := tidy_merge HT.out hW
    generalize ((mergedTo g i : Nat) : Int) = c at F
    unfold MergePost at Hme
    rw [h0] at Hme
    rw [ha] at Hte
    have hml := merge_len hW
    generalize mergeG g = m at *
    generalize mergeTo g = tl at *
    have hto := F.at_
    have htl := F.len
    have hmm := hTm.len
    have Hcl := Lib.hid (fun w' v (hx : Ext w w') (hv : Sl tyE w' v m) => Classes_any w' v m hv hTm (HGl.out.mono hx))
    have Hmm := Lib.hid (fun w' v (hx : Ext w w') (hv : Sl tyE w' v m) => merge_any w' v m hv hTm (HGl.out.mono hx))
    have Htm := Lib.hid (fun w' v (hx : Ext w w') (hv : Sl tyE w' v m) => Text_any w' v m c hv hTm (HGl.out.mono hx))
    have Hsm := Lib.hid (fun w' u v (hu : Sl tyE w' u m) (hv : Sl tyE w' v m) => rsame_any w' u v m m hu hv hTm hTm)
    unfold ClassesPost at Hcl
    unfold MergePost at Hmm
    rw [F.err0, F.cls] at Hcl
    rw [F.err0, F.again, F.own] at Hmm
    rw [F.err1, F.text] at Htm
    simp only [sameGr_refl] at Hsm
    generalize textS g (i : Int) = tx at *
    have Hto := Lib.hid hto
    have Htl := Lib.hid htl
    clear F hto htl hTm h0 ha hab a0 a1 hW
    go_enter Tryz.func7, Tryz.ntmps7
    go_wp2_with fail
    refine Hli.out.mono ?_
    rintro e w1 ⟨rfl, hx1⟩
    go_wp2_with fail
    refine (Hme.out _ hx1).mono ?_
    rintro e w2 ⟨v1, v2, rfl, hv1, hv2, hx2⟩
    obtain ⟨A1, c1, e1⟩ := hv1.len
    obtain ⟨A2, c2, e2, hs2⟩ := hv2.int
    rw [Htl.out] at e2
    subst e1 e2
    obtain ⟨bt, ot, eA, k2⟩ := hs2 i (by rw [Htl.out]; exact hi)
    have k2' : w2.cell? ⟨bt, ot + i, none⟩ = some (.int .i64 c) := by
      rw [k2]
      have := Hto.out
      rw [List.getElem?_eq_some_iff] at this
      obtain ⟨_, h⟩ := this
      rw [h]
    subst eA
    have Hx2 := Lib.hid (hx1.trans hx2)
    have Hv1 := Lib.hid hv1
    have K2 := Lib.hid k2'
    clear hv1 hv2 hx1 hx2 hs2 k2 k2' Hme
    go_wp2_with fail
    refine (Hte.out _ Hx2.out).mono ?_
    rintro e w3 ⟨rfl, hx3⟩
    have Hx3 := Lib.hid (Hx2.out.trans hx3)
    replace Hv1 := Lib.hid (Hv1.out.mono hx3)
    replace K2 := Lib.hid (hx3.cell K2.out)
    clear hx3 Hx2
    have q0 : ((g.length : Int) == (g.length : Int)) = true := by simp
    go_wp2_with fail
    refine (Hcl.out _ _ Hx3.out Hv1.out).mono ?_
    rintro e w4 ⟨v4, rfl, hv4, hx4⟩
    obtain ⟨A4, c4, e4⟩ := hv4.len
    rw [List.length_map, List.length_range] at e4
    subst e4
    have Hx4 := Lib.hid (Hx3.out.trans hx4)
    replace Hv1 := Lib.hid (Hv1.out.mono hx4)
    replace K2 := Lib.hid (hx4.cell K2.out)
    have Hv4 := Lib.hid hv4
    clear hx4 Hx3 hv4
    go_wp2_with fail
    refine (Hmm.out _ _ Hx4.out Hv1.out).mono ?_
    rintro e w5 ⟨v5, v6, rfl, hv5, hv6, hx5⟩
    obtain ⟨A5, c5, e5⟩ := hv5.len
    obtain ⟨A6, c6, e6⟩ := hv6.len
    rw [List.length_map, List.length_range] at e6
    subst e5 e6
    have Hx5 := Lib.hid (Hx4.out.trans hx5)
    replace Hv1 := Lib.hid (Hv1.out.mono hx5)
    have k3 := hx5.cell K2.out
    replace Hv4 := Lib.hid (Hv4.out.mono hx5)
    have Hv5 := Lib.hid hv5
    have Hv6 := Lib.hid hv6
    have l3 := cell_lt k3
    have i0 : (0 : Int) ≤ (i : Int) := by omega
    have i1 : (i : Int) < (g.length : Int) := by omega
    clear hx5 Hx4 hv5 hv6 K2
    go_wp2_with fail
    refine (Htm.out _ _ Hx5.out Hv1.out).mono ?_
    rintro e w6 ⟨rfl, hx6⟩
    have Hx6 := Lib.hid (Hx5.out.trans hx6)
    replace Hv1 := Lib.hid (Hv1.out.mono hx6)
    replace Hv4 := Lib.hid (Hv4.out.mono hx6)
    replace Hv5 := Lib.hid (Hv5.out.mono hx6)
    replace Hv6 := Lib.hid (Hv6.out.mono hx6)
    clear hx6 Hx5 k3 l3
    have q1 : (tx.toList == tx.toList) = true := by simp
    have q2 : (tx.toList != tx.toList) = false := by simp
    go_wp2_with fail
    refine (Hsm.out _ _ _ Hv1.out Hv5.out).mono ?_
    rintro e w7 ⟨rfl, hx7⟩
    have Hx7 := Lib.hid (Hx6.out.trans hx7)
    replace Hv4 := Lib.hid (Hv4.out.mono hx7)
    replace Hv6 := Lib.hid (Hv6.out.mono hx7)
    clear hx7 Hx6 Hv1 Hv5
    go_wp2_with fail
    clear q0 q1 q2 i0 i1
    go_loopw [17] (fun u wr => ∃ k : Nat, k ≤ m.length ∧ u = .int .i64 k ∧ Hid (Ext w7 wr)) (fun u _ => m.length - (intOf u).toNat)
    case atStart => exact ⟨0, by omega, rfl, Lib.hid (Ext.refl _)⟩
    case round =>
      obtain ⟨k, hk, rfl, Hx⟩ := hrel
      by_cases hlt : k < m.length
      · obtain ⟨Aa, ca, ea, ha⟩ := Hv4.out.int
        obtain ⟨Ab, cb, eb, hb⟩ := Hv6.out.int
        simp only [Value.slice.injEq] at ea eb
        obtain ⟨rfl, -, rfl⟩ := ea
        obtain ⟨rfl, -, rfl⟩ := eb
        obtain ⟨ba, oa, rfl, p0⟩ := ha k (by simpa using hlt)
        obtain ⟨bb, ob, rfl, p1⟩ := hb k (by simpa using hlt)
        rw [List.getElem_map, List.getElem_range] at p0 p1
        replace p0 := Hx.out.cell p0
        replace p1 := Hx.out.cell p1
        have l0 := cell_lt p0
        have l1 := cell_lt p1
        have j0 : (0 : Int) ≤ (k : Int) := by omega
        have j1 : (k : Int) < (m.length : Int) := by omega
        clear ha hb
        go_wp2_with fail
        go_roundw
        case rel => exact ⟨k + 1, by omega, by go_num, Hx⟩
        case measure => simp [intOf]; omega
      · have j1 : ¬ (k : Int) < (m.length : Int) := by omega
        go_wp2_with fail
        refine (Hal.out _ (Hx7.out.trans Hx.out)).mono ?_
        rintro e w8 ⟨rfl, hx8⟩
        go_wp2_with fail
        go_ret
        exact ⟨rfl, (Hx7.out.trans Hx.out).trans hx8⟩
end Go.Proofs.YtldnjnnhfeobdaaGreatDoor
