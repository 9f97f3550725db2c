/- Parts of the proof, joined: Contracts of the reference: what is wrong with a graph; the first error of a graph and indices; Word. Conditions: a tidy graph; The law TypesChecks returns true; the reference's Word. Conditions: a tidy graph, lengths below 2^20. -/
import Derived.Test.YtldnjnnhfeobdaaGreatDoorB11
import Derived.Test.YtldnjnnhfeobdaaGreatDoorB6
import Derived.Test.YtldnjnnhfeobdaaGreatDoorB10
import Derived.Test.YtldnjnnhfeobdaaGreatDoorB8
namespace Go.Proofs.YtldnjnnhfeobdaaGreatDoor
set_option linter.all false
set_option linter.unusedSimpArgs false
set_option linter.unusedVariables false
open Go.RowKit Go.Shelf

set_option maxRecDepth 100000 in
set_option maxHeartbeats 8000000 in
theorem rcheck_any (w : World) (gv : Value) (g : Graph) (hg : Sl tyE w gv g) (hT : Tidy g) :
    Calls Tryz.prog 24 #[gv] w (Ret w (.tuple #[.int .i64 (checkG g).1, .int .i64 (checkG g).2])) := by
  have hlen := hT.len
  obtain ⟨A, cap, rfl, hs⟩ := hg.ty
  have hcall := fun (w' : World) (hx : Ext w w') (i : Nat) (hi : i < g.length) vp vm vo (hof : TyOf w g[i] vp vm vo) =>
    rsaid_any w' _ g g[i] vp vm vo (hg.mono hx) hlen (hof.mono hx) (hT.ty _ (List.getElem_mem hi)).1
  simp only [said_right] at hcall
  have Hcall := Lib.hid hcall
  have Hs := Lib.hid hs
  clear hcall hs hg hT
  obtain ⟨w0, rfl⟩ : ∃ w0 : World, w0 = w := ⟨_, rfl⟩
  by_cases h4 : 400 < g.length
  · have e : checkG g = (400, 30) := by unfold checkG; rw [if_pos h4]
    rw [e]
    have h4' : (400 : Int) < (g.length : Int) := by omega
    clear e Hcall Hs
    go_enter Tryz.func24, Tryz.ntmps24
    go_wp2_with fail
    go_ret2
    exact ⟨rfl, Ext.refl _⟩
  · have h4' : ¬ (400 : Int) < (g.length : Int) := by omega
    have H4 := Lib.hid h4
    clear h4
    go_enter Tryz.func24, Tryz.ntmps24
    go_wp2_with fail
    go_loopw [4] (fun i wr => ∃ k : Nat, k ≤ g.length ∧ i = .int .i64 k ∧ Hid (Ext w0 wr) ∧ Hid (∀ i (hi : i < g.length), i < k → rightB g g[i] = true)) (fun i _ => g.length - (intOf i).toNat)
    case atStart => exact ⟨0, by omega, by simp, Lib.hid (Ext.refl _), fun i _ h => by omega⟩
    case round =>
      obtain ⟨k, hk, rfl, Hxr, Hno⟩ := hrel
      by_cases hlt : k < g.length
      · obtain ⟨b, off, vp, vm, vo, rfl, hat, hof⟩ := Hs.out k hlt
        have hof' := Lib.hid hof
        obtain ⟨A1, c1, e1⟩ := hof.parts.len
        obtain ⟨A2, c2, e2⟩ := hof.methods.len
        obtain ⟨A3, c3, e3⟩ := hof.overs.len
        subst e1 e2 e3
        obtain ⟨d0, d1, d2, d3, d4, d5, d6, d7, d8, d9⟩ := hat.mono Hxr.out
        have l0 := cell_lt d0
        have hi0 : (0 : Int) ≤ (k : Int) := by omega
        have hi1 : (k : Int) < (g.length : Int) := by omega
        clear hat hof
        go_wp2_with fail
        refine (Hcall.out _ Hxr.out k hlt _ _ _ hof'.out).mono ?_
        rintro e w1 ⟨rfl, hx1⟩
        have Hx1 := Lib.hid (Hxr.out.trans hx1)
        clear d0 d1 d2 d3 d4 d5 d6 d7 d8 d9 hx1
        cases hr : rightB g g[k]
        · have e := Lib.hid (checkG_bad H4.out hlt Hno.out hr)
          clear hr
          go_wp2_with fail
          go_ret2
          exact ⟨by rw [e.out]; rfl, Hx1.out⟩
        · have Hr := Lib.hid hr
          clear hr
          go_wp2_with fail
          go_roundw
          case rel => exact ⟨k + 1, by omega, by go_num, Hx1, fun i h hi => by
              by_cases e : i = k
              · subst e; exact Hr.out
              · exact Hno.out i h (by omega)⟩
          case measure => simp [intOf]; omega
      · have Hall := Lib.hid (show ∀ i (hi : i < g.length), rightB g g[i] = true from fun i hi => Hno.out i hi (by omega))
        have Hmore := Lib.hid (fun j (hj : j < g.length) => cyc_more (g := g) (i := j) (fun t ht => by obtain ⟨i, hi, rfl⟩ := List.mem_iff_getElem.1 ht; exact Hall.out i hi) hj)
        clear Hno
        go_wp2_with fail
        clear hlt
        go_loopw [5] (fun i wq => ∃ k : Nat, k ≤ g.length ∧ i = .int .i64 k ∧ Hid (Ext w0 wq) ∧ Hid (∀ i, i < k → cycN g i g.length i = false)) (fun i _ => g.length - (intOf i).toNat)
        case atStart => exact ⟨0, by omega, by simp, Hxr, fun i h => by omega⟩
        case round =>
          clear Hxr
          obtain ⟨j, hj, rfl, Hxr, Hno⟩ := hrel
          by_cases hlt : j < g.length
          · have hj0 : (j : Int) < (g.length : Int) := by omega
            go_wp2_with fail
            obtain ⟨wo, rfl⟩ : ∃ wo : World, wo = wr := ⟨_, rfl⟩
            go_loopw [6, 7] (fun a i wq => ∃ n q : Nat, n ≤ g.length + 1 ∧ i = .int .i64 n ∧ q < g.length ∧ a = .int .i64 q ∧ wq = wo ∧ Hid (cycN g j (g.length + 1) j = cycN g j (g.length + 1 - n) q)) (fun _ i _ => g.length + 1 - (intOf i).toNat)
            case atStart => exact ⟨0, j, by omega, by simp, hlt, by simp, rfl, rfl⟩
            case round =>
              obtain ⟨n, q, hn, rfl, hq, rfl, rfl, Hcy⟩ := hrel
              by_cases hnl : n ≤ g.length
              · have hn1 : (n : Int) ≤ (g.length : Int) := by omega
                obtain ⟨b, off, vp, vm, vo, hA, hat, hof⟩ := Hs.out q hq
                subst hA
                have hat' := hat.mono Hxr.out
                have d0 := hat'.c0
                have d6 := hat'.c6
                have l0 := cell_lt d0
                have hi0 : (0 : Int) ≤ (q : Int) := by omega
                have hi1 : (q : Int) < (g.length : Int) := by omega
                have hgq := getT_lt hq
                clear hat hof hat'
                have hkind : (g[q].kind == 12) = true ∨ ((g[q].kind == 12) = false ∧ (g[q].kind == 13) = true) ∨ ((g[q].kind == 12) = false ∧ (g[q].kind == 13) = false) := by
                  cases (g[q].kind == 12) <;> cases (g[q].kind == 13) <;> simp
                have hsup : hasSuperB g[q].kind = (g[q].kind == 12 || g[q].kind == 13) := by
                  unfold hasSuperB
                  rw [Bool.eq_iff_iff]
                  simp
                have Hsup := Lib.hid hsup
                have Hfine := Lib.hid (fun h => (right_fine (Hall.out q hq)).super h)
                have Hgq := Lib.hid hgq
                clear hsup hgq
                by_cases hsk : (g[q].kind == 12 || g[q].kind == 13) = true
                · have hsg : hasSuperB (getT g q).kind = true := by rw [Hgq.out, Hsup.out]; exact hsk
                  obtain ⟨s0, s1⟩ := Hfine.out (Hsup.out.trans hsk)
                  have hse : superN g q = g[q].super.toNat := by unfold superN; rw [Hgq.out]
                  obtain ⟨m, hm⟩ := Int.eq_ofNat_of_zero_le s0
                  rw [hm] at d6 s1 hse
                  have hse' : superN g q = m := by rw [hse]; rfl
                  have hmlt : m < g.length := by omega
                  have hk2 : (g[q].kind == 12) = true ∨ ((g[q].kind == 12) = false ∧ (g[q].kind == 13) = true) := by
                    rcases hkind with h | h | h
                    · exact .inl h
                    · exact .inr h
                    · rw [h.1, h.2] at hsk; cases hsk
                  clear hkind hsk
                  by_cases hmj : m = j
                  · have e := Lib.hid (checkG_cyc H4.out Hall.out hlt Hno.out (by rw [← Hmore.out j hlt, Hcy.out]; exact cycN_hit (by omega) hsg (by rw [hse']; exact hmj)))
                    have hmj' : ((m : Int) == (j : Int)) = true := by rw [beq_iff_eq]; omega
                    have Hmj := Lib.hid hmj
                    clear hsg hse hse' hm hmj
                    rcases hk2 with hk | ⟨hk, hk'⟩
                    all_goals
                      go_wp2_with fail
                      go_ret2
                      exact ⟨by rw [e.out]; rfl, Hxr.out⟩
                  · have hmj' : ((m : Int) == (j : Int)) = false := by simp; omega
                    have Hc := Lib.hid (show cycN g j (g.length + 1) j = cycN g j (g.length + 1 - (n + 1)) m by
                      rw [Hcy.out, show g.length + 1 - n = (g.length + 1 - (n + 1)) + 1 by omega, cycN_go hsg (by rw [hse']; exact hmj), hse'])
                    clear hsg hse hse' hm hmj
                    rcases hk2 with hk | ⟨hk, hk'⟩
                    all_goals
                      go_wp2_with fail
                      go_roundw
                      case rel => exact ⟨n + 1, m, by omega, by go_num, hmlt, rfl, trivial, Hc⟩
                      case measure => simp [intOf]; omega
                · have hk2 : (g[q].kind == 12) = false ∧ (g[q].kind == 13) = false := by
                    rcases hkind with h | h | h
                    · rw [h] at hsk; simp at hsk
                    · rw [h.1, h.2] at hsk; simp at hsk
                    · exact h
                  obtain ⟨hk, hk'⟩ := hk2
                  have Hc := Lib.hid ((Hmore.out j hlt).symm.trans (Hcy.out.trans (cycN_stop (by rw [Hgq.out, Hsup.out, hk, hk']; rfl))))
                  clear hsk hkind
                  go_wp2_with fail
                  go_roundw
                  case rel => exact ⟨j + 1, by omega, by go_num, Hxr, fun i h => by
                      by_cases e : i = j
                      · subst e; exact Hc.out
                      · exact Hno.out i (by omega)⟩
                  case measure => simp [intOf]; omega
              · have hn1 : ¬ (n : Int) ≤ (g.length : Int) := by omega
                have Hc := Lib.hid ((Hmore.out j hlt).symm.trans (Hcy.out.trans (by rw [show g.length + 1 - n = 0 by omega, cycN])))
                go_wp2_with fail
                go_roundw
                case rel => exact ⟨j + 1, by omega, by go_num, Hxr, fun i h => by
                    by_cases e : i = j
                    · subst e; exact Hc.out
                    · exact Hno.out i (by omega)⟩
                case measure => simp [intOf]; omega
          · have e := Lib.hid (checkG_fine H4.out Hall.out (fun i hi => Hno.out i (by omega)))
            go_wp2_with fail
            go_ret2
            exact ⟨by rw [e.out]; rfl, Hxr.out⟩
theorem errG_in {g : Graph} {ats : List Int} {k : Nat} (h0 : (checkG g).2 = 0) (hk : k < ats.length) (h : ats[k] < 0 ∨ (g.length : Int) ≤ ats[k]) : errG g ats = 1 := by
  unfold errG
  rw [if_pos h0, if_pos]
  rw [List.any_eq_true]
  exact ⟨ats[k], List.getElem_mem hk, by unfold outB; rw [hasB_out (by omega)]; rfl⟩
set_option maxRecDepth 100000 in
set_option maxHeartbeats 8000000 in
theorem rchecked_any (w : World) (gv v : Value) (g : Graph) (ats : List Int) (hg : Sl tyE w gv g) (hT : Tidy g) (hv : Sl intE w v ats) (hn : ats.length ≤ 1048576) :
    Calls Tryz.prog 57 #[gv, v] w (Ret w (.int .i64 (errG g ats))) := by
  have hlen := hT.len
  have Hc := Lib.hid (rcheck_any w gv g hg hT)
  obtain ⟨A, cap, eA⟩ := hg.len
  subst eA
  obtain ⟨B, cb, eB, hs⟩ := hv.int
  subst eB
  have Hs := Lib.hid hs
  clear hg hT hv hs
  obtain ⟨w0, rfl⟩ : ∃ w0 : World, w0 = w := ⟨_, rfl⟩
  by_cases h0 : (checkG g).2 = 0
  · have hbad := fun (k : Nat) (hk : k < ats.length) h => errG_in (ats := ats) (k := k) h0 hk h
    have hgood := fun (h : ∀ j (hj : j < ats.length), 0 ≤ ats[j] ∧ ats[j] < g.length) => errG_of (checkG_ok.1 h0) (fun a ha => by obtain ⟨j, hj, rfl⟩ := List.mem_iff_getElem.1 ha; exact h j hj)
    have Hbad := Lib.hid hbad
    have Hgood := Lib.hid hgood
    have H0 := Lib.hid h0
    clear hbad hgood h0
    go_enter Tryz.func57, Tryz.ntmps57
    go_wp2_with fail
    refine Hc.out.mono ?_
    rintro e w1 ⟨rfl, hx1⟩
    rw [H0.out]
    have Hx1 := Lib.hid hx1
    clear hx1
    go_wp2_with fail
    go_loopw [7] (fun u wr => ∃ k : Nat, k ≤ ats.length ∧ u = .int .i64 k ∧ wr = w1 ∧ Hid (∀ j (hj : j < ats.length), j < k → 0 ≤ ats[j] ∧ ats[j] < g.length)) (fun u _ => ats.length - (intOf u).toNat)
    case atStart => exact ⟨0, by omega, rfl, rfl, Lib.hid (fun j _ h => by omega)⟩
    case round =>
      obtain ⟨k, hk, rfl, rfl, Hno⟩ := hrel
      by_cases hlt : k < ats.length
      · obtain ⟨b, off, rfl, a0⟩ := Hs.out k hlt
        replace a0 := Hx1.out.cell a0
        have la := cell_lt a0
        have i0 : (0 : Int) ≤ (k : Int) := by omega
        have i1 : (k : Int) < (ats.length : Int) := by omega
        have hbad := Hbad.out k hlt
        have hnext := fun (h : 0 ≤ ats[k] ∧ ats[k] < g.length) j (hj : j < ats.length) (hjk : j < k + 1) => if e : j = k then (by subst e; exact h : 0 ≤ ats[j] ∧ ats[j] < g.length) else Hno.out j hj (by omega)
        have Hb := Lib.hid hbad
        have Hnext := Lib.hid hnext
        clear hbad hnext
        generalize ats[k] = x at *
        by_cases c1 : x < 0
        · have Hv := Lib.hid (Hb.out (.inl c1))
          go_wp2_with fail
          go_ret
          rw [Hv.out]
          exact ⟨rfl, Hx1.out⟩
        · by_cases c2 : (g.length : Int) ≤ x
          · have Hv := Lib.hid (Hb.out (.inr c2))
            go_wp2_with fail
            go_ret
            rw [Hv.out]
            exact ⟨rfl, Hx1.out⟩
          · have Hn := Lib.hid (Hnext.out (by omega))
            go_wp2_with fail
            go_roundw
            case rel => exact ⟨k + 1, by omega, by go_num, trivial, Hn⟩
            case measure => simp [intOf]; omega
      · have Hv := Lib.hid (Hgood.out (fun j hj => Hno.out j hj (by omega)))
        have i1 : ¬ (k : Int) < (ats.length : Int) := by omega
        go_wp2_with fail
        go_ret
        rw [Hv.out]
        exact ⟨rfl, Hx1.out⟩
  · have hv : errG g ats = 30 := errG_bad h0
    have hne : ((checkG g).2 != 0) = true := by simpa using h0
    have hne2 : ((checkG g).2 == 0) = false := by simpa using h0
    have Hv := Lib.hid hv
    generalize (checkG g).2 = er at *
    clear hv h0
    go_enter Tryz.func57, Tryz.ntmps57
    go_wp2_with fail
    refine Hc.out.mono ?_
    rintro e w1 ⟨rfl, hx1⟩
    go_wp2_with fail
    go_ret
    rw [Hv.out]
    exact ⟨rfl, hx1⟩
end Go.Proofs.YtldnjnnhfeobdaaGreatDoor
/- The law TypesChecks returns true; the reference's Word. Conditions: a tidy graph, lengths below 2^20. -/
namespace Go.Proofs.YtldnjnnhfeobdaaGreatDoor
set_option linter.all false
set_option linter.unusedSimpArgs false
set_option linter.unusedVariables false
open Go.RowKit Go.Shelf

set_option maxRecDepth 100000 in
set_option maxHeartbeats 4000000 in
theorem rword_any (w : World) (gv : Value) (g : Graph) (a : Int) (hg : Sl tyE w gv g) (hT : Tidy g) :
    Calls Tryz.prog 26 #[gv, .int .i64 a] w (Ret w (.tuple #[.bool (wordG g a), .int .i64 (errG g [a])])) := by
  have hop := rchecked_any (w.alloc (.cells #[.int .i64 a] 3)) gv _ g [a] (hg.mono ((Ext.refl w).alloc _)) hT (lit_ints w [a] 1 rfl) (by simp)
  have hn := hT.len
  obtain ⟨A, cap, rfl, hs⟩ := hg.ty
  unfold wordG
  by_cases h0 : errG g [a] = 0
  · rw [if_pos h0]
    rw [h0] at hop ⊢
    obtain ⟨hW, hab⟩ := errG_zero h0
    obtain ⟨a0, a1⟩ := hab a (by simp)
    obtain ⟨i, rfl⟩ := Int.eq_ofNat_of_zero_le a0
    have hi : i < g.length := by omega
    rw [Int.toNat_natCast, getT_lt hi]
    obtain ⟨b, off, vp, vm, vo, rfl, hat, hof⟩ := hs i hi
    have c0 := hat.c0
    have i0 : (0 : Int) ≤ (i : Int) := by omega
    have i1 : (i : Int) < (g.length : Int) := by omega
    generalize g[i].kind = k at c0 ⊢
    have Hop := Lib.hid hop
    have hk : ∃ r, inB k 1 3 = r ∧ ((k == 1) = true ∧ r = true ∨ (k == 1) = false ∧ (k == 2) = true ∧ r = true ∨ (k == 1) = false ∧ (k == 2) = false ∧ (k == 3) = r) := by
      refine ⟨_, rfl, ?_⟩
      unfold inB
      by_cases h1 : k = 1
      · subst h1; exact .inl ⟨rfl, rfl⟩
      · by_cases h2 : k = 2
        · subst h2; exact .inr (.inl ⟨rfl, rfl, rfl⟩)
        · refine .inr (.inr ⟨by simpa using h1, by simpa using h2, ?_⟩)
          by_cases h3 : k = 3
          · subst h3; rfl
          · rw [show (k == 3) = false by simpa using h3]
            symm
            rw [Bool.and_eq_false_iff]
            simp
            omega
    obtain ⟨r, hr, hk⟩ := hk
    have Hr := Lib.hid hr
    clear hop hg hT h0 hab hW hat hof hs hr
    rcases hk with ⟨q1, rfl⟩ | ⟨q1, q2, rfl⟩ | ⟨q1, q2, q3⟩
    case inl =>
      go_enter Tryz.func26, Tryz.ntmps26
      go_wp2_with fail
      refine Hop.out.mono ?_
      rintro e w1 ⟨rfl, hx1⟩
      have Hx1 := Lib.hid (((Ext.refl w).alloc (.cells #[.int .i64 i] 3)).trans hx1)
      replace c0 := Hx1.out.cell c0
      have l0 := cell_lt c0
      clear hx1
      go_wp2_with fail
      go_ret2
      exact ⟨by rw [Hr.out]; rfl, Hx1.out⟩
    case inr.inl =>
      go_enter Tryz.func26, Tryz.ntmps26
      go_wp2_with fail
      refine Hop.out.mono ?_
      rintro e w1 ⟨rfl, hx1⟩
      have Hx1 := Lib.hid (((Ext.refl w).alloc (.cells #[.int .i64 i] 3)).trans hx1)
      replace c0 := Hx1.out.cell c0
      have l0 := cell_lt c0
      clear hx1
      go_wp2_with fail
      go_ret2
      exact ⟨by rw [Hr.out]; rfl, Hx1.out⟩
    case inr.inr =>
      cases r
      all_goals
        go_enter Tryz.func26, Tryz.ntmps26
        go_wp2_with fail
        refine Hop.out.mono ?_
        rintro e w1 ⟨rfl, hx1⟩
        have Hx1 := Lib.hid (((Ext.refl w).alloc (.cells #[.int .i64 i] 3)).trans hx1)
        replace c0 := Hx1.out.cell c0
        have l0 := cell_lt c0
        clear hx1
        go_wp2_with fail
        go_ret2
        exact ⟨by rw [Hr.out]; rfl, Hx1.out⟩
  · rw [if_neg h0]
    have hne : (errG g [a] != 0) = true := by simpa using h0
    generalize errG g [a] = er at hop hne ⊢
    have Hop := Lib.hid hop
    clear hop hg hT h0 hs
    go_enter Tryz.func26, Tryz.ntmps26
    go_wp2_with fail
    refine Hop.out.mono ?_
    rintro e w1 ⟨rfl, hx1⟩
    go_wp2_with fail
    go_ret2
    exact ⟨rfl, ((Ext.refl w).alloc _).trans hx1⟩
set_option maxRecDepth 100000 in
set_option maxHeartbeats 8000000 in
theorem checks_law (w : World) (gv : Value) (g : Graph) (a : Int) (s t : ByteArray) (hg : Sl tyE w gv g) (hT : Tidy g) (hG : Glob w) (hs : s.size ≤ 1048576) (ht : t.size ≤ 1048576) :
    Calls Tryz.prog 6 #[gv, .int .i64 a, .string s, .string t] w (Ret w (.bool true)) := by
  have Hli := Lib.hid (light_any w gv g hg hT)
  have Hal := Lib.hid (fun w' (hx : Ext w w') => alive_any w' (hG.mono hx))
  have Hch := Lib.hid (fun w' (hx : Ext w w') => check_any w' gv g (hg.mono hx) hT (hG.mono hx))
  have Hrc := Lib.hid (fun w' (hx : Ext w w') => rcheck_any w' gv g (hg.mono hx) hT)
  have Hwo := Lib.hid (fun w' (hx : Ext w w') => word_any w' gv g a (hg.mono hx) hT (hG.mono hx))
  have Hrw := Lib.hid (fun w' (hx : Ext w w') => rword_any w' gv g a (hg.mono hx) hT)
  have Hns := Lib.hid (fun w' => isName_any s w' hs)
  have Hrs := Lib.hid (fun w' => rname_any s w' hs)
  have Hnt := Lib.hid (fun w' => isName_any t w' ht)
  have Hrt := Lib.hid (fun w' => rname_any t w' ht)
  have Hys := Lib.hid (fun w' (hx : Ext w w') => isSymbol_any s w' hs (hG.mono hx))
  have Hzs := Lib.hid (fun w' => rsymbol_any s w' hs)
  have Hy := Lib.hid (fun (u : ByteArray) (hu : u.size ≤ 1048576) w' (hx : Ext w w') => isSymbol_any u w' hu (hG.mono hx))
  have Hz := Lib.hid (fun (u : ByteArray) (hu : u.size ≤ 1048576) w' => rsymbol_any u w' hu)
  obtain ⟨A, cap, eg⟩ := hg.len
  subst eg
  have hn := hT.len
  clear hg hT hG
  generalize (checkG g).1 = c1 at *
  generalize (checkG g).2 = c2 at *
  generalize wordG g a = wd at *
  generalize errG g [a] = er at *
  have hbig : ∀ (q : 100 < s.size ∨ 100 < t.size ∨ lightG g = false), Calls Tryz.prog 6 #[.slice A g.length cap, .int .i64 a, .string s, .string t] w (Ret w (.bool true)) := by
    intro q
    cases hl : lightG g with
    | false =>
      rw [hl] at Hli
      clear q
      go_enter Tryz.func6, Tryz.ntmps6
      go_wp2_with fail
      refine Hli.out.mono ?_
      rintro e w1 ⟨rfl, hx1⟩
      go_wp2_with fail
      refine (Hal.out _ hx1).mono ?_
      rintro e w2 ⟨rfl, hx2⟩
      go_wp2_with fail
      go_ret
      exact ⟨rfl, hx1.trans hx2⟩
    | true =>
      rw [hl] at Hli q
      by_cases h1 : 100 < s.size
      · have q1 : (100 : Int) < (s.size : Int) := by omega
        clear q
        go_enter Tryz.func6, Tryz.ntmps6
        go_wp2_with fail
        refine Hli.out.mono ?_
        rintro e w1 ⟨rfl, hx1⟩
        go_wp2_with fail
        refine (Hal.out _ hx1).mono ?_
        rintro e w2 ⟨rfl, hx2⟩
        go_wp2_with fail
        go_ret
        exact ⟨rfl, hx1.trans hx2⟩
      · have q1 : ¬ (100 : Int) < (s.size : Int) := by omega
        have h2 : 100 < t.size := by rcases q with q | q | q <;> first | omega | cases q
        have q2 : (100 : Int) < (t.size : Int) := by omega
        clear q
        go_enter Tryz.func6, Tryz.ntmps6
        go_wp2_with fail
        refine Hli.out.mono ?_
        rintro e w1 ⟨rfl, hx1⟩
        go_wp2_with fail
        refine (Hal.out _ hx1).mono ?_
        rintro e w2 ⟨rfl, hx2⟩
        go_wp2_with fail
        go_ret
        exact ⟨rfl, hx1.trans hx2⟩
  by_cases hq : 100 < s.size ∨ 100 < t.size ∨ lightG g = false
  · exact hbig hq
  clear hbig
  have hl : lightG g = true := by
    cases h : lightG g with
    | true => rfl
    | false => exact absurd (.inr (.inr h)) hq
  have q1 : ¬ (100 : Int) < (s.size : Int) := by omega
  have q2 : ¬ (100 : Int) < (t.size : Int) := by omega
  have hsz : s.size ≤ 100 ∧ t.size ≤ 100 := by omega
  rw [hl] at Hli
  have Hsz := Lib.hid hsz
  clear hq hl hsz
  go_enter Tryz.func6, Tryz.ntmps6
  go_wp2_with fail
  refine Hli.out.mono ?_
  rintro e w1 ⟨rfl, hx1⟩
  go_wp2_with fail
  refine (Hch.out _ hx1).mono ?_
  rintro e w2 ⟨rfl, hx2⟩
  have Hx2 := Lib.hid (hx1.trans hx2)
  clear hx1 hx2
  go_wp2_with fail
  refine (Hrc.out _ Hx2.out).mono ?_
  rintro e w3 ⟨rfl, hx3⟩
  have Hx3 := Lib.hid (Hx2.out.trans hx3)
  clear hx3
  go_wp2_with fail
  refine (Hwo.out _ Hx3.out).mono ?_
  rintro e w4 ⟨rfl, hx4⟩
  have Hx4 := Lib.hid (Hx3.out.trans hx4)
  clear hx4
  go_wp2_with fail
  refine (Hrw.out _ Hx4.out).mono ?_
  rintro e w5 ⟨rfl, hx5⟩
  have Hx5 := Lib.hid (Hx4.out.trans hx5)
  clear hx5
  go_wp2_with fail
  refine (Hns.out _).mono ?_
  rintro e w6 ⟨rfl, hx6⟩
  have Hx6 := Lib.hid (Hx5.out.trans hx6)
  clear hx6
  go_wp2_with fail
  refine (Hrs.out _).mono ?_
  rintro e w7 ⟨rfl, rfl⟩
  generalize isNameB s = n1 at *
  go_wp2_with fail
  refine (Hys.out _ Hx6.out).mono ?_
  rintro e w8 ⟨rfl, hx8⟩
  have Hx8 := Lib.hid (Hx6.out.trans hx8)
  clear hx8
  go_wp2_with fail
  refine (Hzs.out _).mono ?_
  rintro e w9 ⟨rfl, rfl⟩
  generalize isSymbolB s = n2 at *
  go_wp2_with fail
  refine (Hnt.out _).mono ?_
  rintro e w10 ⟨rfl, hx10⟩
  have Hx10 := Lib.hid (Hx8.out.trans hx10)
  clear hx10
  go_wp2_with fail
  refine (Hrt.out _).mono ?_
  rintro e w11 ⟨rfl, rfl⟩
  generalize isNameB t = n3 at *
  have hcat : (s ++ ⟨#[46]⟩ ++ t).size ≤ 1048576 := by
    have e1 : (⟨#[46]⟩ : ByteArray).size = 1 := rfl
    have := Hsz.out
    rw [ba_app_size, ba_app_size, e1]
    omega
  go_wp2_with fail
  refine (Hy.out _ hcat _ Hx10.out).mono ?_
  rintro e w12 ⟨rfl, hx12⟩
  have Hx12 := Lib.hid (Hx10.out.trans hx12)
  clear hx12
  go_wp2_with fail
  refine (Hz.out _ hcat _).mono ?_
  rintro e w13 ⟨rfl, rfl⟩
  generalize isSymbolB (s ++ ⟨#[46]⟩ ++ t) = n4 at *
  clear hcat
  go_wp2_with fail
  refine (Hal.out _ Hx12.out).mono ?_
  rintro e w14 ⟨rfl, hx14⟩
  have Hx14 := Lib.hid (Hx12.out.trans hx14)
  clear hx14
  go_wp2_with fail
  go_ret
  exact ⟨rfl, Hx14.out⟩
end Go.Proofs.YtldnjnnhfeobdaaGreatDoor
