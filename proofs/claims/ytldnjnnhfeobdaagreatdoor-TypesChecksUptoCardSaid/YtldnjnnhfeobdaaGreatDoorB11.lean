/- Parts of the proof, joined: Contracts of the reference: equal lists of strings, signatures, parts. Conditions: lengths below 2^20; Contract of the reference: parts have different names, and types of a graph. Conditions: lengths below 2^20; Contract of the reference: methods and overrides are as said. Conditions: lengths below 2^20; Contract of the reference: a type as said in itself. Conditions: lengths below 2^20. -/
import Derived.Test.YtldnjnnhfeobdaaGreatDoorB10
namespace Go.Proofs.YtldnjnnhfeobdaaGreatDoor
set_option linter.all false
set_option linter.unusedSimpArgs false
set_option linter.unusedVariables false
open Go.RowKit Go.Shelf

set_option maxRecDepth 100000 in
set_option maxHeartbeats 4000000 in
theorem rstrings_any (w : World) (u v : Value) (xs ys : List ByteArray) (hu : Sl strE w u xs) (hv : Sl strE w v ys) (hx : xs.length ≤ 1048576) (hy : ys.length ≤ 1048576) :
    Calls Tryz.prog 86 #[u, v] w (Ret w (.bool (eqF strEq xs ys))) := by
  obtain ⟨A, ca, rfl, ha⟩ := hu.str
  obtain ⟨B, cb, rfl, hb⟩ := hv.str
  have Ha := Lib.hid ha
  have Hb := Lib.hid hb
  clear ha hb hu hv
  by_cases hl : xs.length = ys.length
  · have hl' : ((xs.length : Int) == (ys.length : Int)) = true := by simp; omega
    have hln : ((xs.length : Int) != (ys.length : Int)) = false := by simp; omega
    obtain ⟨wo, rfl⟩ : ∃ wo : World, wo = w := ⟨_, rfl⟩
    go_enter Tryz.func86, Tryz.ntmps86
    go_wp2_with fail
    go_loopw [5] (fun u wr => ∃ k : Nat, k ≤ xs.length ∧ u = .int .i64 k ∧ Hid (Ext wo wr) ∧ Hid (∀ j (h1 : j < xs.length) (h2 : j < ys.length), j < k → strEq xs[j] ys[j] = true)) (fun u _ => xs.length - (intOf u).toNat)
    case atStart => exact ⟨0, by omega, rfl, Lib.hid (Ext.refl _), Lib.hid (fun j _ _ h => by omega)⟩
    case round =>
      obtain ⟨k, hk, rfl, Hx, Hno⟩ := hrel
      by_cases hlt : k < xs.length
      · obtain ⟨b1, o1, rfl, c1⟩ := Ha.out k hlt
        obtain ⟨b2, o2, rfl, c2⟩ := Hb.out k (by omega)
        replace c1 := Hx.out.cell c1
        replace c2 := Hx.out.cell c2
        have l1 := cell_lt c1
        have l2 := cell_lt c2
        have i0 : (0 : Int) ≤ (k : Int) := by omega
        have i1 : (k : Int) < (xs.length : Int) := by omega
        have i2 : (k : Int) < (ys.length : Int) := by omega
        have hlt2 : k < ys.length := by omega
        have Hs := Lib.hid (show strEq xs[k] ys[k] = (xs[k].toList == ys[k].toList) from rfl)
        cases he : (xs[k].toList == ys[k].toList) with
        | true =>
          have Hse := Lib.hid (Hs.out.trans he)
          have hnext := fun j (h1 : j < xs.length) (h2 : j < ys.length) (hjk : j < k + 1) => if e : j = k then (by subst e; exact Hse.out : strEq xs[j] ys[j] = true) else Hno.out j h1 h2 (by omega)
          have Hn := Lib.hid hnext
          have he2 : xs[k].toList = ys[k].toList := by simpa using he
          clear hnext
          go_wp2_with fail
          go_quiet (fail)
          go_wp2_with fail
          go_roundw
          case rel => exact ⟨k + 1, by omega, by go_num, Lib.hid (Hx.out.drewN _), Hn⟩
          case measure => simp [intOf]; omega
        | false =>
          have hf : eqF strEq xs ys = false := eqF_no hlt hlt2 (Hs.out.trans he)
          have he2 : ¬ xs[k].toList = ys[k].toList := by simpa using he
          have he3 : (xs[k].toList != ys[k].toList) = true := by simpa using he
          have Hf := Lib.hid hf
          clear hf Hs
          generalize xs[k] = x at *
          generalize ys[k] = y at *
          go_wp2_with fail
          go_quiet (fail)
          go_wp2_with fail
          go_ret
          rw [Hf.out]
          exact ⟨rfl, Hx.out.drewN _⟩
      · have i1 : ¬ (k : Int) < (xs.length : Int) := by omega
        have hf : eqF strEq xs ys = true := eqF_yes hl (j := k) hlt (fun i h1 h2 h3 => Hno.out i h1 h2 h3)
        have Hf := Lib.hid hf
        clear hf
        go_wp2_with fail
        go_ret
        rw [Hf.out]
        exact ⟨rfl, Hx.out⟩
  · have hln : ((xs.length : Int) != (ys.length : Int)) = true := by simp; omega
    have hf : eqF strEq xs ys = false := eqF_len hl
    rw [hf]
    go_enter Tryz.func86, Tryz.ntmps86
    go_wp2_with fail
    go_ret
    exact ⟨rfl, Ext.refl _⟩
theorem sig_long {n : Nat} {m : Method} (h : 6 < m.args.length ∨ 6 < m.raises.length ∨ m.result < -1 ∨ (n : Int) ≤ m.result) : sigB n m = false := by
  cases hb : sigB n m with
  | false => rfl
  | true =>
    unfold sigB at hb
    simp only [Bool.and_eq_true, decide_eq_true_iff, Bool.or_eq_true, hasB_iff] at hb
    omega
theorem sig_arg {n : Nat} {m : Method} {k : Nat} (hk : k < m.args.length) (h : m.args[k] < 0 ∨ (n : Int) ≤ m.args[k]) : sigB n m = false := by
  cases hb : sigB n m with
  | false => rfl
  | true =>
    unfold sigB at hb
    simp only [Bool.and_eq_true, Bool.not_eq_true', List.any_eq_false] at hb
    have := hb.1.2.2.2 _ (List.getElem_mem hk)
    have h2 : hasB n m.args[k] = true := by simpa using this
    rw [hasB_iff] at h2
    omega
theorem sig_rest {n : Nat} {m : Method} (h1 : ¬ 6 < m.args.length) (h2 : ¬ 6 < m.raises.length) (h3 : ¬ m.result < -1) (h4 : ¬ (n : Int) ≤ m.result)
    (h5 : ∀ j (hj : j < m.args.length), 0 ≤ m.args[j] ∧ m.args[j] < n) : sigB n m = raisesFrom none m.raises := by
  unfold sigB
  have e1 : decide (m.args.length ≤ 6) = true := decide_eq_true (by omega)
  have e2 : decide (m.raises.length ≤ 6) = true := decide_eq_true (by omega)
  have e3 : (decide (m.result = -1) || hasB n m.result) = true := by
    by_cases h : m.result = -1
    · simp [h]
    · rw [Bool.or_eq_true]; exact .inr (hasB_iff.2 (by omega))
  have e4 : (m.args.any fun i => !hasB n i) = false := by
    rw [List.any_eq_false]
    intro x hx
    obtain ⟨j, hj, rfl⟩ := List.mem_iff_getElem.1 hx
    simp [hasB_iff.2 (h5 j hj)]
  rw [e1, e2, e3, e4]
  rfl
set_option maxRecDepth 100000 in
set_option maxHeartbeats 8000000 in
theorem rsig_any (w : World) (A : Option Addr) (n cap : Nat) (m : Method) (va vr : Value) (hn : n ≤ 1048576) (ha : Sl intE w va m.args) (hr : Sl strE w vr m.raises)
    (hal : m.args.length ≤ 1048576) (hrl : m.raises.length ≤ 1048576) (hrs : ∀ r ∈ m.raises, r.size ≤ 1048576) :
    Calls Tryz.prog 161 #[.slice A n cap, .agg #[va, .int .i64 m.result, vr]] w (Ret w (.bool (sigB n m))) := by
  obtain ⟨Aa, ca, rfl, hca⟩ := ha.int
  obtain ⟨Ar, cr, rfl, hcr⟩ := hr.str
  have Hca := Lib.hid hca
  have Hcr := Lib.hid hcr
  have Hrs := Lib.hid hrs
  clear ha hr hca hcr hrs
  by_cases h1 : 6 < m.args.length
  · have p1 : (6 : Int) < (m.args.length : Int) := by omega
    rw [sig_long (.inl h1)]
    go_enter Tryz.func161, Tryz.ntmps161
    go_wp2_with fail
    go_ret
    exact ⟨rfl, (Ext.refl _).alloc _⟩
  by_cases h2 : 6 < m.raises.length
  · have p1 : ¬ (6 : Int) < (m.args.length : Int) := by omega
    have p2 : (6 : Int) < (m.raises.length : Int) := by omega
    rw [sig_long (.inr (.inl h2))]
    go_enter Tryz.func161, Tryz.ntmps161
    go_wp2_with fail
    go_ret
    exact ⟨rfl, (Ext.refl _).alloc _⟩
  by_cases h3 : m.result < -1
  · have p1 : ¬ (6 : Int) < (m.args.length : Int) := by omega
    have p2 : ¬ (6 : Int) < (m.raises.length : Int) := by omega
    rw [sig_long (.inr (.inr (.inl h3)))]
    go_enter Tryz.func161, Tryz.ntmps161
    go_wp2_with fail
    go_ret
    exact ⟨rfl, (Ext.refl _).alloc _⟩
  by_cases h4 : (n : Int) ≤ m.result
  · have p1 : ¬ (6 : Int) < (m.args.length : Int) := by omega
    have p2 : ¬ (6 : Int) < (m.raises.length : Int) := by omega
    rw [sig_long (.inr (.inr (.inr h4)))]
    go_enter Tryz.func161, Tryz.ntmps161
    go_wp2_with fail
    go_ret
    exact ⟨rfl, (Ext.refl _).alloc _⟩
  have p1 : ¬ (6 : Int) < (m.args.length : Int) := by omega
  have p2 : ¬ (6 : Int) < (m.raises.length : Int) := by omega
  have hx0 := (Ext.refl w).alloc (.cells #[.slice Aa m.args.length ca, .int .i64 m.result, .slice Ar m.raises.length cr] 72)
  have hbx := heap_alloc_self w (.cells #[.slice Aa m.args.length ca, .int .i64 m.result, .slice Ar m.raises.length cr] 72)
  have Hc0 := Lib.hid (heap_cell hbx 0 _ rfl)
  have Hc2 := Lib.hid (heap_cell hbx 2 _ rfl)
  have Hx0 := Lib.hid hx0
  have Hrest := Lib.hid (fun h5 => sig_rest (n := n) h1 h2 h3 h4 h5)
  clear hx0 hbx
  go_enter Tryz.func161, Tryz.ntmps161
  go_wp2_with fail
  generalize (w.alloc (.cells #[.slice Aa m.args.length ca, .int .i64 m.result, .slice Ar m.raises.length cr] 72)) = w1 at *
  generalize w.heap.size = b1 at *
  go_loopw [5] (fun u wr => ∃ k : Nat, k ≤ m.args.length ∧ u = .int .i64 k ∧ wr = w1 ∧ Hid (∀ j (hj : j < m.args.length), j < k → 0 ≤ m.args[j] ∧ m.args[j] < n)) (fun u _ => m.args.length - (intOf u).toNat)
  case atStart => exact ⟨0, by omega, rfl, rfl, Lib.hid (fun j _ h => by omega)⟩
  case round =>
    obtain ⟨k, hk, rfl, rfl, Hno⟩ := hrel
    have d0 := Hc0.out
    have l0 := cell_lt d0
    by_cases hlt : k < m.args.length
    · obtain ⟨b, off, rfl, a0⟩ := Hca.out k hlt
      replace a0 := Hx0.out.cell a0
      have la := cell_lt a0
      have i0 : (0 : Int) ≤ (k : Int) := by omega
      have i1 : (k : Int) < (m.args.length : Int) := by omega
      have hbad := sig_arg (n := n) hlt
      have hnext := fun (h : 0 ≤ m.args[k] ∧ m.args[k] < n) j (hj : j < m.args.length) (hjk : j < k + 1) => if e : j = k then (by subst e; exact h : 0 ≤ m.args[j] ∧ m.args[j] < n) else Hno.out j hj (by omega)
      have Hbad := Lib.hid hbad
      have Hnext := Lib.hid hnext
      clear hbad hnext
      generalize m.args[k] = x at *
      by_cases c1 : x < 0
      · have Hb := Lib.hid (Hbad.out (.inl c1))
        go_wp2_with fail
        go_ret
        rw [Hb.out]
        exact ⟨rfl, Hx0.out⟩
      · by_cases c2 : (n : Int) ≤ x
        · have Hb := Lib.hid (Hbad.out (.inr c2))
          go_wp2_with fail
          go_ret
          rw [Hb.out]
          exact ⟨rfl, Hx0.out⟩
        · have Hn := Lib.hid (Hnext.out (by omega))
          go_wp2_with fail
          go_roundw
          case rel => exact ⟨k + 1, by omega, by go_num, trivial, Hn⟩
          case measure => simp [intOf]; omega
    · have hrest := Hrest.out (fun j hj => Hno.out j hj (by omega))
      have i1 : ¬ (k : Int) < (m.args.length : Int) := by omega
      have Hsig := Lib.hid hrest
      clear hrest Hno hk
      go_wp2_with fail
      obtain ⟨wa, rfl⟩ : ∃ wa : World, wa = wr := ⟨_, rfl⟩
      go_loopw [6] (fun u wr => ∃ k : Nat, k ≤ m.raises.length ∧ u = .int .i64 k ∧ Hid (Ext wa wr) ∧ Hid (raisesFrom none m.raises = raisesFrom (prevAt m.raises k) (m.raises.drop k))) (fun u _ => m.raises.length - (intOf u).toNat)
      case atStart => exact ⟨0, by omega, rfl, Lib.hid (Ext.refl _), by simp [Hid, prevAt]⟩
      case round =>
        clear d0 l0
        obtain ⟨k, hk, rfl, Hx, Hinv⟩ := hrel
        have d2 := Hx.out.cell Hc2.out
        have l2 := cell_lt d2
        by_cases hlt : k < m.raises.length
        · obtain ⟨b, off, rfl, a0⟩ := Hcr.out k hlt
          replace a0 := (Hx0.out.trans Hx.out).cell a0
          have la := cell_lt a0
          have i0 : (0 : Int) ≤ (k : Int) := by omega
          have i1 : (k : Int) < (m.raises.length : Int) := by omega
          have Hinv2 : Hid (raisesFrom none m.raises = (raiseOk (prevAt m.raises k) m.raises[k] && raisesFrom (prevAt m.raises (k + 1)) (m.raises.drop (k + 1)))) := by
            rw [Hinv.out, raises_step _ _ hlt]; rfl
          have Hal := Lib.hid (show (m.raises[k].toList == [65, 76, 69, 82, 84, 69, 68]) = strEq m.raises[k] alerted by rw [← alerted_toList]; rfl)
          have hsz := Hrs.out _ (List.getElem_mem hlt)
          have Hsy := Lib.hid (fun w => rsymbol_any m.raises[k] w hsz)
          have Hbad := Lib.hid (fun (h : raiseOk (prevAt m.raises k) m.raises[k] = false) => (Hsig.out.trans (Hinv2.out.trans (by rw [h]; rfl)) : sigB n m = false))
          have Hgood := Lib.hid (fun (h : raiseOk (prevAt m.raises k) m.raises[k] = true) => (Hinv2.out.trans (by rw [h]; exact Bool.true_and _) : raisesFrom none m.raises = raisesFrom (prevAt m.raises (k + 1)) (m.raises.drop (k + 1))))
          have hprev : ∃ pl : Bool, Hid (raiseOk (prevAt m.raises k) m.raises[k] = ((strEq m.raises[k] alerted || isSymbolB m.raises[k]) && pl)) ∧
              (k = 0 ∧ pl = true ∨ ∃ i, k = i + 1 ∧ ∃ (hi : i < m.raises.length), Op.bytesLess m.raises[i].toList m.raises[k].toList = pl) := by
            cases k with
            | zero => exact ⟨true, rfl, .inl ⟨rfl, rfl⟩⟩
            | succ i => exact ⟨lessB m.raises[i] m.raises[i + 1], by simp only [Hid, raiseOk, prevAt_pos _ _ hlt], .inr ⟨i, rfl, by omega, rfl⟩⟩
          obtain ⟨pl, Hro, hpl⟩ := hprev
          clear Hinv Hinv2
          generalize hr : m.raises[k] = r at *
          generalize strEq r alerted = al at Hal Hro
          generalize isSymbolB r = sy at Hsy Hro
          have hal := Hal.out
          clear Hal hsz hr
          cases al with
          | false =>
            have hal2 : ¬ r.toList = [65, 76, 69, 82, 84, 69, 68] := by simpa using hal
            have hal3 : (r.toList != [65, 76, 69, 82, 84, 69, 68]) = true := by simpa using hal
            cases sy with
            | false =>
              have Hb := Lib.hid (Hbad.out Hro.out)
              go_wp2_with fail
              go_quiet ((go_at_call 30; exact Calls.quiet_of_same (Hsy.out _)))
              go_wp2_with fail
              go_ret
              rw [Hb.out]
              exact ⟨rfl, Hx0.out.trans (Hx.out.drewN _)⟩
            | true =>
              rcases hpl with ⟨rfl, rfl⟩ | ⟨i, rfl, hi, hless⟩
              · have Hg := Lib.hid (Hgood.out Hro.out)
                have j0 : decide ((0 : Int) < ((0 : Nat) : Int)) = false := rfl
                simp only [Nat.add_zero] at a0 la
                clear Hro
                go_wp2_with fail
                go_quiet ((go_at_call 30; exact Calls.quiet_of_same (Hsy.out _)))
                go_wp2_with fail
                go_roundw
                case rel => exact ⟨1, by omega, by go_num, Lib.hid (Hx.out.drewN _), Hg⟩
                case measure => simp [intOf]; omega
              · obtain ⟨b', off', hb', a1⟩ := Hcr.out i hi
                cases hb'
                replace a1 := (Hx0.out.trans Hx.out).cell a1
                generalize m.raises[i] = p at *
                have j0 : decide ((0 : Int) < ((i + 1 : Nat) : Int)) = true := decide_eq_true (by omega)
                have j1 : (0 : Int) < ((i + 1 : Nat) : Int) := by omega
                cases pl with
                | true =>
                  have Hg := Lib.hid (Hgood.out Hro.out)
                  clear Hro
                  go_wp2_with fail
                  go_quiet ((go_at_call 30; exact Calls.quiet_of_same (Hsy.out _)))
                  go_wp2_with fail
                  go_roundw
                  case rel => exact ⟨i + 1 + 1, by omega, by go_num, Lib.hid (Hx.out.drewN _), Hg⟩
                  case measure => simp [intOf]; omega
                | false =>
                  have Hb := Lib.hid (Hbad.out Hro.out)
                  clear Hro
                  go_wp2_with fail
                  go_quiet ((go_at_call 30; exact Calls.quiet_of_same (Hsy.out _)))
                  go_wp2_with fail
                  go_ret
                  rw [Hb.out]
                  exact ⟨rfl, Hx0.out.trans (Hx.out.drewN _)⟩
          | true =>
            have hal3 : (r.toList != [65, 76, 69, 82, 84, 69, 68]) = false := by simpa using hal
            rcases hpl with ⟨rfl, rfl⟩ | ⟨i, rfl, hi, hless⟩
            · have Hg := Lib.hid (Hgood.out Hro.out)
              have j0 : decide ((0 : Int) < ((0 : Nat) : Int)) = false := rfl
              simp only [Nat.add_zero] at a0 la
              clear Hro
              go_wp2_with fail
              go_quiet (fail)
              go_wp2_with fail
              go_roundw
              case rel => exact ⟨1, by omega, by go_num, Lib.hid (Hx.out.drewN _), Hg⟩
              case measure => simp [intOf]; omega
            · obtain ⟨b', off', hb', a1⟩ := Hcr.out i hi
              cases hb'
              replace a1 := (Hx0.out.trans Hx.out).cell a1
              generalize m.raises[i] = p at *
              have j0 : decide ((0 : Int) < ((i + 1 : Nat) : Int)) = true := decide_eq_true (by omega)
              have j1 : (0 : Int) < ((i + 1 : Nat) : Int) := by omega
              cases pl with
              | true =>
                have Hg := Lib.hid (Hgood.out Hro.out)
                clear Hro
                go_wp2_with fail
                go_quiet (fail)
                go_wp2_with fail
                go_roundw
                case rel => exact ⟨i + 1 + 1, by omega, by go_num, Lib.hid (Hx.out.drewN _), Hg⟩
                case measure => simp [intOf]; omega
              | false =>
                have Hb := Lib.hid (Hbad.out Hro.out)
                clear Hro
                go_wp2_with fail
                go_quiet (fail)
                go_wp2_with fail
                go_ret
                rw [Hb.out]
                exact ⟨rfl, Hx0.out.trans (Hx.out.drewN _)⟩
        · have hf : raisesFrom none m.raises = true := by rw [Hinv.out, List.drop_of_length_le (by omega)]; rfl
          have i1 : ¬ (k : Int) < (m.raises.length : Int) := by omega
          have Hf := Lib.hid (Hsig.out.trans hf)
          clear hf
          go_wp2_with fail
          go_ret
          rw [Hf.out]
          exact ⟨rfl, Hx0.out.trans Hx.out⟩
end Go.Proofs.YtldnjnnhfeobdaaGreatDoor
/- Contract of the reference: parts have different names, and types of a graph. Conditions: lengths below 2^20. -/
namespace Go.Proofs.YtldnjnnhfeobdaaGreatDoor
set_option linter.all false
set_option linter.unusedSimpArgs false
set_option linter.unusedVariables false
open Go.RowKit Go.Shelf

theorem memB_yes {α : Type} (nm : α → ByteArray) {l : List α} {j k : Nat} (hjk : j < k) (hk : k < l.length) (h : (nm l[j]).toList = (nm l[k]).toList) : memB (nm l[k]) ((l.take k).map nm) = true := by
  rw [memB_iff, ← ba_toList_inj h]
  refine List.mem_map_of_mem ?_
  rw [List.mem_take_iff_getElem]
  exact ⟨j, by omega, rfl⟩
theorem memB_no {α : Type} (nm : α → ByteArray) {l : List α} {k : Nat} (hk : k < l.length) (h : ∀ j (hj : j < l.length), j < k → ¬ (nm l[j]).toList = (nm l[k]).toList) : memB (nm l[k]) ((l.take k).map nm) = false := by
  cases hb : memB (nm l[k]) ((l.take k).map nm) with
  | false => rfl
  | true =>
    rw [memB_iff] at hb
    obtain ⟨x, hx, he⟩ := List.mem_map.1 hb
    rw [List.mem_take_iff_getElem] at hx
    obtain ⟨j, hj, rfl⟩ := hx
    exact absurd (by rw [he]) (h j (by omega) (by omega))
theorem parts_step (n : Nat) (l : List Part) (k : Nat) (hk : k < l.length) : partsFrom n ((l.take k).map Part.name) (l.drop k) =
    (isNameB l[k].name && (hasB n l[k].type && (!memB l[k].name ((l.take k).map Part.name) && partsFrom n ((l.take (k + 1)).map Part.name) (l.drop (k + 1))))) := by
  rw [drop_cons' l k hk, partsFrom, ← take_snoc' l k hk, List.map_append]; rfl
theorem parts_end (n : Nat) (l : List Part) (k : Nat) (hk : ¬ k < l.length) : partsFrom n ((l.take k).map Part.name) (l.drop k) = true := by
  rw [List.drop_of_length_le (by omega)]; rfl
theorem hasB_out {n : Nat} {i : Int} (h : ¬ (0 ≤ i ∧ i < n)) : hasB n i = false := by
  cases hb : hasB n i with
  | false => rfl
  | true => exact absurd (hasB_iff.1 hb) h
set_option maxRecDepth 100000 in
set_option maxHeartbeats 8000000 in
theorem rparts_any (w : World) (A : Option Addr) (n cap : Nat) (v : Value) (l : List Part) (hn : n ≤ 1048576) (hv : Sl partE w v l) (hl : l.length ≤ 1048576) (hs : ∀ p ∈ l, p.name.size ≤ 1048576) :
    Calls Tryz.prog 118 #[.slice A n cap, v] w (Ret w (.bool (partsB n l))) := by
  obtain ⟨B, cb, rfl, hc⟩ := hv.part
  have Hc := Lib.hid hc
  have Hs := Lib.hid hs
  clear hc hs hv
  obtain ⟨wo, rfl⟩ : ∃ wo : World, wo = w := ⟨_, rfl⟩
  have Hbad := Lib.hid (fun (h : partsFrom n [] l = false) => (show partsB n l = false by unfold partsB; rw [h]; rfl))
  have Hgood := Lib.hid (fun (h : partsFrom n [] l = true) => (show partsB n l = decide (l.length ≤ 8) by unfold partsB; rw [h]; rfl))
  go_enter Tryz.func118, Tryz.ntmps118
  go_wp2_with fail
  go_loopw [5] (fun u wr => ∃ k : Nat, k ≤ l.length ∧ u = .int .i64 k ∧ Hid (Ext wo wr) ∧ Hid (partsFrom n [] l = partsFrom n ((l.take k).map Part.name) (l.drop k))) (fun u _ => l.length - (intOf u).toNat)
  case atStart => exact ⟨0, by omega, rfl, Lib.hid (Ext.refl _), Lib.hid rfl⟩
  case round =>
    obtain ⟨k, hk, rfl, Hx, Hinv⟩ := hrel
    by_cases hlt : k < l.length
    · obtain ⟨b, off, rfl, p0, p1⟩ := Hc.out k hlt
      have P0 := Lib.hid p0
      replace p0 := Hx.out.cell p0
      replace p1 := Hx.out.cell p1
      have lp := cell_lt p0
      have i0 : (0 : Int) ≤ (k : Int) := by omega
      have i1 : (k : Int) < (l.length : Int) := by omega
      have Hstep := Lib.hid (Hinv.out.trans (parts_step n l k hlt))
      have hsz := Hs.out _ (List.getElem_mem hlt)
      have Hnm := Lib.hid (fun w => rname_any l[k].name w hsz)
      have Hyes := Lib.hid (fun j (hj : j < k) => memB_yes Part.name (j := j) hj hlt)
      have Hnone := Lib.hid (memB_no Part.name hlt)
      generalize hp : l[k] = p at *
      clear hsz Hinv hp
      cases hname : isNameB p.name with
      | false =>
        have Hb := Lib.hid (Hbad.out (Hstep.out.trans (by rw [hname]; rfl)))
        have Hname := Lib.hid hname
        clear hname
        go_wp2_with fail
        refine (Hnm.out _).mono ?_
        rintro e w1 ⟨rfl, rfl⟩
        rw [Hname.out]
        go_wp2_with fail
        go_ret
        rw [Hb.out]
        exact ⟨rfl, Hx.out⟩
      | true =>
        have Hname := Lib.hid hname
        clear hname
        by_cases c1 : p.type < 0
        · have Hb := Lib.hid (Hbad.out (Hstep.out.trans (by rw [Hname.out, hasB_out (by omega)]; rfl)))
          go_wp2_with fail
          refine (Hnm.out _).mono ?_
          rintro e w1 ⟨rfl, rfl⟩
          rw [Hname.out]
          go_wp2_with fail
          go_ret
          rw [Hb.out]
          exact ⟨rfl, Hx.out⟩
        by_cases c2 : (n : Int) ≤ p.type
        · have Hb := Lib.hid (Hbad.out (Hstep.out.trans (by rw [Hname.out, hasB_out (by omega)]; rfl)))
          go_wp2_with fail
          refine (Hnm.out _).mono ?_
          rintro e w1 ⟨rfl, rfl⟩
          rw [Hname.out]
          go_wp2_with fail
          go_ret
          rw [Hb.out]
          exact ⟨rfl, Hx.out⟩
        have Hstep2 : Hid (partsFrom n [] l = (!memB p.name ((l.take k).map Part.name) && partsFrom n ((l.take (k + 1)).map Part.name) (l.drop (k + 1)))) := by
          rw [Hstep.out, Hname.out, hasB_iff.2 (by omega)]; rfl
        clear Hstep
        go_wp2_with fail
        refine (Hnm.out _).mono ?_
        rintro e w1 ⟨rfl, rfl⟩
        rw [Hname.out]
        go_wp2_with fail
        clear Hnm Hname
        obtain ⟨wa, rfl⟩ : ∃ wa : World, wa = w1 := ⟨_, rfl⟩
        go_loopw [6] (fun u wr => ∃ j : Nat, j ≤ k ∧ u = .int .i64 j ∧ Hid (Ext wo wr) ∧ Hid (∀ i (hi : i < l.length), i < j → ¬ l[i].name.toList = p.name.toList)) (fun u _ => k - (intOf u).toNat)
        case atStart => exact ⟨0, by omega, rfl, Hx, Lib.hid (fun i _ h => by omega)⟩
        case round =>
          clear p0 p1 lp
          obtain ⟨j, hj, rfl, Hx2, Hno⟩ := hrel
          have p0 := Hx2.out.cell P0.out
          have lp := cell_lt p0
          by_cases hjk : j < k
          · have hjl : j < l.length := by omega
            obtain ⟨b', off', e', q0, q1⟩ := Hc.out j hjl
            cases e'
            replace q0 := Hx2.out.cell q0
            have j0 : (0 : Int) ≤ (j : Int) := by omega
            have j1 : (j : Int) < (k : Int) := by omega
            have j2 : (j : Int) < (l.length : Int) := by omega
            have hyes := Hyes.out j hjk
            have hnext := fun (h : ¬ l[j].name.toList = p.name.toList) i (hi : i < l.length) (hij : i < j + 1) => if e : i = j then (by subst e; exact h : ¬ l[i].name.toList = p.name.toList) else Hno.out i hi (by omega)
            have Hyes1 := Lib.hid hyes
            have Hnext := Lib.hid hnext
            generalize l[j] = q at *
            clear q1 hyes hnext
            cases he : (q.name.toList == p.name.toList) with
            | true =>
              have he2 : q.name.toList = p.name.toList := by simpa using he
              have Hb := Lib.hid (Hbad.out (Hstep2.out.trans (by rw [Hyes1.out he2]; rfl)))
              go_wp2_with fail
              go_quiet (fail)
              go_wp2_with fail
              go_ret
              rw [Hb.out]
              exact ⟨rfl, Hx2.out.drewN _⟩
            | false =>
              have he2 : ¬ q.name.toList = p.name.toList := by simpa using he
              have Hn := Lib.hid (Hnext.out he2)
              go_wp2_with fail
              go_quiet (fail)
              go_wp2_with fail
              go_roundw
              case rel => exact ⟨j + 1, by omega, by go_num, Lib.hid (Hx2.out.drewN _), Hn⟩
              case measure => simp [intOf]; omega
          · have hjn : j = k := by omega
            subst hjn
            have hno := Hnone.out (fun i hi hij => Hno.out i hi hij)
            have Hn : Hid (partsFrom n [] l = partsFrom n ((l.take (j + 1)).map Part.name) (l.drop (j + 1))) := by
              rw [Hstep2.out, hno]; rfl
            clear hno hj hjk
            go_wp2_with fail
            go_roundw
            case rel => exact ⟨j + 1, by omega, by go_num, Hx2, Hn⟩
            case measure => simp [intOf]; omega
    · have hend := Hinv.out.trans (parts_end n l k hlt)
      have hg := Hgood.out hend
      have i1 : ¬ (k : Int) < (l.length : Int) := by omega
      have Hg := Lib.hid hg
      clear hend hg
      by_cases h8 : l.length ≤ 8
      · have q : (l.length : Int) ≤ 8 := by omega
        go_wp2_with fail
        go_ret
        rw [Hg.out, decide_eq_true h8]
        exact ⟨rfl, Hx.out⟩
      · have q : ¬ (l.length : Int) ≤ 8 := by omega
        go_wp2_with fail
        go_ret
        rw [Hg.out, decide_eq_false h8]
        exact ⟨rfl, Hx.out⟩
end Go.Proofs.YtldnjnnhfeobdaaGreatDoor
/- Contract of the reference: methods and overrides are as said. Conditions: lengths below 2^20. -/
namespace Go.Proofs.YtldnjnnhfeobdaaGreatDoor
set_option linter.all false
set_option linter.unusedSimpArgs false
set_option linter.unusedVariables false
open Go.RowKit Go.Shelf

theorem meths_step (n : Nat) (l : List Method) (k : Nat) (hk : k < l.length) : methsFrom n ((l.take k).map Method.name) (l.drop k) =
    (isNameB l[k].name && ((strEq l[k].proc ByteArray.empty || isSymbolB l[k].proc) && (sigB n l[k] && (!memB l[k].name ((l.take k).map Method.name) && methsFrom n ((l.take (k + 1)).map Method.name) (l.drop (k + 1)))))) := by
  rw [drop_cons' l k hk, methsFrom, ← take_snoc' l k hk, List.map_append]; rfl
theorem meths_end (n : Nat) (l : List Method) (k : Nat) (hk : ¬ k < l.length) : methsFrom n ((l.take k).map Method.name) (l.drop k) = true := by
  rw [List.drop_of_length_le (by omega)]; rfl
theorem overs_step (l : List Over) (k : Nat) (hk : k < l.length) : oversFrom ((l.take k).map Over.name) (l.drop k) =
    (isNameB l[k].name && (isSymbolB l[k].proc && (!memB l[k].name ((l.take k).map Over.name) && oversFrom ((l.take (k + 1)).map Over.name) (l.drop (k + 1))))) := by
  rw [drop_cons' l k hk, oversFrom, ← take_snoc' l k hk, List.map_append]; rfl
theorem overs_end (l : List Over) (k : Nat) (hk : ¬ k < l.length) : oversFrom ((l.take k).map Over.name) (l.drop k) = true := by
  rw [List.drop_of_length_le (by omega)]; rfl
set_option maxRecDepth 100000 in
set_option maxHeartbeats 16000000 in
theorem rmethods_any (w : World) (A : Option Addr) (n cap : Nat) (t : Ty) (vp vm vo : Value) (hn : n ≤ 1048576) (hof : TyOf w t vp vm vo) (hs : TySmall t) :
    Calls Tryz.prog 120 #[.slice A n cap, tyV t vp vm vo] w (Ret w (.bool (methsB n t))) := by
  obtain ⟨A1, c1, e1⟩ := hof.parts.len
  obtain ⟨A2, c2, e2, hm⟩ := hof.methods.method
  obtain ⟨A3, c3, e3, ho⟩ := hof.overs.over
  subst e1 e2 e3
  have Hm := Lib.hid hm
  have Ho := Lib.hid ho
  have Hms := Lib.hid hs.method
  have Hos := Lib.hid hs.over
  have hml := hs.methods
  have hol := hs.overs
  have Hbad := Lib.hid (fun (h : methsFrom n [] t.methods = false) => (show methsB n t = false by unfold methsB; rw [h]; rfl))
  have Hgood := Lib.hid (fun (h : methsFrom n [] t.methods = true) => (show methsB n t = (oversFrom [] t.overs && (decide (t.methods.length ≤ 8) && decide (t.overs.length ≤ 8))) by unfold methsB; rw [h]; rfl))
  clear hof hm ho hs
  unfold tyV
  go_enter Tryz.func120, Tryz.ntmps120
  have hx0 := (Ext.refl w).alloc (.cells #[.int .u8 t.kind, .int .i64 t.low, .int .i64 t.high, .bool t.branded, .string t.brand, .string t.opaq, .int .i64 t.super, .slice A1 t.parts.length c1, .slice A2 t.methods.length c2, .slice A3 t.overs.length c3] 42)
  have hbx := heap_alloc_self w (.cells #[.int .u8 t.kind, .int .i64 t.low, .int .i64 t.high, .bool t.branded, .string t.brand, .string t.opaq, .int .i64 t.super, .slice A1 t.parts.length c1, .slice A2 t.methods.length c2, .slice A3 t.overs.length c3] 42)
  have Hc8 := Lib.hid (heap_cell hbx 8 _ rfl)
  have Hc9 := Lib.hid (heap_cell hbx 9 _ rfl)
  have Hx0 := Lib.hid hx0
  clear hx0 hbx
  go_wp2_with fail
  generalize (w.alloc (.cells #[.int .u8 t.kind, .int .i64 t.low, .int .i64 t.high, .bool t.branded, .string t.brand, .string t.opaq, .int .i64 t.super, .slice A1 t.parts.length c1, .slice A2 t.methods.length c2, .slice A3 t.overs.length c3] 42)) = w1 at *
  generalize w.heap.size = b1 at *
  go_loopw [5] (fun u wr => ∃ k : Nat, k ≤ t.methods.length ∧ u = .int .i64 k ∧ Hid (Ext w1 wr) ∧ Hid (methsFrom n [] t.methods = methsFrom n ((t.methods.take k).map Method.name) (t.methods.drop k))) (fun u _ => t.methods.length - (intOf u).toNat)
  case atStart => exact ⟨0, by omega, rfl, Lib.hid (Ext.refl _), Lib.hid rfl⟩
  case round =>
    obtain ⟨k, hk, rfl, Hx, Hinv⟩ := hrel
    have d8 := Hx.out.cell Hc8.out
    have l8 := cell_lt d8
    by_cases hlt : k < t.methods.length
    · obtain ⟨b, off, va, vr, rfl, ha, hr, m0, m1, m2, m3, m4⟩ := Hm.out k hlt
      have hmm := Hms.out _ (List.getElem_mem hlt)
      have Hstep := Lib.hid (Hinv.out.trans (meths_step n t.methods k hlt))
      have Hyes := Lib.hid (fun j (hj : j < k) => memB_yes Method.name (j := j) hj hlt)
      have Hnone := Lib.hid (memB_no Method.name hlt)
      generalize hm : t.methods[k] = m at *
      clear hm Hinv
      obtain ⟨Aa, ca, ea⟩ := ha.len
      obtain ⟨Ar, cr, er⟩ := hr.len
      subst ea er
      obtain ⟨s1, s2, s3, s4, s5⟩ := hmm
      have Hnm := Lib.hid (fun w => rname_any m.name w s1)
      have Hpr := Lib.hid (fun w => rsymbol_any m.proc w s2)
      have Hsig := Lib.hid (fun w' (hx' : Ext w w') => rsig_any w' A n cap m _ _ hn (ha.mono hx') (hr.mono hx') s3 s4 s5)
      have M0 := Lib.hid (Hx0.out.cell m0)
      replace m0 := Hx.out.cell (Hx0.out.cell m0)
      replace m1 := Hx.out.cell (Hx0.out.cell m1)
      replace m2 := Hx.out.cell (Hx0.out.cell m2)
      replace m3 := Hx.out.cell (Hx0.out.cell m3)
      replace m4 := Hx.out.cell (Hx0.out.cell m4)
      have lm := cell_lt m0
      have i0 : (0 : Int) ≤ (k : Int) := by omega
      have i1 : (k : Int) < (t.methods.length : Int) := by omega
      have hpe := Lib.hid (show strEq m.proc ByteArray.empty = m.proc.toList.isEmpty from strEq_empty m.proc)
      clear ha hr s5
      cases hname : isNameB m.name with
      | false =>
        have Hb := Lib.hid (Hbad.out (Hstep.out.trans (by rw [hname]; rfl)))
        have Hname := Lib.hid hname
        clear hname
        go_wp2_with fail
        refine (Hnm.out _).mono ?_
        rintro e w2 ⟨rfl, rfl⟩
        rw [Hname.out]
        go_wp2_with fail
        go_ret
        rw [Hb.out]
        exact ⟨rfl, Hx0.out.trans (Hx.out.alloc _)⟩
      | true =>
        have Hname := Lib.hid hname
        clear hname
        have hbox := heap_alloc_self wr (.cells #[.string m.name, .slice Aa m.args.length ca, .int .i64 m.result, .slice Ar m.raises.length cr, .string m.proc] 74)
        have Hb0 := Lib.hid (heap_cell hbox 0 _ rfl)
        have Hxb := Lib.hid (Hx.out.alloc (.cells #[.string m.name, .slice Aa m.args.length ca, .int .i64 m.result, .slice Ar m.raises.length cr, .string m.proc] 74))
        clear hbox
        have hproc : ∃ pr : Bool, Hid (pr = (strEq m.proc ByteArray.empty || isSymbolB m.proc)) ∧ ((m.proc.toList = [] ∧ pr = true) ∨ (¬ m.proc.toList = [] ∧ isSymbolB m.proc = pr)) := by
          refine ⟨_, rfl, ?_⟩
          rw [hpe.out]
          cases he : m.proc.toList with
          | nil => exact .inl ⟨rfl, rfl⟩
          | cons x l => exact .inr ⟨by simp, rfl⟩
        obtain ⟨pr, Hpr2, hpr⟩ := hproc
        cases pr with
        | false =>
          have Hb := Lib.hid (Hbad.out (Hstep.out.trans (by rw [Hname.out, ← Hpr2.out]; rfl)))
          obtain ⟨hne, hsym⟩ : ¬ m.proc.toList = [] ∧ isSymbolB m.proc = false := by simpa using hpr
          have hne2 : m.proc.toList.isEmpty = false := by cases h : m.proc.toList with | nil => exact absurd h hne | cons => rfl
          have Hsym := Lib.hid hsym
          clear hpr hsym
          go_wp2_with fail
          refine (Hnm.out _).mono ?_
          rintro e w2 ⟨rfl, rfl⟩
          rw [Hname.out]
          go_wp2_with fail
          refine (Hpr.out _).mono ?_
          rintro e w2 ⟨rfl, rfl⟩
          rw [Hsym.out]
          go_wp2_with fail
          go_ret
          rw [Hb.out]
          exact ⟨rfl, Hx0.out.trans Hxb.out⟩
        | true =>
          have Hstep2 : Hid (methsFrom n [] t.methods = (sigB n m && (!memB m.name ((t.methods.take k).map Method.name) && methsFrom n ((t.methods.take (k + 1)).map Method.name) (t.methods.drop (k + 1))))) := by
            rw [Hstep.out, Hname.out, ← Hpr2.out]; rfl
          have hpr' : (m.proc.toList = [] ∧ m.proc.toList.isEmpty = true) ∨ (¬ m.proc.toList = [] ∧ m.proc.toList.isEmpty = false ∧ Hid (isSymbolB m.proc = true)) := by
            rcases hpr with ⟨he, _⟩ | ⟨hne, hsym⟩
            · exact .inl ⟨he, by rw [he]; rfl⟩
            · exact .inr ⟨hne, by cases h : m.proc.toList with | nil => exact absurd h hne | cons => rfl, Lib.hid hsym⟩
          clear hpr Hstep Hpr2
          rcases hpr' with ⟨he, he2⟩ | ⟨he, he2, Hsym⟩
          all_goals
            go_wp2_with fail
            refine (Hnm.out _).mono ?_
            rintro e w2 ⟨rfl, rfl⟩
            rw [Hname.out]
            go_wp2_with fail
            try (refine (Hpr.out _).mono ?_; rintro e w2 ⟨rfl, rfl⟩; rw [Hsym.out]; go_wp2_with fail)
            refine (Hsig.out _ (Hx0.out.trans Hxb.out)).mono ?_
            rintro e w3 ⟨rfl, hx3⟩
            have Hx3 := Lib.hid (Hxb.out.trans hx3)
            have Hb3 := Lib.hid (hx3.cell Hb0.out)
            clear hx3
            cases hsg : sigB n m with
            | false =>
              have Hb := Lib.hid (Hbad.out (Hstep2.out.trans (by rw [hsg]; rfl)))
              clear hsg
              go_wp2_with fail
              go_ret
              rw [Hb.out]
              exact ⟨rfl, Hx0.out.trans Hx3.out⟩
            | true =>
              have Hstep3 : Hid (methsFrom n [] t.methods = (!memB m.name ((t.methods.take k).map Method.name) && methsFrom n ((t.methods.take (k + 1)).map Method.name) (t.methods.drop (k + 1)))) := by
                rw [Hstep2.out, hsg]; rfl
              clear hsg Hstep2 he he2 d8 m0 m1 m2 m3 m4 lm l8
              go_wp2_with fail
              generalize (wr.alloc (.cells #[.string m.name, .slice Aa m.args.length ca, .int .i64 m.result, .slice Ar m.raises.length cr, .string m.proc] 74)) = wb at *
              generalize wr.heap.size = bm at *
              go_loopw [7] (fun u wr => ∃ j : Nat, j ≤ k ∧ u = .int .i64 j ∧ Hid (Ext w3 wr) ∧ Hid (∀ i (hi : i < t.methods.length), i < j → ¬ t.methods[i].name.toList = m.name.toList)) (fun u _ => k - (intOf u).toNat)
              case atStart => exact ⟨0, by omega, rfl, Lib.hid (Ext.refl _), Lib.hid (fun i _ h => by omega)⟩
              case round =>
                obtain ⟨j, hj, rfl, Hx4, Hno⟩ := hrel
                have d8 := Hx4.out.cell (Hx3.out.cell Hc8.out)
                have l8 := cell_lt d8
                have m0 := Hx4.out.cell Hb3.out
                have lm := cell_lt m0
                by_cases hjk : j < k
                · have hjl : j < t.methods.length := by omega
                  obtain ⟨b', off', va', vr', e', _, _, q0, _⟩ := Hm.out j hjl
                  cases e'
                  replace q0 := Hx4.out.cell (Hx3.out.cell (Hx0.out.cell q0))
                  have lq := cell_lt q0
                  have j0 : (0 : Int) ≤ (j : Int) := by omega
                  have j1 : (j : Int) < (k : Int) := by omega
                  have j2 : (j : Int) < (t.methods.length : Int) := by omega
                  have hyes := Hyes.out j hjk
                  have hnext := fun (h : ¬ t.methods[j].name.toList = m.name.toList) i (hi : i < t.methods.length) (hij : i < j + 1) => if e : i = j then (by subst e; exact h : ¬ t.methods[i].name.toList = m.name.toList) else Hno.out i hi (by omega)
                  have Hyes1 := Lib.hid hyes
                  have Hnext := Lib.hid hnext
                  generalize t.methods[j] = q at *
                  clear hyes hnext
                  cases he : (q.name.toList == m.name.toList) with
                  | true =>
                    have he2 : q.name.toList = m.name.toList := by simpa using he
                    have Hb := Lib.hid (Hbad.out (Hstep3.out.trans (by rw [Hyes1.out he2]; rfl)))
                    go_wp2_with fail
                    go_quiet (fail)
                    go_wp2_with fail
                    go_ret
                    rw [Hb.out]
                    exact ⟨rfl, Hx0.out.trans (Hx3.out.trans (Hx4.out.drewN _))⟩
                  | false =>
                    have he2 : ¬ q.name.toList = m.name.toList := by simpa using he
                    have Hn := Lib.hid (Hnext.out he2)
                    go_wp2_with fail
                    go_quiet (fail)
                    go_wp2_with fail
                    go_roundw
                    case rel => exact ⟨j + 1, by omega, by go_num, Lib.hid (Hx4.out.drewN _), Hn⟩
                    case measure => simp [intOf]; omega
                · have hjn : j = k := by omega
                  subst hjn
                  have hno := Hnone.out (fun i hi hij => Hno.out i hi hij)
                  have Hn : Hid (methsFrom n [] t.methods = methsFrom n ((t.methods.take (j + 1)).map Method.name) (t.methods.drop (j + 1))) := by
                    rw [Hstep3.out, hno]; rfl
                  clear hno hj hjk
                  go_wp2_with fail
                  go_roundw
                  case rel => exact ⟨j + 1, by omega, by go_num, Lib.hid (Hx3.out.trans Hx4.out), Hn⟩
                  case measure => simp [intOf]; omega
    · have hend := Hinv.out.trans (meths_end n t.methods k hlt)
      have hg := Hgood.out hend
      have i1 : ¬ (k : Int) < (t.methods.length : Int) := by omega
      have Hg := Lib.hid hg
      clear hend hg Hbad Hgood Hinv
      have HbadO := Lib.hid (fun (h : oversFrom [] t.overs = false) => (Hg.out.trans (by rw [h]; rfl) : methsB n t = false))
      have HgoodO := Lib.hid (fun (h : oversFrom [] t.overs = true) => (Hg.out.trans (by rw [h]; rfl) : methsB n t = (decide (t.methods.length ≤ 8) && decide (t.overs.length ≤ 8))))
      clear Hg
      go_wp2_with fail
      obtain ⟨wa, rfl⟩ : ∃ wa : World, wa = wr := ⟨_, rfl⟩
      go_loopw [8] (fun u wr => ∃ k : Nat, k ≤ t.overs.length ∧ u = .int .i64 k ∧ Hid (Ext w1 wr) ∧ Hid (oversFrom [] t.overs = oversFrom ((t.overs.take k).map Over.name) (t.overs.drop k))) (fun u _ => t.overs.length - (intOf u).toNat)
      case atStart => exact ⟨0, by omega, rfl, Hx, Lib.hid rfl⟩
      case round =>
        clear d8 l8
        obtain ⟨k, hk, rfl, Hx, Hinv⟩ := hrel
        have d9 := Hx.out.cell Hc9.out
        have l9 := cell_lt d9
        by_cases hlt : k < t.overs.length
        · obtain ⟨b, off, rfl, p0, p1⟩ := Ho.out k hlt
          have P0 := Lib.hid (Hx0.out.cell p0)
          replace p0 := Hx.out.cell P0.out
          replace p1 := Hx.out.cell (Hx0.out.cell p1)
          have lp := cell_lt p0
          have i0 : (0 : Int) ≤ (k : Int) := by omega
          have i1 : (k : Int) < (t.overs.length : Int) := by omega
          have Hstep := Lib.hid (Hinv.out.trans (overs_step t.overs k hlt))
          have hsz := Hos.out _ (List.getElem_mem hlt)
          have Hyes := Lib.hid (fun j (hj : j < k) => memB_yes Over.name (j := j) hj hlt)
          have Hnone := Lib.hid (memB_no Over.name hlt)
          generalize hp : t.overs[k] = p at *
          have Hnm := Lib.hid (fun w => rname_any p.name w hsz.1)
          have Hpr := Lib.hid (fun w => rsymbol_any p.proc w hsz.2)
          clear hsz Hinv hp
          cases hname : isNameB p.name with
          | false =>
            have Hb := Lib.hid (HbadO.out (Hstep.out.trans (by rw [hname]; rfl)))
            have Hname := Lib.hid hname
            clear hname
            go_wp2_with fail
            refine (Hnm.out _).mono ?_
            rintro e w2 ⟨rfl, rfl⟩
            rw [Hname.out]
            go_wp2_with fail
            go_ret
            rw [Hb.out]
            exact ⟨rfl, Hx0.out.trans Hx.out⟩
          | true =>
            have Hname := Lib.hid hname
            clear hname
            cases hsym : isSymbolB p.proc with
            | false =>
              have Hb := Lib.hid (HbadO.out (Hstep.out.trans (by rw [Hname.out, hsym]; rfl)))
              have Hsym := Lib.hid hsym
              clear hsym
              go_wp2_with fail
              refine (Hnm.out _).mono ?_
              rintro e w2 ⟨rfl, rfl⟩
              rw [Hname.out]
              go_wp2_with fail
              refine (Hpr.out _).mono ?_
              rintro e w2 ⟨rfl, rfl⟩
              rw [Hsym.out]
              go_wp2_with fail
              go_ret
              rw [Hb.out]
              exact ⟨rfl, Hx0.out.trans Hx.out⟩
            | true =>
              have Hsym := Lib.hid hsym
              have Hstep2 : Hid (oversFrom [] t.overs = (!memB p.name ((t.overs.take k).map Over.name) && oversFrom ((t.overs.take (k + 1)).map Over.name) (t.overs.drop (k + 1)))) := by
                rw [Hstep.out, Hname.out, hsym]; rfl
              clear hsym Hstep
              go_wp2_with fail
              refine (Hnm.out _).mono ?_
              rintro e w2 ⟨rfl, rfl⟩
              rw [Hname.out]
              go_wp2_with fail
              refine (Hpr.out _).mono ?_
              rintro e w3 ⟨rfl, rfl⟩
              rw [Hsym.out]
              go_wp2_with fail
              clear Hnm Hpr Hname Hsym p0 p1 lp d9 l9
              go_loopw [9] (fun u wr => ∃ j : Nat, j ≤ k ∧ u = .int .i64 j ∧ Hid (Ext w1 wr) ∧ Hid (∀ i (hi : i < t.overs.length), i < j → ¬ t.overs[i].name.toList = p.name.toList)) (fun u _ => k - (intOf u).toNat)
              case atStart => exact ⟨0, by omega, rfl, Hx, Lib.hid (fun i _ h => by omega)⟩
              case round =>
                obtain ⟨j, hj, rfl, Hx2, Hno⟩ := hrel
                have d9 := Hx2.out.cell Hc9.out
                have l9 := cell_lt d9
                have p0 := Hx2.out.cell P0.out
                have lp := cell_lt p0
                by_cases hjk : j < k
                · have hjl : j < t.overs.length := by omega
                  obtain ⟨b', off', e', q0, q1⟩ := Ho.out j hjl
                  cases e'
                  replace q0 := Hx2.out.cell (Hx0.out.cell q0)
                  have j0 : (0 : Int) ≤ (j : Int) := by omega
                  have j1 : (j : Int) < (k : Int) := by omega
                  have j2 : (j : Int) < (t.overs.length : Int) := by omega
                  have hyes := Hyes.out j hjk
                  have hnext := fun (h : ¬ t.overs[j].name.toList = p.name.toList) i (hi : i < t.overs.length) (hij : i < j + 1) => if e : i = j then (by subst e; exact h : ¬ t.overs[i].name.toList = p.name.toList) else Hno.out i hi (by omega)
                  have Hyes1 := Lib.hid hyes
                  have Hnext := Lib.hid hnext
                  generalize t.overs[j] = q at *
                  clear q1 hyes hnext
                  cases he : (q.name.toList == p.name.toList) with
                  | true =>
                    have he2 : q.name.toList = p.name.toList := by simpa using he
                    have Hb := Lib.hid (HbadO.out (Hstep2.out.trans (by rw [Hyes1.out he2]; rfl)))
                    go_wp2_with fail
                    go_quiet (fail)
                    go_wp2_with fail
                    go_ret
                    rw [Hb.out]
                    exact ⟨rfl, Hx0.out.trans (Hx2.out.drewN _)⟩
                  | false =>
                    have he2 : ¬ q.name.toList = p.name.toList := by simpa using he
                    have Hn := Lib.hid (Hnext.out he2)
                    go_wp2_with fail
                    go_quiet (fail)
                    go_wp2_with fail
                    go_roundw
                    case rel => exact ⟨j + 1, by omega, by go_num, Lib.hid (Hx2.out.drewN _), Hn⟩
                    case measure => simp [intOf]; omega
                · have hjn : j = k := by omega
                  subst hjn
                  have hno := Hnone.out (fun i hi hij => Hno.out i hi hij)
                  have Hn : Hid (oversFrom [] t.overs = oversFrom ((t.overs.take (j + 1)).map Over.name) (t.overs.drop (j + 1))) := by
                    rw [Hstep2.out, hno]; rfl
                  clear hno hj hjk
                  go_wp2_with fail
                  go_roundw
                  case rel => exact ⟨j + 1, by omega, by go_num, Hx2, Hn⟩
                  case measure => simp [intOf]; omega
        · have hend := Hinv.out.trans (overs_end t.overs k hlt)
          have Hg := Lib.hid (HgoodO.out hend)
          have d8 := Hx.out.cell Hc8.out
          have l8 := cell_lt d8
          have i1 : ¬ (k : Int) < (t.overs.length : Int) := by omega
          clear hend
          by_cases h8 : t.methods.length ≤ 8
          · have q1 : (t.methods.length : Int) ≤ 8 := by omega
            by_cases h9 : t.overs.length ≤ 8
            · have q2 : (t.overs.length : Int) ≤ 8 := by omega
              have Hv := Lib.hid (Hg.out.trans (by rw [decide_eq_true h8, decide_eq_true h9]; rfl : _ = true))
              go_wp2_with fail
              go_ret
              rw [Hv.out]
              exact ⟨rfl, Hx0.out.trans Hx.out⟩
            · have q2 : ¬ (t.overs.length : Int) ≤ 8 := by omega
              have Hv := Lib.hid (Hg.out.trans (by rw [decide_eq_true h8, decide_eq_false h9]; rfl : _ = false))
              go_wp2_with fail
              go_ret
              rw [Hv.out]
              exact ⟨rfl, Hx0.out.trans Hx.out⟩
          · have q1 : ¬ (t.methods.length : Int) ≤ 8 := by omega
            have Hv := Lib.hid (Hg.out.trans (by rw [decide_eq_false h8]; rfl : _ = false))
            go_wp2_with fail
            go_ret
            rw [Hv.out]
            exact ⟨rfl, Hx0.out.trans Hx.out⟩
end Go.Proofs.YtldnjnnhfeobdaaGreatDoor
/- Contract of the reference: a type as said in itself. Conditions: lengths below 2^20. -/
namespace Go.Proofs.YtldnjnnhfeobdaaGreatDoor
set_option linter.all false
set_option linter.unusedSimpArgs false
set_option linter.unusedVariables false
open Go.RowKit Go.Shelf

def simpleB (k : Int) : Bool := decide (k = 1 ∨ k = 2 ∨ k = 4 ∨ k = 5 ∨ k = 6 ∨ k = 7 ∨ k = 8)
def heldK (k : Int) : Bool := decide (k = 9 ∨ k = 11)
theorem said_simple {g : Graph} {t : Ty} (h : simpleB t.kind = true) : saidB g t = (numsB t && (brandlessB t && (topB t && (bareB t && (plainsB t && clearB t))))) := by
  unfold simpleB at h
  have h := of_decide_eq_true h
  unfold saidB
  rw [if_neg (by omega), if_neg (by omega), if_neg (by omega), if_neg (by omega), if_neg (by omega), if_pos (by omega)]
theorem said_none {g : Graph} {t : Ty} (h : simpleB t.kind = false) (h3 : t.kind ≠ 3) (h9 : heldK t.kind = false) (h10 : t.kind ≠ 10) (h12 : t.kind ≠ 12) (h13 : t.kind ≠ 13) : saidB g t = false := by
  unfold simpleB at h
  have h := of_decide_eq_false h
  unfold heldK at h9
  have h9 := of_decide_eq_false h9
  unfold saidB
  rw [if_neg h3, if_neg h9, if_neg h10, if_neg h12, if_neg h13, if_neg (by omega)]
set_option maxRecDepth 100000 in
set_option maxHeartbeats 32000000 in
theorem rsaid_any (w : World) (gv : Value) (g : Graph) (t : Ty) (vp vm vo : Value) (hg : Sl tyE w gv g) (hgn : g.length ≤ 1048576) (hof : TyOf w t vp vm vo) (hs : TySmall t) :
    Calls Tryz.prog 64 #[gv, tyV t vp vm vo] w (Ret w (.bool (saidB g t))) := by
  have hsup := fun w' (hx : Ext w w') => rsuper_any w' gv g t vp vm vo (hg.mono hx) hgn
  obtain ⟨Ag, cg, eg⟩ := hg.len
  subst eg
  have hmt := fun w' (hx : Ext w w') => rmethods_any w' Ag g.length cg t vp vm vo hgn (hof.mono hx) hs
  have hpt := fun w' (hx : Ext w w') => rparts_any w' Ag g.length cg vp t.parts hgn (hof.parts.mono hx) hs.parts hs.part
  have hbr := fun w' => rbrand_any t.brand w' hs.brand
  have hsy := fun w' => rsymbol_any t.opaq w' hs.opaq
  obtain ⟨A1, c1, e1, hp⟩ := hof.parts.part
  obtain ⟨A2, c2, e2⟩ := hof.methods.len
  obtain ⟨A3, c3, e3⟩ := hof.overs.len
  subst e1 e2 e3
  have Hp := Lib.hid hp
  have Hsup := Lib.hid hsup
  have Hmt := Lib.hid hmt
  have Hpt := Lib.hid hpt
  have Hbr := Lib.hid hbr
  have Hsy := Lib.hid hsy
  have hq1 := hs.parts
  have hq2 := hs.methods
  have hq3 := hs.overs
  clear hp hsup hmt hpt hbr hsy hs hof hg
  unfold tyV at Hsup Hmt ⊢
  have hx0 := (Ext.refl w).alloc (.cells #[.int .u8 t.kind, .int .i64 t.low, .int .i64 t.high, .bool t.branded, .string t.brand, .string t.opaq, .int .i64 t.super, .slice A1 t.parts.length c1, .slice A2 t.methods.length c2, .slice A3 t.overs.length c3] 42)
  have hbx : TyBox (w.alloc (.cells #[.int .u8 t.kind, .int .i64 t.low, .int .i64 t.high, .bool t.branded, .string t.brand, .string t.opaq, .int .i64 t.super, .slice A1 t.parts.length c1, .slice A2 t.methods.length c2, .slice A3 t.overs.length c3] 42)) w.heap.size t (.slice A1 t.parts.length c1) (.slice A2 t.methods.length c2) (.slice A3 t.overs.length c3) := heap_alloc_self w _
  have Hx0 := Lib.hid hx0
  have Hbx := Lib.hid hbx
  clear hx0 hbx
  go_enter Tryz.func64, Tryz.ntmps64
  go_upto_region 1 with fail
  generalize (w.alloc (.cells #[.int .u8 t.kind, .int .i64 t.low, .int .i64 t.high, .bool t.branded, .string t.brand, .string t.opaq, .int .i64 t.super, .slice A1 t.parts.length c1, .slice A2 t.methods.length c2, .slice A3 t.overs.length c3] 42)) = w1 at *
  generalize w.heap.size = b1 at *
  have l1 := Hbx.out.lt
  go_cut [5] (fun s wx => s = .bool (numsB t) ∧ wx = w1)
  case first =>
    as_aux_lemma =>
      obtain ⟨d0, d1, d2, d3, d4, d5, d6, d7, d8, d9⟩ := Hbx.out.at
      simp only [Nat.zero_add] at d0 d1 d2 d3 d4 d5 d6 d7 d8 d9
      by_cases h1 : t.low = 0
      · have q1 : (t.low == 0) = true := by simpa using h1
        by_cases h2 : t.high = 0
        · have q2 : (t.high == 0) = true := by simpa using h2
          have hv : numsB t = true := by unfold numsB; simp [*]
          have Hv := Lib.hid hv
          clear hv h1 h2
          go_wp2_with fail
          go_meet
          rw [Hv.out]
          exact ⟨rfl, rfl⟩
        · have q2 : (t.high == 0) = false := by simpa using h2
          have hv : numsB t = false := by unfold numsB; simp [*]
          have Hv := Lib.hid hv
          clear hv h1 h2
          go_wp2_with fail
          go_meet
          rw [Hv.out]
          exact ⟨rfl, rfl⟩
      · have q1 : (t.low == 0) = false := by simpa using h1
        have hv : numsB t = false := by unfold numsB; simp [*]
        have Hv := Lib.hid hv
        clear hv h1
        go_wp2_with fail
        go_meet
        rw [Hv.out]
        exact ⟨rfl, rfl⟩
  case rest =>
    obtain ⟨rfl, rfl⟩ := hcut
    obtain ⟨w1, rfl⟩ : ∃ w1 : World, w1 = wc := ⟨_, rfl⟩
    go_upto_region 2 with fail
    go_cut [6] (fun s wx => s = .bool (brandlessB t) ∧ wx = w1)
    case first =>
      as_aux_lemma =>
        obtain ⟨d0, d1, d2, d3, d4, d5, d6, d7, d8, d9⟩ := Hbx.out.at
        simp only [Nat.zero_add] at d0 d1 d2 d3 d4 d5 d6 d7 d8 d9
        by_cases hb : t.branded = true
        · skip
          have hv : brandlessB t = false := by unfold brandlessB; rw [hb]; rfl
          have Hv := Lib.hid hv
          clear hv
          rw [hb] at d3
          clear hb
          go_wp2_with fail
          go_meet
          rw [Hv.out]
          exact ⟨rfl, rfl⟩
        · replace hb : t.branded = false := by simpa using hb
          rw [hb] at d3
          by_cases h1 : strEq t.brand ByteArray.empty = true
          · have q1 : t.brand.toList.isEmpty = true := by rw [isEmpty_strEq]; exact h1
            have r1 : t.brand.toList = [] := by simpa using q1
            have hv : brandlessB t = true := by unfold brandlessB; rw [hb, h1]; rfl
            have Hv := Lib.hid hv
            clear hv h1 hb
            go_wp2_with fail
            go_meet
            rw [Hv.out]
            exact ⟨rfl, rfl⟩
          · have q1 : t.brand.toList.isEmpty = false := by rw [isEmpty_strEq]; simpa using h1
            have r1 : ¬ t.brand.toList = [] := by simpa using q1
            have hv : brandlessB t = false := by unfold brandlessB; rw [hb]; simpa using h1
            have Hv := Lib.hid hv
            clear hv h1 hb
            go_wp2_with fail
            go_meet
            rw [Hv.out]
            exact ⟨rfl, rfl⟩
    case rest =>
      obtain ⟨rfl, rfl⟩ := hcut
      obtain ⟨w1, rfl⟩ : ∃ w1 : World, w1 = wc := ⟨_, rfl⟩
      go_upto_region 3 with fail
      go_cut [7] (fun s wx => s = .bool (topB t) ∧ wx = w1)
      case first =>
        as_aux_lemma =>
          obtain ⟨d0, d1, d2, d3, d4, d5, d6, d7, d8, d9⟩ := Hbx.out.at
          simp only [Nat.zero_add] at d0 d1 d2 d3 d4 d5 d6 d7 d8 d9
          by_cases h1 : t.super = 0
          · have q1 : (t.super == 0) = true := by simpa using h1
            have hv : topB t = true := by unfold topB; simp [*]
            have Hv := Lib.hid hv
            clear hv h1
            go_wp2_with fail
            go_meet
            rw [Hv.out]
            exact ⟨rfl, rfl⟩
          · have q1 : (t.super == 0) = false := by simpa using h1
            have hv : topB t = false := by unfold topB; simp [*]
            have Hv := Lib.hid hv
            clear hv h1
            go_wp2_with fail
            go_meet
            rw [Hv.out]
            exact ⟨rfl, rfl⟩
      case rest =>
        obtain ⟨rfl, rfl⟩ := hcut
        obtain ⟨w1, rfl⟩ : ∃ w1 : World, w1 = wc := ⟨_, rfl⟩
        go_upto_region 4 with fail
        go_cut [8] (fun s wx => s = .bool (bareB t) ∧ wx = w1)
        case first =>
          as_aux_lemma =>
            obtain ⟨d0, d1, d2, d3, d4, d5, d6, d7, d8, d9⟩ := Hbx.out.at
            simp only [Nat.zero_add] at d0 d1 d2 d3 d4 d5 d6 d7 d8 d9
            by_cases h1 : t.parts.length = 0
            · have q1 : ((t.parts.length : Int) == 0) = true := by rw [beq_iff_eq]; omega
              have hv : bareB t = true := by unfold bareB; first | rw [decide_eq_true h1] | rw [decide_eq_false h1]
              have Hv := Lib.hid hv
              clear hv h1
              go_wp2_with fail
              go_meet
              rw [Hv.out]
              exact ⟨rfl, rfl⟩
            · have q1 : ((t.parts.length : Int) == 0) = false := by rw [beq_eq_false_iff_ne]; omega
              have hv : bareB t = false := by unfold bareB; first | rw [decide_eq_true h1] | rw [decide_eq_false h1]
              have Hv := Lib.hid hv
              clear hv h1
              go_wp2_with fail
              go_meet
              rw [Hv.out]
              exact ⟨rfl, rfl⟩
        case rest =>
          obtain ⟨rfl, rfl⟩ := hcut
          obtain ⟨w1, rfl⟩ : ∃ w1 : World, w1 = wc := ⟨_, rfl⟩
          go_upto_region 5 with fail
          go_cut [9] (fun s wx => s = .bool (plainsB t) ∧ wx = w1)
          case first =>
            as_aux_lemma =>
              obtain ⟨d0, d1, d2, d3, d4, d5, d6, d7, d8, d9⟩ := Hbx.out.at
              simp only [Nat.zero_add] at d0 d1 d2 d3 d4 d5 d6 d7 d8 d9
              by_cases h1 : t.methods.length = 0
              · have q1 : ((t.methods.length : Int) == 0) = true := by rw [beq_iff_eq]; omega
                by_cases h2 : t.overs.length = 0
                · have q2 : ((t.overs.length : Int) == 0) = true := by rw [beq_iff_eq]; omega
                  have hv : plainsB t = true := by unfold plainsB; first | (rw [decide_eq_true h1, decide_eq_true h2]; rfl) | (rw [decide_eq_true h1, decide_eq_false h2]; rfl) | (rw [decide_eq_false h1]; rfl)
                  have Hv := Lib.hid hv
                  clear hv h1 h2
                  go_wp2_with fail
                  go_meet
                  rw [Hv.out]
                  exact ⟨rfl, rfl⟩
                · have q2 : ((t.overs.length : Int) == 0) = false := by rw [beq_eq_false_iff_ne]; omega
                  have hv : plainsB t = false := by unfold plainsB; first | (rw [decide_eq_true h1, decide_eq_true h2]; rfl) | (rw [decide_eq_true h1, decide_eq_false h2]; rfl) | (rw [decide_eq_false h1]; rfl)
                  have Hv := Lib.hid hv
                  clear hv h1 h2
                  go_wp2_with fail
                  go_meet
                  rw [Hv.out]
                  exact ⟨rfl, rfl⟩
              · have q1 : ((t.methods.length : Int) == 0) = false := by rw [beq_eq_false_iff_ne]; omega
                have hv : plainsB t = false := by unfold plainsB; first | (rw [decide_eq_true h1, decide_eq_true h2]; rfl) | (rw [decide_eq_true h1, decide_eq_false h2]; rfl) | (rw [decide_eq_false h1]; rfl)
                have Hv := Lib.hid hv
                clear hv h1
                go_wp2_with fail
                go_meet
                rw [Hv.out]
                exact ⟨rfl, rfl⟩
          case rest =>
            obtain ⟨rfl, rfl⟩ := hcut
            obtain ⟨w1, rfl⟩ : ∃ w1 : World, w1 = wc := ⟨_, rfl⟩
            go_upto_region 6 with fail
            go_cut [10] (fun s wx => s = .bool (clearB t) ∧ wx = w1)
            case first =>
              as_aux_lemma =>
                obtain ⟨d0, d1, d2, d3, d4, d5, d6, d7, d8, d9⟩ := Hbx.out.at
                simp only [Nat.zero_add] at d0 d1 d2 d3 d4 d5 d6 d7 d8 d9
                by_cases h1 : strEq t.opaq ByteArray.empty = true
                · have q1 : t.opaq.toList.isEmpty = true := by rw [isEmpty_strEq]; exact h1
                  have r1 : t.opaq.toList = [] := by simpa using q1
                  have hv : clearB t = true := by unfold clearB; simpa using h1
                  have Hv := Lib.hid hv
                  clear hv h1
                  go_wp2_with fail
                  go_meet
                  rw [Hv.out]
                  exact ⟨rfl, rfl⟩
                · have q1 : t.opaq.toList.isEmpty = false := by rw [isEmpty_strEq]; simpa using h1
                  have r1 : ¬ t.opaq.toList = [] := by simpa using q1
                  have hv : clearB t = false := by unfold clearB; simpa using h1
                  have Hv := Lib.hid hv
                  clear hv h1
                  go_wp2_with fail
                  go_meet
                  rw [Hv.out]
                  exact ⟨rfl, rfl⟩
            case rest =>
              obtain ⟨rfl, rfl⟩ := hcut
              obtain ⟨w1, rfl⟩ : ∃ w1 : World, w1 = wc := ⟨_, rfl⟩
              go_upto_region 7 with fail
              go_cut [11] (fun s wx => s = .bool (brandingB t) ∧ wx = w1)
              case first =>
                as_aux_lemma =>
                  obtain ⟨d0, d1, d2, d3, d4, d5, d6, d7, d8, d9⟩ := Hbx.out.at
                  simp only [Nat.zero_add] at d0 d1 d2 d3 d4 d5 d6 d7 d8 d9
                  cases hi : isBrandB t.brand with
                  | false =>
                    have hv : brandingB t = false := by unfold brandingB; rw [hi]; rfl
                    have Hv := Lib.hid hv
                    have Hi := Lib.hid hi
                    clear hv hi
                    go_wp2_with fail
                    refine (Hbr.out _).mono ?_
                    rintro e w2 ⟨rfl, rfl⟩
                    rw [Hi.out]
                    go_wp2_with fail
                    go_meet
                    rw [Hv.out]
                    exact ⟨rfl, rfl⟩
                  | true =>
                    by_cases hb : t.branded = true
                    · skip
                      have hv : brandingB t = true := by unfold brandingB; rw [hi, hb]; rfl
                      have Hv := Lib.hid hv
                      have Hi := Lib.hid hi
                      rw [hb] at d3
                      clear hv hi hb
                      go_wp2_with fail
                      refine (Hbr.out _).mono ?_
                      rintro e w2 ⟨rfl, rfl⟩
                      rw [Hi.out]
                      go_wp2_with fail
                      go_meet
                      rw [Hv.out]
                      exact ⟨rfl, rfl⟩
                    · replace hb : t.branded = false := by simpa using hb
                      rw [hb] at d3
                      by_cases h1 : strEq t.brand ByteArray.empty = true
                      · have q1 : t.brand.toList.isEmpty = true := by rw [isEmpty_strEq]; exact h1
                        have r1 : t.brand.toList = [] := by simpa using q1
                        have hv : brandingB t = true := by unfold brandingB; rw [hi, hb]; simpa using h1
                        have Hv := Lib.hid hv
                        have Hi := Lib.hid hi
                        clear hv hi hb h1
                        go_wp2_with fail
                        refine (Hbr.out _).mono ?_
                        rintro e w2 ⟨rfl, rfl⟩
                        rw [Hi.out]
                        go_wp2_with fail
                        go_meet
                        rw [Hv.out]
                        exact ⟨rfl, rfl⟩
                      · have q1 : t.brand.toList.isEmpty = false := by rw [isEmpty_strEq]; simpa using h1
                        have r1 : ¬ t.brand.toList = [] := by simpa using q1
                        have hv : brandingB t = false := by unfold brandingB; rw [hi, hb]; simpa using h1
                        have Hv := Lib.hid hv
                        have Hi := Lib.hid hi
                        clear hv hi hb h1
                        go_wp2_with fail
                        refine (Hbr.out _).mono ?_
                        rintro e w2 ⟨rfl, rfl⟩
                        rw [Hi.out]
                        go_wp2_with fail
                        go_meet
                        rw [Hv.out]
                        exact ⟨rfl, rfl⟩
              case rest =>
                obtain ⟨rfl, rfl⟩ := hcut
                obtain ⟨w1, rfl⟩ : ∃ w1 : World, w1 = wc := ⟨_, rfl⟩
                have d0 := Hbx.out.at.c0
                go_upto_if 63 with fail
                go_cut [63] (fun s wx => s = .bool (simpleB t.kind) ∧ wx = w1)
                case first =>
                  as_aux_lemma =>
                    clear d0
                    obtain ⟨d0, d1, d2, d3, d4, d5, d6, d7, d8, d9⟩ := Hbx.out.at
                    simp only [Nat.zero_add] at d0 d1 d2 d3 d4 d5 d6 d7 d8 d9
                    by_cases h1 : t.kind = 1
                    · have q1 : (t.kind == 1) = true := by simpa using h1
                      have hv : simpleB t.kind = true := decide_eq_true (by omega)
                      have Hv := Lib.hid hv
                      clear hv h1
                      go_wp2_with fail
                      go_meet
                      rw [Hv.out]
                      first | exact ⟨rfl, rfl⟩ | exact ⟨by simp only [*], rfl⟩
                    · have q1 : (t.kind == 1) = false := by simpa using h1
                      by_cases h2 : t.kind = 2
                      · have q2 : (t.kind == 2) = true := by simpa using h2
                        have hv : simpleB t.kind = true := decide_eq_true (by omega)
                        have Hv := Lib.hid hv
                        clear hv h2 h1
                        go_wp2_with fail
                        go_meet
                        rw [Hv.out]
                        first | exact ⟨rfl, rfl⟩ | exact ⟨by simp only [*], rfl⟩
                      · have q2 : (t.kind == 2) = false := by simpa using h2
                        by_cases h4 : t.kind = 4
                        · have q4 : (t.kind == 4) = true := by simpa using h4
                          have hv : simpleB t.kind = true := decide_eq_true (by omega)
                          have Hv := Lib.hid hv
                          clear hv h4 h1 h2
                          go_wp2_with fail
                          go_meet
                          rw [Hv.out]
                          first | exact ⟨rfl, rfl⟩ | exact ⟨by simp only [*], rfl⟩
                        · have q4 : (t.kind == 4) = false := by simpa using h4
                          by_cases h5 : t.kind = 5
                          · have q5 : (t.kind == 5) = true := by simpa using h5
                            have hv : simpleB t.kind = true := decide_eq_true (by omega)
                            have Hv := Lib.hid hv
                            clear hv h5 h1 h2 h4
                            go_wp2_with fail
                            go_meet
                            rw [Hv.out]
                            first | exact ⟨rfl, rfl⟩ | exact ⟨by simp only [*], rfl⟩
                          · have q5 : (t.kind == 5) = false := by simpa using h5
                            by_cases h6 : t.kind = 6
                            · have q6 : (t.kind == 6) = true := by simpa using h6
                              have hv : simpleB t.kind = true := decide_eq_true (by omega)
                              have Hv := Lib.hid hv
                              clear hv h6 h1 h2 h4 h5
                              go_wp2_with fail
                              go_meet
                              rw [Hv.out]
                              first | exact ⟨rfl, rfl⟩ | exact ⟨by simp only [*], rfl⟩
                            · have q6 : (t.kind == 6) = false := by simpa using h6
                              by_cases h7 : t.kind = 7
                              · have q7 : (t.kind == 7) = true := by simpa using h7
                                have hv : simpleB t.kind = true := decide_eq_true (by omega)
                                have Hv := Lib.hid hv
                                clear hv h7 h1 h2 h4 h5 h6
                                go_wp2_with fail
                                go_meet
                                rw [Hv.out]
                                first | exact ⟨rfl, rfl⟩ | exact ⟨by simp only [*], rfl⟩
                              · have q7 : (t.kind == 7) = false := by simpa using h7
                                by_cases h8 : t.kind = 8
                                · have q8 : (t.kind == 8) = true := by simpa using h8
                                  have hv : simpleB t.kind = true := decide_eq_true (by omega)
                                  have Hv := Lib.hid hv
                                  clear hv h8 h1 h2 h4 h5 h6 h7
                                  go_wp2_with fail
                                  go_meet
                                  rw [Hv.out]
                                  first | exact ⟨rfl, rfl⟩ | exact ⟨by simp only [*], rfl⟩
                                · have q8 : (t.kind == 8) = false := by simpa using h8
                                  have hv : simpleB t.kind = false := decide_eq_false (by omega)
                                  have Hv := Lib.hid hv
                                  clear hv h1 h2 h4 h5 h6 h7 h8
                                  go_wp2_with fail
                                  go_meet
                                  rw [Hv.out]
                                  first | exact ⟨rfl, rfl⟩ | exact ⟨by simp only [*], rfl⟩
                case rest =>
                  obtain ⟨rfl, rfl⟩ := hcut
                  obtain ⟨w1, rfl⟩ : ∃ w1 : World, w1 = wc := ⟨_, rfl⟩
                  cases hsk : simpleB t.kind with
                  | true =>
                    as_aux_lemma =>
                    have hv := said_simple (g := g) hsk
                    generalize numsB t = b5 at *
                    generalize brandlessB t = b6 at *
                    generalize topB t = b7 at *
                    generalize bareB t = b8 at *
                    generalize plainsB t = b9 at *
                    generalize clearB t = b10 at *
                    have Hv := Lib.hid hv
                    clear hv hsk
                    cases b5 with
                    | false =>
                      go_wp2_with fail
                      go_ret
                      rw [Hv.out]
                      exact ⟨rfl, Hx0.out⟩
                    | true =>
                      cases b6 with
                      | false =>
                        go_wp2_with fail
                        go_ret
                        rw [Hv.out]
                        exact ⟨rfl, Hx0.out⟩
                      | true =>
                        cases b7 with
                        | false =>
                          go_wp2_with fail
                          go_ret
                          rw [Hv.out]
                          exact ⟨rfl, Hx0.out⟩
                        | true =>
                          cases b8 with
                          | false =>
                            go_wp2_with fail
                            go_ret
                            rw [Hv.out]
                            exact ⟨rfl, Hx0.out⟩
                          | true =>
                            cases b9 with
                            | false =>
                              go_wp2_with fail
                              go_ret
                              rw [Hv.out]
                              exact ⟨rfl, Hx0.out⟩
                            | true =>
                              cases b10 with
                              | false =>
                                go_wp2_with fail
                                go_ret
                                rw [Hv.out]
                                exact ⟨rfl, Hx0.out⟩
                              | true =>
                                go_wp2_with fail
                                go_ret
                                rw [Hv.out]
                                exact ⟨rfl, Hx0.out⟩
                  | false =>
                    by_cases h3 : t.kind = 3
                    · as_aux_lemma =>
                      have q3 : (t.kind == 3) = true := by simpa using h3
                      have hv : saidB g t = (decide (-1000000000 ≤ t.low) && (decide (t.low ≤ t.high) && (decide (t.high ≤ 1000000000) && (brandlessB t && (topB t && (bareB t && (plainsB t && clearB t))))))) := by unfold saidB; rw [if_pos h3]
                      generalize brandlessB t = b6 at *
                      generalize topB t = b7 at *
                      generalize bareB t = b8 at *
                      generalize plainsB t = b9 at *
                      generalize clearB t = b10 at *
                      generalize hk1 : decide (-1000000000 ≤ t.low) = k1 at hv
                      generalize hk2 : decide (t.low ≤ t.high) = k2 at hv
                      generalize hk3 : decide (t.high ≤ 1000000000) = k3 at hv
                      have Hv := Lib.hid hv
                      have Hk1 := Lib.hid hk1
                      have Hk2 := Lib.hid hk2
                      have Hk3 := Lib.hid hk3
                      clear hv hk1 hk2 hk3 h3 hsk d0
                      obtain ⟨d0, d1, d2, d3, d4, d5, d6, d7, d8, d9⟩ := Hbx.out.at
                      simp only [Nat.zero_add] at d0 d1 d2 d3 d4 d5 d6 d7 d8 d9
                      cases k1 with
                      | false =>
                        have p1 := of_decide_eq_false Hk1.out
                        go_wp2_with fail
                        go_ret
                        rw [Hv.out]
                        exact ⟨rfl, Hx0.out⟩
                      | true =>
                        have p1 := of_decide_eq_true Hk1.out
                        cases k2 with
                        | false =>
                          have p2 := of_decide_eq_false Hk2.out
                          go_wp2_with fail
                          go_ret
                          rw [Hv.out]
                          exact ⟨rfl, Hx0.out⟩
                        | true =>
                          have p2 := of_decide_eq_true Hk2.out
                          cases k3 with
                          | false =>
                            have p3 := of_decide_eq_false Hk3.out
                            go_wp2_with fail
                            go_ret
                            rw [Hv.out]
                            exact ⟨rfl, Hx0.out⟩
                          | true =>
                            have p3 := of_decide_eq_true Hk3.out
                            cases b6 with
                            | false =>
                              go_wp2_with fail
                              go_ret
                              rw [Hv.out]
                              exact ⟨rfl, Hx0.out⟩
                            | true =>
                              cases b7 with
                              | false =>
                                go_wp2_with fail
                                go_ret
                                rw [Hv.out]
                                exact ⟨rfl, Hx0.out⟩
                              | true =>
                                cases b8 with
                                | false =>
                                  go_wp2_with fail
                                  go_ret
                                  rw [Hv.out]
                                  exact ⟨rfl, Hx0.out⟩
                                | true =>
                                  cases b9 with
                                  | false =>
                                    go_wp2_with fail
                                    go_ret
                                    rw [Hv.out]
                                    exact ⟨rfl, Hx0.out⟩
                                  | true =>
                                    cases b10 with
                                    | false =>
                                      go_wp2_with fail
                                      go_ret
                                      rw [Hv.out]
                                      exact ⟨rfl, Hx0.out⟩
                                    | true =>
                                      go_wp2_with fail
                                      go_ret
                                      rw [Hv.out]
                                      exact ⟨rfl, Hx0.out⟩
                    have q3 : (t.kind == 3) = false := by simpa using h3
                    have H3 := Lib.hid h3
                    have Hsk := Lib.hid hsk
                    clear h3 hsk
                    go_upto_if 119 with fail
                    go_cut [119] (fun s wx => s = .bool (heldK t.kind) ∧ wx = w1)
                    case first =>
                      as_aux_lemma =>
                        clear d0
                        obtain ⟨d0, d1, d2, d3, d4, d5, d6, d7, d8, d9⟩ := Hbx.out.at
                        simp only [Nat.zero_add] at d0 d1 d2 d3 d4 d5 d6 d7 d8 d9
                        by_cases h9 : t.kind = 9
                        · have q9 : (t.kind == 9) = true := by simpa using h9
                          have hv : heldK t.kind = true := decide_eq_true (by omega)
                          have Hv := Lib.hid hv
                          clear hv h9
                          go_wp2_with fail
                          go_meet
                          rw [Hv.out]
                          first | exact ⟨rfl, rfl⟩ | exact ⟨by simp only [*], rfl⟩
                        · have q9 : (t.kind == 9) = false := by simpa using h9
                          by_cases h11 : t.kind = 11
                          · have q11 : (t.kind == 11) = true := by simpa using h11
                            have hv : heldK t.kind = true := decide_eq_true (by omega)
                            have Hv := Lib.hid hv
                            clear hv h9 h11
                            go_wp2_with fail
                            go_meet
                            rw [Hv.out]
                            first | exact ⟨rfl, rfl⟩ | exact ⟨by simp only [*], rfl⟩
                          · have q11 : (t.kind == 11) = false := by simpa using h11
                            have hv : heldK t.kind = false := decide_eq_false (by omega)
                            have Hv := Lib.hid hv
                            clear hv h9 h11
                            go_wp2_with fail
                            go_meet
                            rw [Hv.out]
                            first | exact ⟨rfl, rfl⟩ | exact ⟨by simp only [*], rfl⟩
                    case rest =>
                      obtain ⟨rfl, rfl⟩ := hcut
                      obtain ⟨w1, rfl⟩ : ∃ w1 : World, w1 = wc := ⟨_, rfl⟩
                      cases hh : heldK t.kind with
                      | true =>
                        have hv : saidB g t = (numsB t && (brandingB t && (topB t && (oneB g.length t && (plainsB t && clearB t))))) := by unfold saidB; rw [if_neg H3.out, if_pos (of_decide_eq_true hh)]
                        have Hh := Lib.hid hh
                        clear hh
                        have Hv := Lib.hid hv
                        clear hv
                        go_upto_region 21 with fail
                        go_cut [12] (fun s wx => s = .bool (oneB g.length t) ∧ wx = w1)
                        case first =>
                          as_aux_lemma =>
                            clear d0
                            obtain ⟨d0, d1, d2, d3, d4, d5, d6, d7, d8, d9⟩ := Hbx.out.at
                            simp only [Nat.zero_add] at d0 d1 d2 d3 d4 d5 d6 d7 d8 d9
                            clear Hv
                            by_cases h1 : t.parts.length = 1
                            · have q1 : ((t.parts.length : Int) == 1) = true := by rw [beq_iff_eq]; omega
                              have hl1 : t.parts.length = 1 := h1
                              obtain ⟨pb, po, eA, p0, p1⟩ := Hp.out 0 (by omega)
                              subst eA
                              replace p0 := Hx0.out.cell p0
                              replace p1 := Hx0.out.cell p1
                              simp only [Nat.zero_mul, Nat.add_zero] at p0 p1
                              have lp := cell_lt p0
                              have hhd : t.parts.head? = some (t.parts[0]'(by omega)) := by rw [List.head?_eq_getElem?, List.getElem?_eq_getElem (by omega)]
                              have hone : oneB g.length t = (strEq (t.parts[0]'(by omega)).name ByteArray.empty && hasB g.length (t.parts[0]'(by omega)).type) := by unfold oneB; rw [hhd, decide_eq_true h1]; rfl
                              have Hone := Lib.hid hone
                              clear hone hhd hl1
                              generalize (t.parts[0]'(by omega)) = pt at *
                              have hlt1 : (0 : Int) < (t.parts.length : Int) := by omega
                              have hlt2 : 0 < t.parts.length := by omega
                              clear h1
                              by_cases h2 : strEq pt.name ByteArray.empty = true
                              · have q2 : pt.name.toList.isEmpty = true := by rw [isEmpty_strEq]; exact h2
                                have r2 : pt.name.toList = [] := by simpa using q2
                                by_cases h3 : 0 ≤ pt.type
                                · by_cases h4 : pt.type < (g.length : Int)
                                  · have hv : oneB g.length t = true := by rw [Hone.out, h2, hasB_iff.2 ⟨h3, h4⟩]; rfl
                                    have Hv := Lib.hid hv
                                    clear hv h2
                                    go_wp2_with fail
                                    go_meet
                                    rw [Hv.out]
                                    exact ⟨rfl, rfl⟩
                                  · have hv : oneB g.length t = false := by rw [Hone.out, h2, hasB_out (by omega)]; rfl
                                    have Hv := Lib.hid hv
                                    clear hv h2
                                    go_wp2_with fail
                                    go_meet
                                    rw [Hv.out]
                                    exact ⟨rfl, rfl⟩
                                · have hv : oneB g.length t = false := by rw [Hone.out, h2, hasB_out (by omega)]; rfl
                                  have Hv := Lib.hid hv
                                  clear hv h2
                                  go_wp2_with fail
                                  go_meet
                                  rw [Hv.out]
                                  exact ⟨rfl, rfl⟩
                              · have q2 : pt.name.toList.isEmpty = false := by rw [isEmpty_strEq]; simpa using h2
                                have r2 : ¬ pt.name.toList = [] := by simpa using q2
                                have hv : oneB g.length t = false := by rw [Hone.out]; simp [h2]
                                have Hv := Lib.hid hv
                                clear hv h2
                                go_wp2_with fail
                                go_meet
                                rw [Hv.out]
                                exact ⟨rfl, rfl⟩
                            · have q1 : ((t.parts.length : Int) == 1) = false := by rw [beq_eq_false_iff_ne]; omega
                              have hv : oneB g.length t = false := by unfold oneB; rw [decide_eq_false h1]; rfl
                              have Hv := Lib.hid hv
                              clear hv h1
                              go_wp2_with fail
                              go_meet
                              rw [Hv.out]
                              exact ⟨rfl, rfl⟩
                        case rest =>
                          obtain ⟨rfl, rfl⟩ := hcut
                          obtain ⟨w1, rfl⟩ : ∃ w1 : World, w1 = wc := ⟨_, rfl⟩
                          have hv := Hv.out
                          clear Hv
                          generalize numsB t = b5 at *
                          generalize brandingB t = b11 at *
                          generalize topB t = b7 at *
                          generalize oneB g.length t = b12 at *
                          generalize plainsB t = b9 at *
                          generalize clearB t = b10 at *
                          have Hv := Lib.hid hv
                          clear hv
                          cases b5 with
                          | false =>
                            go_wp2_with fail
                            go_ret
                            rw [Hv.out]
                            exact ⟨rfl, Hx0.out⟩
                          | true =>
                            cases b11 with
                            | false =>
                              go_wp2_with fail
                              go_ret
                              rw [Hv.out]
                              exact ⟨rfl, Hx0.out⟩
                            | true =>
                              cases b7 with
                              | false =>
                                go_wp2_with fail
                                go_ret
                                rw [Hv.out]
                                exact ⟨rfl, Hx0.out⟩
                              | true =>
                                cases b12 with
                                | false =>
                                  go_wp2_with fail
                                  go_ret
                                  rw [Hv.out]
                                  exact ⟨rfl, Hx0.out⟩
                                | true =>
                                  cases b9 with
                                  | false =>
                                    go_wp2_with fail
                                    go_ret
                                    rw [Hv.out]
                                    exact ⟨rfl, Hx0.out⟩
                                  | true =>
                                    cases b10 with
                                    | false =>
                                      go_wp2_with fail
                                      go_ret
                                      rw [Hv.out]
                                      exact ⟨rfl, Hx0.out⟩
                                    | true =>
                                      go_wp2_with fail
                                      go_ret
                                      rw [Hv.out]
                                      exact ⟨rfl, Hx0.out⟩
                      | false =>
                        have H9 := Lib.hid hh
                        clear hh
                        by_cases h10 : t.kind = 10
                        · as_aux_lemma =>
                          have q10 : (t.kind == 10) = true := by simpa using h10
                          have hv : saidB g t = (numsB t && (brandingB t && (topB t && (decide (1 ≤ t.parts.length) && (partsB g.length t.parts && (plainsB t && clearB t)))))) := by unfold saidB; rw [if_neg H3.out, if_neg (of_decide_eq_false H9.out), if_pos h10]
                          generalize numsB t = b5 at *
                          generalize brandingB t = b11 at *
                          generalize topB t = b7 at *
                          generalize plainsB t = b9 at *
                          generalize clearB t = b10 at *
                          generalize partsB g.length t.parts = bp at hv Hpt
                          generalize hk1 : decide (1 ≤ t.parts.length) = k1 at hv
                          have Hv := Lib.hid hv
                          have Hk1 := Lib.hid hk1
                          clear hv hk1 h10 d0
                          obtain ⟨d0, d1, d2, d3, d4, d5, d6, d7, d8, d9⟩ := Hbx.out.at
                          simp only [Nat.zero_add] at d0 d1 d2 d3 d4 d5 d6 d7 d8 d9
                          cases b5 with
                          | false =>
                            go_wp2_with fail
                            go_ret
                            rw [Hv.out]
                            exact ⟨rfl, Hx0.out⟩
                          | true =>
                            cases b11 with
                            | false =>
                              go_wp2_with fail
                              go_ret
                              rw [Hv.out]
                              exact ⟨rfl, Hx0.out⟩
                            | true =>
                              cases b7 with
                              | false =>
                                go_wp2_with fail
                                go_ret
                                rw [Hv.out]
                                exact ⟨rfl, Hx0.out⟩
                              | true =>
                                cases k1 with
                                | false =>
                                  have p1 := of_decide_eq_false Hk1.out
                                  have pz : ¬ (1 : Int) ≤ (t.parts.length : Int) := by omega
                                  go_wp2_with fail
                                  go_ret
                                  rw [Hv.out]
                                  exact ⟨rfl, Hx0.out⟩
                                | true =>
                                  have p1 := of_decide_eq_true Hk1.out
                                  have pz : (1 : Int) ≤ (t.parts.length : Int) := by omega
                                  go_wp2_with fail
                                  refine (Hpt.out _ (Hx0.out)).mono ?_
                                  rintro e w14 ⟨rfl, hx14⟩
                                  have Hx14 := Lib.hid hx14
                                  clear hx14 d0 d1 d2 d3 d4 d5 d6 d7 d8 d9
                                  have hbw := Hbx.out.ext (Hx14.out)
                                  obtain ⟨d0, d1, d2, d3, d4, d5, d6, d7, d8, d9⟩ := hbw.at
                                  simp only [Nat.zero_add] at d0 d1 d2 d3 d4 d5 d6 d7 d8 d9
                                  have l14 := hbw.lt
                                  clear hbw
                                  cases bp with
                                  | false =>
                                    go_wp2_with fail
                                    go_ret
                                    rw [Hv.out]
                                    exact ⟨rfl, (Hx0.out).trans Hx14.out⟩
                                  | true =>
                                    cases b9 with
                                    | false =>
                                      go_wp2_with fail
                                      go_ret
                                      rw [Hv.out]
                                      exact ⟨rfl, (Hx0.out).trans Hx14.out⟩
                                    | true =>
                                      cases b10 with
                                      | false =>
                                        go_wp2_with fail
                                        go_ret
                                        rw [Hv.out]
                                        exact ⟨rfl, (Hx0.out).trans Hx14.out⟩
                                      | true =>
                                        go_wp2_with fail
                                        go_ret
                                        rw [Hv.out]
                                        exact ⟨rfl, (Hx0.out).trans Hx14.out⟩
                        have q10 : (t.kind == 10) = false := by simpa using h10
                        have H10 := Lib.hid h10
                        clear h10
                        by_cases h12 : t.kind = 12
                        · as_aux_lemma =>
                          have q12 : (t.kind == 12) = true := by simpa using h12
                          have hv : saidB g t = (numsB t && (brandingB t && (overB g t.super kindsObject && (partsB g.length t.parts && (methsB g.length t && clearB t))))) := by unfold saidB; rw [if_neg H3.out, if_neg (of_decide_eq_false H9.out), if_neg H10.out, if_pos h12]
                          have hsu := Hsup.out
                          rw [if_neg (by omega)] at hsu
                          clear Hsup
                          generalize numsB t = b5 at *
                          generalize brandingB t = b11 at *
                          generalize clearB t = b10 at *
                          generalize partsB g.length t.parts = bp at hv Hpt
                          generalize methsB g.length t = bm at hv Hmt
                          generalize overB g t.super kindsObject = bo at hv hsu
                          have Hv := Lib.hid hv
                          have Hsu := Lib.hid hsu
                          clear hv hsu h12 d0
                          obtain ⟨d0, d1, d2, d3, d4, d5, d6, d7, d8, d9⟩ := Hbx.out.at
                          simp only [Nat.zero_add] at d0 d1 d2 d3 d4 d5 d6 d7 d8 d9
                          cases b5 with
                          | false =>
                            go_wp2_with fail
                            go_ret
                            rw [Hv.out]
                            exact ⟨rfl, Hx0.out⟩
                          | true =>
                            cases b11 with
                            | false =>
                              go_wp2_with fail
                              go_ret
                              rw [Hv.out]
                              exact ⟨rfl, Hx0.out⟩
                            | true =>
                              go_wp2_with fail
                              refine (Hsu.out _ (Hx0.out)).mono ?_
                              rintro e w12 ⟨rfl, hx12⟩
                              have Hx12 := Lib.hid hx12
                              clear hx12 d0 d1 d2 d3 d4 d5 d6 d7 d8 d9
                              have hbw := Hbx.out.ext (Hx12.out)
                              obtain ⟨d0, d1, d2, d3, d4, d5, d6, d7, d8, d9⟩ := hbw.at
                              simp only [Nat.zero_add] at d0 d1 d2 d3 d4 d5 d6 d7 d8 d9
                              have l12 := hbw.lt
                              clear hbw
                              cases bo with
                              | false =>
                                go_wp2_with fail
                                go_ret
                                rw [Hv.out]
                                exact ⟨rfl, (Hx0.out).trans Hx12.out⟩
                              | true =>
                                go_wp2_with fail
                                refine (Hpt.out _ ((Hx0.out).trans Hx12.out)).mono ?_
                                rintro e w13 ⟨rfl, hx13⟩
                                have Hx13 := Lib.hid hx13
                                clear hx13 d0 d1 d2 d3 d4 d5 d6 d7 d8 d9
                                have hbw := Hbx.out.ext (Hx12.out.trans Hx13.out)
                                obtain ⟨d0, d1, d2, d3, d4, d5, d6, d7, d8, d9⟩ := hbw.at
                                simp only [Nat.zero_add] at d0 d1 d2 d3 d4 d5 d6 d7 d8 d9
                                have l13 := hbw.lt
                                clear hbw
                                cases bp with
                                | false =>
                                  go_wp2_with fail
                                  go_ret
                                  rw [Hv.out]
                                  exact ⟨rfl, ((Hx0.out).trans Hx12.out).trans Hx13.out⟩
                                | true =>
                                  go_wp2_with fail
                                  refine (Hmt.out _ (((Hx0.out).trans Hx12.out).trans Hx13.out)).mono ?_
                                  rintro e w14 ⟨rfl, hx14⟩
                                  have Hx14 := Lib.hid hx14
                                  clear hx14 d0 d1 d2 d3 d4 d5 d6 d7 d8 d9
                                  have hbw := Hbx.out.ext ((Hx12.out.trans Hx13.out).trans Hx14.out)
                                  obtain ⟨d0, d1, d2, d3, d4, d5, d6, d7, d8, d9⟩ := hbw.at
                                  simp only [Nat.zero_add] at d0 d1 d2 d3 d4 d5 d6 d7 d8 d9
                                  have l14 := hbw.lt
                                  clear hbw
                                  cases bm with
                                  | false =>
                                    go_wp2_with fail
                                    go_ret
                                    rw [Hv.out]
                                    exact ⟨rfl, (((Hx0.out).trans Hx12.out).trans Hx13.out).trans Hx14.out⟩
                                  | true =>
                                    cases b10 with
                                    | false =>
                                      go_wp2_with fail
                                      go_ret
                                      rw [Hv.out]
                                      exact ⟨rfl, (((Hx0.out).trans Hx12.out).trans Hx13.out).trans Hx14.out⟩
                                    | true =>
                                      go_wp2_with fail
                                      go_ret
                                      rw [Hv.out]
                                      exact ⟨rfl, (((Hx0.out).trans Hx12.out).trans Hx13.out).trans Hx14.out⟩
                        have q12 : (t.kind == 12) = false := by simpa using h12
                        have H12 := Lib.hid h12
                        clear h12
                        by_cases h13 : t.kind = 13
                        · as_aux_lemma =>
                          have q13 : (t.kind == 13) = true := by simpa using h13
                          have hv : saidB g t = (numsB t && (brandlessB t && (overB g t.super kindsOpaque && (bareB t && (plainsB t && isSymbolB t.opaq))))) := by unfold saidB; rw [if_neg H3.out, if_neg (of_decide_eq_false H9.out), if_neg H10.out, if_neg H12.out, if_pos h13]
                          have hsu := Hsup.out
                          rw [if_pos h13] at hsu
                          clear Hsup
                          generalize numsB t = b5 at *
                          generalize brandlessB t = b6 at *
                          generalize bareB t = b8 at *
                          generalize plainsB t = b9 at *
                          generalize isSymbolB t.opaq = by_ at hv Hsy
                          generalize overB g t.super kindsOpaque = bo at hv hsu
                          have Hv := Lib.hid hv
                          have Hsu := Lib.hid hsu
                          clear hv hsu h13 d0
                          obtain ⟨d0, d1, d2, d3, d4, d5, d6, d7, d8, d9⟩ := Hbx.out.at
                          simp only [Nat.zero_add] at d0 d1 d2 d3 d4 d5 d6 d7 d8 d9
                          cases b5 with
                          | false =>
                            go_wp2_with fail
                            go_ret
                            rw [Hv.out]
                            exact ⟨rfl, Hx0.out⟩
                          | true =>
                            cases b6 with
                            | false =>
                              go_wp2_with fail
                              go_ret
                              rw [Hv.out]
                              exact ⟨rfl, Hx0.out⟩
                            | true =>
                              go_wp2_with fail
                              refine (Hsu.out _ Hx0.out).mono ?_
                              rintro e w12 ⟨rfl, hx12⟩
                              have Hx12 := Lib.hid hx12
                              clear hx12 d0 d1 d2 d3 d4 d5 d6 d7 d8 d9
                              have hbw := Hbx.out.ext Hx12.out
                              obtain ⟨d0, d1, d2, d3, d4, d5, d6, d7, d8, d9⟩ := hbw.at
                              simp only [Nat.zero_add] at d0 d1 d2 d3 d4 d5 d6 d7 d8 d9
                              have l12 := hbw.lt
                              clear hbw
                              cases bo with
                              | false =>
                                go_wp2_with fail
                                go_ret
                                rw [Hv.out]
                                exact ⟨rfl, Hx0.out.trans Hx12.out⟩
                              | true =>
                                cases b8 with
                                | false =>
                                  go_wp2_with fail
                                  go_ret
                                  rw [Hv.out]
                                  exact ⟨rfl, Hx0.out.trans Hx12.out⟩
                                | true =>
                                  cases b9 with
                                  | false =>
                                    go_wp2_with fail
                                    go_ret
                                    rw [Hv.out]
                                    exact ⟨rfl, Hx0.out.trans Hx12.out⟩
                                  | true =>
                                    go_wp2_with fail
                                    refine (Hsy.out _).mono ?_
                                    rintro e w13 ⟨rfl, rfl⟩
                                    go_wp2_with fail
                                    go_ret
                                    rw [Hv.out]
                                    exact ⟨rfl, Hx0.out.trans Hx12.out⟩
                        have q13 : (t.kind == 13) = false := by simpa using h13
                        have hv : saidB g t = false := said_none Hsk.out H3.out H9.out H10.out H12.out h13
                        have Hv := Lib.hid hv
                        clear hv h13
                        go_wp2_with fail
                        go_ret
                        rw [Hv.out]
                        exact ⟨rfl, Hx0.out⟩
end Go.Proofs.YtldnjnnhfeobdaaGreatDoor
