/- Parts of the proof, joined: Contract of the reference: what may be above a type. Conditions: lengths below 2^20; Contract of the reference: parts have different names, and types of a graph. Conditions: lengths below 2^20; Contract of the reference: methods and overrides are as said. Conditions: lengths below 2^20; Contract of the reference: a type as said in itself. Conditions: lengths below 2^20; Contracts of the reference: what is wrong with a graph; the first error of a graph and indices; Word. Conditions: a tidy graph; Regions that draw their order, inside a round of a range over a function: what serves outside serves inside. No condition; Contract: reach: what ways lead to. Conditions: a right graph; a quiet function value for classes. -/
import Derived.OrdersIn
import Derived.TacticsIn
import Derived.StillTail
import Derived.StillTailTactics
import Derived.RangeFuncCalls
import Derived.RangeFuncWrites
import Derived.Test.YtldnjnnhfeobdaaGreatDoorG03
import Derived.Test.YtldnjnnhfeobdaaGreatDoorG06
import Derived.Test.YtldnjnnhfeobdaaGreatDoorG05
import Derived.Test.YtldnjnnhfeobdaaGreatDoorG07
import Derived.Test.YtldnjnnhfeobdaaGreatDoorG04
import Derived.Test.YtldnjnnhfeobdaaGreatDoorG02
import Derived.Test.YtldnjnnhfeobdaaGreatDoorG01
set_option linter.all false
set_option linter.unusedSimpArgs false
set_option linter.unusedVariables false
namespace Go.Proofs.YtldnjnnhfeobdaaGreatDoor
open Go.RowKit Go.Shelf
theorem over_out {g : Graph} {i : Int} {ks : List Int} (h : ¬ (0 ≤ i ∧ i < g.length)) : overB g i ks = false := by
 unfold overB
 have : hasB g.length i = false := by
  cases hb : hasB g.length i with
  | false => rfl
  | true => exact absurd (hasB_iff.1 hb) h
 rw [this, Bool.false_and]
theorem over_at {g : Graph} {i : Nat} {ks : List Int} (h : i < g.length) : overB g (i : Int) ks = ks.any fun y => g[i].kind == y := by
 unfold overB
 rw [hasB_iff.2 (by omega), Bool.true_and, Int.toNat_natCast, List.getElem?_eq_getElem h]
 rfl
set_option maxRecDepth 100000 in
set_option maxHeartbeats 8000000 in
theorem rsuper_any (w : World) (gv : Value) (g : Graph) (t : Ty) (vp vm vo : Value) (hg : Sl tyE w gv g) (hn : g.length ≤ 1048576) :
  Calls Tryz.prog 119 #[gv, tyV t vp vm vo] w (Ret w (.bool (overB g t.super (if t.kind = 13 then kindsOpaque else kindsObject)))) := by
 obtain ⟨A, cap, rfl, hs⟩ := hg.ty
 by_cases h0 : t.super < 0
 ·rw [over_out (by omega)]
  clear hs hg
  go_enter Tryz.func119, Tryz.ntmps119
  unfold tyV
  go_wp2_with fail
  go_ret
  exact ⟨rfl, (Ext.refl _).alloc _⟩
 ·by_cases h1 : t.super < (g.length : Int)
  ·have h1' : ¬ (g.length : Int) ≤ t.super := by omega
   obtain ⟨i, hi⟩ := Int.eq_ofNat_of_zero_le (show 0 ≤ t.super by omega)
   have hlt : i < g.length := by omega
   obtain ⟨b, off, vp', vm', vo', rfl, hat, _⟩ := hs i hlt
   have c0 := hat.c0
   have l0 := cell_lt c0
   rw [hi, over_at hlt]
   have i0 : (0 : Int) ≤ (i : Int) := by omega
   have i1 : (i : Int) < (g.length : Int) := by omega
   generalize g[i].kind = k at *
   obtain ⟨kd, lo, hi', br, bd, op, su, ps, ms, os⟩ := t
   simp only at hi h0 h1 h1'
   subst hi
   unfold tyV
   simp only
   clear hs hg hat
   by_cases k12 : k = 12
   ·subst k12
    have hv : ((if kd = 13 then kindsOpaque else kindsObject).any fun y => (12 : Int) == y) = true := by split <;> rfl
    rw [hv]
    go_enter Tryz.func119, Tryz.ntmps119
    go_wp2_with fail
    go_ret
    exact ⟨rfl, (Ext.refl _).alloc _⟩
   by_cases k6 : k = 6
   ·subst k6
    have hv : ((if kd = 13 then kindsOpaque else kindsObject).any fun y => (6 : Int) == y) = true := by split <;> rfl
    rw [hv]
    go_enter Tryz.func119, Tryz.ntmps119
    go_wp2_with fail
    go_ret
    exact ⟨rfl, (Ext.refl _).alloc _⟩
   by_cases k7 : k = 7
   ·subst k7
    have hv : ((if kd = 13 then kindsOpaque else kindsObject).any fun y => (7 : Int) == y) = true := by split <;> rfl
    rw [hv]
    go_enter Tryz.func119, Tryz.ntmps119
    go_wp2_with fail
    go_ret
    exact ⟨rfl, (Ext.refl _).alloc _⟩
   by_cases k8 : k = 8
   ·subst k8
    have hv : ((if kd = 13 then kindsOpaque else kindsObject).any fun y => (8 : Int) == y) = true := by split <;> rfl
    rw [hv]
    go_enter Tryz.func119, Tryz.ntmps119
    go_wp2_with fail
    go_ret
    exact ⟨rfl, (Ext.refl _).alloc _⟩
   by_cases k13 : k = 13
   ·subst k13
    have hv : ((if kd = 13 then kindsOpaque else kindsObject).any fun y => (13 : Int) == y) = true := by split <;> rfl
    rw [hv]
    go_enter Tryz.func119, Tryz.ntmps119
    go_wp2_with fail
    go_ret
    exact ⟨rfl, (Ext.refl _).alloc _⟩
   by_cases k4 : k = 4
   ·subst k4
    by_cases kd13 : kd = 13
    ·have q : (kd == 13) = true := by simpa using kd13
     rw [if_pos kd13]
     clear kd13
     go_enter Tryz.func119, Tryz.ntmps119
     go_wp2_with fail
     go_ret
     exact ⟨rfl, (Ext.refl _).alloc _⟩
    ·have q : (kd == 13) = false := by rw [beq_eq_false_iff_ne]; exact kd13
     rw [if_neg kd13]
     clear kd13
     go_enter Tryz.func119, Tryz.ntmps119
     go_wp2_with fail
     go_ret
     exact ⟨rfl, (Ext.refl _).alloc _⟩
   have q12 : (k == 12) = false := by rw [beq_eq_false_iff_ne]; exact k12
   have q6 : (k == 6) = false := by rw [beq_eq_false_iff_ne]; exact k6
   have q7 : (k == 7) = false := by rw [beq_eq_false_iff_ne]; exact k7
   have q8 : (k == 8) = false := by rw [beq_eq_false_iff_ne]; exact k8
   have q13 : (k == 13) = false := by rw [beq_eq_false_iff_ne]; exact k13
   have q4 : (k == 4) = false := by rw [beq_eq_false_iff_ne]; exact k4
   have hv : ((if kd = 13 then kindsOpaque else kindsObject).any fun y => k == y) = false := by
    split <;> simp [kindsOpaque, kindsObject, k12, k6, k7, k8, k13, k4]
   rw [hv]
   clear k12 k6 k7 k8 k13 k4 hv
   go_enter Tryz.func119, Tryz.ntmps119
   go_wp2_with fail
   go_ret
   exact ⟨rfl, (Ext.refl _).alloc _⟩
  ·have h1' : (g.length : Int) ≤ t.super := by omega
   rw [over_out (by omega)]
   clear hs hg
   go_enter Tryz.func119, Tryz.ntmps119
   unfold tyV
   go_wp2_with fail
   go_ret
   exact ⟨rfl, (Ext.refl _).alloc _⟩
end Go.Proofs.YtldnjnnhfeobdaaGreatDoor
/- Contract of the reference: parts have different names, and types of a graph. Conditions: lengths below 2^20. -/
namespace Go.Proofs.YtldnjnnhfeobdaaGreatDoor
open Go.RowKit Go.Shelf
theorem memB_yes {α : Type} (nm : α → ByteArray) {l : List α} {j k : Nat} (hjk : j < k) (hk : k < l.length) (h : (nm l[j]).toList = (nm l[k]).toList) : memB (nm l[k]) ((l.take k).map nm) = true := by
 rw [memB_iff, ← ba_toList_inj h]
 refine List.mem_map_of_mem ?_
 rw [List.mem_take_iff_getElem]
 exact ⟨j, by omega, rfl⟩
theorem memB_no {α : Type} (nm : α → ByteArray) {l : List α} {k : Nat} (hk : k < l.length) (h : ∀ j (hj : j < l.length), j < k → ¬ (nm l[j]).toList = (nm l[k]).toList) : memB (nm l[k]) ((l.take k).map nm) = false := by
 cases hb : memB (nm l[k]) ((l.take k).map nm) with
 | false => rfl
 | true =>
  rw [memB_iff] at hb
  obtain ⟨x, hx, he⟩ := List.mem_map.1 hb
  rw [List.mem_take_iff_getElem] at hx
  obtain ⟨j, hj, rfl⟩ := hx
  exact absurd (by rw [he]) (h j (by omega) (by omega))
theorem parts_step (n : Nat) (l : List Part) (k : Nat) (hk : k < l.length) : partsFrom n ((l.take k).map Part.name) (l.drop k) =
  (isNameB l[k].name && (hasB n l[k].type && (!memB l[k].name ((l.take k).map Part.name) && partsFrom n ((l.take (k + 1)).map Part.name) (l.drop (k + 1))))) := by
 rw [drop_cons' l k hk, partsFrom, ← take_snoc' l k hk, List.map_append]; rfl
theorem parts_end (n : Nat) (l : List Part) (k : Nat) (hk : ¬ k < l.length) : partsFrom n ((l.take k).map Part.name) (l.drop k) = true := by
 rw [List.drop_of_length_le (by omega)]; rfl
theorem hasB_out {n : Nat} {i : Int} (h : ¬ (0 ≤ i ∧ i < n)) : hasB n i = false := by
 cases hb : hasB n i with
 | false => rfl
 | true => exact absurd (hasB_iff.1 hb) h
set_option maxRecDepth 100000 in
set_option maxHeartbeats 8000000 in
theorem rparts_any (w : World) (A : Option Addr) (n cap : Nat) (v : Value) (l : List Part) (hn : n ≤ 1048576) (hv : Sl partE w v l) (hl : l.length ≤ 1048576) (hs : ∀ p ∈ l, p.name.size ≤ 1048576) :
  Calls Tryz.prog 118 #[.slice A n cap, v] w (Ret w (.bool (partsB n l))) := by
 obtain ⟨B, cb, rfl, hc⟩ := hv.part
 have Hc := Lib.hid hc
 have Hs := Lib.hid hs
 clear hc hs hv
 obtain ⟨wo, rfl⟩ : ∃ wo : World, wo = w := ⟨_, rfl⟩
 have Hbad := Lib.hid (fun (h : partsFrom n [] l = false) => (show partsB n l = false by unfold partsB; rw [h]; rfl))
 have Hgood := Lib.hid (fun (h : partsFrom n [] l = true) => (show partsB n l = decide (l.length ≤ 8) by unfold partsB; rw [h]; rfl))
 go_enter Tryz.func118, Tryz.ntmps118
 go_wp2_with fail
 go_loopw [5] (fun u wr => ∃ k : Nat, k ≤ l.length ∧ u = .int .i64 k ∧ Hid (Ext wo wr) ∧ Hid (partsFrom n [] l = partsFrom n ((l.take k).map Part.name) (l.drop k))) (fun u _ => l.length - (intOf u).toNat)
 case atStart => exact ⟨0, by omega, rfl, Lib.hid (Ext.refl _), Lib.hid rfl⟩
 case round =>
  obtain ⟨k, hk, rfl, Hx, Hinv⟩ := hrel
  by_cases hlt : k < l.length
  ·obtain ⟨b, off, rfl, p0, p1⟩ := Hc.out k hlt
   have P0 := Lib.hid p0
   replace p0 := Hx.out.cell p0
   replace p1 := Hx.out.cell p1
   have lp := cell_lt p0
   have i0 : (0 : Int) ≤ (k : Int) := by omega
   have i1 : (k : Int) < (l.length : Int) := by omega
   have Hstep := Lib.hid (Hinv.out.trans (parts_step n l k hlt))
   have hsz := Hs.out _ (List.getElem_mem hlt)
   have Hnm := Lib.hid (fun w => rname_any l[k].name w hsz)
   have Hyes := Lib.hid (fun j (hj : j < k) => memB_yes Part.name (j := j) hj hlt)
   have Hnone := Lib.hid (memB_no Part.name hlt)
   generalize hp : l[k] = p at *
   clear hsz Hinv hp
   cases hname : isNameB p.name with
   | false =>
    have Hb := Lib.hid (Hbad.out (Hstep.out.trans (by rw [hname]; rfl)))
    have Hname := Lib.hid hname
    clear hname
    go_wp2_with fail
    refine (Hnm.out _).mono ?_
    rintro e w1 ⟨rfl, rfl⟩
    rw [Hname.out]
    go_wp2_with fail
    go_ret
    rw [Hb.out]
    exact ⟨rfl, Hx.out⟩
   | true =>
    have Hname := Lib.hid hname
    clear hname
    by_cases c1 : p.type < 0
    ·have Hb := Lib.hid (Hbad.out (Hstep.out.trans (by rw [Hname.out, hasB_out (by omega)]; rfl)))
     go_wp2_with fail
     refine (Hnm.out _).mono ?_
     rintro e w1 ⟨rfl, rfl⟩
     rw [Hname.out]
     go_wp2_with fail
     go_ret
     rw [Hb.out]
     exact ⟨rfl, Hx.out⟩
    by_cases c2 : (n : Int) ≤ p.type
    ·have Hb := Lib.hid (Hbad.out (Hstep.out.trans (by rw [Hname.out, hasB_out (by omega)]; rfl)))
     go_wp2_with fail
     refine (Hnm.out _).mono ?_
     rintro e w1 ⟨rfl, rfl⟩
     rw [Hname.out]
     go_wp2_with fail
     go_ret
     rw [Hb.out]
     exact ⟨rfl, Hx.out⟩
    have Hstep2 : Hid (partsFrom n [] l = (!memB p.name ((l.take k).map Part.name) && partsFrom n ((l.take (k + 1)).map Part.name) (l.drop (k + 1)))) := by
     rw [Hstep.out, Hname.out, hasB_iff.2 (by omega)]; rfl
    clear Hstep
    go_wp2_with fail
    refine (Hnm.out _).mono ?_
    rintro e w1 ⟨rfl, rfl⟩
    rw [Hname.out]
    go_wp2_with fail
    clear Hnm Hname
    obtain ⟨wa, rfl⟩ : ∃ wa : World, wa = w1 := ⟨_, rfl⟩
    go_loopw [6] (fun u wr => ∃ j : Nat, j ≤ k ∧ u = .int .i64 j ∧ Hid (Ext wo wr) ∧ Hid (∀ i (hi : i < l.length), i < j → ¬ l[i].name.toList = p.name.toList)) (fun u _ => k - (intOf u).toNat)
    case atStart => exact ⟨0, by omega, rfl, Hx, Lib.hid (fun i _ h => by omega)⟩
    case round =>
     clear p0 p1 lp
     obtain ⟨j, hj, rfl, Hx2, Hno⟩ := hrel
     have p0 := Hx2.out.cell P0.out
     have lp := cell_lt p0
     by_cases hjk : j < k
     ·have hjl : j < l.length := by omega
      obtain ⟨b', off', e', q0, q1⟩ := Hc.out j hjl
      cases e'
      replace q0 := Hx2.out.cell q0
      have j0 : (0 : Int) ≤ (j : Int) := by omega
      have j1 : (j : Int) < (k : Int) := by omega
      have j2 : (j : Int) < (l.length : Int) := by omega
      have hyes := Hyes.out j hjk
      have hnext := fun (h : ¬ l[j].name.toList = p.name.toList) i (hi : i < l.length) (hij : i < j + 1) => if e : i = j then (by subst e; exact h : ¬ l[i].name.toList = p.name.toList) else Hno.out i hi (by omega)
      have Hyes1 := Lib.hid hyes
      have Hnext := Lib.hid hnext
      generalize l[j] = q at *
      clear q1 hyes hnext
      cases he : (q.name.toList == p.name.toList) with
      | true =>
       have he2 : q.name.toList = p.name.toList := by simpa using he
       have Hb := Lib.hid (Hbad.out (Hstep2.out.trans (by rw [Hyes1.out he2]; rfl)))
       go_wp2_with fail
       go_quiet (fail)
       go_wp2_with fail
       go_ret
       rw [Hb.out]
       exact ⟨rfl, Hx2.out.drewN _⟩
      | false =>
       have he2 : ¬ q.name.toList = p.name.toList := by simpa using he
       have Hn := Lib.hid (Hnext.out he2)
       go_wp2_with fail
       go_quiet (fail)
       go_wp2_with fail
       go_roundw
       case rel => exact ⟨j + 1, by omega, by go_num, Lib.hid (Hx2.out.drewN _), Hn⟩
       case measure => simp [intOf]; omega
     ·have hjn : j = k := by omega
      subst hjn
      have hno := Hnone.out (fun i hi hij => Hno.out i hi hij)
      have Hn : Hid (partsFrom n [] l = partsFrom n ((l.take (j + 1)).map Part.name) (l.drop (j + 1))) := by
       rw [Hstep2.out, hno]; rfl
      clear hno hj hjk
      go_wp2_with fail
      go_roundw
      case rel => exact ⟨j + 1, by omega, by go_num, Hx2, Hn⟩
      case measure => simp [intOf]; omega
  ·have hend := Hinv.out.trans (parts_end n l k hlt)
   have hg := Hgood.out hend
   have i1 : ¬ (k : Int) < (l.length : Int) := by omega
   have Hg := Lib.hid hg
   clear hend hg
   by_cases h8 : l.length ≤ 8
   ·have q : (l.length : Int) ≤ 8 := by omega
    go_wp2_with fail
    go_ret
    rw [Hg.out, decide_eq_true h8]
    exact ⟨rfl, Hx.out⟩
   ·have q : ¬ (l.length : Int) ≤ 8 := by omega
    go_wp2_with fail
    go_ret
    rw [Hg.out, decide_eq_false h8]
    exact ⟨rfl, Hx.out⟩
end Go.Proofs.YtldnjnnhfeobdaaGreatDoor
/- Contract of the reference: methods and overrides are as said. Conditions: lengths below 2^20. -/
namespace Go.Proofs.YtldnjnnhfeobdaaGreatDoor
open Go.RowKit Go.Shelf
theorem meths_step (n : Nat) (l : List Method) (k : Nat) (hk : k < l.length) : methsFrom n ((l.take k).map Method.name) (l.drop k) =
  (isNameB l[k].name && ((strEq l[k].proc ByteArray.empty || isSymbolB l[k].proc) && (sigB n l[k] && (!memB l[k].name ((l.take k).map Method.name) && methsFrom n ((l.take (k + 1)).map Method.name) (l.drop (k + 1)))))) := by
 rw [drop_cons' l k hk, methsFrom, ← take_snoc' l k hk, List.map_append]; rfl
theorem meths_end (n : Nat) (l : List Method) (k : Nat) (hk : ¬ k < l.length) : methsFrom n ((l.take k).map Method.name) (l.drop k) = true := by
 rw [List.drop_of_length_le (by omega)]; rfl
theorem overs_step (l : List Over) (k : Nat) (hk : k < l.length) : oversFrom ((l.take k).map Over.name) (l.drop k) =
  (isNameB l[k].name && (isSymbolB l[k].proc && (!memB l[k].name ((l.take k).map Over.name) && oversFrom ((l.take (k + 1)).map Over.name) (l.drop (k + 1))))) := by
 rw [drop_cons' l k hk, oversFrom, ← take_snoc' l k hk, List.map_append]; rfl
theorem overs_end (l : List Over) (k : Nat) (hk : ¬ k < l.length) : oversFrom ((l.take k).map Over.name) (l.drop k) = true := by
 rw [List.drop_of_length_le (by omega)]; rfl
set_option maxRecDepth 100000 in
set_option maxHeartbeats 16000000 in
theorem rmethods_any (w : World) (A : Option Addr) (n cap : Nat) (t : Ty) (vp vm vo : Value) (hn : n ≤ 1048576) (hof : TyOf w t vp vm vo) (hs : TySmall t) :
  Calls Tryz.prog 120 #[.slice A n cap, tyV t vp vm vo] w (Ret w (.bool (methsB n t))) := by
 obtain ⟨A1, c1, e1⟩ := hof.parts.len
 obtain ⟨A2, c2, e2, hm⟩ := hof.methods.method
 obtain ⟨A3, c3, e3, ho⟩ := hof.overs.over
 subst e1 e2 e3
 have Hm := Lib.hid hm
 have Ho := Lib.hid ho
 have Hms := Lib.hid hs.method
 have Hos := Lib.hid hs.over
 have hml := hs.methods
 have hol := hs.overs
 have Hbad := Lib.hid (fun (h : methsFrom n [] t.methods = false) => (show methsB n t = false by unfold methsB; rw [h]; rfl))
 have Hgood := Lib.hid (fun (h : methsFrom n [] t.methods = true) => (show methsB n t = (oversFrom [] t.overs && (decide (t.methods.length ≤ 8) && decide (t.overs.length ≤ 8))) by unfold methsB; rw [h]; rfl))
 clear hof hm ho hs
 unfold tyV
 go_enter Tryz.func120, Tryz.ntmps120
 have hx0 := (Ext.refl w).alloc (.cells #[.int .u8 t.kind, .int .i64 t.low, .int .i64 t.high, .bool t.branded, .string t.brand, .string t.opaq, .int .i64 t.super, .slice A1 t.parts.length c1, .slice A2 t.methods.length c2, .slice A3 t.overs.length c3] 42)
 have hbx := heap_alloc_self w (.cells #[.int .u8 t.kind, .int .i64 t.low, .int .i64 t.high, .bool t.branded, .string t.brand, .string t.opaq, .int .i64 t.super, .slice A1 t.parts.length c1, .slice A2 t.methods.length c2, .slice A3 t.overs.length c3] 42)
 have Hc8 := Lib.hid (heap_cell hbx 8 _ rfl)
 have Hc9 := Lib.hid (heap_cell hbx 9 _ rfl)
 have Hx0 := Lib.hid hx0
 clear hx0 hbx
 go_wp2_with fail
 generalize (w.alloc (.cells #[.int .u8 t.kind, .int .i64 t.low, .int .i64 t.high, .bool t.branded, .string t.brand, .string t.opaq, .int .i64 t.super, .slice A1 t.parts.length c1, .slice A2 t.methods.length c2, .slice A3 t.overs.length c3] 42)) = w1 at *
 generalize w.heap.size = b1 at *
 go_loopw [5] (fun u wr => ∃ k : Nat, k ≤ t.methods.length ∧ u = .int .i64 k ∧ Hid (Ext w1 wr) ∧ Hid (methsFrom n [] t.methods = methsFrom n ((t.methods.take k).map Method.name) (t.methods.drop k))) (fun u _ => t.methods.length - (intOf u).toNat)
 case atStart => exact ⟨0, by omega, rfl, Lib.hid (Ext.refl _), Lib.hid rfl⟩
 case round =>
  obtain ⟨k, hk, rfl, Hx, Hinv⟩ := hrel
  have d8 := Hx.out.cell Hc8.out
  have l8 := cell_lt d8
  by_cases hlt : k < t.methods.length
  ·obtain ⟨b, off, va, vr, rfl, ha, hr, m0, m1, m2, m3, m4⟩ := Hm.out k hlt
   have hmm := Hms.out _ (List.getElem_mem hlt)
   have Hstep := Lib.hid (Hinv.out.trans (meths_step n t.methods k hlt))
   have Hyes := Lib.hid (fun j (hj : j < k) => memB_yes Method.name (j := j) hj hlt)
   have Hnone := Lib.hid (memB_no Method.name hlt)
   generalize hm : t.methods[k] = m at *
   clear hm Hinv
   obtain ⟨Aa, ca, ea⟩ := ha.len
   obtain ⟨Ar, cr, er⟩ := hr.len
   subst ea er
   obtain ⟨s1, s2, s3, s4, s5⟩ := hmm
   have Hnm := Lib.hid (fun w => rname_any m.name w s1)
   have Hpr := Lib.hid (fun w => rsymbol_any m.proc w s2)
   have Hsig := Lib.hid (fun w' (hx' : Ext w w') => rsig_any w' A n cap m _ _ hn (ha.mono hx') (hr.mono hx') s3 s4 s5)
   have M0 := Lib.hid (Hx0.out.cell m0)
   replace m0 := Hx.out.cell (Hx0.out.cell m0)
   replace m1 := Hx.out.cell (Hx0.out.cell m1)
   replace m2 := Hx.out.cell (Hx0.out.cell m2)
   replace m3 := Hx.out.cell (Hx0.out.cell m3)
   replace m4 := Hx.out.cell (Hx0.out.cell m4)
   have lm := cell_lt m0
   have i0 : (0 : Int) ≤ (k : Int) := by omega
   have i1 : (k : Int) < (t.methods.length : Int) := by omega
   have hpe := Lib.hid (show strEq m.proc ByteArray.empty = m.proc.toList.isEmpty from strEq_empty m.proc)
   clear ha hr s5
   cases hname : isNameB m.name with
   | false =>
    have Hb := Lib.hid (Hbad.out (Hstep.out.trans (by rw [hname]; rfl)))
    have Hname := Lib.hid hname
    clear hname
    go_wp2_with fail
    refine (Hnm.out _).mono ?_
    rintro e w2 ⟨rfl, rfl⟩
    rw [Hname.out]
    go_wp2_with fail
    go_ret
    rw [Hb.out]
    exact ⟨rfl, Hx0.out.trans (Hx.out.alloc _)⟩
   | true =>
    have Hname := Lib.hid hname
    clear hname
    have hbox := heap_alloc_self wr (.cells #[.string m.name, .slice Aa m.args.length ca, .int .i64 m.result, .slice Ar m.raises.length cr, .string m.proc] 74)
    have Hb0 := Lib.hid (heap_cell hbox 0 _ rfl)
    have Hxb := Lib.hid (Hx.out.alloc (.cells #[.string m.name, .slice Aa m.args.length ca, .int .i64 m.result, .slice Ar m.raises.length cr, .string m.proc] 74))
    clear hbox
    have hproc : ∃ pr : Bool, Hid (pr = (strEq m.proc ByteArray.empty || isSymbolB m.proc)) ∧ ((m.proc.toList = [] ∧ pr = true) ∨ (¬ m.proc.toList = [] ∧ isSymbolB m.proc = pr)) := by
     refine ⟨_, rfl, ?_⟩
     rw [hpe.out]
     cases he : m.proc.toList with
     | nil => exact .inl ⟨rfl, rfl⟩
     | cons x l => exact .inr ⟨by simp, rfl⟩
    obtain ⟨pr, Hpr2, hpr⟩ := hproc
    cases pr with
    | false =>
     have Hb := Lib.hid (Hbad.out (Hstep.out.trans (by rw [Hname.out, ← Hpr2.out]; rfl)))
     obtain ⟨hne, hsym⟩ : ¬ m.proc.toList = [] ∧ isSymbolB m.proc = false := by simpa using hpr
     have hne2 : m.proc.toList.isEmpty = false := by cases h : m.proc.toList with | nil => exact absurd h hne | cons => rfl
     have Hsym := Lib.hid hsym
     clear hpr hsym
     go_wp2_with fail
     refine (Hnm.out _).mono ?_
     rintro e w2 ⟨rfl, rfl⟩
     rw [Hname.out]
     go_wp2_with fail
     refine (Hpr.out _).mono ?_
     rintro e w2 ⟨rfl, rfl⟩
     rw [Hsym.out]
     go_wp2_with fail
     go_ret
     rw [Hb.out]
     exact ⟨rfl, Hx0.out.trans Hxb.out⟩
    | true =>
     have Hstep2 : Hid (methsFrom n [] t.methods = (sigB n m && (!memB m.name ((t.methods.take k).map Method.name) && methsFrom n ((t.methods.take (k + 1)).map Method.name) (t.methods.drop (k + 1))))) := by
      rw [Hstep.out, Hname.out, ← Hpr2.out]; rfl
     have hpr' : (m.proc.toList = [] ∧ m.proc.toList.isEmpty = true) ∨ (¬ m.proc.toList = [] ∧ m.proc.toList.isEmpty = false ∧ Hid (isSymbolB m.proc = true)) := by
      rcases hpr with ⟨he, _⟩ | ⟨hne, hsym⟩
      ·exact .inl ⟨he, by rw [he]; rfl⟩
      ·exact .inr ⟨hne, by cases h : m.proc.toList with | nil => exact absurd h hne | cons => rfl, Lib.hid hsym⟩
     clear hpr Hstep Hpr2
     rcases hpr' with ⟨he, he2⟩ | ⟨he, he2, Hsym⟩
     all_goals
      go_wp2_with fail
      refine (Hnm.out _).mono ?_
      rintro e w2 ⟨rfl, rfl⟩
      rw [Hname.out]
      go_wp2_with fail
      try (refine (Hpr.out _).mono ?_; rintro e w2 ⟨rfl, rfl⟩; rw [Hsym.out]; go_wp2_with fail)
      refine (Hsig.out _ (Hx0.out.trans Hxb.out)).mono ?_
      rintro e w3 ⟨rfl, hx3⟩
      have Hx3 := Lib.hid (Hxb.out.trans hx3)
      have Hb3 := Lib.hid (hx3.cell Hb0.out)
      clear hx3
      cases hsg : sigB n m with
      | false =>
       have Hb := Lib.hid (Hbad.out (Hstep2.out.trans (by rw [hsg]; rfl)))
       clear hsg
       go_wp2_with fail
       go_ret
       rw [Hb.out]
       exact ⟨rfl, Hx0.out.trans Hx3.out⟩
      | true =>
       have Hstep3 : Hid (methsFrom n [] t.methods = (!memB m.name ((t.methods.take k).map Method.name) && methsFrom n ((t.methods.take (k + 1)).map Method.name) (t.methods.drop (k + 1)))) := by
        rw [Hstep2.out, hsg]; rfl
       clear hsg Hstep2 he he2 d8 m0 m1 m2 m3 m4 lm l8
       go_wp2_with fail
       generalize (wr.alloc (.cells #[.string m.name, .slice Aa m.args.length ca, .int .i64 m.result, .slice Ar m.raises.length cr, .string m.proc] 74)) = wb at *
       generalize wr.heap.size = bm at *
       go_loopw [7] (fun u wr => ∃ j : Nat, j ≤ k ∧ u = .int .i64 j ∧ Hid (Ext w3 wr) ∧ Hid (∀ i (hi : i < t.methods.length), i < j → ¬ t.methods[i].name.toList = m.name.toList)) (fun u _ => k - (intOf u).toNat)
       case atStart => exact ⟨0, by omega, rfl, Lib.hid (Ext.refl _), Lib.hid (fun i _ h => by omega)⟩
       case round =>
        obtain ⟨j, hj, rfl, Hx4, Hno⟩ := hrel
        have d8 := Hx4.out.cell (Hx3.out.cell Hc8.out)
        have l8 := cell_lt d8
        have m0 := Hx4.out.cell Hb3.out
        have lm := cell_lt m0
        by_cases hjk : j < k
        ·have hjl : j < t.methods.length := by omega
         obtain ⟨b', off', va', vr', e', _, _, q0, _⟩ := Hm.out j hjl
         cases e'
         replace q0 := Hx4.out.cell (Hx3.out.cell (Hx0.out.cell q0))
         have lq := cell_lt q0
         have j0 : (0 : Int) ≤ (j : Int) := by omega
         have j1 : (j : Int) < (k : Int) := by omega
         have j2 : (j : Int) < (t.methods.length : Int) := by omega
         have hyes := Hyes.out j hjk
         have hnext := fun (h : ¬ t.methods[j].name.toList = m.name.toList) i (hi : i < t.methods.length) (hij : i < j + 1) => if e : i = j then (by subst e; exact h : ¬ t.methods[i].name.toList = m.name.toList) else Hno.out i hi (by omega)
         have Hyes1 := Lib.hid hyes
         have Hnext := Lib.hid hnext
         generalize t.methods[j] = q at *
         clear hyes hnext
         cases he : (q.name.toList == m.name.toList) with
         | true =>
          have he2 : q.name.toList = m.name.toList := by simpa using he
          have Hb := Lib.hid (Hbad.out (Hstep3.out.trans (by rw [Hyes1.out he2]; rfl)))
          go_wp2_with fail
          go_quiet (fail)
          go_wp2_with fail
          go_ret
          rw [Hb.out]
          exact ⟨rfl, Hx0.out.trans (Hx3.out.trans (Hx4.out.drewN _))⟩
         | false =>
          have he2 : ¬ q.name.toList = m.name.toList := by simpa using he
          have Hn := Lib.hid (Hnext.out he2)
          go_wp2_with fail
          go_quiet (fail)
          go_wp2_with fail
          go_roundw
          case rel => exact ⟨j + 1, by omega, by go_num, Lib.hid (Hx4.out.drewN _), Hn⟩
          case measure => simp [intOf]; omega
        ·have hjn : j = k := by omega
         subst hjn
         have hno := Hnone.out (fun i hi hij => Hno.out i hi hij)
         have Hn : Hid (methsFrom n [] t.methods = methsFrom n ((t.methods.take (j + 1)).map Method.name) (t.methods.drop (j + 1))) := by
          rw [Hstep3.out, hno]; rfl
         clear hno hj hjk
         go_wp2_with fail
         go_roundw
         case rel => exact ⟨j + 1, by omega, by go_num, Lib.hid (Hx3.out.trans Hx4.out), Hn⟩
         case measure => simp [intOf]; omega
  ·have hend := Hinv.out.trans (meths_end n t.methods k hlt)
   have hg := Hgood.out hend
   have i1 : ¬ (k : Int) < (t.methods.length : Int) := by omega
   have Hg := Lib.hid hg
   clear hend hg Hbad Hgood Hinv
   have HbadO := Lib.hid (fun (h : oversFrom [] t.overs = false) => (Hg.out.trans (by rw [h]; rfl) : methsB n t = false))
   have HgoodO := Lib.hid (fun (h : oversFrom [] t.overs = true) => (Hg.out.trans (by rw [h]; rfl) : methsB n t = (decide (t.methods.length ≤ 8) && decide (t.overs.length ≤ 8))))
   clear Hg
   go_wp2_with fail
   obtain ⟨wa, rfl⟩ : ∃ wa : World, wa = wr := ⟨_, rfl⟩
   go_loopw [8] (fun u wr => ∃ k : Nat, k ≤ t.overs.length ∧ u = .int .i64 k ∧ Hid (Ext w1 wr) ∧ Hid (oversFrom [] t.overs = oversFrom ((t.overs.take k).map Over.name) (t.overs.drop k))) (fun u _ => t.overs.length - (intOf u).toNat)
   case atStart => exact ⟨0, by omega, rfl, Hx, Lib.hid rfl⟩
   case round =>
    clear d8 l8
    obtain ⟨k, hk, rfl, Hx, Hinv⟩ := hrel
    have d9 := Hx.out.cell Hc9.out
    have l9 := cell_lt d9
    by_cases hlt : k < t.overs.length
    ·obtain ⟨b, off, rfl, p0, p1⟩ := Ho.out k hlt
     have P0 := Lib.hid (Hx0.out.cell p0)
     replace p0 := Hx.out.cell P0.out
     replace p1 := Hx.out.cell (Hx0.out.cell p1)
     have lp := cell_lt p0
     have i0 : (0 : Int) ≤ (k : Int) := by omega
     have i1 : (k : Int) < (t.overs.length : Int) := by omega
     have Hstep := Lib.hid (Hinv.out.trans (overs_step t.overs k hlt))
     have hsz := Hos.out _ (List.getElem_mem hlt)
     have Hyes := Lib.hid (fun j (hj : j < k) => memB_yes Over.name (j := j) hj hlt)
     have Hnone := Lib.hid (memB_no Over.name hlt)
     generalize hp : t.overs[k] = p at *
     have Hnm := Lib.hid (fun w => rname_any p.name w hsz.1)
     have Hpr := Lib.hid (fun w => rsymbol_any p.proc w hsz.2)
     clear hsz Hinv hp
     cases hname : isNameB p.name with
     | false =>
      have Hb := Lib.hid (HbadO.out (Hstep.out.trans (by rw [hname]; rfl)))
      have Hname := Lib.hid hname
      clear hname
      go_wp2_with fail
      refine (Hnm.out _).mono ?_
      rintro e w2 ⟨rfl, rfl⟩
      rw [Hname.out]
      go_wp2_with fail
      go_ret
      rw [Hb.out]
      exact ⟨rfl, Hx0.out.trans Hx.out⟩
     | true =>
      have Hname := Lib.hid hname
      clear hname
      cases hsym : isSymbolB p.proc with
      | false =>
       have Hb := Lib.hid (HbadO.out (Hstep.out.trans (by rw [Hname.out, hsym]; rfl)))
       have Hsym := Lib.hid hsym
       clear hsym
       go_wp2_with fail
       refine (Hnm.out _).mono ?_
       rintro e w2 ⟨rfl, rfl⟩
       rw [Hname.out]
       go_wp2_with fail
       refine (Hpr.out _).mono ?_
       rintro e w2 ⟨rfl, rfl⟩
       rw [Hsym.out]
       go_wp2_with fail
       go_ret
       rw [Hb.out]
       exact ⟨rfl, Hx0.out.trans Hx.out⟩
      | true =>
       have Hsym := Lib.hid hsym
       have Hstep2 : Hid (oversFrom [] t.overs = (!memB p.name ((t.overs.take k).map Over.name) && oversFrom ((t.overs.take (k + 1)).map Over.name) (t.overs.drop (k + 1)))) := by
        rw [Hstep.out, Hname.out, hsym]; rfl
       clear hsym Hstep
       go_wp2_with fail
       refine (Hnm.out _).mono ?_
       rintro e w2 ⟨rfl, rfl⟩
       rw [Hname.out]
       go_wp2_with fail
       refine (Hpr.out _).mono ?_
       rintro e w3 ⟨rfl, rfl⟩
       rw [Hsym.out]
       go_wp2_with fail
       clear Hnm Hpr Hname Hsym p0 p1 lp d9 l9
       go_loopw [9] (fun u wr => ∃ j : Nat, j ≤ k ∧ u = .int .i64 j ∧ Hid (Ext w1 wr) ∧ Hid (∀ i (hi : i < t.overs.length), i < j → ¬ t.overs[i].name.toList = p.name.toList)) (fun u _ => k - (intOf u).toNat)
       case atStart => exact ⟨0, by omega, rfl, Hx, Lib.hid (fun i _ h => by omega)⟩
       case round =>
        obtain ⟨j, hj, rfl, Hx2, Hno⟩ := hrel
        have d9 := Hx2.out.cell Hc9.out
        have l9 := cell_lt d9
        have p0 := Hx2.out.cell P0.out
        have lp := cell_lt p0
        by_cases hjk : j < k
        ·have hjl : j < t.overs.length := by omega
         obtain ⟨b', off', e', q0, q1⟩ := Ho.out j hjl
         cases e'
         replace q0 := Hx2.out.cell (Hx0.out.cell q0)
         have j0 : (0 : Int) ≤ (j : Int) := by omega
         have j1 : (j : Int) < (k : Int) := by omega
         have j2 : (j : Int) < (t.overs.length : Int) := by omega
         have hyes := Hyes.out j hjk
         have hnext := fun (h : ¬ t.overs[j].name.toList = p.name.toList) i (hi : i < t.overs.length) (hij : i < j + 1) => if e : i = j then (by subst e; exact h : ¬ t.overs[i].name.toList = p.name.toList) else Hno.out i hi (by omega)
         have Hyes1 := Lib.hid hyes
         have Hnext := Lib.hid hnext
         generalize t.overs[j] = q at *
         clear q1 hyes hnext
         cases he : (q.name.toList == p.name.toList) with
         | true =>
          have he2 : q.name.toList = p.name.toList := by simpa using he
          have Hb := Lib.hid (HbadO.out (Hstep2.out.trans (by rw [Hyes1.out he2]; rfl)))
          go_wp2_with fail
          go_quiet (fail)
          go_wp2_with fail
          go_ret
          rw [Hb.out]
          exact ⟨rfl, Hx0.out.trans (Hx2.out.drewN _)⟩
         | false =>
          have he2 : ¬ q.name.toList = p.name.toList := by simpa using he
          have Hn := Lib.hid (Hnext.out he2)
          go_wp2_with fail
          go_quiet (fail)
          go_wp2_with fail
          go_roundw
          case rel => exact ⟨j + 1, by omega, by go_num, Lib.hid (Hx2.out.drewN _), Hn⟩
          case measure => simp [intOf]; omega
        ·have hjn : j = k := by omega
         subst hjn
         have hno := Hnone.out (fun i hi hij => Hno.out i hi hij)
         have Hn : Hid (oversFrom [] t.overs = oversFrom ((t.overs.take (j + 1)).map Over.name) (t.overs.drop (j + 1))) := by
          rw [Hstep2.out, hno]; rfl
         clear hno hj hjk
         go_wp2_with fail
         go_roundw
         case rel => exact ⟨j + 1, by omega, by go_num, Hx2, Hn⟩
         case measure => simp [intOf]; omega
    ·have hend := Hinv.out.trans (overs_end t.overs k hlt)
     have Hg := Lib.hid (HgoodO.out hend)
     have d8 := Hx.out.cell Hc8.out
     have l8 := cell_lt d8
     have i1 : ¬ (k : Int) < (t.overs.length : Int) := by omega
     clear hend
     by_cases h8 : t.methods.length ≤ 8
     ·have q1 : (t.methods.length : Int) ≤ 8 := by omega
      by_cases h9 : t.overs.length ≤ 8
      ·have q2 : (t.overs.length : Int) ≤ 8 := by omega
       have Hv := Lib.hid (Hg.out.trans (by rw [decide_eq_true h8, decide_eq_true h9]; rfl : _ = true))
       go_wp2_with fail
       go_ret
       rw [Hv.out]
       exact ⟨rfl, Hx0.out.trans Hx.out⟩
      ·have q2 : ¬ (t.overs.length : Int) ≤ 8 := by omega
       have Hv := Lib.hid (Hg.out.trans (by rw [decide_eq_true h8, decide_eq_false h9]; rfl : _ = false))
       go_wp2_with fail
       go_ret
       rw [Hv.out]
       exact ⟨rfl, Hx0.out.trans Hx.out⟩
     ·have q1 : ¬ (t.methods.length : Int) ≤ 8 := by omega
      have Hv := Lib.hid (Hg.out.trans (by rw [decide_eq_false h8]; rfl : _ = false))
      go_wp2_with fail
      go_ret
      rw [Hv.out]
      exact ⟨rfl, Hx0.out.trans Hx.out⟩
end Go.Proofs.YtldnjnnhfeobdaaGreatDoor
/- Contract of the reference: a type as said in itself. Conditions: lengths below 2^20. -/
namespace Go.Proofs.YtldnjnnhfeobdaaGreatDoor
open Go.RowKit Go.Shelf
def simpleB (k : Int) : Bool := decide (k = 1 ∨ k = 2 ∨ k = 4 ∨ k = 5 ∨ k = 6 ∨ k = 7 ∨ k = 8)
def heldK (k : Int) : Bool := decide (k = 9 ∨ k = 11)
theorem said_simple {g : Graph} {t : Ty} (h : simpleB t.kind = true) : saidB g t = (numsB t && (brandlessB t && (topB t && (bareB t && (plainsB t && clearB t))))) := by
 unfold simpleB at h
 have h := of_decide_eq_true h
 unfold saidB
 rw [if_neg (by omega), if_neg (by omega), if_neg (by omega), if_neg (by omega), if_neg (by omega), if_pos (by omega)]
theorem said_none {g : Graph} {t : Ty} (h : simpleB t.kind = false) (h3 : t.kind ≠ 3) (h9 : heldK t.kind = false) (h10 : t.kind ≠ 10) (h12 : t.kind ≠ 12) (h13 : t.kind ≠ 13) : saidB g t = false := by
 unfold simpleB at h
 have h := of_decide_eq_false h
 unfold heldK at h9
 have h9 := of_decide_eq_false h9
 unfold saidB
 rw [if_neg h3, if_neg h9, if_neg h10, if_neg h12, if_neg h13, if_neg (by omega)]
set_option maxRecDepth 100000 in
set_option maxHeartbeats 32000000 in
theorem rsaid_any (w : World) (gv : Value) (g : Graph) (t : Ty) (vp vm vo : Value) (hg : Sl tyE w gv g) (hgn : g.length ≤ 1048576) (hof : TyOf w t vp vm vo) (hs : TySmall t) :
  Calls Tryz.prog 64 #[gv, tyV t vp vm vo] w (Ret w (.bool (saidB g t))) := by
 have hsup := fun w' (hx : Ext w w') => rsuper_any w' gv g t vp vm vo (hg.mono hx) hgn
 obtain ⟨Ag, cg, eg⟩ := hg.len
 subst eg
 have hmt := fun w' (hx : Ext w w') => rmethods_any w' Ag g.length cg t vp vm vo hgn (hof.mono hx) hs
 have hpt := fun w' (hx : Ext w w') => rparts_any w' Ag g.length cg vp t.parts hgn (hof.parts.mono hx) hs.parts hs.part
 have hbr := fun w' => rbrand_any t.brand w' hs.brand
 have hsy := fun w' => rsymbol_any t.opaq w' hs.opaq
 obtain ⟨A1, c1, e1, hp⟩ := hof.parts.part
 obtain ⟨A2, c2, e2⟩ := hof.methods.len
 obtain ⟨A3, c3, e3⟩ := hof.overs.len
 subst e1 e2 e3
 have Hp := Lib.hid hp
 have Hsup := Lib.hid hsup
 have Hmt := Lib.hid hmt
 have Hpt := Lib.hid hpt
 have Hbr := Lib.hid hbr
 have Hsy := Lib.hid hsy
 have hq1 := hs.parts
 have hq2 := hs.methods
 have hq3 := hs.overs
 clear hp hsup hmt hpt hbr hsy hs hof hg
 unfold tyV at Hsup Hmt ⊢
 have hx0 := (Ext.refl w).alloc (.cells #[.int .u8 t.kind, .int .i64 t.low, .int .i64 t.high, .bool t.branded, .string t.brand, .string t.opaq, .int .i64 t.super, .slice A1 t.parts.length c1, .slice A2 t.methods.length c2, .slice A3 t.overs.length c3] 42)
 have hbx : TyBox (w.alloc (.cells #[.int .u8 t.kind, .int .i64 t.low, .int .i64 t.high, .bool t.branded, .string t.brand, .string t.opaq, .int .i64 t.super, .slice A1 t.parts.length c1, .slice A2 t.methods.length c2, .slice A3 t.overs.length c3] 42)) w.heap.size t (.slice A1 t.parts.length c1) (.slice A2 t.methods.length c2) (.slice A3 t.overs.length c3) := heap_alloc_self w _
 have Hx0 := Lib.hid hx0
 have Hbx := Lib.hid hbx
 clear hx0 hbx
 go_enter Tryz.func64, Tryz.ntmps64
 go_upto_region 1 with fail
 generalize (w.alloc (.cells #[.int .u8 t.kind, .int .i64 t.low, .int .i64 t.high, .bool t.branded, .string t.brand, .string t.opaq, .int .i64 t.super, .slice A1 t.parts.length c1, .slice A2 t.methods.length c2, .slice A3 t.overs.length c3] 42)) = w1 at *
 generalize w.heap.size = b1 at *
 have l1 := Hbx.out.lt
 go_cut [5] (fun s wx => s = .bool (numsB t) ∧ wx = w1)
 case first =>
  as_aux_lemma =>
   obtain ⟨d0, d1, d2, d3, d4, d5, d6, d7, d8, d9⟩ := Hbx.out.at
   simp only [Nat.zero_add] at d0 d1 d2 d3 d4 d5 d6 d7 d8 d9
   by_cases h1 : t.low = 0
   ·have q1 : (t.low == 0) = true := by simpa using h1
    by_cases h2 : t.high = 0
    ·have q2 : (t.high == 0) = true := by simpa using h2
     have hv : numsB t = true := by unfold numsB; simp [*]
     have Hv := Lib.hid hv
     clear hv h1 h2
     go_wp2_with fail
     go_meet
     rw [Hv.out]
     exact ⟨rfl, rfl⟩
    ·have q2 : (t.high == 0) = false := by simpa using h2
     have hv : numsB t = false := by unfold numsB; simp [*]
     have Hv := Lib.hid hv
     clear hv h1 h2
     go_wp2_with fail
     go_meet
     rw [Hv.out]
     exact ⟨rfl, rfl⟩
   ·have q1 : (t.low == 0) = false := by simpa using h1
    have hv : numsB t = false := by unfold numsB; simp [*]
    have Hv := Lib.hid hv
    clear hv h1
    go_wp2_with fail
    go_meet
    rw [Hv.out]
    exact ⟨rfl, rfl⟩
 case rest =>
  obtain ⟨rfl, rfl⟩ := hcut
  obtain ⟨w1, rfl⟩ : ∃ w1 : World, w1 = wc := ⟨_, rfl⟩
  go_upto_region 2 with fail
  go_cut [6] (fun s wx => s = .bool (brandlessB t) ∧ wx = w1)
  case first =>
   as_aux_lemma =>
    obtain ⟨d0, d1, d2, d3, d4, d5, d6, d7, d8, d9⟩ := Hbx.out.at
    simp only [Nat.zero_add] at d0 d1 d2 d3 d4 d5 d6 d7 d8 d9
    by_cases hb : t.branded = true
    ·skip
     have hv : brandlessB t = false := by unfold brandlessB; rw [hb]; rfl
     have Hv := Lib.hid hv
     clear hv
     rw [hb] at d3
     clear hb
     go_wp2_with fail
     go_meet
     rw [Hv.out]
     exact ⟨rfl, rfl⟩
    ·replace hb : t.branded = false := by simpa using hb
     rw [hb] at d3
     by_cases h1 : strEq t.brand ByteArray.empty = true
     ·have q1 : t.brand.toList.isEmpty = true := by rw [isEmpty_strEq]; exact h1
      have r1 : t.brand.toList = [] := by simpa using q1
      have hv : brandlessB t = true := by unfold brandlessB; rw [hb, h1]; rfl
      have Hv := Lib.hid hv
      clear hv h1 hb
      go_wp2_with fail
      go_meet
      rw [Hv.out]
      exact ⟨rfl, rfl⟩
     ·have q1 : t.brand.toList.isEmpty = false := by rw [isEmpty_strEq]; simpa using h1
      have r1 : ¬ t.brand.toList = [] := by simpa using q1
      have hv : brandlessB t = false := by unfold brandlessB; rw [hb]; simpa using h1
      have Hv := Lib.hid hv
      clear hv h1 hb
      go_wp2_with fail
      go_meet
      rw [Hv.out]
      exact ⟨rfl, rfl⟩
  case rest =>
   obtain ⟨rfl, rfl⟩ := hcut
   obtain ⟨w1, rfl⟩ : ∃ w1 : World, w1 = wc := ⟨_, rfl⟩
   go_upto_region 3 with fail
   go_cut [7] (fun s wx => s = .bool (topB t) ∧ wx = w1)
   case first =>
    as_aux_lemma =>
     obtain ⟨d0, d1, d2, d3, d4, d5, d6, d7, d8, d9⟩ := Hbx.out.at
     simp only [Nat.zero_add] at d0 d1 d2 d3 d4 d5 d6 d7 d8 d9
     by_cases h1 : t.super = 0
     ·have q1 : (t.super == 0) = true := by simpa using h1
      have hv : topB t = true := by unfold topB; simp [*]
      have Hv := Lib.hid hv
      clear hv h1
      go_wp2_with fail
      go_meet
      rw [Hv.out]
      exact ⟨rfl, rfl⟩
     ·have q1 : (t.super == 0) = false := by simpa using h1
      have hv : topB t = false := by unfold topB; simp [*]
      have Hv := Lib.hid hv
      clear hv h1
      go_wp2_with fail
      go_meet
      rw [Hv.out]
      exact ⟨rfl, rfl⟩
   case rest =>
    obtain ⟨rfl, rfl⟩ := hcut
    obtain ⟨w1, rfl⟩ : ∃ w1 : World, w1 = wc := ⟨_, rfl⟩
    go_upto_region 4 with fail
    go_cut [8] (fun s wx => s = .bool (bareB t) ∧ wx = w1)
    case first =>
     as_aux_lemma =>
      obtain ⟨d0, d1, d2, d3, d4, d5, d6, d7, d8, d9⟩ := Hbx.out.at
      simp only [Nat.zero_add] at d0 d1 d2 d3 d4 d5 d6 d7 d8 d9
      by_cases h1 : t.parts.length = 0
      ·have q1 : ((t.parts.length : Int) == 0) = true := by rw [beq_iff_eq]; omega
       have hv : bareB t = true := by unfold bareB; first | rw [decide_eq_true h1] | rw [decide_eq_false h1]
       have Hv := Lib.hid hv
       clear hv h1
       go_wp2_with fail
       go_meet
       rw [Hv.out]
       exact ⟨rfl, rfl⟩
      ·have q1 : ((t.parts.length : Int) == 0) = false := by rw [beq_eq_false_iff_ne]; omega
       have hv : bareB t = false := by unfold bareB; first | rw [decide_eq_true h1] | rw [decide_eq_false h1]
       have Hv := Lib.hid hv
       clear hv h1
       go_wp2_with fail
       go_meet
       rw [Hv.out]
       exact ⟨rfl, rfl⟩
    case rest =>
     obtain ⟨rfl, rfl⟩ := hcut
     obtain ⟨w1, rfl⟩ : ∃ w1 : World, w1 = wc := ⟨_, rfl⟩
     go_upto_region 5 with fail
     go_cut [9] (fun s wx => s = .bool (plainsB t) ∧ wx = w1)
     case first =>
      as_aux_lemma =>
       obtain ⟨d0, d1, d2, d3, d4, d5, d6, d7, d8, d9⟩ := Hbx.out.at
       simp only [Nat.zero_add] at d0 d1 d2 d3 d4 d5 d6 d7 d8 d9
       by_cases h1 : t.methods.length = 0
       ·have q1 : ((t.methods.length : Int) == 0) = true := by rw [beq_iff_eq]; omega
        by_cases h2 : t.overs.length = 0
        ·have q2 : ((t.overs.length : Int) == 0) = true := by rw [beq_iff_eq]; omega
         have hv : plainsB t = true := by unfold plainsB; first | (rw [decide_eq_true h1, decide_eq_true h2]; rfl) | (rw [decide_eq_true h1, decide_eq_false h2]; rfl) | (rw [decide_eq_false h1]; rfl)
         have Hv := Lib.hid hv
         clear hv h1 h2
         go_wp2_with fail
         go_meet
         rw [Hv.out]
         exact ⟨rfl, rfl⟩
        ·have q2 : ((t.overs.length : Int) == 0) = false := by rw [beq_eq_false_iff_ne]; omega
         have hv : plainsB t = false := by unfold plainsB; first | (rw [decide_eq_true h1, decide_eq_true h2]; rfl) | (rw [decide_eq_true h1, decide_eq_false h2]; rfl) | (rw [decide_eq_false h1]; rfl)
         have Hv := Lib.hid hv
         clear hv h1 h2
         go_wp2_with fail
         go_meet
         rw [Hv.out]
         exact ⟨rfl, rfl⟩
       ·have q1 : ((t.methods.length : Int) == 0) = false := by rw [beq_eq_false_iff_ne]; omega
        have hv : plainsB t = false := by unfold plainsB; first | (rw [decide_eq_true h1, decide_eq_true h2]; rfl) | (rw [decide_eq_true h1, decide_eq_false h2]; rfl) | (rw [decide_eq_false h1]; rfl)
        have Hv := Lib.hid hv
        clear hv h1
        go_wp2_with fail
        go_meet
        rw [Hv.out]
        exact ⟨rfl, rfl⟩
     case rest =>
      obtain ⟨rfl, rfl⟩ := hcut
      obtain ⟨w1, rfl⟩ : ∃ w1 : World, w1 = wc := ⟨_, rfl⟩
      go_upto_region 6 with fail
      go_cut [10] (fun s wx => s = .bool (clearB t) ∧ wx = w1)
      case first =>
       as_aux_lemma =>
        obtain ⟨d0, d1, d2, d3, d4, d5, d6, d7, d8, d9⟩ := Hbx.out.at
        simp only [Nat.zero_add] at d0 d1 d2 d3 d4 d5 d6 d7 d8 d9
        by_cases h1 : strEq t.opaq ByteArray.empty = true
        ·have q1 : t.opaq.toList.isEmpty = true := by rw [isEmpty_strEq]; exact h1
         have r1 : t.opaq.toList = [] := by simpa using q1
         have hv : clearB t = true := by unfold clearB; simpa using h1
         have Hv := Lib.hid hv
         clear hv h1
         go_wp2_with fail
         go_meet
         rw [Hv.out]
         exact ⟨rfl, rfl⟩
        ·have q1 : t.opaq.toList.isEmpty = false := by rw [isEmpty_strEq]; simpa using h1
         have r1 : ¬ t.opaq.toList = [] := by simpa using q1
         have hv : clearB t = false := by unfold clearB; simpa using h1
         have Hv := Lib.hid hv
         clear hv h1
         go_wp2_with fail
         go_meet
         rw [Hv.out]
         exact ⟨rfl, rfl⟩
      case rest =>
       obtain ⟨rfl, rfl⟩ := hcut
       obtain ⟨w1, rfl⟩ : ∃ w1 : World, w1 = wc := ⟨_, rfl⟩
       go_upto_region 7 with fail
       go_cut [11] (fun s wx => s = .bool (brandingB t) ∧ wx = w1)
       case first =>
        as_aux_lemma =>
         obtain ⟨d0, d1, d2, d3, d4, d5, d6, d7, d8, d9⟩ := Hbx.out.at
         simp only [Nat.zero_add] at d0 d1 d2 d3 d4 d5 d6 d7 d8 d9
         cases hi : isBrandB t.brand with
         | false =>
          have hv : brandingB t = false := by unfold brandingB; rw [hi]; rfl
          have Hv := Lib.hid hv
          have Hi := Lib.hid hi
          clear hv hi
          go_wp2_with fail
          refine (Hbr.out _).mono ?_
          rintro e w2 ⟨rfl, rfl⟩
          rw [Hi.out]
          go_wp2_with fail
          go_meet
          rw [Hv.out]
          exact ⟨rfl, rfl⟩
         | true =>
          by_cases hb : t.branded = true
          ·skip
           have hv : brandingB t = true := by unfold brandingB; rw [hi, hb]; rfl
           have Hv := Lib.hid hv
           have Hi := Lib.hid hi
           rw [hb] at d3
           clear hv hi hb
           go_wp2_with fail
           refine (Hbr.out _).mono ?_
           rintro e w2 ⟨rfl, rfl⟩
           rw [Hi.out]
           go_wp2_with fail
           go_meet
           rw [Hv.out]
           exact ⟨rfl, rfl⟩
          ·replace hb : t.branded = false := by simpa using hb
           rw [hb] at d3
           by_cases h1 : strEq t.brand ByteArray.empty = true
           ·have q1 : t.brand.toList.isEmpty = true := by rw [isEmpty_strEq]; exact h1
            have r1 : t.brand.toList = [] := by simpa using q1
            have hv : brandingB t = true := by unfold brandingB; rw [hi, hb]; simpa using h1
            have Hv := Lib.hid hv
            have Hi := Lib.hid hi
            clear hv hi hb h1
            go_wp2_with fail
            refine (Hbr.out _).mono ?_
            rintro e w2 ⟨rfl, rfl⟩
            rw [Hi.out]
            go_wp2_with fail
            go_meet
            rw [Hv.out]
            exact ⟨rfl, rfl⟩
           ·have q1 : t.brand.toList.isEmpty = false := by rw [isEmpty_strEq]; simpa using h1
            have r1 : ¬ t.brand.toList = [] := by simpa using q1
            have hv : brandingB t = false := by unfold brandingB; rw [hi, hb]; simpa using h1
            have Hv := Lib.hid hv
            have Hi := Lib.hid hi
            clear hv hi hb h1
            go_wp2_with fail
            refine (Hbr.out _).mono ?_
            rintro e w2 ⟨rfl, rfl⟩
            rw [Hi.out]
            go_wp2_with fail
            go_meet
            rw [Hv.out]
            exact ⟨rfl, rfl⟩
       case rest =>
        obtain ⟨rfl, rfl⟩ := hcut
        obtain ⟨w1, rfl⟩ : ∃ w1 : World, w1 = wc := ⟨_, rfl⟩
        have d0 := Hbx.out.at.c0
        go_upto_if 63 with fail
        go_cut [63] (fun s wx => s = .bool (simpleB t.kind) ∧ wx = w1)
        case first =>
         as_aux_lemma =>
          clear d0
          obtain ⟨d0, d1, d2, d3, d4, d5, d6, d7, d8, d9⟩ := Hbx.out.at
          simp only [Nat.zero_add] at d0 d1 d2 d3 d4 d5 d6 d7 d8 d9
          by_cases h1 : t.kind = 1
          ·have q1 : (t.kind == 1) = true := by simpa using h1
           have hv : simpleB t.kind = true := decide_eq_true (by omega)
           have Hv := Lib.hid hv
           clear hv h1
           go_wp2_with fail
           go_meet
           rw [Hv.out]
           first | exact ⟨rfl, rfl⟩ | exact ⟨by simp only [*], rfl⟩
          ·have q1 : (t.kind == 1) = false := by simpa using h1
           by_cases h2 : t.kind = 2
           ·have q2 : (t.kind == 2) = true := by simpa using h2
            have hv : simpleB t.kind = true := decide_eq_true (by omega)
            have Hv := Lib.hid hv
            clear hv h2 h1
            go_wp2_with fail
            go_meet
            rw [Hv.out]
            first | exact ⟨rfl, rfl⟩ | exact ⟨by simp only [*], rfl⟩
           ·have q2 : (t.kind == 2) = false := by simpa using h2
            by_cases h4 : t.kind = 4
            ·have q4 : (t.kind == 4) = true := by simpa using h4
             have hv : simpleB t.kind = true := decide_eq_true (by omega)
             have Hv := Lib.hid hv
             clear hv h4 h1 h2
             go_wp2_with fail
             go_meet
             rw [Hv.out]
             first | exact ⟨rfl, rfl⟩ | exact ⟨by simp only [*], rfl⟩
            ·have q4 : (t.kind == 4) = false := by simpa using h4
             by_cases h5 : t.kind = 5
             ·have q5 : (t.kind == 5) = true := by simpa using h5
              have hv : simpleB t.kind = true := decide_eq_true (by omega)
              have Hv := Lib.hid hv
              clear hv h5 h1 h2 h4
              go_wp2_with fail
              go_meet
              rw [Hv.out]
              first | exact ⟨rfl, rfl⟩ | exact ⟨by simp only [*], rfl⟩
             ·have q5 : (t.kind == 5) = false := by simpa using h5
              by_cases h6 : t.kind = 6
              ·have q6 : (t.kind == 6) = true := by simpa using h6
               have hv : simpleB t.kind = true := decide_eq_true (by omega)
               have Hv := Lib.hid hv
               clear hv h6 h1 h2 h4 h5
               go_wp2_with fail
               go_meet
               rw [Hv.out]
               first | exact ⟨rfl, rfl⟩ | exact ⟨by simp only [*], rfl⟩
              ·have q6 : (t.kind == 6) = false := by simpa using h6
               by_cases h7 : t.kind = 7
               ·have q7 : (t.kind == 7) = true := by simpa using h7
                have hv : simpleB t.kind = true := decide_eq_true (by omega)
                have Hv := Lib.hid hv
                clear hv h7 h1 h2 h4 h5 h6
                go_wp2_with fail
                go_meet
                rw [Hv.out]
                first | exact ⟨rfl, rfl⟩ | exact ⟨by simp only [*], rfl⟩
               ·have q7 : (t.kind == 7) = false := by simpa using h7
                by_cases h8 : t.kind = 8
                ·have q8 : (t.kind == 8) = true := by simpa using h8
                 have hv : simpleB t.kind = true := decide_eq_true (by omega)
                 have Hv := Lib.hid hv
                 clear hv h8 h1 h2 h4 h5 h6 h7
                 go_wp2_with fail
                 go_meet
                 rw [Hv.out]
                 first | exact ⟨rfl, rfl⟩ | exact ⟨by simp only [*], rfl⟩
                ·have q8 : (t.kind == 8) = false := by simpa using h8
                 have hv : simpleB t.kind = false := decide_eq_false (by omega)
                 have Hv := Lib.hid hv
                 clear hv h1 h2 h4 h5 h6 h7 h8
                 go_wp2_with fail
                 go_meet
                 rw [Hv.out]
                 first | exact ⟨rfl, rfl⟩ | exact ⟨by simp only [*], rfl⟩
        case rest =>
         obtain ⟨rfl, rfl⟩ := hcut
         obtain ⟨w1, rfl⟩ : ∃ w1 : World, w1 = wc := ⟨_, rfl⟩
         cases hsk : simpleB t.kind with
         | true =>
          as_aux_lemma =>
          have hv := said_simple (g := g) hsk
          generalize numsB t = b5 at *
          generalize brandlessB t = b6 at *
          generalize topB t = b7 at *
          generalize bareB t = b8 at *
          generalize plainsB t = b9 at *
          generalize clearB t = b10 at *
          have Hv := Lib.hid hv
          clear hv hsk
          cases b5 with
          | false =>
           go_wp2_with fail
           go_ret
           rw [Hv.out]
           exact ⟨rfl, Hx0.out⟩
          | true =>
           cases b6 with
           | false =>
            go_wp2_with fail
            go_ret
            rw [Hv.out]
            exact ⟨rfl, Hx0.out⟩
           | true =>
            cases b7 with
            | false =>
             go_wp2_with fail
             go_ret
             rw [Hv.out]
             exact ⟨rfl, Hx0.out⟩
            | true =>
             cases b8 with
             | false =>
              go_wp2_with fail
              go_ret
              rw [Hv.out]
              exact ⟨rfl, Hx0.out⟩
             | true =>
              cases b9 with
              | false =>
               go_wp2_with fail
               go_ret
               rw [Hv.out]
               exact ⟨rfl, Hx0.out⟩
              | true =>
               cases b10 with
               | false =>
                go_wp2_with fail
                go_ret
                rw [Hv.out]
                exact ⟨rfl, Hx0.out⟩
               | true =>
                go_wp2_with fail
                go_ret
                rw [Hv.out]
                exact ⟨rfl, Hx0.out⟩
         | false =>
          by_cases h3 : t.kind = 3
          ·as_aux_lemma =>
           have q3 : (t.kind == 3) = true := by simpa using h3
           have hv : saidB g t = (decide (-1000000000 ≤ t.low) && (decide (t.low ≤ t.high) && (decide (t.high ≤ 1000000000) && (brandlessB t && (topB t && (bareB t && (plainsB t && clearB t))))))) := by unfold saidB; rw [if_pos h3]
           generalize brandlessB t = b6 at *
           generalize topB t = b7 at *
           generalize bareB t = b8 at *
           generalize plainsB t = b9 at *
           generalize clearB t = b10 at *
           generalize hk1 : decide (-1000000000 ≤ t.low) = k1 at hv
           generalize hk2 : decide (t.low ≤ t.high) = k2 at hv
           generalize hk3 : decide (t.high ≤ 1000000000) = k3 at hv
           have Hv := Lib.hid hv
           have Hk1 := Lib.hid hk1
           have Hk2 := Lib.hid hk2
           have Hk3 := Lib.hid hk3
           clear hv hk1 hk2 hk3 h3 hsk d0
           obtain ⟨d0, d1, d2, d3, d4, d5, d6, d7, d8, d9⟩ := Hbx.out.at
           simp only [Nat.zero_add] at d0 d1 d2 d3 d4 d5 d6 d7 d8 d9
           cases k1 with
           | false =>
            have p1 := of_decide_eq_false Hk1.out
            go_wp2_with fail
            go_ret
            rw [Hv.out]
            exact ⟨rfl, Hx0.out⟩
           | true =>
            have p1 := of_decide_eq_true Hk1.out
            cases k2 with
            | false =>
             have p2 := of_decide_eq_false Hk2.out
             go_wp2_with fail
             go_ret
             rw [Hv.out]
             exact ⟨rfl, Hx0.out⟩
            | true =>
             have p2 := of_decide_eq_true Hk2.out
             cases k3 with
             | false =>
              have p3 := of_decide_eq_false Hk3.out
              go_wp2_with fail
              go_ret
              rw [Hv.out]
              exact ⟨rfl, Hx0.out⟩
             | true =>
              have p3 := of_decide_eq_true Hk3.out
              cases b6 with
              | false =>
               go_wp2_with fail
               go_ret
               rw [Hv.out]
               exact ⟨rfl, Hx0.out⟩
              | true =>
               cases b7 with
               | false =>
                go_wp2_with fail
                go_ret
                rw [Hv.out]
                exact ⟨rfl, Hx0.out⟩
               | true =>
                cases b8 with
                | false =>
                 go_wp2_with fail
                 go_ret
                 rw [Hv.out]
                 exact ⟨rfl, Hx0.out⟩
                | true =>
                 cases b9 with
                 | false =>
                  go_wp2_with fail
                  go_ret
                  rw [Hv.out]
                  exact ⟨rfl, Hx0.out⟩
                 | true =>
                  cases b10 with
                  | false =>
                   go_wp2_with fail
                   go_ret
                   rw [Hv.out]
                   exact ⟨rfl, Hx0.out⟩
                  | true =>
                   go_wp2_with fail
                   go_ret
                   rw [Hv.out]
                   exact ⟨rfl, Hx0.out⟩
          have q3 : (t.kind == 3) = false := by simpa using h3
          have H3 := Lib.hid h3
          have Hsk := Lib.hid hsk
          clear h3 hsk
          go_upto_if 119 with fail
          go_cut [119] (fun s wx => s = .bool (heldK t.kind) ∧ wx = w1)
          case first =>
           as_aux_lemma =>
            clear d0
            obtain ⟨d0, d1, d2, d3, d4, d5, d6, d7, d8, d9⟩ := Hbx.out.at
            simp only [Nat.zero_add] at d0 d1 d2 d3 d4 d5 d6 d7 d8 d9
            by_cases h9 : t.kind = 9
            ·have q9 : (t.kind == 9) = true := by simpa using h9
             have hv : heldK t.kind = true := decide_eq_true (by omega)
             have Hv := Lib.hid hv
             clear hv h9
             go_wp2_with fail
             go_meet
             rw [Hv.out]
             first | exact ⟨rfl, rfl⟩ | exact ⟨by simp only [*], rfl⟩
            ·have q9 : (t.kind == 9) = false := by simpa using h9
             by_cases h11 : t.kind = 11
             ·have q11 : (t.kind == 11) = true := by simpa using h11
              have hv : heldK t.kind = true := decide_eq_true (by omega)
              have Hv := Lib.hid hv
              clear hv h9 h11
              go_wp2_with fail
              go_meet
              rw [Hv.out]
              first | exact ⟨rfl, rfl⟩ | exact ⟨by simp only [*], rfl⟩
             ·have q11 : (t.kind == 11) = false := by simpa using h11
              have hv : heldK t.kind = false := decide_eq_false (by omega)
              have Hv := Lib.hid hv
              clear hv h9 h11
              go_wp2_with fail
              go_meet
              rw [Hv.out]
              first | exact ⟨rfl, rfl⟩ | exact ⟨by simp only [*], rfl⟩
          case rest =>
           obtain ⟨rfl, rfl⟩ := hcut
           obtain ⟨w1, rfl⟩ : ∃ w1 : World, w1 = wc := ⟨_, rfl⟩
           cases hh : heldK t.kind with
           | true =>
            have hv : saidB g t = (numsB t && (brandingB t && (topB t && (oneB g.length t && (plainsB t && clearB t))))) := by unfold saidB; rw [if_neg H3.out, if_pos (of_decide_eq_true hh)]
            have Hh := Lib.hid hh
            clear hh
            have Hv := Lib.hid hv
            clear hv
            go_upto_region 21 with fail
            go_cut [12] (fun s wx => s = .bool (oneB g.length t) ∧ wx = w1)
            case first =>
             as_aux_lemma =>
              clear d0
              obtain ⟨d0, d1, d2, d3, d4, d5, d6, d7, d8, d9⟩ := Hbx.out.at
              simp only [Nat.zero_add] at d0 d1 d2 d3 d4 d5 d6 d7 d8 d9
              clear Hv
              by_cases h1 : t.parts.length = 1
              ·have q1 : ((t.parts.length : Int) == 1) = true := by rw [beq_iff_eq]; omega
               have hl1 : t.parts.length = 1 := h1
               obtain ⟨pb, po, eA, p0, p1⟩ := Hp.out 0 (by omega)
               subst eA
               replace p0 := Hx0.out.cell p0
               replace p1 := Hx0.out.cell p1
               simp only [Nat.zero_mul, Nat.add_zero] at p0 p1
               have lp := cell_lt p0
               have hhd : t.parts.head? = some (t.parts[0]'(by omega)) := by rw [List.head?_eq_getElem?, List.getElem?_eq_getElem (by omega)]
               have hone : oneB g.length t = (strEq (t.parts[0]'(by omega)).name ByteArray.empty && hasB g.length (t.parts[0]'(by omega)).type) := by unfold oneB; rw [hhd, decide_eq_true h1]; rfl
               have Hone := Lib.hid hone
               clear hone hhd hl1
               generalize (t.parts[0]'(by omega)) = pt at *
               have hlt1 : (0 : Int) < (t.parts.length : Int) := by omega
               have hlt2 : 0 < t.parts.length := by omega
               clear h1
               by_cases h2 : strEq pt.name ByteArray.empty = true
               ·have q2 : pt.name.toList.isEmpty = true := by rw [isEmpty_strEq]; exact h2
                have r2 : pt.name.toList = [] := by simpa using q2
                by_cases h3 : 0 ≤ pt.type
                ·by_cases h4 : pt.type < (g.length : Int)
                 ·have hv : oneB g.length t = true := by rw [Hone.out, h2, hasB_iff.2 ⟨h3, h4⟩]; rfl
                  have Hv := Lib.hid hv
                  clear hv h2
                  go_wp2_with fail
                  go_meet
                  rw [Hv.out]
                  exact ⟨rfl, rfl⟩
                 ·have hv : oneB g.length t = false := by rw [Hone.out, h2, hasB_out (by omega)]; rfl
                  have Hv := Lib.hid hv
                  clear hv h2
                  go_wp2_with fail
                  go_meet
                  rw [Hv.out]
                  exact ⟨rfl, rfl⟩
                ·have hv : oneB g.length t = false := by rw [Hone.out, h2, hasB_out (by omega)]; rfl
                 have Hv := Lib.hid hv
                 clear hv h2
                 go_wp2_with fail
                 go_meet
                 rw [Hv.out]
                 exact ⟨rfl, rfl⟩
               ·have q2 : pt.name.toList.isEmpty = false := by rw [isEmpty_strEq]; simpa using h2
                have r2 : ¬ pt.name.toList = [] := by simpa using q2
                have hv : oneB g.length t = false := by rw [Hone.out]; simp [h2]
                have Hv := Lib.hid hv
                clear hv h2
                go_wp2_with fail
                go_meet
                rw [Hv.out]
                exact ⟨rfl, rfl⟩
              ·have q1 : ((t.parts.length : Int) == 1) = false := by rw [beq_eq_false_iff_ne]; omega
               have hv : oneB g.length t = false := by unfold oneB; rw [decide_eq_false h1]; rfl
               have Hv := Lib.hid hv
               clear hv h1
               go_wp2_with fail
               go_meet
               rw [Hv.out]
               exact ⟨rfl, rfl⟩
            case rest =>
             obtain ⟨rfl, rfl⟩ := hcut
             obtain ⟨w1, rfl⟩ : ∃ w1 : World, w1 = wc := ⟨_, rfl⟩
             have hv := Hv.out
             clear Hv
             generalize numsB t = b5 at *
             generalize brandingB t = b11 at *
             generalize topB t = b7 at *
             generalize oneB g.length t = b12 at *
             generalize plainsB t = b9 at *
             generalize clearB t = b10 at *
             have Hv := Lib.hid hv
             clear hv
             cases b5 with
             | false =>
              go_wp2_with fail
              go_ret
              rw [Hv.out]
              exact ⟨rfl, Hx0.out⟩
             | true =>
              cases b11 with
              | false =>
               go_wp2_with fail
               go_ret
               rw [Hv.out]
               exact ⟨rfl, Hx0.out⟩
              | true =>
               cases b7 with
               | false =>
                go_wp2_with fail
                go_ret
                rw [Hv.out]
                exact ⟨rfl, Hx0.out⟩
               | true =>
                cases b12 with
                | false =>
                 go_wp2_with fail
                 go_ret
                 rw [Hv.out]
                 exact ⟨rfl, Hx0.out⟩
                | true =>
                 cases b9 with
                 | false =>
                  go_wp2_with fail
                  go_ret
                  rw [Hv.out]
                  exact ⟨rfl, Hx0.out⟩
                 | true =>
                  cases b10 with
                  | false =>
                   go_wp2_with fail
                   go_ret
                   rw [Hv.out]
                   exact ⟨rfl, Hx0.out⟩
                  | true =>
                   go_wp2_with fail
                   go_ret
                   rw [Hv.out]
                   exact ⟨rfl, Hx0.out⟩
           | false =>
            have H9 := Lib.hid hh
            clear hh
            by_cases h10 : t.kind = 10
            ·as_aux_lemma =>
             have q10 : (t.kind == 10) = true := by simpa using h10
             have hv : saidB g t = (numsB t && (brandingB t && (topB t && (decide (1 ≤ t.parts.length) && (partsB g.length t.parts && (plainsB t && clearB t)))))) := by unfold saidB; rw [if_neg H3.out, if_neg (of_decide_eq_false H9.out), if_pos h10]
             generalize numsB t = b5 at *
             generalize brandingB t = b11 at *
             generalize topB t = b7 at *
             generalize plainsB t = b9 at *
             generalize clearB t = b10 at *
             generalize partsB g.length t.parts = bp at hv Hpt
             generalize hk1 : decide (1 ≤ t.parts.length) = k1 at hv
             have Hv := Lib.hid hv
             have Hk1 := Lib.hid hk1
             clear hv hk1 h10 d0
             obtain ⟨d0, d1, d2, d3, d4, d5, d6, d7, d8, d9⟩ := Hbx.out.at
             simp only [Nat.zero_add] at d0 d1 d2 d3 d4 d5 d6 d7 d8 d9
             cases b5 with
             | false =>
              go_wp2_with fail
              go_ret
              rw [Hv.out]
              exact ⟨rfl, Hx0.out⟩
             | true =>
              cases b11 with
              | false =>
               go_wp2_with fail
               go_ret
               rw [Hv.out]
               exact ⟨rfl, Hx0.out⟩
              | true =>
               cases b7 with
               | false =>
                go_wp2_with fail
                go_ret
                rw [Hv.out]
                exact ⟨rfl, Hx0.out⟩
               | true =>
                cases k1 with
                | false =>
                 have p1 := of_decide_eq_false Hk1.out
                 have pz : ¬ (1 : Int) ≤ (t.parts.length : Int) := by omega
                 go_wp2_with fail
                 go_ret
                 rw [Hv.out]
                 exact ⟨rfl, Hx0.out⟩
                | true =>
                 have p1 := of_decide_eq_true Hk1.out
                 have pz : (1 : Int) ≤ (t.parts.length : Int) := by omega
                 go_wp2_with fail
                 refine (Hpt.out _ (Hx0.out)).mono ?_
                 rintro e w14 ⟨rfl, hx14⟩
                 have Hx14 := Lib.hid hx14
                 clear hx14 d0 d1 d2 d3 d4 d5 d6 d7 d8 d9
                 have hbw := Hbx.out.ext (Hx14.out)
                 obtain ⟨d0, d1, d2, d3, d4, d5, d6, d7, d8, d9⟩ := hbw.at
                 simp only [Nat.zero_add] at d0 d1 d2 d3 d4 d5 d6 d7 d8 d9
                 have l14 := hbw.lt
                 clear hbw
                 cases bp with
                 | false =>
                  go_wp2_with fail
                  go_ret
                  rw [Hv.out]
                  exact ⟨rfl, (Hx0.out).trans Hx14.out⟩
                 | true =>
                  cases b9 with
                  | false =>
                   go_wp2_with fail
                   go_ret
                   rw [Hv.out]
                   exact ⟨rfl, (Hx0.out).trans Hx14.out⟩
                  | true =>
                   cases b10 with
                   | false =>
                    go_wp2_with fail
                    go_ret
                    rw [Hv.out]
                    exact ⟨rfl, (Hx0.out).trans Hx14.out⟩
                   | true =>
                    go_wp2_with fail
                    go_ret
                    rw [Hv.out]
                    exact ⟨rfl, (Hx0.out).trans Hx14.out⟩
            have q10 : (t.kind == 10) = false := by simpa using h10
            have H10 := Lib.hid h10
            clear h10
            by_cases h12 : t.kind = 12
            ·as_aux_lemma =>
             have q12 : (t.kind == 12) = true := by simpa using h12
             have hv : saidB g t = (numsB t && (brandingB t && (overB g t.super kindsObject && (partsB g.length t.parts && (methsB g.length t && clearB t))))) := by unfold saidB; rw [if_neg H3.out, if_neg (of_decide_eq_false H9.out), if_neg H10.out, if_pos h12]
             have hsu := Hsup.out
             rw [if_neg (by omega)] at hsu
             clear Hsup
             generalize numsB t = b5 at *
             generalize brandingB t = b11 at *
             generalize clearB t = b10 at *
             generalize partsB g.length t.parts = bp at hv Hpt
             generalize methsB g.length t = bm at hv Hmt
             generalize overB g t.super kindsObject = bo at hv hsu
             have Hv := Lib.hid hv
             have Hsu := Lib.hid hsu
             clear hv hsu h12 d0
             obtain ⟨d0, d1, d2, d3, d4, d5, d6, d7, d8, d9⟩ := Hbx.out.at
             simp only [Nat.zero_add] at d0 d1 d2 d3 d4 d5 d6 d7 d8 d9
             cases b5 with
             | false =>
              go_wp2_with fail
              go_ret
              rw [Hv.out]
              exact ⟨rfl, Hx0.out⟩
             | true =>
              cases b11 with
              | false =>
               go_wp2_with fail
               go_ret
               rw [Hv.out]
               exact ⟨rfl, Hx0.out⟩
              | true =>
               go_wp2_with fail
               refine (Hsu.out _ (Hx0.out)).mono ?_
               rintro e w12 ⟨rfl, hx12⟩
               have Hx12 := Lib.hid hx12
               clear hx12 d0 d1 d2 d3 d4 d5 d6 d7 d8 d9
               have hbw := Hbx.out.ext (Hx12.out)
               obtain ⟨d0, d1, d2, d3, d4, d5, d6, d7, d8, d9⟩ := hbw.at
               simp only [Nat.zero_add] at d0 d1 d2 d3 d4 d5 d6 d7 d8 d9
               have l12 := hbw.lt
               clear hbw
               cases bo with
               | false =>
                go_wp2_with fail
                go_ret
                rw [Hv.out]
                exact ⟨rfl, (Hx0.out).trans Hx12.out⟩
               | true =>
                go_wp2_with fail
                refine (Hpt.out _ ((Hx0.out).trans Hx12.out)).mono ?_
                rintro e w13 ⟨rfl, hx13⟩
                have Hx13 := Lib.hid hx13
                clear hx13 d0 d1 d2 d3 d4 d5 d6 d7 d8 d9
                have hbw := Hbx.out.ext (Hx12.out.trans Hx13.out)
                obtain ⟨d0, d1, d2, d3, d4, d5, d6, d7, d8, d9⟩ := hbw.at
                simp only [Nat.zero_add] at d0 d1 d2 d3 d4 d5 d6 d7 d8 d9
                have l13 := hbw.lt
                clear hbw
                cases bp with
                | false =>
                 go_wp2_with fail
                 go_ret
                 rw [Hv.out]
                 exact ⟨rfl, ((Hx0.out).trans Hx12.out).trans Hx13.out⟩
                | true =>
                 go_wp2_with fail
                 refine (Hmt.out _ (((Hx0.out).trans Hx12.out).trans Hx13.out)).mono ?_
                 rintro e w14 ⟨rfl, hx14⟩
                 have Hx14 := Lib.hid hx14
                 clear hx14 d0 d1 d2 d3 d4 d5 d6 d7 d8 d9
                 have hbw := Hbx.out.ext ((Hx12.out.trans Hx13.out).trans Hx14.out)
                 obtain ⟨d0, d1, d2, d3, d4, d5, d6, d7, d8, d9⟩ := hbw.at
                 simp only [Nat.zero_add] at d0 d1 d2 d3 d4 d5 d6 d7 d8 d9
                 have l14 := hbw.lt
                 clear hbw
                 cases bm with
                 | false =>
                  go_wp2_with fail
                  go_ret
                  rw [Hv.out]
                  exact ⟨rfl, (((Hx0.out).trans Hx12.out).trans Hx13.out).trans Hx14.out⟩
                 | true =>
                  cases b10 with
                  | false =>
                   go_wp2_with fail
                   go_ret
                   rw [Hv.out]
                   exact ⟨rfl, (((Hx0.out).trans Hx12.out).trans Hx13.out).trans Hx14.out⟩
                  | true =>
                   go_wp2_with fail
                   go_ret
                   rw [Hv.out]
                   exact ⟨rfl, (((Hx0.out).trans Hx12.out).trans Hx13.out).trans Hx14.out⟩
            have q12 : (t.kind == 12) = false := by simpa using h12
            have H12 := Lib.hid h12
            clear h12
            by_cases h13 : t.kind = 13
            ·as_aux_lemma =>
             have q13 : (t.kind == 13) = true := by simpa using h13
             have hv : saidB g t = (numsB t && (brandlessB t && (overB g t.super kindsOpaque && (bareB t && (plainsB t && isSymbolB t.opaq))))) := by unfold saidB; rw [if_neg H3.out, if_neg (of_decide_eq_false H9.out), if_neg H10.out, if_neg H12.out, if_pos h13]
             have hsu := Hsup.out
             rw [if_pos h13] at hsu
             clear Hsup
             generalize numsB t = b5 at *
             generalize brandlessB t = b6 at *
             generalize bareB t = b8 at *
             generalize plainsB t = b9 at *
             generalize isSymbolB t.opaq = by_ at hv Hsy
             generalize overB g t.super kindsOpaque = bo at hv hsu
             have Hv := Lib.hid hv
             have Hsu := Lib.hid hsu
             clear hv hsu h13 d0
             obtain ⟨d0, d1, d2, d3, d4, d5, d6, d7, d8, d9⟩ := Hbx.out.at
             simp only [Nat.zero_add] at d0 d1 d2 d3 d4 d5 d6 d7 d8 d9
             cases b5 with
             | false =>
              go_wp2_with fail
              go_ret
              rw [Hv.out]
              exact ⟨rfl, Hx0.out⟩
             | true =>
              cases b6 with
              | false =>
               go_wp2_with fail
               go_ret
               rw [Hv.out]
               exact ⟨rfl, Hx0.out⟩
              | true =>
               go_wp2_with fail
               refine (Hsu.out _ Hx0.out).mono ?_
               rintro e w12 ⟨rfl, hx12⟩
               have Hx12 := Lib.hid hx12
               clear hx12 d0 d1 d2 d3 d4 d5 d6 d7 d8 d9
               have hbw := Hbx.out.ext Hx12.out
               obtain ⟨d0, d1, d2, d3, d4, d5, d6, d7, d8, d9⟩ := hbw.at
               simp only [Nat.zero_add] at d0 d1 d2 d3 d4 d5 d6 d7 d8 d9
               have l12 := hbw.lt
               clear hbw
               cases bo with
               | false =>
                go_wp2_with fail
                go_ret
                rw [Hv.out]
                exact ⟨rfl, Hx0.out.trans Hx12.out⟩
               | true =>
                cases b8 with
                | false =>
                 go_wp2_with fail
                 go_ret
                 rw [Hv.out]
                 exact ⟨rfl, Hx0.out.trans Hx12.out⟩
                | true =>
                 cases b9 with
                 | false =>
                  go_wp2_with fail
                  go_ret
                  rw [Hv.out]
                  exact ⟨rfl, Hx0.out.trans Hx12.out⟩
                 | true =>
                  go_wp2_with fail
                  refine (Hsy.out _).mono ?_
                  rintro e w13 ⟨rfl, rfl⟩
                  go_wp2_with fail
                  go_ret
                  rw [Hv.out]
                  exact ⟨rfl, Hx0.out.trans Hx12.out⟩
            have q13 : (t.kind == 13) = false := by simpa using h13
            have hv : saidB g t = false := said_none Hsk.out H3.out H9.out H10.out H12.out h13
            have Hv := Lib.hid hv
            clear hv h13
            go_wp2_with fail
            go_ret
            rw [Hv.out]
            exact ⟨rfl, Hx0.out⟩
end Go.Proofs.YtldnjnnhfeobdaaGreatDoor
/- Contracts of the reference: what is wrong with a graph; the first error of a graph and indices; Word. Conditions: a tidy graph. -/
namespace Go.Proofs.YtldnjnnhfeobdaaGreatDoor
open Go.RowKit Go.Shelf
set_option maxRecDepth 100000 in
set_option maxHeartbeats 8000000 in
theorem rcheck_any (w : World) (gv : Value) (g : Graph) (hg : Sl tyE w gv g) (hT : Tidy g) :
  Calls Tryz.prog 24 #[gv] w (Ret w (.tuple #[.int .i64 (checkG g).1, .int .i64 (checkG g).2])) := by
 have hlen := hT.len
 obtain ⟨A, cap, rfl, hs⟩ := hg.ty
 have hcall := fun (w' : World) (hx : Ext w w') (i : Nat) (hi : i < g.length) vp vm vo (hof : TyOf w g[i] vp vm vo) =>
  rsaid_any w' _ g g[i] vp vm vo (hg.mono hx) hlen (hof.mono hx) (hT.ty _ (List.getElem_mem hi)).1
 simp only [said_right] at hcall
 have Hcall := Lib.hid hcall
 have Hs := Lib.hid hs
 clear hcall hs hg hT
 obtain ⟨w0, rfl⟩ : ∃ w0 : World, w0 = w := ⟨_, rfl⟩
 by_cases h4 : 400 < g.length
 ·have e : checkG g = (400, 30) := by unfold checkG; rw [if_pos h4]
  rw [e]
  have h4' : (400 : Int) < (g.length : Int) := by omega
  clear e Hcall Hs
  go_enter Tryz.func24, Tryz.ntmps24
  go_wp2_with fail
  go_ret2
  exact ⟨rfl, Ext.refl _⟩
 ·have h4' : ¬ (400 : Int) < (g.length : Int) := by omega
  have H4 := Lib.hid h4
  clear h4
  go_enter Tryz.func24, Tryz.ntmps24
  go_wp2_with fail
  go_loopw [4] (fun i wr => ∃ k : Nat, k ≤ g.length ∧ i = .int .i64 k ∧ Hid (Ext w0 wr) ∧ Hid (∀ i (hi : i < g.length), i < k → rightB g g[i] = true)) (fun i _ => g.length - (intOf i).toNat)
  case atStart => exact ⟨0, by omega, by simp, Lib.hid (Ext.refl _), fun i _ h => by omega⟩
  case round =>
   obtain ⟨k, hk, rfl, Hxr, Hno⟩ := hrel
   by_cases hlt : k < g.length
   ·obtain ⟨b, off, vp, vm, vo, rfl, hat, hof⟩ := Hs.out k hlt
    have hof' := Lib.hid hof
    obtain ⟨A1, c1, e1⟩ := hof.parts.len
    obtain ⟨A2, c2, e2⟩ := hof.methods.len
    obtain ⟨A3, c3, e3⟩ := hof.overs.len
    subst e1 e2 e3
    obtain ⟨d0, d1, d2, d3, d4, d5, d6, d7, d8, d9⟩ := hat.mono Hxr.out
    have l0 := cell_lt d0
    have hi0 : (0 : Int) ≤ (k : Int) := by omega
    have hi1 : (k : Int) < (g.length : Int) := by omega
    clear hat hof
    go_wp2_with fail
    refine (Hcall.out _ Hxr.out k hlt _ _ _ hof'.out).mono ?_
    rintro e w1 ⟨rfl, hx1⟩
    have Hx1 := Lib.hid (Hxr.out.trans hx1)
    clear d0 d1 d2 d3 d4 d5 d6 d7 d8 d9 hx1
    cases hr : rightB g g[k]
    ·have e := Lib.hid (checkG_bad H4.out hlt Hno.out hr)
     clear hr
     go_wp2_with fail
     go_ret2
     exact ⟨by rw [e.out]; rfl, Hx1.out⟩
    ·have Hr := Lib.hid hr
     clear hr
     go_wp2_with fail
     go_roundw
     case rel => exact ⟨k + 1, by omega, by go_num, Hx1, fun i h hi => by
       by_cases e : i = k
       ·subst e; exact Hr.out
       ·exact Hno.out i h (by omega)⟩
     case measure => simp [intOf]; omega
   ·have Hall := Lib.hid (show ∀ i (hi : i < g.length), rightB g g[i] = true from fun i hi => Hno.out i hi (by omega))
    have Hmore := Lib.hid (fun j (hj : j < g.length) => cyc_more (g := g) (i := j) (fun t ht => by obtain ⟨i, hi, rfl⟩ := List.mem_iff_getElem.1 ht; exact Hall.out i hi) hj)
    clear Hno
    go_wp2_with fail
    clear hlt
    go_loopw [5] (fun i wq => ∃ k : Nat, k ≤ g.length ∧ i = .int .i64 k ∧ Hid (Ext w0 wq) ∧ Hid (∀ i, i < k → cycN g i g.length i = false)) (fun i _ => g.length - (intOf i).toNat)
    case atStart => exact ⟨0, by omega, by simp, Hxr, fun i h => by omega⟩
    case round =>
     clear Hxr
     obtain ⟨j, hj, rfl, Hxr, Hno⟩ := hrel
     by_cases hlt : j < g.length
     ·have hj0 : (j : Int) < (g.length : Int) := by omega
      go_wp2_with fail
      obtain ⟨wo, rfl⟩ : ∃ wo : World, wo = wr := ⟨_, rfl⟩
      go_loopw [6, 7] (fun a i wq => ∃ n q : Nat, n ≤ g.length + 1 ∧ i = .int .i64 n ∧ q < g.length ∧ a = .int .i64 q ∧ wq = wo ∧ Hid (cycN g j (g.length + 1) j = cycN g j (g.length + 1 - n) q)) (fun _ i _ => g.length + 1 - (intOf i).toNat)
      case atStart => exact ⟨0, j, by omega, by simp, hlt, by simp, rfl, rfl⟩
      case round =>
       obtain ⟨n, q, hn, rfl, hq, rfl, rfl, Hcy⟩ := hrel
       by_cases hnl : n ≤ g.length
       ·have hn1 : (n : Int) ≤ (g.length : Int) := by omega
        obtain ⟨b, off, vp, vm, vo, hA, hat, hof⟩ := Hs.out q hq
        subst hA
        have hat' := hat.mono Hxr.out
        have d0 := hat'.c0
        have d6 := hat'.c6
        have l0 := cell_lt d0
        have hi0 : (0 : Int) ≤ (q : Int) := by omega
        have hi1 : (q : Int) < (g.length : Int) := by omega
        have hgq := getT_lt hq
        clear hat hof hat'
        have hkind : (g[q].kind == 12) = true ∨ ((g[q].kind == 12) = false ∧ (g[q].kind == 13) = true) ∨ ((g[q].kind == 12) = false ∧ (g[q].kind == 13) = false) := by
         cases (g[q].kind == 12) <;> cases (g[q].kind == 13) <;> simp
        have hsup : hasSuperB g[q].kind = (g[q].kind == 12 || g[q].kind == 13) := by
         unfold hasSuperB
         rw [Bool.eq_iff_iff]
         simp
        have Hsup := Lib.hid hsup
        have Hfine := Lib.hid (fun h => (right_fine (Hall.out q hq)).super h)
        have Hgq := Lib.hid hgq
        clear hsup hgq
        by_cases hsk : (g[q].kind == 12 || g[q].kind == 13) = true
        ·have hsg : hasSuperB (getT g q).kind = true := by rw [Hgq.out, Hsup.out]; exact hsk
         obtain ⟨s0, s1⟩ := Hfine.out (Hsup.out.trans hsk)
         have hse : superN g q = g[q].super.toNat := by unfold superN; rw [Hgq.out]
         obtain ⟨m, hm⟩ := Int.eq_ofNat_of_zero_le s0
         rw [hm] at d6 s1 hse
         have hse' : superN g q = m := by rw [hse]; rfl
         have hmlt : m < g.length := by omega
         have hk2 : (g[q].kind == 12) = true ∨ ((g[q].kind == 12) = false ∧ (g[q].kind == 13) = true) := by
          rcases hkind with h | h | h
          ·exact .inl h
          ·exact .inr h
          ·rw [h.1, h.2] at hsk; cases hsk
         clear hkind hsk
         by_cases hmj : m = j
         ·have e := Lib.hid (checkG_cyc H4.out Hall.out hlt Hno.out (by rw [← Hmore.out j hlt, Hcy.out]; exact cycN_hit (by omega) hsg (by rw [hse']; exact hmj)))
          have hmj' : ((m : Int) == (j : Int)) = true := by rw [beq_iff_eq]; omega
          have Hmj := Lib.hid hmj
          clear hsg hse hse' hm hmj
          rcases hk2 with hk | ⟨hk, hk'⟩
          all_goals
           go_wp2_with fail
           go_ret2
           exact ⟨by rw [e.out]; rfl, Hxr.out⟩
         ·have hmj' : ((m : Int) == (j : Int)) = false := by simp; omega
          have Hc := Lib.hid (show cycN g j (g.length + 1) j = cycN g j (g.length + 1 - (n + 1)) m by
           rw [Hcy.out, show g.length + 1 - n = (g.length + 1 - (n + 1)) + 1 by omega, cycN_go hsg (by rw [hse']; exact hmj), hse'])
          clear hsg hse hse' hm hmj
          rcases hk2 with hk | ⟨hk, hk'⟩
          all_goals
           go_wp2_with fail
           go_roundw
           case rel => exact ⟨n + 1, m, by omega, by go_num, hmlt, rfl, trivial, Hc⟩
           case measure => simp [intOf]; omega
        ·have hk2 : (g[q].kind == 12) = false ∧ (g[q].kind == 13) = false := by
          rcases hkind with h | h | h
          ·rw [h] at hsk; simp at hsk
          ·rw [h.1, h.2] at hsk; simp at hsk
          ·exact h
         obtain ⟨hk, hk'⟩ := hk2
         have Hc := Lib.hid ((Hmore.out j hlt).symm.trans (Hcy.out.trans (cycN_stop (by rw [Hgq.out, Hsup.out, hk, hk']; rfl))))
         clear hsk hkind
         go_wp2_with fail
         go_roundw
         case rel => exact ⟨j + 1, by omega, by go_num, Hxr, fun i h => by
           by_cases e : i = j
           ·subst e; exact Hc.out
           ·exact Hno.out i (by omega)⟩
         case measure => simp [intOf]; omega
       ·have hn1 : ¬ (n : Int) ≤ (g.length : Int) := by omega
        have Hc := Lib.hid ((Hmore.out j hlt).symm.trans (Hcy.out.trans (by rw [show g.length + 1 - n = 0 by omega, cycN])))
        go_wp2_with fail
        go_roundw
        case rel => exact ⟨j + 1, by omega, by go_num, Hxr, fun i h => by
          by_cases e : i = j
          ·subst e; exact Hc.out
          ·exact Hno.out i (by omega)⟩
        case measure => simp [intOf]; omega
     ·have e := Lib.hid (checkG_fine H4.out Hall.out (fun i hi => Hno.out i (by omega)))
      go_wp2_with fail
      go_ret2
      exact ⟨by rw [e.out]; rfl, Hxr.out⟩
theorem errG_in {g : Graph} {ats : List Int} {k : Nat} (h0 : (checkG g).2 = 0) (hk : k < ats.length) (h : ats[k] < 0 ∨ (g.length : Int) ≤ ats[k]) : errG g ats = 1 := by
 unfold errG
 rw [if_pos h0, if_pos]
 rw [List.any_eq_true]
 exact ⟨ats[k], List.getElem_mem hk, by unfold outB; rw [hasB_out (by omega)]; rfl⟩
set_option maxRecDepth 100000 in
set_option maxHeartbeats 8000000 in
theorem rchecked_any (w : World) (gv v : Value) (g : Graph) (ats : List Int) (hg : Sl tyE w gv g) (hT : Tidy g) (hv : Sl intE w v ats) (hn : ats.length ≤ 1048576) :
  Calls Tryz.prog 57 #[gv, v] w (Ret w (.int .i64 (errG g ats))) := by
 have hlen := hT.len
 have Hc := Lib.hid (rcheck_any w gv g hg hT)
 obtain ⟨A, cap, eA⟩ := hg.len
 subst eA
 obtain ⟨B, cb, eB, hs⟩ := hv.int
 subst eB
 have Hs := Lib.hid hs
 clear hg hT hv hs
 obtain ⟨w0, rfl⟩ : ∃ w0 : World, w0 = w := ⟨_, rfl⟩
 by_cases h0 : (checkG g).2 = 0
 ·have hbad := fun (k : Nat) (hk : k < ats.length) h => errG_in (ats := ats) (k := k) h0 hk h
  have hgood := fun (h : ∀ j (hj : j < ats.length), 0 ≤ ats[j] ∧ ats[j] < g.length) => errG_of (checkG_ok.1 h0) (fun a ha => by obtain ⟨j, hj, rfl⟩ := List.mem_iff_getElem.1 ha; exact h j hj)
  have Hbad := Lib.hid hbad
  have Hgood := Lib.hid hgood
  have H0 := Lib.hid h0
  clear hbad hgood h0
  go_enter Tryz.func57, Tryz.ntmps57
  go_wp2_with fail
  refine Hc.out.mono ?_
  rintro e w1 ⟨rfl, hx1⟩
  rw [H0.out]
  have Hx1 := Lib.hid hx1
  clear hx1
  go_wp2_with fail
  go_loopw [7] (fun u wr => ∃ k : Nat, k ≤ ats.length ∧ u = .int .i64 k ∧ wr = w1 ∧ Hid (∀ j (hj : j < ats.length), j < k → 0 ≤ ats[j] ∧ ats[j] < g.length)) (fun u _ => ats.length - (intOf u).toNat)
  case atStart => exact ⟨0, by omega, rfl, rfl, Lib.hid (fun j _ h => by omega)⟩
  case round =>
   obtain ⟨k, hk, rfl, rfl, Hno⟩ := hrel
   by_cases hlt : k < ats.length
   ·obtain ⟨b, off, rfl, a0⟩ := Hs.out k hlt
    replace a0 := Hx1.out.cell a0
    have la := cell_lt a0
    have i0 : (0 : Int) ≤ (k : Int) := by omega
    have i1 : (k : Int) < (ats.length : Int) := by omega
    have hbad := Hbad.out k hlt
    have hnext := fun (h : 0 ≤ ats[k] ∧ ats[k] < g.length) j (hj : j < ats.length) (hjk : j < k + 1) => if e : j = k then (by subst e; exact h : 0 ≤ ats[j] ∧ ats[j] < g.length) else Hno.out j hj (by omega)
    have Hb := Lib.hid hbad
    have Hnext := Lib.hid hnext
    clear hbad hnext
    generalize ats[k] = x at *
    by_cases c1 : x < 0
    ·have Hv := Lib.hid (Hb.out (.inl c1))
     go_wp2_with fail
     go_ret
     rw [Hv.out]
     exact ⟨rfl, Hx1.out⟩
    ·by_cases c2 : (g.length : Int) ≤ x
     ·have Hv := Lib.hid (Hb.out (.inr c2))
      go_wp2_with fail
      go_ret
      rw [Hv.out]
      exact ⟨rfl, Hx1.out⟩
     ·have Hn := Lib.hid (Hnext.out (by omega))
      go_wp2_with fail
      go_roundw
      case rel => exact ⟨k + 1, by omega, by go_num, trivial, Hn⟩
      case measure => simp [intOf]; omega
   ·have Hv := Lib.hid (Hgood.out (fun j hj => Hno.out j hj (by omega)))
    have i1 : ¬ (k : Int) < (ats.length : Int) := by omega
    go_wp2_with fail
    go_ret
    rw [Hv.out]
    exact ⟨rfl, Hx1.out⟩
 ·have hv : errG g ats = 30 := errG_bad h0
  have hne : ((checkG g).2 != 0) = true := by simpa using h0
  have hne2 : ((checkG g).2 == 0) = false := by simpa using h0
  have Hv := Lib.hid hv
  generalize (checkG g).2 = er at *
  clear hv h0
  go_enter Tryz.func57, Tryz.ntmps57
  go_wp2_with fail
  refine Hc.out.mono ?_
  rintro e w1 ⟨rfl, hx1⟩
  go_wp2_with fail
  go_ret
  rw [Hv.out]
  exact ⟨rfl, hx1⟩
end Go.Proofs.YtldnjnnhfeobdaaGreatDoor
/- Regions that draw their order, inside a round of a range over a function: what serves outside serves inside. No condition. -/
namespace Go.Proofs.YtldnjnnhfeobdaaGreatDoor
open Go.RowKit Go.Shelf
section
variable {P : Program} {Q : Exit → Act → World → Prop} {ops : Array Oper}
theorem rows_round (l n : Nat) {row : String} {args : Array Value} {w : World} {R : Value → World → Prop} (h : Rows P row args w R) : RowsIn (Fence.wide.inRound l) n P row args w R :=
 fun c cs _ => let ⟨v, w', r, s⟩ := h c cs; ⟨v, w', r, stepsIn_wide.2 s⟩
theorem upon_round (l n : Nat) {o : Oper} {a : Act} {K : Act → World → Prop} : ∀ {r : Result Next}, o.upon P a K Q r → o.uponIn (Fence.wide.inRound l) n P a K Q r
 | .ok (.value v) w', h => h
 | .ok .skip w', h => h
 | .ok (.defer d) w', h => h
 | .ok (.enter f args) w', h => ⟨(fun e => by cases e), ((callsIn_wide.2 h).inRound l).mono (R' := fun | .returned v, w'' => K (a.put o.dst v) w'' | .panicked chain, w'' => Q (.panic chain) a w'' | .outgrown, _ => LetsOut Q) (fun e w'' he => by cases e <;> exact he)⟩
 | .ok (.row row args) w', h => ⟨(fun e => by cases e), rows_round l (n - 1) h⟩
 | .halt (.panic v) w', h => h
theorem op_round (l n : Nat) (hno : ∀ (i : Nat) (o : Oper), ops[i]? = some o → ∀ c, o.op ≠ .defer c) (hQ : ¬ LetsOut Q) {i : Nat} {a : Act} {w : World} {K : Act → World → Prop} (h : wpOp P ops Q i K a w) : wpOpIn (Fence.wide.inRound l) n P ops Q i K a w := by
 unfold wpOp at h
 unfold wpOpIn
 cases ho : ops[i]? with
 | none => simpa [ho] using h
 | some o =>
  simp only [ho] at h ⊢
  split
  ·rename_i hw
   simp only [hw, if_true] at h
   rcases h with h | h
   ·refine ⟨fun _ _ => trivial, ?_⟩
    rw [Oper.semAt_eq _ _ _ (hno i o ho)]
    exact upon_round l n h
   ·exact absurd h.2 hQ
  ·rename_i hw
   simp only [hw] at h
   exact ⟨fun _ _ => trivial, h⟩
theorem any_round (l n : Nat) (hno : ∀ (i : Nat) (o : Oper), ops[i]? = some o → ∀ c, o.op ≠ .defer c) (hQ : ¬ LetsOut Q) (md : Region.Mode) : ∀ (fuel : Nat) (listed : Array Bool) (a : Act) (w : World), wpAny P md ops Q fuel listed a w → wpAnyIn (Fence.wide.inRound l) n P md ops Q fuel listed a w
 | 0, _, _, _, h => h
 | fuel + 1, listed, a, w, h => ⟨h.1, fun i hi => wpOpIn_mono (fun a' w' h' => any_round l n hno hQ md fuel _ a' w' h') (op_round l n hno hQ (h.2 i hi))⟩
/-- no operation is a defer statement -/
def noDefer (ops : List Oper) : Bool := ops.all fun o => match o.op with | .defer _ => false | _ => true
theorem noDefer_at {l : List Oper} (h : noDefer l = true) : ∀ (i : Nat) (o : Oper), l.toArray[i]? = some o → ∀ c, o.op ≠ .defer c := by
 intro i o ho c hc
 unfold noDefer at h
 rw [List.all_eq_true] at h
 have hm : o ∈ l := List.mem_of_getElem? (by simpa using ho)
 have := h o hm
 rw [hc] at this
 cases this
theorem wpIn_region_round {id : Nat} {l : List Oper} {lp n : Nat} {a : Act} {w : World} (hm : P.follows .mixedOrders = true) (hd : noDefer l = true) (hQ : ¬ LetsOut Q)
  (h : wpAny P .any l.toArray Q l.toArray.size (Array.replicate l.toArray.size false) a w.drew) : (Code.region id l.toArray true).wpIn (Fence.wide.inRound lp) n P Q a w :=
 wpIn_region_any hm (any_round lp n (noDefer_at hd) hQ .any _ _ _ _ h)
/-- only reads and quiet calls -/
theorem wpIn_region_X {id : Nat} {l : List Oper} {lp n : Nat} {a : Act} {w : World} (hm : P.follows .mixedOrders = true) (hB : Region.lexB .any l.toArray = true) (hd : noDefer l = true) (hQ : ¬ LetsOut Q) (C : World → Prop) (hC : C w.drew)
  (h : wpQuiet P l.toArray C (fun a' => ∀ w', C w' → Q .normal a' w') l a) : (Code.region id l.toArray true).wpIn (Fence.wide.inRound lp) n P Q a w := by
 simp only [Region.lexB, Bool.and_eq_true] at hB
 refine wpIn_region_round hm hd hQ (wpAny_of_quiet (Q := fun a' => ∀ w', C w' → Q .normal a' w') (fun _ w' hw' h => h w' hw') _ _ _ _ hC ?_)
 have := wpAnyQ_lex (C := C) (md := .any) hB.1 l.toArray.toList 0 (Array.replicate l.toArray.size false) a (by simp) (by simpa using hB.2) (by simpa using h)
 simpa using this
/-- reads and quiet calls, then one that is forced last -/
theorem wpIn_region_tail {id : Nat} {l : List Oper} {lp n : Nat} {a : Act} {w : World} (k : Nat) (hm : P.follows .mixedOrders = true) (hB : Region.lexTailB .any l.toArray k = true) (hd : noDefer l = true) (hQ : ¬ LetsOut Q)
  (h : wpStill P l.toArray w.drew (fun a' => wpList P l.toArray Q (l.drop k) a' w.drew) (l.take k) a) : (Code.region id l.toArray true).wpIn (Fence.wide.inRound lp) n P Q a w := by
 simp only [Region.lexTailB, Bool.and_eq_true, decide_eq_true_eq] at hB
 obtain ⟨⟨⟨⟨hsel, hn⟩, hs⟩, hc⟩, hlex⟩ := hB
 have hn' : k < l.length := by simpa using hn
 have htl : (l.take k).length = k := by simp; omega
 have hdl : (l.drop k).length = l.toArray.size - k := by simp
 have inv0 : HeadInv .any l.toArray k (Array.replicate l.toArray.size false) :=
  ⟨by simp, fun j oj _ hl => (by rw [getD_replicate_false] at hl; cases hl), fun t _ ht => getD_in (by simpa using ht) (getD_replicate_false _ _)⟩
 have H := wpAnyL_lex (md := .any) (g := l.toArray.size - k) hsel hs hc hn (l.take k) 0 _ a (fun j hj => by
  have hj' : j < k := by rw [htl] at hj; exact hj
  simp [hj']) (by simpa using htl) inv0 (by rw [htl]; exact hlex) h
 refine wpIn_region_round hm hd hQ ?_
 have := wpAny_of_head (Q' := Q) (g := l.toArray.size - k) (fun listed a' hL => by
  have := wpAny_of_seq (md := .any) (Q' := Q) (l.drop k) k listed a' w.drew (fun j => by simp [List.getElem?_drop]) (by rw [hdl]; exact hL.1) hL.2
  rwa [hdl] at this) _ _ _ H
 rw [htl, show k + (l.toArray.size - k) = l.toArray.size by omega] at this
 exact this
end
end Go.Proofs.YtldnjnnhfeobdaaGreatDoor
/- Contract: reach: what ways lead to. Conditions: a right graph; a quiet function value for classes. -/
namespace Go.Proofs.YtldnjnnhfeobdaaGreatDoor
open Go.RowKit Go.Shelf
attribute [local go_sem] Oper.semAt_some
def i64V (l : List Nat) : List Value := l.map fun (n : Nat) => Value.int .i64 (n : Int)
theorem i64V_snoc (l : List Nat) (n : Nat) : i64V (l ++ [n]) = i64V l ++ [.int .i64 (n : Int)] := by simp [i64V]
/-- the classes that have been seen, as a map -/
def clsF (s : List Nat) : Int → Option Value := fun q => if q ∈ s.map (fun (n : Nat) => (n : Int)) then some (.bool true) else none
theorem cast_mem {c : Nat} {s : List Nat} : (c : Int) ∈ s.map (fun (n : Nat) => (n : Int)) ↔ c ∈ s :=
  ⟨fun h => by obtain ⟨q, hq, e⟩ := List.mem_map.1 h; have : q = c := by omega
               rw [← this]; exact hq, fun h => List.mem_map_of_mem h⟩
theorem clsF_getD (s : List Nat) (c : Nat) : (clsF s (c : Int)).getD (.bool false) = .bool (decide (c ∈ s)) := by
 unfold clsF
 by_cases h : c ∈ s
 ·rw [if_pos (cast_mem.2 h)]; simp [h]
 ·rw [if_neg (fun h' => h (cast_mem.1 h'))]; simp [h]
theorem clsF_put (s : List Nat) (c : Nat) : put (clsF s) (c : Int) (.bool true) = clsF (s ++ [c]) := by
 funext q
 unfold put clsF
 by_cases h : q = (c : Int)
 ·simp [h]
 ·rw [if_neg h]
  have : q ∈ (s ++ [c]).map (fun (n : Nat) => (n : Int)) ↔ q ∈ s.map (fun (n : Nat) => (n : Int)) := by
   rw [List.map_append, List.mem_append, List.map_cons, List.map_nil, List.mem_singleton]
   exact ⟨fun h' => h'.elim id (fun e => absurd e h), .inl⟩
  by_cases h2 : q ∈ s.map (fun (n : Nat) => (n : Int))
  ·rw [if_pos h2, if_pos (this.2 h2)]
  ·rw [if_neg h2, if_neg (fun h' => h2 (this.1 h'))]
theorem clsF_nil : clsF [] = fun _ => none := by funext q; simp [clsF]
theorem zeroBool' (w : World) : (zeroValue 4).run Tryz.prog w = .ok (.bool false) w := by kernel_rfl
theorem addN_len (cls : Nat → Nat) : ∀ rs out, (addN cls out rs).length ≤ out.length + rs.length
 | [], out => by simp [addN]
 | r :: rs, out => by
  unfold addN
  split
  ·have := addN_len cls rs out; simp; omega
  ·have := addN_len cls rs (out ++ [r]); simp at this ⊢; omega
/-! ### marks of loops that are over -/
def marksOf (Ds : List Nat) : List Deferred := Ds.map fun D => { target := .collected D, args := #[] }
theorem leaves_marks {n : Nat} {fn : Func} {tmps : Array Value} {R : Ending → World → Prop} {I : World → Prop} {p : Nat → Prop} (hI : ∀ w D, p D → I w → w.heap[D]? = some (.deferred (some [])) → I (w.putObj D (.deferred none)))
  (hR : ∀ w, I w → LeavesInM Fence.wide n Tryz.prog fn tmps R [] .returning w) : ∀ Ds w, I w → Ds.Nodup → (∀ D ∈ Ds, p D ∧ w.heap[D]? = some (.deferred (some []))) → LeavesInM Fence.wide n Tryz.prog fn tmps R (marksOf Ds) .returning w
 | [], w, h, _, _ => hR w h
 | D :: Ds, w, h, hn, hd => by
  obtain ⟨hp, hD⟩ := hd D (by simp)
  have hn' := List.nodup_cons.1 hn
  refine ⟨by simp, .inl ⟨D, _, rfl, run_takeDeferred hD, leaves_marks hI hR Ds _ (hI w D hp h hD) hn'.2 fun D' h' => ⟨(hd D' (by simp [h'])).1, ?_⟩⟩⟩
  have hne : D' ≠ D := fun e => hn'.1 (e ▸ h')
  exact (World.putObj_heap_other hne).trans (hd D' (by simp [h'])).2
/-! ### what holds while it is looked for -/
structure RSt (w : World) (b3 b5 b7 b8 mb : Nat) (gv fv : Value) (seen out : List Nat) (v : Value) (W : World) : Prop where
 ext : Ext w W
 gbox : Boxed W b3 77 gv
 fbox : Boxed W b5 103 fv
 obox : Boxed W b7 24 v
 row : W.ownsRow w.heap.size 3 1 v out.length (i64V out)
 mbox : Boxed W b8 164 (.map (some mb))
 map : MapF (intK Tryz.underlying3) W mb (clsF seen)
 nb : w.heap.size ≤ mb ∧ w.heap.size ≤ b7 ∧ b7 ≠ b3 ∧ b7 ≠ b5 ∧ b7 ≠ b8 ∧ w.heap.size ≤ b3
section
variable {w W W' : World} {b3 b5 b7 b8 mb : Nat} {gv fv v : Value} {seen out : List Nat}
theorem RSt.later (h : RSt w b3 b5 b7 b8 mb gv fv seen out v W) (hx : Ext W W') : RSt w b3 b5 b7 b8 mb gv fv seen out v W' :=
 ⟨h.ext.trans hx, Boxed.ext h.gbox hx, Boxed.ext h.fbox hx, Boxed.ext h.obox hx, h.row.kept (row := none) ⟨Below.os hx, Below.tape hx, Below.output hx, Below.size hx, fun k hk _ => Below.block hx k hk⟩ (by cases v.ownBlock <;> simp), Boxed.ext h.mbox hx, h.map.ext hx, h.nb⟩
theorem Boxed.ne_map {t : TypeId} {u : Value} {f : Int → Option Value} (h : Boxed W b3 t u) (hm : MapF (intK Tryz.underlying3) W mb f) : b3 ≠ mb := by
 rintro rfl
 obtain ⟨es, c, h2, _⟩ := hm
 rw [show W.heap[b3]? = _ from h] at h2
 injection h2 with h2
 cases h2
theorem RSt.mark (h : RSt w b3 b5 b7 b8 mb gv fv seen out v W) {c : Nat} (hm : MapF (intK Tryz.underlying3) W' mb (put (clsF seen) (c : Int) (.bool true))) (hg : W.grownBy W' (some mb)) : RSt w b3 b5 b7 b8 mb gv fv (seen ++ [c]) out v W' := by
 have hk : ∀ b t u, Boxed W b t u → Boxed W' b t u := fun b t u hb => (hg.block b (Array.getElem?_eq_some_iff.1 (show W.heap[b]? = _ from hb)).1 (fun e => Boxed.ne_map hb h.map (by injection e))).trans hb
 refine ⟨Below.grown h.ext hg h.ext.size (fun k hk => by cases hk; exact h.nb.1), hk _ _ _ h.gbox, hk _ _ _ h.fbox, hk _ _ _ h.obox, h.row.kept hg ?_, hk _ _ _ h.mbox, by rw [← clsF_put]; exact hm, h.nb⟩
 rcases h.row.2 with ⟨rfl, _⟩ | ⟨g, cap, cur, rfl, _, hgb, _⟩
 ·exact .inl rfl
 ·refine .inr fun e => ?_
  obtain ⟨es, c, h2, _⟩ := h.map
  have e' : g = mb := by simpa [Value.ownBlock] using e
  rw [e'] at hgb
  rw [hgb] at h2
  injection h2 with h2
  cases h2
end
theorem RSt.own {w W W' : World} {b3 b5 b7 b8 mb B : Nat} {gv fv v : Value} {seen out : List Nat} (h : RSt w b3 b5 b7 b8 mb gv fv seen out v W) (hmb : mb < B) (hB : w.heap.size ≤ B) {row : Option Nat} (hg : W.grownBy W' row)
  (hr : ∀ r, row = some r → B ≤ r ∧ ∃ o : Obj, W.heap[r]? = some o ∧ o.isCells = false) : RSt w b3 b5 b7 b8 mb gv fv seen out v W' := by
 have hk : ∀ (b : Nat) (c : Array Value) (t : TypeId) (fr : Nat × Nat), W.heap[b]? = some (Obj.cells c t fr) → W'.heap[b]? = some (Obj.cells c t fr) := fun b c t fr hb => (hg.block b (Array.getElem?_eq_some_iff.1 hb).1 (fun e => by
  obtain ⟨_, o, ho, hc⟩ := hr b e.symm
  rw [hb] at ho; cases ho; cases hc)).trans hb
 refine ⟨Below.grown h.ext hg h.ext.size (fun k hk => by have := (hr k hk).1; omega), hk _ _ _ _ h.gbox, hk _ _ _ _ h.fbox, hk _ _ _ _ h.obox, ⟨h.row.1, ?_⟩, hk _ _ _ _ h.mbox, h.map.kept (hg.block mb h.map.lt (fun e => by have := (hr mb e.symm).1; omega)), h.nb⟩
 rcases h.row.2 with hn | ⟨g, cap, cur, e, h1, h2, h3⟩
 ·exact .inl hn
 ·exact .inr ⟨g, cap, cur, e, h1, hk _ _ _ _ h2, h3⟩
/-- one more behind what has been found -/
theorem RSt.push {w W w1 : World} {b3 b5 b7 b8 mb : Nat} {gv fv v v' : Value} {seen out : List Nat} {r : Nat} {tmp : Obj} (h : RSt w b3 b5 b7 b8 mb gv fv seen out v W)
  (hown' : w1.ownsRow w.heap.size 3 1 v' (out.length + 1) (i64V out ++ [.int .i64 (r : Int)])) (hgrow : (W.alloc tmp).grownBy w1 v.ownBlock) : RSt w b3 b5 b7 b8 mb gv fv seen (out ++ [r]) v' (w1.setCell ⟨b7, 0, none⟩ v') ∧ KpR w.heap.size W (w1.setCell ⟨b7, 0, none⟩ v') := by
 have hsz := h.ext.size
 obtain ⟨hv1, hv2, hr2, hk2, hb2⟩ := h.obox.appended (by decide) h.row hsz h.nb.2.1 hown' hgrow
 have hkp := kp_appended h.obox h.row hsz h.nb.2.1 hown' hgrow
 have hk : ∀ b t u, t ≠ 3 → b ≠ b7 → Boxed W b t u → Boxed (w1.setCell ⟨b7, 0, none⟩ v') b t u := fun b t u ht hne hb => by
  have hlt : b < W.heap.size := (Array.getElem?_eq_some_iff.1 (show W.heap[b]? = _ from hb)).1
  refine (Below.heap_setCell _ _ _ _ hne).trans ((hgrow.block b (by simp; omega) ?_).trans ((Below.heap_alloc _ _ _ hlt).trans hb))
  rcases h.row.2 with ⟨rfl, _⟩ | ⟨g, cap, cur, rfl, _, hgb, _⟩
  ·simp [Value.ownBlock]
  ·intro e
   obtain rfl : b = g := by simpa [Value.ownBlock] using e
   have := hgb.symm.trans (show W.heap[b]? = _ from hb)
   simp at this
   exact ht this.2.symm
 refine ⟨⟨Below.trans h.ext hb2, hk _ _ _ (by decide) (fun e => h.nb.2.2.1 e.symm) h.gbox, hk _ _ _ (by decide) (fun e => h.nb.2.2.2.1 e.symm) h.fbox, hv2, by rw [i64V_snoc, List.length_append]; exact hr2, hk _ _ _ (by decide) (fun e => h.nb.2.2.2.2.1 e.symm) h.mbox, ?_, h.nb⟩, hkp⟩
 obtain ⟨es, c, h2, h3⟩ := h.map
 exact ⟨es, c, hk2.same _ _ h2 rfl, h3⟩
/-- a function value that tells the class of a number, and does nothing else -/
structure SameP (w : World) (f : Nat) (cb : Array Value) (cls : Nat → Nat) (n : Nat) : Prop where
 ent : Enters Tryz.prog f
 run : ∀ i, i < n → ∀ w', Ext w w' → Calls Tryz.prog f (#[.int .i64 (i : Int)] ++ cb) w' (fun e w'' => e = .returned (.int .i64 (cls i : Nat)) ∧ w'' = w')
theorem SameP.later {w w1 : World} {f : Nat} {cb : Array Value} {cls : Nat → Nat} {n : Nat} (h : SameP w f cb cls n) (hx : Ext w w1) : SameP w1 f cb cls n := ⟨h.ent, fun i hi w' hw => h.run i hi w' (hx.trans hw)⟩
theorem wp_loop_J {P : Program} {c : Code} {Q : Exit → Act → World → Prop} {a : Act} {w : World} (I : Act → World → Prop) (μ : Act → World → Nat) (h₀ : I a w)
  (round : ∀ a w, I a w → ∀ J : Act → World → Prop, (∀ a' w', I a' w' → μ a' w' < μ a w → J a' w') → c.wp P (Exit.then J Q) a w) : (Code.loop c).wp P Q a w :=
 wp_loop I μ h₀ fun a w h => round a w h _ (fun _ _ h1 h2 => ⟨h1, h2⟩)
/-- where the search stands at k: the frame, and what lies in memory -/
structure RAt (w : World) (g : Graph) (cls : Nat → Nat) (a : Nat) (b3 b5 b7 b8 mb : Nat) (gv fv : Value) (k : Nat) (out : List Nat) (v : Value) (Ds : List Nat) (W : World) : Prop where
 st : RSt w b3 b5 b7 b8 mb gv fv (out.map cls) out v W
 inv : RInv g.length cls (refsN g) a k out
 fin : reachN cls (refsN g) (g.length + 1 - k) k out = reachN cls (refsN g) (g.length + 1) 0 [a]
 dn : Ds.Nodup
 ds : ∀ D ∈ Ds, w.heap.size ≤ D ∧ W.heap[D]? = some (.deferred (some []))
def RLoop (w : World) (g : Graph) (cls : Nat → Nat) (a f : Nat) (cb : Array Value) (b3 b5 b7 b8 mb : Nat) (gv : Value) (act : Act) (W : World) : Prop :=
 ∃ (k : Nat) (out : List Nat) (v : Value) (Ds : List Nat) (u4 u10 u11 u12 u13 u14 u15 u16 u17 u18 u19 u20 u21 u22 u23 u24 u25 u26 u27 u28 u29 u30 u31 u32 u33 u34 u35 u36 u37 u38 u39 u40 u41 u42 u43 u44 u45 : Value),
  act = { tmps := #[.agg #[gv], .int .i64 (a : Int), .func (.func f) #[] cb, .pointer (some ⟨b3, 0, none⟩), u4, .pointer (some ⟨b5, 0, none⟩), .slice none 0 0, .pointer (some ⟨b7, 0, none⟩), .pointer (some ⟨b8, 0, none⟩), .int .i64 (k : Int), u10, u11, u12, u13, u14, u15, u16, u17, u18, u19, u20, u21, u22, u23, u24, u25, u26, u27, u28, u29, u30, u31, u32, u33, u34, u35, u36, u37, u38, u39, u40, u41, u42, u43, u44, u45], defers := marksOf Ds } ∧ RAt w g cls a b3 b5 b7 b8 mb gv (.func (.func f) #[] cb) k out v Ds W
theorem row_form {w W : World} {v : Value} {out : List Nat} (h : W.ownsRow w.heap.size 3 1 v out.length (i64V out)) (h0 : out ≠ []) : ∃ gr c, v = .slice (some ⟨gr, 0, none⟩) out.length c ∧ out.length ≤ c ∧ c ≤ maxLen ∧ ∀ j, j < out.length → W.cell? ⟨gr, j, none⟩ = some (.int .i64 (out.getD j 0 : Nat)) := by
 have hcs := fun (gr : Nat) (e : v.ownBlock = some gr) => h.cells (g := gr) e
 rcases h.2 with ⟨rfl, h1⟩ | ⟨gr, cap, cur, rfl, _, hgb, h2, h3, _⟩
 ·exact absurd (List.eq_nil_of_length_eq_zero h1) h0
 ·refine ⟨gr, cap, rfl, h2, h3, fun j hj => ?_⟩
  have := hcs gr rfl j (.int .i64 (out.getD j 0 : Nat)) (by simp [i64V, List.getD_eq_getElem?_getD, List.getElem?_eq_getElem hj])
  rwa [Addr.add_lit, Nat.zero_add] at this
set_option maxRecDepth 100000 in
set_option maxHeartbeats 16000000 in
theorem reach_in (w : World) (gv : Value) (g : Graph) (a : Nat) (f : Nat) (cb : Array Value) (cls : Nat → Nat) (hg : Sl tyE w gv g) (hn : g.length ≤ 1048576) (hW : WF g) (ha : a < g.length) (hc : ∀ i, i < g.length → cls i < g.length) (hS : SameP w f cb cls g.length) :
  CallsIn Fence.wide 6 Tryz.prog 87 #[.agg #[gv], .int .i64 (a : Int), .func (.func f) #[] cb] w fun e W' => ∃ v, e = .returned v ∧ W'.ownsRow w.heap.size 3 1 v (reachN cls (refsN g) (g.length + 1) 0 [a]).length (i64V (reachN cls (refsN g) (g.length + 1) 0 [a])) ∧ Ext w W' := by
 have eg : ∀ args w, (callFunc f args).run Tryz.prog w = .ok (.enter f args) w := hS.ent
 have hmm := @run_makeMap Tryz.prog
 have HS := Lib.hid hS
 have Hg := Lib.hid hg
 have HW := Lib.hid hW
 have Hc := Lib.hid hc
 obtain ⟨A, cap, rfl⟩ := hg.len
 clear hS hg hW hc
 refine callsIn_of_wp_marks Tryz.func87 rfl trivial (wpIn_wide.2 ?_) rfl
 simp only [Tryz.ntmps87, List.size_toArray, List.length_cons, List.length_nil, Nat.reduceAdd, Nat.reduceSub, Array.replicate_succ, Array.replicate_zero, List.push_toArray, List.append_toArray, List.nil_append, List.cons_append]
 go_wp2_with fail
 refine (HS.out.run a ha _ ?_).mono ?_
 ·exact (((((Ext.refl w).alloc _).alloc _).alloc _).alloc _).alloc _
 rintro e w1 ⟨rfl, hw1⟩
 have hmd := MapF.made (intK Tryz.underlying3) ((((w.alloc (.cells #[.slice A g.length cap] 77)).alloc (.cells #[.func (.func f) #[] cb] 103)).alloc (.cells #[.int .i64 (a : Int)] 3)).alloc (.cells #[.slice (some ⟨w.heap.size + 1 + 1, 0, none⟩) 1 1] 24))
 simp only [World.size_alloc] at hmd
 have Hmd := Lib.hid hmd
 clear hmd
 subst hw1
 go_wp2_with (refine wpList_insert_F (intK Tryz.underlying3) (by rfl) _ _ _ 164 4 (by rfl) Tryz.underlying164 _ _ ((cls a : Nat) : Int) (by rfl) (by rfl) Hmd.out ?_; intro w3 hm3 hg3)
 have hat0 : RAt w g cls a w.heap.size (w.heap.size + 1) (w.heap.size + 1 + 1 + 1) w3.heap.size (w.heap.size + 1 + 1 + 1 + 1) (.slice A g.length cap) (.func (.func f) #[] cb) 0 [a] (.slice (some ⟨w.heap.size + 1 + 1, 0, none⟩) 1 1) [] (w3.alloc (.cells #[.map (some (w.heap.size + 1 + 1 + 1 + 1))] 164)) := by
  have e1 := heap_alloc_self w (.cells #[.slice A g.length cap] 77)
  have e2 := heap_alloc_self (w.alloc (.cells #[.slice A g.length cap] 77)) (.cells #[.func (.func f) #[] cb] 103)
  have e3 := heap_alloc_self ((w.alloc (.cells #[.slice A g.length cap] 77)).alloc (.cells #[.func (.func f) #[] cb] 103)) (.cells #[.int .i64 (a : Int)] 3)
  have e4 := heap_alloc_self (((w.alloc (.cells #[.slice A g.length cap] 77)).alloc (.cells #[.func (.func f) #[] cb] 103)).alloc (.cells #[.int .i64 (a : Int)] 3)) (.cells #[.slice (some ⟨w.heap.size + 1 + 1, 0, none⟩) 1 1] 24)
  simp only [World.size_alloc] at e2 e3 e4
  have x1 := Ext.refl w
  have hsz := hg3.size
  simp only [World.size_alloc] at hsz
  have hx3 : Ext ((((w.alloc (.cells #[.slice A g.length cap] 77)).alloc (.cells #[.func (.func f) #[] cb] 103)).alloc (.cells #[.int .i64 (a : Int)] 3)).alloc (.cells #[.slice (some ⟨w.heap.size + 1 + 1, 0, none⟩) 1 1] 24)) w3 :=
   Below.grown ((Ext.refl _).alloc _) hg3 (by simp) (fun k hk => by cases hk; simp)
  have lift : ∀ b o, ((((w.alloc (.cells #[.slice A g.length cap] 77)).alloc (.cells #[.func (.func f) #[] cb] 103)).alloc (.cells #[.int .i64 (a : Int)] 3)).alloc (.cells #[.slice (some ⟨w.heap.size + 1 + 1, 0, none⟩) 1 1] 24)).heap[b]? = some o → (w3.alloc (.cells #[.map (some (w.heap.size + 1 + 1 + 1 + 1))] 164)).heap[b]? = some o := fun b o h => (hx3.alloc (.cells #[.map (some (w.heap.size + 1 + 1 + 1 + 1))] 164)).heap h
  refine ⟨⟨?_, lift _ _ ?_, lift _ _ ?_, lift _ _ e4, ?_, heap_alloc_self w3 _, ?_, by omega, by omega, by omega, by omega, by omega, by omega⟩, RInv.init ha, rfl, List.nodup_nil, by simp⟩
  ·exact ((((((Ext.refl w).alloc _).alloc _).alloc _).alloc _).trans hx3).alloc _
  ·exact ((((Ext.refl _).alloc _).alloc _).alloc _).heap e1
  ·exact (((Ext.refl _).alloc _).alloc _).heap e2
  ·refine ⟨by simp [i64V], .inr ⟨w.heap.size + 1 + 1, 1, #[.int .i64 (a : Int)], rfl, by omega, lift _ _ (((Ext.refl _).alloc _).heap e3), Nat.le_refl _, by simp [maxLen], by simp, by simp [i64V]⟩⟩
  ·have e : put (fun _ => none) ((cls a : Nat) : Int) (.bool true) = clsF ([a].map cls) := by rw [← clsF_nil, clsF_put]; rfl
   have := hm3.ext ((Ext.refl w3).alloc (.cells #[.map (some (w.heap.size + 1 + 1 + 1 + 1))] 164))
   rw [← e]; exact this
 have Hat0 := Lib.hid hat0
 clear hat0 hm3 hg3 Hmd hmm
 generalize w3.alloc (.cells #[.map (some (w.heap.size + 1 + 1 + 1 + 1))] 164) = w4 at Hat0 ⊢
 generalize w3.heap.size = b8 at Hat0 ⊢
 refine wp_loop_J (RLoop w g cls a f cb w.heap.size (w.heap.size + 1) (w.heap.size + 1 + 1 + 1) b8 (w.heap.size + 1 + 1 + 1 + 1) (.slice A g.length cap)) (fun act _ => g.length + 1 - (intOf (act.tmps.getD 9 undef)).toNat) ⟨0, [a], _, [], _, _, _, _, _, _, _, _, _, _, _, _, _, _, _, _, _, _, _, _, _, _, _, _, _, _, _, _, _, _, _, _, _, _, _, _, _, rfl, Hat0.out⟩ ?_
 clear Hat0
 generalize hb7 : w.heap.size + 1 + 1 + 1 = b7
 generalize hmb : b7 + 1 = mb
 generalize hb5 : w.heap.size + 1 = b5
 generalize hb3 : w.heap.size = b3
 clear hb7 hmb hb5 hb3
 rintro _ W ⟨k, out, v, Ds, u4, u10, u11, u12, u13, u14, u15, u16, u17, u18, u19, u20, u21, u22, u23, u24, u25, u26, u27, u28, u29, u30, u31, u32, u33, u34, u35, u36, u37, u38, u39, u40, u41, u42, u43, u44, u45, rfl, hat⟩ J hJ
 have HJ := Lib.hid hJ
 clear hJ
 have hol := hat.inv.len Hc.out
 have hkl := hat.inv.le
 have h0 : out ≠ [] := fun e => by have := hat.inv.start; rw [e] at this; simp at this
 obtain ⟨gr, c, rfl, hc1, hc2, hrow⟩ := row_form hat.st.row h0
 have c3 := hat.st.gbox.cell
 have c5 := hat.st.fbox.cell
 have c7 := hat.st.obox.cell
 have c8 := hat.st.mbox.cell
 have l3 := cell_lt c3
 have l5 := cell_lt c5
 have l7 := cell_lt c7
 have l8 := cell_lt c8
 by_cases hlt : k < out.length
 ·have ck := hrow k hlt
  have lk := cell_lt ck
  have hk0 : (0 : Int) ≤ (k : Int) := by omega
  have hk1 : (k : Int) < (out.length : Int) := by omega
  have hik : out.getD k 0 < g.length := hat.inv.rng _ (getD_mem hlt)
  have hik2 : out[k]? = some (out.getD k 0) := by simp [List.getD_eq_getElem?_getD, List.getElem?_eq_getElem hlt]
  have hgo := reachN_go (cls := cls) (rf := refsN g) (f := g.length - k) hik2
  rw [show g.length - k + 1 = g.length + 1 - k by omega] at hgo
  have hinv2 := hat.inv.step HW.out.abs.rng hik2
  generalize out.getD k 0 = i at *
  have Hat := Lib.hid hat
  have Hgo := Lib.hid hgo
  have Hinv2 := Lib.hid hinv2
  have href := fun (w' : World) (hx : Ext w w') => refs_any2 w w' _ g i hx Hg.out hik hn
  have Href := Lib.hid href
  clear hat hgo hinv2 hik2 hrow href
  go_wp2_with fail
  go_still_tail 5, (by kernel_rfl)
  change wpList _ _ _ _ _ W.drew
  go_wp2_with fail
  refine (Href.out _ Hat.out.st.ext.drew).mono ?_
  rintro e w5 ⟨bx, vp, vm, vo, rfl, hbx, hof, hx5, hbl⟩
  have hgn := refs_givesN (Hat.out.st.ext.drew.trans hx5) hof (HW.out.fine (getT_mem hik)) hbx
  obtain ⟨eg2, hseq⟩ := hgn
  have eg2' : ∀ args w, (callFunc 152 args).run Tryz.prog w = .ok (.enter 152 args) w := eg2
  have Hseq := Lib.hid (hseq (6 - 1) (by omega))
  have Hx5 := Lib.hid ((Ext.refl W).drew.trans hx5)
  have Hst5 := Lib.hid (Hat.out.st.later ((Ext.refl W).drew.trans hx5))
  have Hds := Lib.hid (fun D hD => (⟨(Hat.out.ds D hD).1, ((Ext.refl W).drew.trans hx5).heap (Hat.out.ds D hD).2⟩ : w.heap.size ≤ D ∧ w5.heap[D]? = some (.deferred (some []))))
  have hmb5 := Hst5.out.map.lt
  have hw5 := Hst5.out.ext.size
  have Hext5 := Lib.hid Hst5.out.ext
  clear eg2 hseq hbx hof hx5 hbl c3 c5 c7 c8 l3 l5 l7 l8 ck lk
  go_wp2_with fail
  refine wpIn_wide.1 (wpIn_rangeFunc_ownG (F := Fence.wide) (n := 6) rfl (by omega) (gf := 152) (lb := #[.pointer (some ⟨bx, 0, none⟩)]) rfl trivial eg2' (w0 := w5) Hseq.out KpR.trans (KpR.book hw5) (Below.refl _ _) (fun _ => rfl)
   (fun (pre : List (Bel g.length)) W' => ∃ v', RSt w b3 b5 b7 b8 mb (.slice A g.length cap) (.func (.func f) #[] cb) ((addN cls out (pre.map fun x => x.1.toNat)).map cls) (addN cls out (pre.map fun x => x.1.toNat)) v' W' ∧ ∀ D ∈ Ds, w.heap.size ≤ D ∧ D < w5.heap.size ∧ W'.heap[D]? = some (.deferred (some [])))
   (fun _ _ _ => False) ?own (fun _ _ _ _ _ hs _ _ => hs) ?start ?a1 ?assign ?body ?done ?stop)
  case assign =>
   intro l x W' K hK
   gi_wp2
   exact hK
  case own =>
   rintro pre X Y row ⟨v', hst, hds⟩ hg hr
   refine ⟨v', hst.own hmb5 hw5 hg hr, fun D hD => ⟨(hds D hD).1, (hds D hD).2.1, ?_⟩⟩
   have h1 := (hds D hD).2.2
   refine (hg.block D (Array.getElem?_eq_some_iff.1 h1).1 fun e => ?_).trans h1
   have := (hr D e.symm).1
   have := (hds D hD).2.1
   omega
  case start => exact ⟨_, by simpa [addN] using Hst5.out, fun D hD => ⟨(Hds.out D hD).1, (Array.getElem?_eq_some_iff.1 (Hds.out D hD).2).1, (Hds.out D hD).2⟩⟩
  case stop =>
   rintro D c pre W' _ _ h _
   exact h.elim
  case body =>
   rintro l pre ⟨xi, hxi⟩ W' ⟨v', hst, hds⟩ hlt'
   obtain ⟨j, rfl⟩ := Int.eq_ofNat_of_zero_le hxi.1
   have hj : j < g.length := by omega
   have hadd : addN cls out ((pre ++ [(⟨(j : Int), hxi⟩ : Bel g.length)]).map fun x => x.1.toNat) = if cls j ∈ (addN cls out (pre.map fun x => x.1.toNat)).map cls then addN cls out (pre.map fun x => x.1.toNat) else addN cls out (pre.map fun x => x.1.toNat) ++ [j] := by
    rw [List.map_append, addN_append]; rfl
   have Hadd := Lib.hid hadd
   have hol2 := addN_len cls (pre.map fun x => x.1.toNat) out
   rw [List.length_map] at hol2
   clear hadd
   generalize addN cls out (pre.map fun x => x.1.toNat) = o2 at *
   have Hst2 := Lib.hid hst
   have c5 := hst.fbox.cell
   have c7 := hst.obox.cell
   have c8 := hst.mbox.cell
   have l5 := cell_lt c5
   have l7 := cell_lt c7
   have l8 := cell_lt c8
   have hlk : ∀ (w' : World), Ext W' w' → (Instr.lookup 164 (.map (some mb)) (.int .i64 ((cls j : Nat) : Int)) false).run Tryz.prog w' = .ok (.bool (decide (cls j ∈ o2.map cls))) w' := fun w' hx => by
    have h := (hst.map.ext hx).lookup Tryz.underlying164 (zeroBool' w') ((cls j : Nat) : Int)
    rw [clsF_getD] at h
    exact h
   have hcj := Hc.out j hj
   have Hlk := Lib.hid hlk
   have Hds2 := Lib.hid hds
   have hsame := fun (w' : World) (hx : Ext W' w') => HS.out.run j hj w' (hst.ext.trans hx)
   have Hsame := Lib.hid hsame
   clear hst hlk hsame hds
   by_cases hin : cls j ∈ o2.map cls
   ·have Hin := Lib.hid hin
    have hl1 : ∀ nq, (Instr.lookup 164 (.map (some mb)) (.int .i64 ((cls j : Nat) : Int)) false).run Tryz.prog (W'.drewN nq) = .ok (.bool true) (W'.drewN nq) := fun nq => by
     have h := Hlk.out _ ((Ext.refl W').drewN nq); rw [decide_eq_true Hin.out] at h; exact h
    clear hin
    gi_wp2
    refine wpIn_region_X (by kernel_rfl) (by kernel_rfl) (by kernel_rfl) (fun ⟨_, _, h⟩ => h) (fun w' => ∃ n, w' = W'.drewN n) ⟨1, rfl⟩ ?_
    repeat (first | go_big_quiet_step ((exact Calls.quiet_of_same (Hsame.out _ ((Ext.refl W').drewN _)))) | quiet_step ((exact Calls.quiet_of_same (Hsame.out _ ((Ext.refl W').drewN _)))))
    refine wpQuiet_nil ?_
    intro _ hw'
    obtain ⟨nq, hw''⟩ := hw'
    subst hw''
    clear hl1
    gi_wp2
    refine ⟨KeepsFrom.of_grownBy (row := none) ⟨rfl, rfl, rfl, Nat.le_refl _, fun _ _ _ => rfl⟩ (fun _ e => by cases e), ⟨Below.mono ((Ext.refl W').drewN nq) Hst2.out.ext.size, fun _ _ _ _ _ h => h⟩, v', ?_, Hds2.out⟩
    rw [Hadd.out, if_pos Hin.out]
    exact Hst2.out.later ((Ext.refl W').drewN nq)
   ·have Hin := Lib.hid hin
    have hl1 : ∀ nq, (Instr.lookup 164 (.map (some mb)) (.int .i64 ((cls j : Nat) : Int)) false).run Tryz.prog (W'.drewN nq) = .ok (.bool false) (W'.drewN nq) := fun nq => by
     have h := Hlk.out _ ((Ext.refl W').drewN nq); rw [decide_eq_false Hin.out] at h; exact h
    clear hin
    gi_wp2
    refine wpIn_region_X (by kernel_rfl) (by kernel_rfl) (by kernel_rfl) (fun ⟨_, _, h⟩ => h) (fun w' => ∃ n, w' = W'.drewN n) ⟨1, rfl⟩ ?_
    repeat (first | go_big_quiet_step ((exact Calls.quiet_of_same (Hsame.out _ ((Ext.refl W').drewN _)))) | quiet_step ((exact Calls.quiet_of_same (Hsame.out _ ((Ext.refl W').drewN _)))))
    refine wpQuiet_nil ?_
    intro _ hw'
    obtain ⟨nq, hw''⟩ := hw'
    subst hw''
    clear hl1
    have Hst3 := Lib.hid (Hst2.out.later ((Ext.refl W').drewN nq))
    gi_wp2
    refine wpIn_region_tail 4 (by kernel_rfl) (by kernel_rfl) (by kernel_rfl) (fun ⟨_, _, h⟩ => h) ?_
    simp only [List.take_succ_cons, List.take_zero, List.drop_succ_cons, List.drop_zero]
    still_step
    still_step
    still_step
    still_call (Hsame.out _ (((Ext.refl W').drewN nq).drew))
    refine wpStill_nil ?_
    refine wpList_update_F (intK Tryz.underlying3) (by rfl) _ _ _ 164 4 (by rfl) Tryz.underlying164 mb (clsF (o2.map cls)) ((cls j : Nat) : Int) (by rfl) (by rfl) (Hst3.out.map.ext (Ext.refl _).drew) ?_
    intro w8 hm8 hg8
    have hx8 : KeepsFrom w5.heap.size (W'.drewN nq).drew w8 := KeepsFrom.of_grownBy hg8 (fun r e => by cases e; exact hmb5)
    have Hst8 := Lib.hid ((Hst3.out.later (Ext.refl _).drew).mark hm8 hg8)
    have Hx8 := Lib.hid hx8
    have Hkp8 := Lib.hid (show KpR w.heap.size (W'.drewN nq).drew w8 from ⟨Below.grown (Below.refl _ _) hg8 (by have := Hst3.out.ext.size; simpa using this) (fun r e => by cases e; exact Hst3.out.nb.1), fun b cc ty fr _ hb => (hg8.block b (Array.getElem?_eq_some_iff.1 hb).1 (fun e => by
     have e : b = mb := by injection e
     obtain ⟨es, ck, h2, _⟩ := Hst3.out.map
     rw [e] at hb
     rw [show (W'.drewN nq).heap[mb]? = _ from hb] at h2
     injection h2 with h2
     cases h2)).trans hb⟩)
    have Hds8 := Lib.hid (show ∀ D ∈ Ds, w8.heap[D]? = some (.deferred (some [])) from fun D hD => (hg8.block D (Array.getElem?_eq_some_iff.1 (Hds2.out D hD).2.2).1 (fun e => by
     have e : D = mb := by injection e
     obtain ⟨es, ck, h2, _⟩ := Hst3.out.map
     have h1 := (Hds2.out D hD).2.2
     rw [e] at h1
     rw [show (W'.drewN nq).heap[mb]? = _ from h1] at h2
     injection h2 with h2
     cases h2)).trans (Hds2.out D hD).2.2)
    have d7 := Hst8.out.obox.cell
    have ld7 := cell_lt d7
    clear hm8 hg8 hx8 c5 c7 c8 l5 l7 l8
    go_wp2_with fail
    obtain ⟨i0, hi, hz0, hz1, hz2⟩ := info_parts infoI
    have hsz8 := Hst8.out.ext.size
    gi_wp2_with (gi_at_builtin; refine wpListIn_append_own _ rfl _ _ 24 rfl w.heap.size 3 i0 (.int .i64 0) 1 8 Tryz.underlying24 hi hz0 hz1 hz2 rfl (by decide) _ _ _ rfl (Hst8.out.row.alloc _) ⟨w8.heap.size, 0, none⟩ 1 1 [.int .i64 (j : Int)] rfl rfl (cell_one_new _ _ _) (by simp [Value.oneCell']) (by simp only [maxLen]; omega) (by omega) (by simp; omega) ?_; intro v2 w1 hown' hgrow _; obtain ⟨g2, cap2, rfl⟩ := ownsRow_succ hown'; obtain ⟨hv1, _, _, hk2, _⟩ := Hst8.out.obox.appended (by decide) Hst8.out.row hsz8 Hst8.out.nb.2.1 hown' hgrow; have Hk2 := Lib.hid hk2; clear hk2; have Hps := Lib.hid (Hst8.out.push hown' hgrow); have hc1 := hv1.cell; have hf1 := hv1.frozen)
    have kd : KeepsFrom w5.heap.size W' (W'.drewN nq).drew := KeepsFrom.of_grownBy (row := none) ⟨rfl, rfl, rfl, Nat.le_refl _, fun _ _ _ => rfl⟩ (fun _ e => by cases e)
    have kp : KpR w.heap.size W' (W'.drewN nq).drew := ⟨Below.mono ((Ext.refl W').drewN nq).drew Hst2.out.ext.size, fun _ _ _ _ _ h => h⟩
    refine ⟨(kd.trans Hx8.out).trans (Hk2.out.from _), (kp.trans Hkp8.out).trans Hps.out.2, .slice (some ⟨g2, 0, none⟩) (o2.length + 1) cap2, ?_, fun D hD => ⟨(Hds2.out D hD).1, (Hds2.out D hD).2.1, Hk2.out.same D _ (Hds8.out D hD) rfl⟩⟩
    rw [Hadd.out, if_neg Hin.out, List.map_append]
    exact Hps.out.1
  case done =>
   rintro D xs W' hD hxs ⟨v', hst, hds⟩ hK
   have hout : addN cls out (xs.map fun x => x.1.toNat) = addN cls out (refsN g i) := by
    unfold refsN
    rw [← hxs, List.map_map]; rfl
   rw [hout] at hst
   have hat2 : RAt w g cls a b3 b5 b7 b8 mb (.slice A g.length cap) (.func (.func f) #[] cb) (k + 1) (addN cls out (refsN g i)) v' (D :: Ds) W' := by
    refine ⟨hst, Hinv2.out, ?_, List.nodup_cons.2 ⟨fun h => ?_, Hat.out.dn⟩, fun D' h => ?_⟩
    ·rw [← Hat.out.fin, Hgo.out, show g.length + 1 - (k + 1) = g.length - k by omega]
    ·have := (hds D h).2.1; omega
    ·rcases List.mem_cons.1 h with rfl | h
     ·exact ⟨by omega, hK⟩
     ·exact ⟨(hds D' h).1, (hds D' h).2.2⟩
   have Hat2 := Lib.hid hat2
   clear hat2 hst hds hout hxs hK
   go_wp2_with fail
   refine HJ.out _ _ ⟨k + 1, _, v', D :: Ds, _, _, _, _, _, _, _, _, _, _, _, _, _, _, _, _, _, _, _, _, _, _, _, _, _, _, _, _, _, _, _, _, _, _, _, _, _, rfl, Hat2.out⟩ ?_
   simp [intOf]
   omega
 ·have hkk : k = out.length := by omega
  have hfin := hat.fin
  rw [hkk, reachN_done (Nat.le_refl _)] at hfin
  have Hfin := Lib.hid hfin
  have Hat := Lib.hid hat
  clear hfin hat hrow hkk h0
  go_wp2_with fail
  refine leaves_marks (I := fun W' => W'.ownsRow w.heap.size 3 1 (.slice (some ⟨gr, 0, none⟩) out.length c) out.length (i64V out) ∧ Ext w W') (p := fun D => w.heap.size ≤ D) ?_ ?_ Ds W ⟨Hat.out.st.row, Hat.out.st.ext⟩ Hat.out.dn Hat.out.ds
  ·rintro w9 D hp ⟨h1, h2⟩ hD
   exact ⟨ownsRow_putObj h1 _ hD rfl, Below.trans h2 (belowK_b (w := w) (Nat.le_refl _) w9 D _ _ hp hD rfl rfl)⟩
  ·rintro w9 ⟨h1, h2⟩
   refine ⟨_, results_tmp rfl _ _ _, _, rfl, ?_, h2⟩
   rw [← Hfin.out]
   exact h1
end Go.Proofs.YtldnjnnhfeobdaaGreatDoor
