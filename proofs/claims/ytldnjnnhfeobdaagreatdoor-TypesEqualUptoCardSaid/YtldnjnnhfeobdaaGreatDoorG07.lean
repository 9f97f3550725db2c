/- Parts of the proof, joined: Contract of the reference: two types agree at once. Conditions: lengths below 2^20; Contract of the reference: is a pair in a list? Conditions: lengths below 2^20; Contract of the reference: the references of a type. Conditions: a fine type; Pairs of ints as keys; a queue of the call's own: a slice that is appended to behind and cut in front. No condition; Plain theory: the search as a relation; a search that has not marked its start finds the same. No program. No condition; Contract: Apart. Conditions: lengths below 2^20; What the reference's search keeps in memory: the spots to do, the pairs seen; how appends change it. No condition; Small facts about slices of the call's own. No condition; Contracts of the reference: brands, parts, what may be above. Conditions: lengths below 2^20. -/
import Derived.Deep.MidRow
import Derived.Deep.RegionLawGrows
import Derived.ArgAppend
import Derived.ChangeKeysEq
import Derived.WalkMore
import Derived.Deep.LoopGhost
import Derived.Deep.AppendLies
import Derived.Test.YtldnjnnhfeobdaaGreatDoorG06
import Derived.Test.YtldnjnnhfeobdaaGreatDoorG03
import Derived.Test.YtldnjnnhfeobdaaGreatDoorG04
import Derived.Test.YtldnjnnhfeobdaaGreatDoorG02
import Derived.Test.YtldnjnnhfeobdaaGreatDoorG01
import Derived.Test.YtldnjnnhfeobdaaGreatDoorG05
set_option linter.all false
set_option linter.unusedSimpArgs false
set_option linter.unusedVariables false
namespace Go.Proofs.YtldnjnnhfeobdaaGreatDoor
open Go.RowKit Go.Shelf
theorem agree_no1 {x y : Ty} (h : plainEqB x y = false) : agreeT x y = false := by unfold agreeT; rw [h]; rfl
theorem agree_no2 {x y : Ty} (h : eqF partEq x.parts y.parts = false) : agreeT x y = false := by unfold agreeT; rw [h]; simp
theorem agree_no3 {x y : Ty} (h : eqF sameMethodB x.methods y.methods = false) : agreeT x y = false := by unfold agreeT; rw [h]; simp
theorem agree_no4 {x y : Ty} (h : eqF overEq x.overs y.overs = false) : agreeT x y = false := by unfold agreeT; rw [h]; simp
theorem agree_yes {x y : Ty} (h1 : plainEqB x y = true) (h2 : eqF partEq x.parts y.parts = true) (h3 : eqF sameMethodB x.methods y.methods = true) (h4 : eqF overEq x.overs y.overs = true) : agreeT x y = true := by
 unfold agreeT; rw [h1, h2, h3, h4]; rfl
set_option maxRecDepth 100000 in
set_option maxHeartbeats 16000000 in
theorem ragree_any (w : World) (x y : Ty) (xp xm xo yp ym yo : Value) (hx : TySmall x) (hy : TySmall y) (hox : TyOf w x xp xm xo) (hoy : TyOf w y yp ym yo) :
  Calls Tryz.prog 41 #[tyV x xp xm xo, tyV y yp ym yo] w (Ret w (.bool (agreeT x y))) := by
 obtain ⟨A1, a1, e1, xps⟩ := hox.parts.part
 obtain ⟨A2, a2, e2, xms⟩ := hox.methods.method
 obtain ⟨A3, a3, e3, xos⟩ := hox.overs.over
 subst e1 e2 e3
 obtain ⟨B1, b1, e1, yps⟩ := hoy.parts.part
 obtain ⟨B2, b2, e2, yms⟩ := hoy.methods.method
 obtain ⟨B3, b3, e3, yos⟩ := hoy.overs.over
 subst e1 e2 e3
 have Xps := Lib.hid xps
 have Xms := Lib.hid xms
 have Xos := Lib.hid xos
 have Yps := Lib.hid yps
 have Yms := Lib.hid yms
 have Yos := Lib.hid yos
 have Xmm := Lib.hid hx.method
 have Ymm := Lib.hid hy.method
 have q1 := hx.parts
 have q2 := hx.methods
 have q3 := hx.overs
 have q4 := hy.parts
 have q5 := hy.methods
 have q6 := hy.overs
 clear xps xms xos yps yms yos hox hoy hx hy
 unfold tyV
 by_cases h0 : x.kind = y.kind
 case neg =>
  as_aux_lemma =>
   have p0 : (x.kind != y.kind) = true := by simpa using h0
   have r0 : (x.kind == y.kind) = false := by simpa using h0
   have hv : agreeT x y = false := agree_no1 (by cases hb : plainEqB x y with | false => rfl | true => exact absurd (plainEqB_iff.1 hb).1 h0)
   have Hv := Lib.hid hv
   clear hv h0
   go_enter Tryz.func41, Tryz.ntmps41
   go_wp2_with fail
   go_ret
   rw [Hv.out]
   exact ⟨rfl, ((Ext.refl _).alloc _).alloc _⟩
 have p0 : (x.kind != y.kind) = false := by simpa using h0
 have r0 : (x.kind == y.kind) = true := by simpa using h0
 by_cases h1 : x.low = y.low
 case neg =>
  as_aux_lemma =>
   have p1 : (x.low != y.low) = true := by simpa using h1
   have r1 : (x.low == y.low) = false := by simpa using h1
   have hv : agreeT x y = false := agree_no1 (by cases hb : plainEqB x y with | false => rfl | true => exact absurd (plainEqB_iff.1 hb).2.1 h1)
   have Hv := Lib.hid hv
   clear hv h0 h1
   go_enter Tryz.func41, Tryz.ntmps41
   go_wp2_with fail
   go_ret
   rw [Hv.out]
   exact ⟨rfl, ((Ext.refl _).alloc _).alloc _⟩
 have p1 : (x.low != y.low) = false := by simpa using h1
 have r1 : (x.low == y.low) = true := by simpa using h1
 by_cases h2 : x.high = y.high
 case neg =>
  as_aux_lemma =>
   have p2 : (x.high != y.high) = true := by simpa using h2
   have r2 : (x.high == y.high) = false := by simpa using h2
   have hv : agreeT x y = false := agree_no1 (by cases hb : plainEqB x y with | false => rfl | true => exact absurd (plainEqB_iff.1 hb).2.2.1 h2)
   have Hv := Lib.hid hv
   clear hv h0 h1 h2
   go_enter Tryz.func41, Tryz.ntmps41
   go_wp2_with fail
   go_ret
   rw [Hv.out]
   exact ⟨rfl, ((Ext.refl _).alloc _).alloc _⟩
 have p2 : (x.high != y.high) = false := by simpa using h2
 have r2 : (x.high == y.high) = true := by simpa using h2
 by_cases h3 : x.branded = y.branded
 case neg =>
  as_aux_lemma =>
   have p3 : (x.branded != y.branded) = true := by simpa using h3
   have r3 : (x.branded == y.branded) = false := by simpa using h3
   have hv : agreeT x y = false := agree_no1 (by cases hb : plainEqB x y with | false => rfl | true => exact absurd (plainEqB_iff.1 hb).2.2.2.1 h3)
   have Hv := Lib.hid hv
   clear hv h0 h1 h2 h3
   go_enter Tryz.func41, Tryz.ntmps41
   go_wp2_with fail
   go_ret
   rw [Hv.out]
   exact ⟨rfl, ((Ext.refl _).alloc _).alloc _⟩
 have p3 : (x.branded != y.branded) = false := by simpa using h3
 have r3 : (x.branded == y.branded) = true := by simpa using h3
 by_cases h4 : x.brand = y.brand
 case neg =>
  as_aux_lemma =>
   have s4 : ¬ x.brand.toList = y.brand.toList := fun e => h4 (ba_toList_inj e)
   have p4 : (x.brand.toList != y.brand.toList) = true := by simpa using s4
   have r4 : (x.brand.toList == y.brand.toList) = false := by simpa using s4
   have hv : agreeT x y = false := agree_no1 (by cases hb : plainEqB x y with | false => rfl | true => exact absurd (plainEqB_iff.1 hb).2.2.2.2.1 h4)
   have Hv := Lib.hid hv
   clear hv h0 h1 h2 h3 h4
   go_enter Tryz.func41, Tryz.ntmps41
   go_wp2_with fail
   go_ret
   rw [Hv.out]
   exact ⟨rfl, ((Ext.refl _).alloc _).alloc _⟩
 have p4 : (x.brand.toList != y.brand.toList) = false := by rw [h4]; simp
 have r4 : (x.brand.toList == y.brand.toList) = true := by rw [h4]; simp
 by_cases h5 : x.opaq = y.opaq
 case neg =>
  as_aux_lemma =>
   have s5 : ¬ x.opaq.toList = y.opaq.toList := fun e => h5 (ba_toList_inj e)
   have p5 : (x.opaq.toList != y.opaq.toList) = true := by simpa using s5
   have r5 : (x.opaq.toList == y.opaq.toList) = false := by simpa using s5
   have hv : agreeT x y = false := agree_no1 (by cases hb : plainEqB x y with | false => rfl | true => exact absurd (plainEqB_iff.1 hb).2.2.2.2.2 h5)
   have Hv := Lib.hid hv
   clear hv h0 h1 h2 h3 h4 h5
   go_enter Tryz.func41, Tryz.ntmps41
   go_wp2_with fail
   go_ret
   rw [Hv.out]
   exact ⟨rfl, ((Ext.refl _).alloc _).alloc _⟩
 have p5 : (x.opaq.toList != y.opaq.toList) = false := by rw [h5]; simp
 have r5 : (x.opaq.toList == y.opaq.toList) = true := by rw [h5]; simp
 by_cases h6 : x.parts.length = y.parts.length
 case neg =>
  as_aux_lemma =>
   have p6 : ((x.parts.length : Int) != (y.parts.length : Int)) = true := by simp; omega
   have hv : agreeT x y = false := agree_no2 (eqF_len h6)
   have Hv := Lib.hid hv
   clear hv h0 h1 h2 h3 h4 h5 h6
   go_enter Tryz.func41, Tryz.ntmps41
   go_wp2_with fail
   go_ret
   rw [Hv.out]
   exact ⟨rfl, ((Ext.refl _).alloc _).alloc _⟩
 have p6 : ((x.parts.length : Int) != (y.parts.length : Int)) = false := by simp; omega
 by_cases h7 : x.methods.length = y.methods.length
 case neg =>
  as_aux_lemma =>
   have p7 : ((x.methods.length : Int) != (y.methods.length : Int)) = true := by simp; omega
   have hv : agreeT x y = false := agree_no3 (eqF_len h7)
   have Hv := Lib.hid hv
   clear hv h0 h1 h2 h3 h4 h5 h6 h7
   go_enter Tryz.func41, Tryz.ntmps41
   go_wp2_with fail
   go_ret
   rw [Hv.out]
   exact ⟨rfl, ((Ext.refl _).alloc _).alloc _⟩
 have p7 : ((x.methods.length : Int) != (y.methods.length : Int)) = false := by simp; omega
 by_cases h8 : x.overs.length = y.overs.length
 case neg =>
  as_aux_lemma =>
   have p8 : ((x.overs.length : Int) != (y.overs.length : Int)) = true := by simp; omega
   have hv : agreeT x y = false := agree_no4 (eqF_len h8)
   have Hv := Lib.hid hv
   clear hv h0 h1 h2 h3 h4 h5 h6 h7 h8
   go_enter Tryz.func41, Tryz.ntmps41
   go_wp2_with fail
   go_ret
   rw [Hv.out]
   exact ⟨rfl, ((Ext.refl _).alloc _).alloc _⟩
 have p8 : ((x.overs.length : Int) != (y.overs.length : Int)) = false := by simp; omega
 have hpl : plainEqB x y = true := plainEqB_iff.2 ⟨h0, h1, h2, h3, h4, h5⟩
 have Hpl := Lib.hid hpl
 have H6 := Lib.hid h6
 have H7 := Lib.hid h7
 have H8 := Lib.hid h8
 have le6 : x.parts.length ≤ y.parts.length := by omega
 have le7 : x.methods.length ≤ y.methods.length := by omega
 have le8 : x.overs.length ≤ y.overs.length := by omega
 clear hpl h0 h1 h2 h3 h4 h5 h6 h7 h8
 have hxw := (Ext.refl w).alloc (.cells #[.int .u8 x.kind, .int .i64 x.low, .int .i64 x.high, .bool x.branded, .string x.brand, .string x.opaq, .int .i64 x.super, .slice A1 x.parts.length a1, .slice A2 x.methods.length a2, .slice A3 x.overs.length a3] 42)
 have hbx : TyBox ((w.alloc (.cells #[.int .u8 x.kind, .int .i64 x.low, .int .i64 x.high, .bool x.branded, .string x.brand, .string x.opaq, .int .i64 x.super, .slice A1 x.parts.length a1, .slice A2 x.methods.length a2, .slice A3 x.overs.length a3] 42)).alloc (.cells #[.int .u8 y.kind, .int .i64 y.low, .int .i64 y.high, .bool y.branded, .string y.brand, .string y.opaq, .int .i64 y.super, .slice B1 y.parts.length b1, .slice B2 y.methods.length b2, .slice B3 y.overs.length b3] 42)) w.heap.size x (.slice A1 x.parts.length a1) (.slice A2 x.methods.length a2) (.slice A3 x.overs.length a3) := TyBox.ext (w := w.alloc (.cells #[.int .u8 x.kind, .int .i64 x.low, .int .i64 x.high, .bool x.branded, .string x.brand, .string x.opaq, .int .i64 x.super, .slice A1 x.parts.length a1, .slice A2 x.methods.length a2, .slice A3 x.overs.length a3] 42)) (heap_alloc_self w _) ((Ext.refl _).alloc _)
 have hby : TyBox ((w.alloc (.cells #[.int .u8 x.kind, .int .i64 x.low, .int .i64 x.high, .bool x.branded, .string x.brand, .string x.opaq, .int .i64 x.super, .slice A1 x.parts.length a1, .slice A2 x.methods.length a2, .slice A3 x.overs.length a3] 42)).alloc (.cells #[.int .u8 y.kind, .int .i64 y.low, .int .i64 y.high, .bool y.branded, .string y.brand, .string y.opaq, .int .i64 y.super, .slice B1 y.parts.length b1, .slice B2 y.methods.length b2, .slice B3 y.overs.length b3] 42)) (w.heap.size + 1) y (.slice B1 y.parts.length b1) (.slice B2 y.methods.length b2) (.slice B3 y.overs.length b3) := by
  have h := heap_alloc_self (w.alloc (.cells #[.int .u8 x.kind, .int .i64 x.low, .int .i64 x.high, .bool x.branded, .string x.brand, .string x.opaq, .int .i64 x.super, .slice A1 x.parts.length a1, .slice A2 x.methods.length a2, .slice A3 x.overs.length a3] 42)) (.cells #[.int .u8 y.kind, .int .i64 y.low, .int .i64 y.high, .bool y.branded, .string y.brand, .string y.opaq, .int .i64 y.super, .slice B1 y.parts.length b1, .slice B2 y.methods.length b2, .slice B3 y.overs.length b3] 42)
  rw [World.size_alloc] at h
  exact h
 have Hxw := Lib.hid (hxw.alloc (.cells #[.int .u8 y.kind, .int .i64 y.low, .int .i64 y.high, .bool y.branded, .string y.brand, .string y.opaq, .int .i64 y.super, .slice B1 y.parts.length b1, .slice B2 y.methods.length b2, .slice B3 y.overs.length b3] 42))
 have Hbx := Lib.hid hbx
 have Hby := Lib.hid hby
 clear hxw hbx hby
 go_enter Tryz.func41, Tryz.ntmps41
 go_wp2_with fail
 clear p0 p1 p2 p3 p4 p5 p6 p7 p8 r0 r1 r2 r3 r4 r5
 generalize ((w.alloc (.cells #[.int .u8 x.kind, .int .i64 x.low, .int .i64 x.high, .bool x.branded, .string x.brand, .string x.opaq, .int .i64 x.super, .slice A1 x.parts.length a1, .slice A2 x.methods.length a2, .slice A3 x.overs.length a3] 42)).alloc (.cells #[.int .u8 y.kind, .int .i64 y.low, .int .i64 y.high, .bool y.branded, .string y.brand, .string y.opaq, .int .i64 y.super, .slice B1 y.parts.length b1, .slice B2 y.methods.length b2, .slice B3 y.overs.length b3] 42)) = w2 at *
 generalize w.heap.size + 1 = by_ at *
 generalize w.heap.size = bx_ at *
 go_loopw [5] (fun u wr => ∃ k : Nat, k ≤ x.parts.length ∧ u = .int .i64 k ∧ Hid (Ext w2 wr) ∧ Hid (∀ i (h1 : i < x.parts.length) (h2 : i < y.parts.length), i < k → partEq x.parts[i] y.parts[i] = true)) (fun u _ => x.parts.length - (intOf u).toNat)
 case atStart => exact ⟨0, by omega, rfl, Lib.hid (Ext.refl _), Lib.hid (fun i _ _ h => by omega)⟩
 case round =>
  obtain ⟨k, hk, rfl, Hx, Hno⟩ := hrel
  obtain ⟨_, _, _, _, _, _, _, d7, d8, d9⟩ := (Hbx.out.ext Hx.out).at
  obtain ⟨_, _, _, _, _, _, _, f7, f8, f9⟩ := (Hby.out.ext Hx.out).at
  simp only [Nat.zero_add] at d7 d8 d9 f7 f8 f9
  have lx := cell_lt d7
  have ly := cell_lt f7
  by_cases hlt : k < x.parts.length
  ·have hlt2 : k < y.parts.length := by omega
   obtain ⟨b, off, rfl, p0, _⟩ := Xps.out k hlt
   obtain ⟨b', off', rfl, p1, _⟩ := Yps.out k hlt2
   replace p0 := (Hxw.out.trans Hx.out).cell p0
   replace p1 := (Hxw.out.trans Hx.out).cell p1
   have l0 := cell_lt p0
   have l1 := cell_lt p1
   have i0 : (0 : Int) ≤ (k : Int) := by omega
   have i1 : (k : Int) < (x.parts.length : Int) := by omega
   have i2 : (k : Int) < (y.parts.length : Int) := by omega
   have Hno1 := Lib.hid (fun h => agree_no2 (eqF_no (p := partEq) hlt hlt2 h))
   have Hyes1 := Lib.hid (fun (h : partEq x.parts[k] y.parts[k] = true) i (h1 : i < x.parts.length) (h2 : i < y.parts.length) (hik : i < k + 1) => if e : i = k then (by subst e; exact h : partEq x.parts[i] y.parts[i] = true) else Hno.out i h1 h2 (by omega))
   have Hdf := Lib.hid (show partEq x.parts[k] y.parts[k] = (x.parts[k].name.toList == y.parts[k].name.toList) from rfl)
   generalize x.parts[k] = s at *
   generalize y.parts[k] = t at *
   cases he : (s.name.toList == t.name.toList) with
   | true =>
    have Hn := Lib.hid (Hyes1.out (Hdf.out.trans he))
    have he3 : (s.name.toList != t.name.toList) = false := by simpa using he
    have he2 : s.name.toList = t.name.toList := by simpa using he
    go_wp2_with fail
    go_quiet (fail)
    go_wp2_with fail
    go_roundw
    case rel => exact ⟨k + 1, by omega, by go_num, Lib.hid (Hx.out.drewN _), Hn⟩
    case measure => simp [intOf]; omega
   | false =>
    have Hv := Lib.hid (Hno1.out (Hdf.out.trans he))
    have he2 : ¬ s.name.toList = t.name.toList := by simpa using he
    have he3 : (s.name.toList != t.name.toList) = true := by simpa using he
    go_wp2_with fail
    go_quiet (fail)
    go_wp2_with fail
    go_ret
    rw [Hv.out]
    exact ⟨rfl, Hxw.out.trans (Hx.out.drewN _)⟩
  ·have hparts := eqF_yes (p := partEq) H6.out (j := k) hlt (fun i h1 h2 h3 => Hno.out i h1 h2 h3)
   have Hparts := Lib.hid hparts
   have i1 : ¬ (k : Int) < (x.parts.length : Int) := by omega
   clear hparts Hno
   go_wp2_with fail
   go_loopw [6] (fun u wr => ∃ k : Nat, k ≤ x.methods.length ∧ u = .int .i64 k ∧ Hid (Ext w2 wr) ∧ Hid (∀ i (h1 : i < x.methods.length) (h2 : i < y.methods.length), i < k → sameMethodB x.methods[i] y.methods[i] = true)) (fun u _ => x.methods.length - (intOf u).toNat)
   case atStart => exact ⟨0, by omega, rfl, Hx, Lib.hid (fun i _ _ h => by omega)⟩
   case round =>
    clear d7 d8 d9 f7 f8 f9 lx ly hk hlt i1 Hx
    obtain ⟨k, hk, rfl, Hx, Hno⟩ := hrel
    obtain ⟨_, _, _, _, _, _, _, d7, d8, d9⟩ := (Hbx.out.ext Hx.out).at
    obtain ⟨_, _, _, _, _, _, _, f7, f8, f9⟩ := (Hby.out.ext Hx.out).at
    simp only [Nat.zero_add] at d7 d8 d9 f7 f8 f9
    have lx := cell_lt d7
    have ly := cell_lt f7
    by_cases hlt : k < x.methods.length
    ·have hlt2 : k < y.methods.length := by omega
     obtain ⟨b, off, sa, sr, rfl, hsa, hsr, m0, m1, m2, m3, m4⟩ := Xms.out k hlt
     obtain ⟨b', off', ta, tr, rfl, hta, htr, n0, n1, n2, n3, n4⟩ := Yms.out k hlt2
     have hsm := Xmm.out _ (List.getElem_mem hlt)
     have htm := Ymm.out _ (List.getElem_mem hlt2)
     have i0 : (0 : Int) ≤ (k : Int) := by omega
     have i1 : (k : Int) < (x.methods.length : Int) := by omega
     have i2 : (k : Int) < (y.methods.length : Int) := by omega
     have Hno1 := Lib.hid (fun h => agree_no3 (eqF_no (p := sameMethodB) hlt hlt2 h))
     have Hyes1 := Lib.hid (fun (h : sameMethodB x.methods[k] y.methods[k] = true) i (h1 : i < x.methods.length) (h2 : i < y.methods.length) (hik : i < k + 1) => if e : i = k then (by subst e; exact h : sameMethodB x.methods[i] y.methods[i] = true) else Hno.out i h1 h2 (by omega))
     generalize x.methods[k] = s at *
     generalize y.methods[k] = t at *
     obtain ⟨Sa, sac, es⟩ := hsa.len
     obtain ⟨Sr, src, er⟩ := hsr.len
     obtain ⟨Ta, tac, et⟩ := hta.len
     obtain ⟨Tr, trc, etr⟩ := htr.len
     subst es er et etr
     have Hcall := Lib.hid (fun w' (hx' : Ext w w') => rstrings_any w' _ _ s.raises t.raises (hsr.mono hx') (htr.mono hx') hsm.2.2.2.1 htm.2.2.2.1)
     obtain ⟨_, _, z1, z2, _⟩ := hsm
     obtain ⟨_, _, z3, z4, _⟩ := htm
     clear hsa hsr hta htr
     replace m0 := (Hxw.out.trans Hx.out).cell m0
     replace m1 := (Hxw.out.trans Hx.out).cell m1
     replace m2 := (Hxw.out.trans Hx.out).cell m2
     replace m3 := (Hxw.out.trans Hx.out).cell m3
     replace m4 := (Hxw.out.trans Hx.out).cell m4
     replace n0 := (Hxw.out.trans Hx.out).cell n0
     replace n1 := (Hxw.out.trans Hx.out).cell n1
     replace n2 := (Hxw.out.trans Hx.out).cell n2
     replace n3 := (Hxw.out.trans Hx.out).cell n3
     replace n4 := (Hxw.out.trans Hx.out).cell n4
     have l0 := cell_lt m0
     have l1 := cell_lt n0
     have Hx4 := Lib.hid ((Hx.out.alloc (.cells #[.string s.name, .slice Sa s.args.length sac, .int .i64 s.result, .slice Sr s.raises.length src, .string s.proc] 74)).alloc (.cells #[.string t.name, .slice Ta t.args.length tac, .int .i64 t.result, .slice Tr t.raises.length trc, .string t.proc] 74))
     by_cases g0 : s.name = t.name
     case neg =>
      as_aux_lemma =>
       have s0 : ¬ s.name.toList = t.name.toList := fun e => g0 (ba_toList_inj e)
       have p0 : (s.name.toList != t.name.toList) = true := by simpa using s0
       have r0 : (s.name.toList == t.name.toList) = false := by simpa using s0
       have Hv := Lib.hid (Hno1.out (by cases hb : sameMethodB s t with | false => rfl | true => exact absurd (sameMethodB_iff.1 hb).1 g0))
       clear g0
       go_wp2_with fail
       go_ret
       rw [Hv.out]
       exact ⟨rfl, Hxw.out.trans Hx4.out⟩
     have p0 : (s.name.toList != t.name.toList) = false := by rw [g0]; simp
     have r0 : (s.name.toList == t.name.toList) = true := by rw [g0]; simp
     by_cases g1 : s.proc = t.proc
     case neg =>
      as_aux_lemma =>
       have s1 : ¬ s.proc.toList = t.proc.toList := fun e => g1 (ba_toList_inj e)
       have p1 : (s.proc.toList != t.proc.toList) = true := by simpa using s1
       have r1 : (s.proc.toList == t.proc.toList) = false := by simpa using s1
       have Hv := Lib.hid (Hno1.out (by cases hb : sameMethodB s t with | false => rfl | true => exact absurd (sameMethodB_iff.1 hb).2.1 g1))
       clear g0 g1
       go_wp2_with fail
       go_ret
       rw [Hv.out]
       exact ⟨rfl, Hxw.out.trans Hx4.out⟩
     have p1 : (s.proc.toList != t.proc.toList) = false := by rw [g1]; simp
     have r1 : (s.proc.toList == t.proc.toList) = true := by rw [g1]; simp
     by_cases g2 : s.args.length = t.args.length
     case neg =>
      as_aux_lemma =>
       have p2 : ((s.args.length : Int) != (t.args.length : Int)) = true := by simp; omega
       have Hv := Lib.hid (Hno1.out (by cases hb : sameMethodB s t with | false => rfl | true => exact absurd (sameMethodB_iff.1 hb).2.2.1 g2))
       clear g0 g1 g2
       go_wp2_with fail
       go_ret
       rw [Hv.out]
       exact ⟨rfl, Hxw.out.trans Hx4.out⟩
     have p2 : ((s.args.length : Int) != (t.args.length : Int)) = false := by simp; omega
     have hsame : ∀ (e : decide (s.result < 0) = decide (t.result < 0)), sameMethodB s t = eqF strEq s.raises t.raises := by
      intro e
      unfold sameMethodB
      rw [strEq_iff.2 g0, strEq_iff.2 g1, decide_eq_true g2, e]
      simp
     have Hdiff := Lib.hid (fun (e : decide (s.result < 0) ≠ decide (t.result < 0)) => Hno1.out (by cases hb : sameMethodB s t with | false => rfl | true => exact absurd (sameMethodB_iff.1 hb).2.2.2.1 e))
     have Hsame := Lib.hid hsame
     clear hsame g0 g1 g2
     by_cases g3 : s.result < 0
     case pos =>
      by_cases g4 : t.result < 0
      case pos =>
       as_aux_lemma =>
        have Hs := Lib.hid (Hsame.out (by simp [g3, g4]))
        cases hr : eqF strEq s.raises t.raises with
        | false =>
         have Hv := Lib.hid (Hno1.out (Hs.out.trans hr))
         rw [hr] at Hcall
         clear hr
         go_wp2_with fail
         refine (Hcall.out _ (Hxw.out.trans Hx4.out)).mono ?_
         rintro e w5 ⟨rfl, hx5⟩
         go_wp2_with fail
         go_ret
         rw [Hv.out]
         exact ⟨rfl, (Hxw.out.trans Hx4.out).trans hx5⟩
        | true =>
         have Hn := Lib.hid (Hyes1.out (Hs.out.trans hr))
         rw [hr] at Hcall
         clear hr
         go_wp2_with fail
         refine (Hcall.out _ (Hxw.out.trans Hx4.out)).mono ?_
         rintro e w5 ⟨rfl, hx5⟩
         have Hx5 := Lib.hid (Hx4.out.trans hx5)
         clear hx5
         go_wp2_with fail
         go_roundw
         case rel => exact ⟨k + 1, by omega, by go_num, Hx5, Hn⟩
         case measure => simp [intOf]; omega
      case neg =>
       as_aux_lemma =>
        have Hv := Lib.hid (Hdiff.out (by simp [g3, g4]))
        go_wp2_with fail
        go_ret
        rw [Hv.out]
        exact ⟨rfl, Hxw.out.trans Hx4.out⟩
     case neg =>
      by_cases g4 : t.result < 0
      case pos =>
       as_aux_lemma =>
        have Hv := Lib.hid (Hdiff.out (by simp [g3, g4]))
        go_wp2_with fail
        go_ret
        rw [Hv.out]
        exact ⟨rfl, Hxw.out.trans Hx4.out⟩
      case neg =>
       as_aux_lemma =>
        have Hs := Lib.hid (Hsame.out (by simp [g3, g4]))
        cases hr : eqF strEq s.raises t.raises with
        | false =>
         have Hv := Lib.hid (Hno1.out (Hs.out.trans hr))
         rw [hr] at Hcall
         clear hr
         go_wp2_with fail
         refine (Hcall.out _ (Hxw.out.trans Hx4.out)).mono ?_
         rintro e w5 ⟨rfl, hx5⟩
         go_wp2_with fail
         go_ret
         rw [Hv.out]
         exact ⟨rfl, (Hxw.out.trans Hx4.out).trans hx5⟩
        | true =>
         have Hn := Lib.hid (Hyes1.out (Hs.out.trans hr))
         rw [hr] at Hcall
         clear hr
         go_wp2_with fail
         refine (Hcall.out _ (Hxw.out.trans Hx4.out)).mono ?_
         rintro e w5 ⟨rfl, hx5⟩
         have Hx5 := Lib.hid (Hx4.out.trans hx5)
         clear hx5
         go_wp2_with fail
         go_roundw
         case rel => exact ⟨k + 1, by omega, by go_num, Hx5, Hn⟩
         case measure => simp [intOf]; omega
    ·have hmeths := eqF_yes (p := sameMethodB) H7.out (j := k) hlt (fun i h1 h2 h3 => Hno.out i h1 h2 h3)
     have Hmeths := Lib.hid hmeths
     have i1 : ¬ (k : Int) < (x.methods.length : Int) := by omega
     clear hmeths Hno
     go_wp2_with fail
     go_loopw [9] (fun u wr => ∃ k : Nat, k ≤ x.overs.length ∧ u = .int .i64 k ∧ Hid (Ext w2 wr) ∧ Hid (∀ i (h1 : i < x.overs.length) (h2 : i < y.overs.length), i < k → overEq x.overs[i] y.overs[i] = true)) (fun u _ => x.overs.length - (intOf u).toNat)
     case atStart => exact ⟨0, by omega, rfl, Hx, Lib.hid (fun i _ _ h => by omega)⟩
     case round =>
      clear d7 d8 d9 f7 f8 f9 lx ly hk hlt i1 Hx
      obtain ⟨k, hk, rfl, Hx, Hno⟩ := hrel
      obtain ⟨_, _, _, _, _, _, _, d7, d8, d9⟩ := (Hbx.out.ext Hx.out).at
      obtain ⟨_, _, _, _, _, _, _, f7, f8, f9⟩ := (Hby.out.ext Hx.out).at
      simp only [Nat.zero_add] at d7 d8 d9 f7 f8 f9
      have lx := cell_lt d7
      have ly := cell_lt f7
      by_cases hlt : k < x.overs.length
      ·have hlt2 : k < y.overs.length := by omega
       obtain ⟨b, off, rfl, m0, m1⟩ := Xos.out k hlt
       obtain ⟨b', off', rfl, n0, n1⟩ := Yos.out k hlt2
       replace m0 := (Hxw.out.trans Hx.out).cell m0
       replace m1 := (Hxw.out.trans Hx.out).cell m1
       replace n0 := (Hxw.out.trans Hx.out).cell n0
       replace n1 := (Hxw.out.trans Hx.out).cell n1
       have l0 := cell_lt m0
       have l1 := cell_lt n0
       have i0 : (0 : Int) ≤ (k : Int) := by omega
       have i1 : (k : Int) < (x.overs.length : Int) := by omega
       have i2 : (k : Int) < (y.overs.length : Int) := by omega
       have Hno1 := Lib.hid (fun h => agree_no4 (eqF_no (p := overEq) hlt hlt2 h))
       have Hyes1 := Lib.hid (fun (h : overEq x.overs[k] y.overs[k] = true) i (h1 : i < x.overs.length) (h2 : i < y.overs.length) (hik : i < k + 1) => if e : i = k then (by subst e; exact h : overEq x.overs[i] y.overs[i] = true) else Hno.out i h1 h2 (by omega))
       have Hdf := Lib.hid (show overEq x.overs[k] y.overs[k] = (x.overs[k].name.toList == y.overs[k].name.toList && x.overs[k].proc.toList == y.overs[k].proc.toList) from rfl)
       generalize x.overs[k] = s at *
       generalize y.overs[k] = t at *
       have hneq := neq_over s.name s.proc t.name t.proc
       generalize hb : (s.name.toList == t.name.toList && s.proc.toList == t.proc.toList) = bb at hneq Hdf
       have hgu := guard117 BinOp.neq
       clear hb
       cases bb with
       | true =>
        have Hn := Lib.hid (Hyes1.out Hdf.out)
        go_wp2_with fail
        go_quiet (fail)
        go_wp2_with fail
        go_roundw
        case rel => exact ⟨k + 1, by omega, by go_num, Lib.hid (Hx.out.drewN _), Hn⟩
        case measure => simp [intOf]; omega
       | false =>
        have Hv := Lib.hid (Hno1.out Hdf.out)
        go_wp2_with fail
        go_quiet (fail)
        go_wp2_with fail
        go_ret
        rw [Hv.out]
        exact ⟨rfl, Hxw.out.trans (Hx.out.drewN _)⟩
      ·have hov := eqF_yes (p := overEq) H8.out (j := k) hlt (fun i h1 h2 h3 => Hno.out i h1 h2 h3)
       have Hv := Lib.hid (agree_yes Hpl.out Hparts.out Hmeths.out hov)
       have i1 : ¬ (k : Int) < (x.overs.length : Int) := by omega
       clear hov Hno
       go_wp2_with fail
       go_ret
       rw [Hv.out]
       exact ⟨rfl, Hxw.out.trans Hx.out⟩
end Go.Proofs.YtldnjnnhfeobdaaGreatDoor
/- Contract of the reference: is a pair in a list? Conditions: lengths below 2^20. -/
namespace Go.Proofs.YtldnjnnhfeobdaaGreatDoor
open Go.RowKit Go.Shelf
def pairE : Elt (Int × Int) where
 k := 2
 pos := by decide
 rel _ _ p cs := cs = [.int .i64 p.1, .int .i64 p.2]
 len := by rintro F w x cs rfl; rfl
 one := by rintro F w x cs rfl; simp [Value.oneCell']
 mono := fun _ _ _ _ _ _ _ _ h => h
theorem Sl.pair {w : World} {v : Value} {xs : List (Int × Int)} (h : Sl pairE w v xs) : ∃ A cap, v = .slice A xs.length cap ∧
  ∀ i (hi : i < xs.length), ∃ b off, A = some ⟨b, off, none⟩ ∧ w.cell? ⟨b, off + i * 2, none⟩ = some (.int .i64 xs[i].1) ∧ w.cell? ⟨b, off + i * 2 + 1, none⟩ = some (.int .i64 xs[i].2) := by
 obtain ⟨A, cap, rfl, h⟩ := h
 refine ⟨A, cap, rfl, fun i hi => ?_⟩
 obtain ⟨b, off, cs, hA, _, rfl, hc⟩ := h i xs[i] (List.getElem?_eq_getElem hi)
 exact ⟨b, off, hA, by simpa [pairE] using hc 0 _ rfl, by simpa [pairE] using hc 1 _ rfl⟩
set_option maxRecDepth 100000 in
set_option maxHeartbeats 4000000 in
theorem paired_any (w : World) (v : Value) (l : List (Int × Int)) (a b : Int) (hv : Sl pairE w v l) (hl : l.length ≤ 1048576) :
  Calls Tryz.prog 58 #[v, .int .i64 a, .int .i64 b] w fun e w' => e = .returned (.bool (decide ((a, b) ∈ l))) ∧ w' = w := by
 obtain ⟨A, cap, rfl, hs⟩ := hv.pair
 have Hs := Lib.hid hs
 clear hs hv
 go_enter Tryz.func58, Tryz.ntmps58
 go_wp2_with fail
 go_loopw [7] (fun u wr => ∃ k : Nat, k ≤ l.length ∧ u = .int .i64 k ∧ wr = w ∧ Hid (∀ j (hj : j < l.length), j < k → l[j] ≠ (a, b))) (fun u _ => l.length - (intOf u).toNat)
 case atStart => exact ⟨0, by omega, rfl, rfl, Lib.hid (fun j _ h => by omega)⟩
 case round =>
  obtain ⟨k, hk, rfl, rfl, Hno⟩ := hrel
  by_cases hlt : k < l.length
  ·obtain ⟨b1, o1, rfl, c1, c2⟩ := Hs.out k hlt
   have l1 := cell_lt c1
   have i0 : (0 : Int) ≤ (k : Int) := by omega
   have i1 : (k : Int) < (l.length : Int) := by omega
   have hin : l[k] = (a, b) → decide ((a, b) ∈ l) = true := fun e => decide_eq_true (by rw [← e]; exact List.getElem_mem hlt)
   have hnext := fun (h : l[k] ≠ (a, b)) j (hj : j < l.length) (hjk : j < k + 1) => if e : j = k then by subst e; exact h else Hno.out j hj (by omega)
   have Hin := Lib.hid hin
   have Hnext := Lib.hid hnext
   clear hin hnext
   by_cases h1 : l[k].1 = a
   ·by_cases h2 : l[k].2 = b
    ·have Ht := Lib.hid (Hin.out (Prod.ext h1 h2))
     have q1 : (l[k].1 == a) = true := by simpa using h1
     have q2 : (l[k].2 == b) = true := by simpa using h2
     clear h1 h2
     go_wp2_with fail
     go_ret
     rw [Ht.out]
     exact ⟨rfl, rfl⟩
    ·have Hn := Lib.hid (Hnext.out (fun e => h2 (by rw [e])))
     have q1 : (l[k].1 == a) = true := by simpa using h1
     have q2 : (l[k].2 == b) = false := by rw [beq_eq_false_iff_ne]; exact h2
     clear h1 h2
     go_wp2_with fail
     go_roundw
     case rel => exact ⟨k + 1, by omega, by go_num, trivial, Hn⟩
     case measure => simp [intOf]; omega
   ·have Hn := Lib.hid (Hnext.out (fun e => h1 (by rw [e])))
    have q1 : (l[k].1 == a) = false := by rw [beq_eq_false_iff_ne]; exact h1
    clear h1
    go_wp2_with fail
    go_roundw
    case rel => exact ⟨k + 1, by omega, by go_num, trivial, Hn⟩
    case measure => simp [intOf]; omega
  ·have i1 : ¬ (k : Int) < (l.length : Int) := by omega
   have hf : decide ((a, b) ∈ l) = false := decide_eq_false (fun hm => by
    obtain ⟨j, hj, e⟩ := List.mem_iff_getElem.1 hm
    exact Hno.out j hj (by omega) e)
   have Hf := Lib.hid hf
   clear hf
   go_wp2_with fail
   go_ret
   rw [Hf.out]
   exact ⟨rfl, rfl⟩
end Go.Proofs.YtldnjnnhfeobdaaGreatDoor
/- Contract of the reference: the references of a type. Conditions: a fine type. -/
namespace Go.Proofs.YtldnjnnhfeobdaaGreatDoor
open Go.RowKit Go.Shelf
theorem sl_none {α : Type} {E : Elt α} {w : World} {n c : Nat} {xs : List α} (h : Sl E w (.slice none n c) xs) : xs = [] := by
 obtain ⟨A, cap, e, h⟩ := h
 cases xs with
 | nil => rfl
 | cons x xs =>
  obtain ⟨b, off, _, hA, _⟩ := h 0 x rfl
  injection e with e1
  rw [hA] at e1
  cases e1
theorem run_append_nothing {P : Program} {w : World} {base size : Nat} {t ty e : TypeId} {i : TypeInfo} (ht : P.underlying t = some (.slice e)) (hi : P.info? e = some i) {v : Value} {n : Nat} {xs : List Value} (h : w.ownsRow base e size v n xs) (c : Nat) :
  (Builtin.append_ #[t, t] ty #[v, .slice none 0 c]).run P w = .ok v w := by
 rcases h.2 with ⟨rfl, rfl⟩ | ⟨g, cap, cur, rfl, _, _, hnc, _⟩
 ·simp [Builtin.append_, run_underlying ht, sizeOf, typeInfo, hi, Builtin.lenOf, Builtin.firstCells]
 ·simp [Builtin.append_, run_underlying ht, sizeOf, typeInfo, hi, Builtin.lenOf, Builtin.firstCells, hnc, storeCells]
section
variable {P : Program} {ops : Array Oper} {rest : List Oper} {o : Oper} {a : Act} {Q : Exit → Act → World → Prop}
/-- append of all elements of a slice, nil or not -/
theorem own_append_any {α : Type} {F : Nat → Prop} (E : Elt α) (hflat : FlatE E) {W : World} (base : Nat) (hgd : o.guard = none) (s x : Operand) (t e : TypeId) (bytes : Nat)
  (ho : o.op = .call { callee := .builtin .append, args := #[s, x], argTypes := #[t, t] }) (hI : SliceOf P t e E.k bytes)
  (v u : Value) (xs ys : List α) (hs : a.eval s = v) (hx : a.eval x = u)
  (HO : Own F E W base e v xs) (hy : Sl E W u ys) (hbase : base ≤ W.heap.size) (hl : (xs.length + ys.length) * bytes ≤ 140737488355328) (hb0 : 0 < bytes)
  (h : ∀ v1 w1, Own F E w1 base e v1 (xs ++ ys) → W.grownBy w1 v.ownBlock → wpList P ops Q rest (a.put o.dst v1) w1) :
  wpList P ops Q (o :: rest) a W := by
 obtain ⟨A, c, rfl⟩ := hy.len
 cases A with
 | some ad => exact own_append_all E hflat base hgd s x t e bytes ho hI v xs ys ad _ c hs hx HO hy hbase hl hb0 h
 | none =>
  have hnil := sl_none hy
  subst hnil
  have h1 : wpList P ops Q rest (a.put o.dst v) W := h v W (by rw [List.append_nil]; exact HO) (World.grownBy.refl W _)
  obtain ⟨i, z, hi, _⟩ := hI.info
  obtain ⟨rows, _, hown, _⟩ := HO
  refine wpList_plain hgd fun K hK => ?_
  have hrun := run_append_nothing (P := P) (t := t) (ty := o.type) hI.under hi hown c
  unfold Oper.wp
  have hx' : a.eval x = .slice none 0 c := hx
  simp [execOp, ho, resolve, invoke, builtin, hs, hx', hrun, Result.andThen]
  exact hK _ _ h1
end
theorem refsM_le {m : Method} (h : m.args.length ≤ 6) : (refsM m).length ≤ 7 := by
 unfold refsM
 split <;> simp <;> omega
theorem refsM_take_le {l : List Method} (h : ∀ m ∈ l, m.args.length ≤ 6) (h8 : l.length ≤ 8) (k : Nat) : ((l.take k).flatMap refsM).length ≤ 56 := by
 have h1 := flatMap_le refsM 7 (l.take k) (fun m hm => refsM_le (h m (List.mem_of_mem_take hm)))
 have h2 : (l.take k).length ≤ 8 := by rw [List.length_take]; omega
 have := Nat.mul_le_mul_right 7 h2
 omega
set_option maxRecDepth 100000 in
set_option maxHeartbeats 16000000 in
theorem rrefs_any (w : World) (n : Nat) (t : Ty) (vp vm vo : Value) (hof : TyOf w t vp vm vo) (hf : Fine n t) :
  Calls Tryz.prog 40 #[tyV t vp vm vo] w (RetP w (ResSl intE w (refsL t))) := by
 obtain ⟨A1, c1, e1, hp⟩ := hof.parts.part
 obtain ⟨A2, c2, e2, hm⟩ := hof.methods.method
 obtain ⟨A3, c3, e3⟩ := hof.overs.len
 subst e1 e2 e3
 have Hp := Lib.hid hp
 have Hm := Lib.hid hm
 have hpl := hf.parts
 have hml := hf.methods
 have Hargs := Lib.hid hf.args
 have hrs : (refsS t).length ≤ 1 := by unfold refsS; split <;> simp
 clear hof hp hm hf
 unfold tyV
 go_enter Tryz.func40, Tryz.ntmps40
 have hx0 := (Ext.refl w).alloc (.cells #[.int .u8 t.kind, .int .i64 t.low, .int .i64 t.high, .bool t.branded, .string t.brand, .string t.opaq, .int .i64 t.super, .slice A1 t.parts.length c1, .slice A2 t.methods.length c2, .slice A3 t.overs.length c3] 42)
 have hbx := heap_alloc_self w (.cells #[.int .u8 t.kind, .int .i64 t.low, .int .i64 t.high, .bool t.branded, .string t.brand, .string t.opaq, .int .i64 t.super, .slice A1 t.parts.length c1, .slice A2 t.methods.length c2, .slice A3 t.overs.length c3] 42)
 have Hc0 := Lib.hid (heap_cell hbx 0 _ rfl)
 have Hc6 := Lib.hid (heap_cell hbx 6 _ rfl)
 have Hc7 := Lib.hid (heap_cell hbx 7 _ rfl)
 have Hc8 := Lib.hid (heap_cell hbx 8 _ rfl)
 have Hx0 := Lib.hid hx0
 clear hx0 hbx
 go_upto_region 2 with fail
 generalize (w.alloc (.cells #[.int .u8 t.kind, .int .i64 t.low, .int .i64 t.high, .bool t.branded, .string t.brand, .string t.opaq, .int .i64 t.super, .slice A1 t.parts.length c1, .slice A2 t.methods.length c2, .slice A3 t.overs.length c3] 42)) = w1 at *
 generalize w.heap.size = b1 at *
 go_cut [13] (fun s wx => s = .bool (hasSuperB t.kind) ∧ wx = w1)
 case first =>
  have d0 := Hc0.out
  have l0 := cell_lt d0
  by_cases h12 : t.kind = 12
  ·have q : (t.kind == 12) = true := by simpa using h12
   have hs : hasSuperB t.kind = true := by unfold hasSuperB; simp [h12]
   have Hs := Lib.hid hs
   clear hs h12
   go_wp2_with fail
   go_meet
   rw [Hs.out]
   exact ⟨rfl, rfl⟩
  ·have q : (t.kind == 12) = false := by rw [beq_eq_false_iff_ne]; exact h12
   by_cases h13 : t.kind = 13
   ·have q' : (t.kind == 13) = true := by simpa using h13
    have hs : hasSuperB t.kind = true := by unfold hasSuperB; simp [h13]
    have Hs := Lib.hid hs
    clear hs h12 h13
    go_wp2_with fail
    go_meet
    rw [Hs.out]
    exact ⟨rfl, rfl⟩
   ·have q' : (t.kind == 13) = false := by rw [beq_eq_false_iff_ne]; exact h13
    have hs : hasSuperB t.kind = false := by unfold hasSuperB; simp [h12, h13]
    have Hs := Lib.hid hs
    clear hs h12 h13
    go_wp2_with fail
    go_meet
    rw [Hs.out]
    exact ⟨rfl, rfl⟩
 case rest =>
  obtain ⟨rfl, rfl⟩ := hcut
  obtain ⟨w1, rfl⟩ : ∃ w1 : World, w1 = wc := ⟨_, rfl⟩
  go_upto_if 13 with fail
  go_cut [3] (fun o wx => Hid (Ext w1 wx) ∧ Hid (Own (New w1) intE wx w1.heap.size 3 o (refsS t)))
  case first =>
   have d6 := Hc6.out
   have l6 := cell_lt d6
   cases hs : hasSuperB t.kind with
   | true =>
    have hre : refsS t = [] ++ [t.super] := by unfold refsS; rw [hs]; rfl
    have Hre := Lib.hid hre
    clear hre hs
    go_wp2_with (at_builtin; refine own_append (F := New w1) intE w1.heap.size rfl _ _ 24 3 8 rfl slice24 _ [] t.super [.int .i64 t.super] rfl rfl (Own.nil _ _ _ _ _) rfl ?c1 ?c2 ?c3 ?_)
    case c1 => exact Nat.le_refl _
    case c2 => simp
    case c3 => decide
    intro v2 w2 hown2 hg2
    have hx2 : Ext w1 w2 := Below.grown (Ext.refl _) hg2 (Nat.le_refl _) (fun k hk => by cases hk)
    go_wp2_with fail
    go_meet
    rw [Hre.out]
    exact ⟨Lib.hid hx2, Lib.hid hown2⟩
   | false =>
    have hre : refsS t = [] := by unfold refsS; rw [hs]; rfl
    have Hre := Lib.hid hre
    clear hre hs
    go_wp2_with fail
    go_meet
    rw [Hre.out]
    exact ⟨Lib.hid (Ext.refl _), Lib.hid (Own.nil _ _ _ _ _)⟩
  case rest =>
   obtain ⟨Hxa, Howna⟩ := hcut
   go_wp2_with fail
   go_loopw [3, 4] (fun o u wr => ∃ k : Nat, k ≤ t.parts.length ∧ u = .int .i64 k ∧ Hid (Ext w1 wr) ∧ Hid (Own (New w1) intE wr w1.heap.size 3 o (refsS t ++ (t.parts.map Part.type).take k))) (fun _ u _ => t.parts.length - (intOf u).toNat)
   case atStart => exact ⟨0, by omega, rfl, Hxa, by simpa using Howna⟩
   case round =>
    clear Hxa Howna
    obtain ⟨k, hk, rfl, Hx, Hown⟩ := hrel
    have c7 := Hx.out.cell Hc7.out
    have l7 := cell_lt c7
    by_cases hlt : k < t.parts.length
    ·obtain ⟨b, off, rfl, p0, p1⟩ := Hp.out k hlt
     replace p1 := (Hx0.out.trans Hx.out).cell p1
     have lp := cell_lt p1
     have i0 : (0 : Int) ≤ (k : Int) := by omega
     have i1 : (k : Int) < (t.parts.length : Int) := by omega
     have hsn := take_map_snoc Part.type t.parts k hlt
     have Hsn := Lib.hid hsn
     have Hsz := Lib.hid Hx.out.size
     clear p0 hsn
     go_wp2_with (at_builtin; refine own_append intE w1.heap.size rfl _ _ 24 3 8 rfl slice24 _ _ t.parts[k].type [.int .i64 t.parts[k].type] rfl rfl Hown.out rfl ?c1 ?c2 ?c3 ?_)
     case c1 => exact Hsz.out
     case c2 => simp; omega
     case c3 => decide
     intro v2 w2 hown2 hg2
     have hx2 : Ext w1 w2 := Below.grown Hx.out hg2 Hsz.out (fun k hk => (Hown.out.lt k hk).1)
     rw [← Hsn.out] at hown2
     have Hown2 := Lib.hid hown2
     have Hx2 := Lib.hid hx2
     clear hown2 hg2 hx2
     go_wp2_with fail
     go_roundw
     case rel => exact ⟨k + 1, by omega, by go_num, Hx2, Hown2⟩
     case measure => simp [intOf]; omega
    ·have hkn : k = t.parts.length := by omega
     subst hkn
     rw [List.take_of_length_le (by simp)] at Hown
     clear hk hlt
     go_wp2_with fail
     go_loopw [3, 5] (fun o u wr => ∃ k : Nat, k ≤ t.methods.length ∧ u = .int .i64 k ∧ Hid (Ext w1 wr) ∧ Hid (Own (New w1) intE wr w1.heap.size 3 o (refsS t ++ t.parts.map Part.type ++ (t.methods.take k).flatMap refsM))) (fun _ u _ => t.methods.length - (intOf u).toNat)
     case atStart => exact ⟨0, by omega, rfl, Hx, by simpa using Hown⟩
     case round =>
      clear Hown Hx c7 l7
      obtain ⟨k, hk, rfl, Hx, Hown⟩ := hrel
      have c8 := Hx.out.cell Hc8.out
      have l8 := cell_lt c8
      by_cases hlt : k < t.methods.length
      ·obtain ⟨b, off, va, vr, rfl, ha, hr, m0, m1, m2, m3, m4⟩ := Hm.out k hlt
       have hma := Hargs.out _ (List.getElem_mem hlt)
       have hfl := flat_take_one refsM t.methods k hlt
       have hle := refsM_take_le Hargs.out hml k
       generalize t.methods[k] = m at *
       obtain ⟨Aa, ca, ea⟩ := ha.len
       subst ea
       have M2 := Lib.hid (Hx0.out.cell m2)
       replace m1 := (Hx0.out.trans Hx.out).cell m1
       replace ha := ha.mono (Hx0.out.trans Hx.out)
       have lm := cell_lt m1
       have i0 : (0 : Int) ≤ (k : Int) := by omega
       have i1 : (k : Int) < (t.methods.length : Int) := by omega
       have hpl1 : (refsS t ++ t.parts.map Part.type).length ≤ 9 := by simp; omega
       have Ha := Lib.hid ha
       have Hfl := Lib.hid hfl
       have Hsz := Lib.hid Hx.out.size
       clear ha hr hfl m0 m3 m4 m2
       obtain ⟨wo, rfl⟩ : ∃ wo : World, wo = wr := ⟨_, rfl⟩
       go_upto_region 11 with fail
       go_cut [3] (fun o wx => Hid (Ext w1 wx) ∧ Hid (Own (New w1) intE wx w1.heap.size 3 o (refsS t ++ t.parts.map Part.type ++ (t.methods.take k).flatMap refsM ++ m.args)))
       case first =>
        go_wp2_with (at_builtin; refine own_append_any (F := New w1) intE flat_int w1.heap.size rfl _ _ 24 3 8 rfl slice24 _ _ _ m.args rfl rfl Hown.out Ha.out ?c1 ?c2 ?c3 ?_)
        case c1 => exact Hsz.out
        case c2 => simp only [List.length_append] at hpl1 hle ⊢; omega
        case c3 => decide
        intro v2 w2 hown2 hg2
        have hx2 : Ext w1 w2 := Below.grown Hx.out hg2 Hsz.out (fun k hk => (Hown.out.lt k hk).1)
        have Hx2 := Lib.hid hx2
        have Hown2 := Lib.hid hown2
        clear hx2 hown2 hg2
        go_wp2_with fail
        go_meet
        exact ⟨Hx2, by simpa [Hid] using Hown2⟩
       case rest =>
        clear Hown Hx c8 l8 m1 lm
        obtain ⟨Hx, Hown⟩ := hcut
        have c8 := Hx.out.cell Hc8.out
        have l8 := cell_lt c8
        have m2 := Hx.out.cell M2.out
        have lm := cell_lt m2
        by_cases hres : 0 ≤ m.result
        ·have hre : refsM m = m.args ++ [m.result] := by unfold refsM; rw [if_pos hres]
         have Hre := Lib.hid hre
         clear hre
         go_wp2_with (at_builtin; refine own_append (F := New w1) intE w1.heap.size rfl (.tmp 59) (.tmp 67) 24 3 8 rfl slice24 _ _ m.result [.int .i64 m.result] rfl rfl Hown.out rfl ?c1 ?c2 ?c3 ?_)
         case c1 => exact Hx.out.size
         case c2 => simp only [List.length_append] at hpl1 hle ⊢; omega
         case c3 => decide
         intro v2 w2 hown2 hg2
         have hx2 : Ext w1 w2 := Below.grown Hx.out hg2 Hx.out.size (fun k hk => (Hown.out.lt k hk).1)
         have Hx2 := Lib.hid hx2
         have Hown2 : Hid (Own (New w1) intE w2 w1.heap.size 3 v2 (refsS t ++ t.parts.map Part.type ++ (t.methods.take (k + 1)).flatMap refsM)) := by
          rw [Hfl.out, Hre.out]; simpa [Hid] using hown2
         clear hx2 hown2 hg2
         go_wp2_with fail
         go_roundw
         case rel => exact ⟨k + 1, by omega, by go_num, Hx2, Hown2⟩
         case measure => simp [intOf]; omega
        ·have hre : refsM m = m.args := by unfold refsM; rw [if_neg hres, List.append_nil]
         have e : refsS t ++ t.parts.map Part.type ++ (t.methods.take k).flatMap refsM ++ m.args = refsS t ++ t.parts.map Part.type ++ (t.methods.take (k + 1)).flatMap refsM := by
          rw [Hfl.out, hre]; simp
         have hown2 := Hown.out
         rw [e] at hown2
         have Hown2 := Lib.hid hown2
         clear e hown2
         clear hre
         go_wp2_with fail
         go_roundw
         case rel => exact ⟨k + 1, by omega, by go_num, Hx, Hown2⟩
         case measure => simp [intOf]; omega
      ·have hkn : k = t.methods.length := by omega
       subst hkn
       rw [List.take_length] at Hown
       clear hk hlt
       have hsz := Hx0.out.size
       go_wp2_with fail
       go_ret
       refine ⟨_, rfl, ?_, Hx0.out.trans Hx.out⟩
       have he : refsL t = refsS t ++ t.parts.map Part.type ++ t.methods.flatMap refsM := by
        unfold refsL
        rw [List.append_assoc]
       rw [he]
       exact (Hown.out.sl (fun b hb => hb)).mono (fun _ _ _ => rfl) (fun b hb _ => by unfold New at hb ⊢; omega)
end Go.Proofs.YtldnjnnhfeobdaaGreatDoor
/- Pairs of ints as keys; a queue of the call's own: a slice that is appended to behind and cut in front. No condition. -/
namespace Go.Proofs.YtldnjnnhfeobdaaGreatDoor
open Go.RowKit Go.Shelf
def pairV (p : Int × Int) : Value := .agg #[.int .i64 p.1, .int .i64 p.2]
theorem pairV_inj {p q : Int × Int} (h : pairV p = pairV q) : p = q := by
 obtain ⟨a, b⟩ := p
 obtain ⟨c, d⟩ := q
 simp only [pairV, Value.agg.injEq] at h
 have h := congrArg Array.toList h
 simp at h
 obtain ⟨rfl, rfl⟩ := h
 rfl
theorem pair_equal (a b : Int × Int) (w : World) : (Op.equal 61 (pairV a) (pairV b)).run Tryz.prog w = .ok (decide (a = b)) w := by
 obtain ⟨i, hi, hs⟩ := Option.map_eq_some_iff.1 (show (Tryz.prog.info? 3).map (·.size) = some 1 by kernel_rfl)
 have u3 := Tryz.underlying3
 have c3 : Tryz.prog.cellsOf 3 = 1 := by kernel_rfl
 have a3 := Tryz.isAgg3
 have z3 := Tryz.sizeOf3
 obtain ⟨a1, a2⟩ := a
 obtain ⟨b1, b2⟩ := b
 unfold Op.equal Op.maxDepth pairV
 rw [show (10000 : Nat) = 9998 + 1 + 1 from rfl, run_equalIn_array w (9998 + 1) _ _ Tryz.underlying61 hi, c3]
 simp only [List.range_succ, List.range_zero, List.nil_append, List.cons_append, Op.eqItems]
 go_simp
 by_cases h1 : a1 = b1 <;> by_cases h2 : a2 = b2 <;> simp [h1, h2]
theorem pair_check (empty : Bool) (w : World) (p : Int × Int) : (Instr.checkKey empty (9998 + 1 + 1) 61 (pairV p)).run Tryz.prog w = .ok () w := by
 have u3 := Tryz.underlying3
 have a3 := Tryz.isAgg3
 have z3 := Tryz.sizeOf3
 have hc : ∀ (x : Int) (w : World), (Instr.checkKey empty 9999 3 (.int .i64 x)).run Tryz.prog w = .ok () w := fun x w => by
  obtain ⟨d, hd⟩ : ∃ d, (9999 : Nat) = d + 1 := ⟨9998, rfl⟩
  rw [hd]
  simp [Instr.checkKey, run_underlying u3]
 obtain ⟨a, b⟩ := p
 unfold pairV
 rw [Instr.checkKey]
 simp only [Sem.run_bind, run_underlying Tryz.underlying61, Result.andThen_ok, Std.Legacy.Range.forIn_eq_forIn_range', Std.Legacy.Range.size]
 simp only [Nat.sub_zero, Nat.add_one_sub_one, Nat.div_one, List.range'_succ, List.range'_zero, List.forIn_cons, List.forIn_nil]
 go_simp
def pairK : KeyEnc Tryz.prog 61 (Int × Int) where
 enc := pairV
 inj := fun a b h => pairV_inj h
 check := fun empty w k => pair_check empty w k
 find := find_asking Tryz.prog 61 _ Tryz.underlying61 pairV (fun k es e he ⟨k', hk'⟩ => by
  cases es with
  | nil => simp at he
  | cons x es =>
   simp at he
   subst he
   rw [Instr.findNow, hk']; rfl) (fun a b w => by
  by_cases h : a = b
  ·exact .inl ⟨by rw [pair_equal, decide_eq_true h], by rw [h]⟩
  ·exact .inr ⟨by rw [pair_equal, decide_eq_false h], fun e => h (pairV_inj e)⟩)
 stays := fun w k => by
  obtain ⟨d, hd⟩ : ∃ d, (10000 : Nat) = d + 1 := ⟨9999, rfl⟩
  unfold Instr.keyThatStays
  rw [hd]
  simp [Instr.sameBits, pairV]
/-! ### a queue -/
theorem setCells_grown (b : Nat) : ∀ (vs : List Value) (o : Nat) (w : World), w.grownBy (w.setCells b o vs) (some b)
 | [], o, w => ⟨rfl, rfl, rfl, Nat.le_refl _, fun _ _ _ => rfl⟩
 | v :: vs, o, w => by
  rw [World.setCells]
  refine World.grownBy.trans (b := w.setCell ⟨b, o, none⟩ v) ⟨rfl, rfl, rfl, by simp [World.setCell], fun k hk hne => ?_⟩ (setCells_grown b vs (o + 1) _)
  exact Below.heap_setCell _ _ _ _ (fun e => hne (by rw [e]))
theorem rangeAt_append {w : World} {b o : Nat} {xs ys : List Value} (h1 : w.rangeAt b o xs) (h2 : w.rangeAt b (o + xs.length) ys) : w.rangeAt b o (xs ++ ys) := fun j v hj => by
 by_cases h : j < xs.length
 ·rw [List.getElem?_append_left h] at hj; exact h1 j v hj
 ·rw [List.getElem?_append_right (by omega)] at hj
  have := h2 _ v hj
  rwa [show o + xs.length + (j - xs.length) = o + j by omega] at this
/-- the slice v of n elements of k cells lies in a block of the call's own, with room behind it or not -/
def Que (w : World) (base k : Nat) (v : Value) (n : Nat) (xs : List Value) : Prop :=
 xs.length = n * k ∧ ∃ g off cap, v = .slice (some ⟨g, off, none⟩) n cap ∧ base ≤ g ∧ g < w.heap.size ∧ n ≤ cap ∧ cap ≤ maxLen ∧ w.rangeAt g off xs ∧ w.there g (off + n * k) ((cap - n) * k)
section
variable {w w' : World} {base k n : Nat} {v : Value} {xs : List Value}
theorem Que.lt (h : Que w base k v n xs) : ∀ b, v.ownBlock = some b → base ≤ b ∧ b < w.heap.size := by
 obtain ⟨_, g, off, cap, rfl, h1, h2, _⟩ := h
 intro b hb
 simp [Value.ownBlock] at hb
 subst hb
 exact ⟨h1, h2⟩
theorem Que.kept (h : Que w base k v n xs) {row : Option Nat} (hg : w.grownBy w' row) (hne : v.ownBlock ≠ row) : Que w' base k v n xs := by
 obtain ⟨hl, g, off, cap, rfl, h1, h2, h3, h4, h5, h6⟩ := h
 have hb : w'.heap[g]? = w.heap[g]? := hg.block g h2 (by simpa [Value.ownBlock] using hne)
 refine ⟨hl, g, off, cap, rfl, h1, Nat.lt_of_lt_of_le h2 hg.size, h3, h4, fun j u hj => ?_, fun j hj => ?_⟩
 ·exact (World.cell?_of_block (a := ⟨g, off + j, none⟩) hb).trans (h5 j u hj)
 ·have := h6 j hj
  rw [World.cell?_of_block (w := w) (w' := w') (a := ⟨g, off + n * k + j, none⟩) hb, World.frozen?_of_block (w := w) (w' := w') (a := ⟨g, off + n * k + j, none⟩) hb]
  exact this
theorem Que.ext (h : Que w base k v n xs) (hx : Ext w w') : Que w' base k v n xs :=
 h.kept (row := none) ⟨Below.os hx, Below.tape hx, Below.output hx, Below.size hx, fun i hi _ => Below.block hx i hi⟩ (by obtain ⟨_, g, off, cap, rfl, _⟩ := h; simp [Value.ownBlock])
theorem Que.of_owns {e : TypeId} (h : w.ownsRow base e k v (n + 1) xs) : Que w base k v (n + 1) xs := by
 obtain ⟨hl, h | ⟨g, cap, cur, rfl, h1, h2, h3, h4, h5, h6⟩⟩ := h
 ·exact absurd h.2 (by omega)
 ·refine ⟨hl, g, 0, cap, rfl, h1, (Array.getElem?_eq_some_iff.1 h2).1, h3, h4, fun j u hj => ?_, fun j hj => ?_⟩
  ·rw [← h6, List.getElem?_take] at hj
   split at hj
   ·simp [World.cell?, h2]; simpa using hj
   ·cases hj
  ·have h7 : 0 + (n + 1) * k + j < cur.size := by
    rw [h5]
    have : (n + 1) * k + (cap - (n + 1)) * k = cap * k := by rw [← Nat.add_mul]; congr 1; omega
    omega
   constructor
   ·simp [World.cell?, h2]; omega
   ·simp [World.frozen?, h2]
/-- one element off in front -/
theorem Que.pop {g off cap : Nat} {r : List Value} (h : Que w base k (.slice (some ⟨g, off, none⟩) (n + 1) cap) (n + 1) (r ++ xs)) (hr : r.length = k) (hcap : 1 < cap) : Que w base k (.slice (some ⟨g, off + k, none⟩) n (cap - 1)) n xs := by
 obtain ⟨hl, g', off', cap', e, h1, h2, h3, h4, h5, h6⟩ := h
 simp only [Value.slice.injEq, Option.some.injEq, Addr.mk.injEq, and_true] at e
 obtain ⟨⟨rfl, rfl⟩, _, rfl⟩ := e
 rw [List.length_append, hr, Nat.add_mul] at hl
 refine ⟨by omega, g, off + k, cap - 1, rfl, h1, h2, by omega, by omega, fun j u hj => ?_, ?_⟩
 ·have := h5 (k + j) u (by rw [List.getElem?_append_right (by omega), hr, Nat.add_sub_cancel_left]; exact hj)
  rwa [show off + (k + j) = off + k + j by omega] at this
 ·rw [show off + k + n * k = off + (n + 1) * k by rw [Nat.add_mul]; omega, show cap - 1 - n = cap - (n + 1) by omega]
  exact h6
theorem Que.pop_last {g off : Nat} {r : List Value} (h : Que w base k (.slice (some ⟨g, off, none⟩) 1 1) 1 r) : Que w base k (.slice (some ⟨g, off, none⟩) 0 0) 0 [] := by
 obtain ⟨hl, g', off', cap', e, h1, h2, h3, h4, h5, h6⟩ := h
 simp only [Value.slice.injEq, Option.some.injEq, Addr.mk.injEq, and_true] at e
 obtain ⟨⟨rfl, rfl⟩, _, rfl⟩ := e
 exact ⟨by simp, g, off, 0, rfl, h1, h2, Nat.le_refl _, by simp [maxLen], fun j u hj => by simp at hj, fun j hj => by simp at hj⟩
end
section
variable {P : Program}
theorem run_append_que {w : World} {base k : Nat} (t ty e : TypeId) (i : TypeInfo) (z : Value) (bytes : Nat) (ht : P.underlying t = some (.slice e)) (hi : P.info? e = some i) (hz : i.zero = some z)
  (hsize : i.size = k) (hby : i.bytes = bytes) (hzs : z.cells.size = k) (hsz : 0 < k) {v : Value} {n : Nat} {xs : List Value} (h : Que w base k v n xs) (hbase : base ≤ w.heap.size)
  (ad : Addr) (c : Nat) (news : List Value) (hl : news.length = k) (hnews : ∀ j u, news[j]? = some u → w.cell? (ad.add j) = some u) (h1 : ∀ u ∈ news, u.oneCell' = true)
  (h63 : n + 1 ≤ maxLen) (hbytes : (n + 1) * bytes ≤ 140737488355328) :
  ∃ v' w', (Builtin.append_ #[t, t] ty #[v, .slice (some ad) 1 c]).run P w = .ok v' w' ∧ Que w' base k v' (n + 1) (xs ++ news) ∧ w.grownBy w' v.ownBlock ∧ (v'.ownBlock = v.ownBlock ∨ ∃ b, v'.ownBlock = some b ∧ w.heap.size ≤ b) := by
 obtain ⟨hxl, g, off, cap, rfl, q1, q2, q3, q4, q5, q6⟩ := h
 subst hsize
 by_cases hroom : n + 1 ≤ cap
 ·have hsp : i.size ≤ (cap - n) * i.size := Nat.le_mul_of_pos_left _ (by omega)
  have hrun := run_append_room_cells (P := P) w t ty e i ht hi g off n cap ad 1 c news (by rw [hl, Nat.one_mul]) hnews h1 hroom (fun j hj => (q6 j (by omega)).1) (fun j hj => (q6 j (by omega)).2)
  refine ⟨_, _, hrun, ⟨by rw [List.length_append, hxl, hl, Nat.add_mul, Nat.one_mul], g, off, cap, rfl, q1, ?_, hroom, q4, ?_, ?_⟩, setCells_grown _ _ _ _, .inl rfl⟩
  ·exact Nat.lt_of_lt_of_le q2 (setCells_grown g news _ w).size
  ·refine rangeAt_append (World.rangeAt_setCells_apart q5 _ _ _ (.inr (.inl (by omega)))) ?_
   rw [hxl]
   exact World.rangeAt_setCells_same _ _ _ _ (fun j hj => q6 j (by omega))
  ·have h8 : w.there g (off + (n + 1) * i.size) ((cap - (n + 1)) * i.size) := fun j hj => by
    have := q6 (i.size + j) (by
     have h9 : (cap - n) * i.size = (cap - (n + 1)) * i.size + i.size := by rw [show cap - n = cap - (n + 1) + 1 by omega, Nat.add_mul, Nat.one_mul]
     omega)
    rwa [show off + n * i.size + (i.size + j) = off + (n + 1) * i.size + j by rw [Nat.add_mul]; omega] at this
   exact World.there_setCells h8 _ _ _
 ·obtain ⟨v', w', hrun, r1, r2⟩ := run_append_arg_grows (P := P) w t ty e i z i.size bytes ht hi hz rfl hby hzs hsz ⟨g, off, none⟩ n cap xs hxl (fun j u hj => by rw [Addr.add_mid]; exact q5 j u hj) ad 1 c news (by rw [hl, Nat.one_mul]) hnews (by omega) h63 hbytes
  have r1' : w'.ownsRow base e i.size v' (n + 1) (xs ++ news) := ⟨r1.1, r1.2.imp id fun ⟨g, cap, cur, a1, a2, a3⟩ => ⟨g, cap, cur, a1, Nat.le_trans hbase a2, a3⟩⟩
  refine ⟨v', w', hrun, Que.of_owns r1', ⟨r2.os, r2.tape, r2.output, r2.size, fun b hb _ => r2.block b hb (by simp)⟩, ?_⟩
  obtain ⟨_, h | ⟨g', cap', cur, rfl, a1, a2, _⟩⟩ := r1
  ·exact absurd h.2 (by omega)
  ·exact .inr ⟨g', rfl, a1⟩
/-- the append of one element, in a region that draws its order -/
theorem step_append_que {ops : Array Oper} {o : Oper} {a : Act} {w : World} {K : Act → World → Prop} {Q : Exit → Act → World → Prop} {E : Prop}
  (hg : o.guard = none) (s x : Operand) (t : TypeId) (hop : o.op = Op.call { callee := Callee.builtin Builtin.append, args := #[s, x], argTypes := #[t, t] })
  (base k : Nat) (e : TypeId) (i : TypeInfo) (z : Value) (bytes : Nat) (ht : P.underlying t = some (.slice e)) (hi : P.info? e = some i) (hz : i.zero = some z) (hsize : i.size = k) (hby : i.bytes = bytes) (hzs : z.cells.size = k) (hsz : 0 < k)
  (v : Value) (n : Nat) (xs : List Value) (hs : a.eval s = v) (h : Que w base k v n xs) (hbase : base ≤ w.heap.size)
  (ad : Addr) (c : Nat) (news : List Value) (hx : a.eval x = .slice (some ad) 1 c) (hl : news.length = k) (hnews : ∀ j u, news[j]? = some u → w.cell? (ad.add j) = some u) (h1 : ∀ u ∈ news, u.oneCell' = true)
  (h63 : n + 1 ≤ maxLen) (hbytes : (n + 1) * bytes ≤ 140737488355328)
  (hK : ∀ v' w', Que w' base k v' (n + 1) (xs ++ news) → w.grownBy w' v.ownBlock → (v'.ownBlock = v.ownBlock ∨ ∃ b, v'.ownBlock = some b ∧ w.heap.size ≤ b) → K (a.put o.dst v') w') :
  if Region.wanted o (yielded ops a.tmps) = true then Oper.wp P o a w K Q else E := by
 have hw : Region.wanted o (yielded ops a.tmps) = true := by simp [Region.wanted, hg]
 rw [if_pos hw]
 obtain ⟨v', w', hrun, r1, r2, r3⟩ := run_append_que (P := P) t o.type e i z bytes ht hi hz hsize hby hzs hsz h hbase ad c news hl hnews h1 h63 hbytes
 unfold Oper.wp
 simp [execOp, hop, resolve, invoke, builtin, hs, hx, hrun, Result.andThen]
 exact hK v' w' r1 r2 r3
end
/-- a queue that reads as xs; what lies behind its elements lies in F, and not in its own block -/
def QueE {α : Type} (F : Nat → Prop) (E : Elt α) (w : World) (base : Nat) (v : Value) (xs : List α) : Prop :=
 ∃ rows : List (List Value), rows.length = xs.length ∧ Que w base E.k v xs.length rows.flatten ∧ ∀ (i : Nat) (x : α) (r : List Value), xs[i]? = some x → rows[i]? = some r → E.rel (fun b => F b ∧ some b ≠ v.ownBlock) w x r
section
variable {α : Type} {F : Nat → Prop} {E : Elt α} {w w' : World} {base : Nat} {v : Value} {xs : List α}
theorem QueE.lt (h : QueE F E w base v xs) : ∀ b, v.ownBlock = some b → base ≤ b ∧ b < w.heap.size := by
 obtain ⟨rows, _, hq, _⟩ := h
 exact hq.lt
theorem QueE.kept (h : QueE F E w base v xs) {row : Option Nat} (hg : w.grownBy w' row) (hne : v.ownBlock ≠ row) (hF : ∀ b, F b → some b ≠ row) : QueE F E w' base v xs := by
 obtain ⟨rows, hl, hq, hr⟩ := h
 exact ⟨rows, hl, hq.kept hg hne, fun i x r h1 h2 => E.mono _ _ _ _ _ _ (fun b hb hlt => hg.block b hlt (hF b hb.1)) (fun b hb _ => hb) (hr i x r h1 h2)⟩
theorem QueE.ext (h : QueE F E w base v xs) (hx : Ext w w') : QueE F E w' base v xs := by
 obtain ⟨rows, hl, hq, hr⟩ := h
 exact ⟨rows, hl, hq.ext hx, fun i x r h1 h2 => Elt.ext (hr i x r h1 h2) hx⟩
theorem QueE.push {y : α} {rows : List (List Value)} {news : List Value} {v' : Value} (hl : rows.length = xs.length) (hr : ∀ (i : Nat) (x : α) (r : List Value), xs[i]? = some x → rows[i]? = some r → E.rel (fun b => F b ∧ some b ≠ v.ownBlock) w x r)
  (hy : E.rel (fun b => F b ∧ some b ≠ v.ownBlock) w y news) (hq : Que w' base E.k v' (xs.length + 1) (rows.flatten ++ news)) (hg : w.grownBy w' v.ownBlock) (hat : v'.ownBlock = v.ownBlock ∨ ∃ b, v'.ownBlock = some b ∧ w.heap.size ≤ b) :
  QueE F E w' base v' (xs ++ [y]) := by
 have keep : ∀ x2 r2, E.rel (fun b => F b ∧ some b ≠ v.ownBlock) w x2 r2 → E.rel (fun b => F b ∧ some b ≠ v'.ownBlock) w' x2 r2 := by
  intro x2 r2 h3
  refine E.mono _ _ _ _ _ _ (fun b hb hbl => hg.block b hbl hb.2) (fun b hb hbl => ⟨hb.1, ?_⟩) h3
  rcases hat with hat | ⟨b', hat, hle⟩
  ·rw [hat]; exact hb.2
  ·rw [hat]; intro e; injection e with e; omega
 refine ⟨rows ++ [news], by simp [hl], by simpa using hq, fun i x r h1 h2 => ?_⟩
 by_cases hk : i < xs.length
 ·rw [List.getElem?_append_left hk] at h1
  rw [List.getElem?_append_left (by omega)] at h2
  exact keep _ _ (hr i x r h1 h2)
 ·rw [List.getElem?_append_right (by omega)] at h1
  rw [List.getElem?_append_right (by omega), hl] at h2
  have hk0 : i - xs.length = 0 := by have := (List.getElem?_eq_some_iff.1 h1).1; simp at this; omega
  rw [hk0] at h1 h2
  simp at h1 h2
  subst h1 h2
  exact keep _ _ hy
theorem QueE.made {y : α} {news : List Value} {e : TypeId} (hb : base ≤ w.heap.size) (hy : E.rel F w y news) (hF : ∀ b, F b → b < w.heap.size → True) : QueE F E (w.alloc (.cells news.toArray e)) base (.slice (some ⟨w.heap.size, 0, none⟩) 1 1) [y] := by
 have hl := E.len _ _ _ _ hy
 refine ⟨[news], rfl, ⟨by simp [hl], w.heap.size, 0, 1, rfl, hb, by simp, Nat.le_refl _, by simp [maxLen], fun j u hj => ?_, fun j hj => by simp at hj⟩, fun i x r h1 h2 => ?_⟩
 ·rw [Nat.zero_add, World.cell?_alloc_new]
  simpa using hj
 ·cases i with
  | zero =>
   simp at h1 h2
   subst h1 h2
   exact E.mono _ _ _ _ _ _ (fun b hb hlt => Below.heap_alloc _ _ _ hlt) (fun b hb hlt => ⟨hb, by simp [Value.ownBlock]; omega⟩) hy
  | succ i => simp at h1
/-- the first of a queue, and what is left behind it -/
theorem QueE.head {x : α} (h : QueE F E w base v (x :: xs)) : ∃ g off cap r, v = .slice (some ⟨g, off, none⟩) (xs.length + 1) cap ∧ xs.length + 1 ≤ cap ∧ cap ≤ maxLen ∧ E.rel (fun b => F b ∧ b ≠ g) w x r ∧ (∀ j u, r[j]? = some u → w.cell? ⟨g, off + j, none⟩ = some u) := by
 obtain ⟨rows, hl, ⟨hxl, g, off, cap, rfl, h1, h2, h3, h4, h5, h6⟩, hr⟩ := h
 cases rows with
 | nil => simp at hl
 | cons r rows =>
  have h7 := hr 0 x r rfl rfl
  have h8 := E.len _ _ _ _ h7
  refine ⟨g, off, cap, r, rfl, h3, h4, E.mono _ _ _ _ _ _ (fun _ _ _ => rfl) (fun b hb _ => ⟨hb.1, fun e => hb.2 (by simp [Value.ownBlock, e])⟩) h7, fun j u hj => h5 j u ?_⟩
  rw [List.flatten_cons, List.getElem?_append_left (List.getElem?_eq_some_iff.1 hj).1]
  exact hj
theorem QueE.pop {x : α} {g off cap : Nat} (h : QueE F E w base (.slice (some ⟨g, off, none⟩) (xs.length + 1) cap) (x :: xs)) (hcap : 1 < cap) : QueE F E w base (.slice (some ⟨g, off + E.k, none⟩) xs.length (cap - 1)) xs := by
 obtain ⟨rows, hl, hq, hr⟩ := h
 cases rows with
 | nil => simp at hl
 | cons r rows =>
  have h8 := E.len _ _ _ _ (hr 0 x r rfl rfl)
  rw [List.flatten_cons] at hq
  refine ⟨rows, by simpa using hl, hq.pop h8 hcap, fun i y s h1 h2 => hr (i + 1) y s (by simpa using h1) (by simpa using h2)⟩
theorem QueE.pop_last {x : α} {g off : Nat} (h : QueE F E w base (.slice (some ⟨g, off, none⟩) 1 1) [x]) : QueE F E w base (.slice (some ⟨g, off, none⟩) 0 0) [] := by
 obtain ⟨rows, hl, hq, hr⟩ := h
 exact ⟨[], rfl, hq.pop_last, fun i y s h1 h2 => by simp at h1⟩
end
/-- a pair of types and the way to it -/
def spotE : Elt ((Nat × Nat) × List Nat) where
 k := 3
 pos := by decide
 rel F w x cs := ∃ vw, cs = [.int .i64 (x.1.1 : Int), .int .i64 (x.1.2 : Int), vw] ∧ SlF F intE w vw (x.2.map fun (n : Nat) => (n : Int))
 len := by rintro F w x cs ⟨vw, rfl, _⟩; rfl
 one := by rintro F w x cs ⟨vw, rfl, ⟨_, _, rfl, _⟩⟩; simp [Value.oneCell']
 mono := fun _ _ _ _ _ _ hw hG ⟨vw, e, ha⟩ => ⟨vw, e, ha.mono hw hG⟩
end Go.Proofs.YtldnjnnhfeobdaaGreatDoor
/- Plain theory: the search as a relation; a search that has not marked its start finds the same. No program. No condition. -/
namespace Go.Proofs.YtldnjnnhfeobdaaGreatDoor
inductive Srch (ag : Nat → Nat → Bool) (rf : Nat → List Nat) : List (Nat × Nat) → List Spot → Option (List Nat) → Prop
 | stop (s : List (Nat × Nat)) : Srch ag rf s [] none
 | hit (s : List (Nat × Nat)) (x : Spot) (o : List Spot) (h : ag x.1.1 x.1.2 = false) : Srch ag rf s (x :: o) (some x.2)
 | go (s : List (Nat × Nat)) (x : Spot) (o : List Spot) (r : Option (List Nat)) (h : ag x.1.1 x.1.2 = true) (h2 : Srch ag rf (pushN x.2 0 (kidsN rf x.1) s o).1 (pushN x.2 0 (kidsN rf x.1) s o).2 r) : Srch ag rf s (x :: o) r
section
variable {n : Nat} {ag : Nat → Nat → Bool} {rf : Nat → List Nat} {a b : Nat}
theorem srch_of (G : AbsGraph n ag rf) : ∀ f dn s o, Inv n ag rf a b dn s o → leftN n s o < f → Srch ag rf s o (apartN ag rf f s o) := by
 intro f
 induction f with
 | zero => intro dn s o _ h; omega
 | succ f ih =>
  intro dn s o I h
  cases o with
  | nil => exact .stop s
  | cons x o =>
   unfold apartN
   cases hx : ag x.1.1 x.1.2 with
   | false => exact .hit s x o hx
   | true =>
    have := I.left G hx
    exact .go s x o _ hx (ih _ _ _ (I.step G hx) (by omega))
theorem pushN_seen (way : List Nat) : ∀ ps k s o, (∀ p ∈ ps, p ∈ s) → pushN way k ps s o = (s, o)
 | [], k, s, o, _ => rfl
 | p :: ps, k, s, o, h => by
  unfold pushN
  rw [if_pos (h p (by simp))]
  exact pushN_seen way ps (k + 1) s o (fun q hq => h q (by simp [hq]))
/-- two lists of what has been seen, alike but for p0 -/
def But (p0 : Nat × Nat) (s s2 : List (Nat × Nat)) : Prop := p0 ∈ s ∧ ∀ q, q ≠ p0 → (q ∈ s ↔ q ∈ s2)
theorem But.push {p0 p : Nat × Nat} {s s2 : List (Nat × Nat)} (h : But p0 s s2) : But p0 (s ++ [p]) (s2 ++ [p]) :=
 ⟨by simp [h.1], fun q hq => by simp only [List.mem_append, h.2 q hq]⟩
theorem But.right {p0 : Nat × Nat} {s s2 : List (Nat × Nat)} (h : But p0 s s2) : But p0 s (s2 ++ [p0]) :=
 ⟨h.1, fun q hq => by simp only [List.mem_append, List.mem_singleton, h.2 q hq, hq, or_false]⟩
theorem pushN_but (p0 : Nat × Nat) (way : List Nat) : ∀ ps k s s2 o o2, But p0 s s2 →
  ∃ new new2, (pushN way k ps s o).2 = o ++ new ∧ (pushN way k ps s2 o2).2 = o2 ++ new2 ∧ But p0 (pushN way k ps s o).1 (pushN way k ps s2 o2).1 ∧ (∀ q ∈ s, q ∈ (pushN way k ps s o).1) ∧ (∀ q ∈ s2, q ∈ (pushN way k ps s2 o2).1) ∧
   (new2 = new ∨ p0 ∉ s2 ∧ p0 ∈ (pushN way k ps s2 o2).1 ∧ ∃ n1 n2 w, new = n1 ++ n2 ∧ new2 = n1 ++ (p0, w) :: n2) := by
 intro ps
 induction ps with
 | nil => intro k s s2 o o2 h; exact ⟨[], [], by simp [pushN], by simp [pushN], h, fun q hq => hq, fun q hq => hq, .inl rfl⟩
 | cons p ps ih =>
  intro k s s2 o o2 h
  unfold pushN
  by_cases e : p = p0
  ·subst e
   rw [if_pos h.1]
   by_cases h2 : p ∈ s2
   ·rw [if_pos h2]; exact ih (k + 1) s s2 o o2 h
   ·rw [if_neg h2]
    obtain ⟨new, new2, h3, h4, h5, h6, h7, h8⟩ := ih (k + 1) s (s2 ++ [p]) o (o2 ++ [(p, way ++ [k])]) h.right
    have h9 : new2 = new := by
     rcases h8 with h8 | h8
     ·exact h8
     ·exact absurd (by simp) h8.1
    subst h9
    exact ⟨new2, (p, way ++ [k]) :: new2, h3, by rw [h4]; simp, h5, h6, fun q hq => h7 q (by simp [hq]), .inr ⟨h2, h7 p (by simp), [], new2, way ++ [k], rfl, rfl⟩⟩
  ·have h2 := h.2 p e
   by_cases h3 : p ∈ s
   ·rw [if_pos h3, if_pos (h2.1 h3)]; exact ih (k + 1) s s2 o o2 h
   ·rw [if_neg h3, if_neg (fun h' => h3 (h2.2 h'))]
    obtain ⟨new, new2, h4, h5, h6, h7, h8, h9⟩ := ih (k + 1) (s ++ [p]) (s2 ++ [p]) (o ++ [(p, way ++ [k])]) (o2 ++ [(p, way ++ [k])]) h.push
    refine ⟨(p, way ++ [k]) :: new, (p, way ++ [k]) :: new2, by rw [h4]; simp, by rw [h5]; simp, h6, fun q hq => h7 q (by simp [hq]), fun q hq => h8 q (by simp [hq]), ?_⟩
    rcases h9 with rfl | ⟨g1, g2, n1, n2, w, rfl, rfl⟩
    ·exact .inl rfl
    ·exact .inr ⟨fun h' => g1 (by simp [h']), g2, (p, way ++ [k]) :: n1, n2, w, rfl, rfl⟩
/-- what is open, alike but for one that stands for p0 -/
def OpenBut (p0 : Nat × Nat) (s2 : List (Nat × Nat)) (o o2 : List Spot) : Prop := o2 = o ∨ p0 ∈ s2 ∧ ∃ o' o'' w, o = o' ++ o'' ∧ o2 = o' ++ (p0, w) :: o''
theorem Srch.idle {p0 : Nat × Nat} {w : List Nat} {s2 : List (Nat × Nat)} {o : List Spot} {r : Option (List Nat)} (hag : ag p0.1 p0.2 = true) (hk : ∀ q ∈ kidsN rf p0, q ∈ s2) (h : Srch ag rf s2 o r) : Srch ag rf s2 ((p0, w) :: o) r := by
 refine .go s2 (p0, w) o r hag ?_
 rw [pushN_seen _ _ _ _ _ hk]
 exact h
theorem Srch.but {p0 : Nat × Nat} (hag : ag p0.1 p0.2 = true) {s : List (Nat × Nat)} {o : List Spot} {r : Option (List Nat)} (h : Srch ag rf s o r) :
  ∀ s2 o2, But p0 s s2 → (∀ q ∈ kidsN rf p0, q ∈ s) → OpenBut p0 s2 o o2 → Srch ag rf s2 o2 r := by
 have kids : ∀ s s2, But p0 s s2 → (∀ q ∈ kidsN rf p0, q ∈ s) → p0 ∈ s2 → ∀ q ∈ kidsN rf p0, q ∈ s2 := fun s s2 hb hk h0 q hq => by
  by_cases e : q = p0
  ·rw [e]; exact h0
  ·exact (hb.2 q e).1 (hk q hq)
 induction h with
 | stop s =>
  intro s2 o2 hb hk ho
  rcases ho with rfl | ⟨h0, o', o'', w, e, rfl⟩
  ·exact .stop s2
  ·have e1 : o' = [] := (List.append_eq_nil_iff.1 e.symm).1
   have e2 : o'' = [] := (List.append_eq_nil_iff.1 e.symm).2
   subst e1 e2
   exact Srch.idle hag (kids s s2 hb hk h0) (.stop s2)
 | hit s x o hx =>
  intro s2 o2 hb hk ho
  rcases ho with rfl | ⟨h0, o', o'', w, e, rfl⟩
  ·exact .hit s2 x o hx
  ·cases o' with
   | nil =>
    have e : x :: o = o'' := e
    subst e
    exact Srch.idle hag (kids s s2 hb hk h0) (.hit s2 x o hx)
   | cons y o' =>
    injection e with e1 e2
    subst e1
    exact .hit s2 x _ hx
 | go s x o r hx h2 ih =>
  intro s2 o2 hb hk ho
  have main : ∀ rest, OpenBut p0 s2 o rest → Srch ag rf s2 (x :: rest) r := by
   intro rest hr
   refine .go s2 x rest r hx ?_
   obtain ⟨new, new2, h3, h4, h5, h6, h7, h8⟩ := pushN_but p0 x.2 (kidsN rf x.1) 0 s s2 o rest hb
   refine ih _ _ h5 (fun q hq => h6 q (hk q hq)) ?_
   rw [h3, h4]
   rcases hr with rfl | ⟨h0, o', o'', w, rfl, rfl⟩
   ·rcases h8 with rfl | ⟨_, g2, n1, n2, w, rfl, rfl⟩
    ·exact .inl rfl
    ·exact .inr ⟨g2, rest ++ n1, n2, w, by simp, by simp⟩
   ·have e : new2 = new := by
     rcases h8 with h8 | h8
     ·exact h8
     ·exact absurd h0 h8.1
    subst e
    exact .inr ⟨h7 p0 h0, o', o'' ++ new2, w, by simp, by simp⟩
  rcases ho with rfl | ⟨h0, o', o'', w, e, rfl⟩
  ·exact main _ (.inl rfl)
  ·cases o' with
   | nil =>
    have e : x :: o = o'' := e
    subst e
    exact Srch.idle hag (kids s s2 hb hk h0) (main _ (.inl rfl))
   | cons y o' =>
    injection e with e1 e2
    subst e1
    exact main _ (.inr ⟨h0, o', o'', w, e2, rfl⟩)
/-- the search that has not marked its start -/
theorem Srch.bare {p0 : Nat × Nat} {r : Option (List Nat)} (h : Srch ag rf [p0] [(p0, [])] r) : Srch ag rf [] [(p0, [])] r := by
 cases h with
 | hit s x o hx => exact .hit _ _ _ hx
 | go s x o r hx h2 =>
  refine .go _ _ _ r hx ?_
  have hb : But p0 [p0] [] := ⟨by simp, fun q hq => by simp [hq]⟩
  obtain ⟨new, new2, h3, h4, h5, h6, h7, h8⟩ := pushN_but p0 [] (kidsN rf p0) 0 [p0] [] [] [] hb
  refine Srch.but hx h2 _ _ h5 (fun q hq => ?_) ?_
  ·obtain ⟨nw, e1, e2, e3, e4⟩ := pushN_spec [] (kidsN rf p0) 0 [p0] []
   have := e3 q hq
   show q ∈ (pushN [] 0 (kidsN rf p0) [p0] []).1
   rw [e1]; exact this
  ·show OpenBut p0 _ (pushN [] 0 (kidsN rf p0) [p0] []).2 (pushN [] 0 (kidsN rf p0) [] []).2
   rw [h3, h4]
   rcases h8 with rfl | ⟨_, g2, n1, n2, w, rfl, rfl⟩
   ·exact .inl rfl
   ·exact .inr ⟨g2, n1, n2, w, by simp, by simp⟩
end
theorem pushN_snoc (way : List Nat) (p : Nat × Nat) : ∀ ps k s o, pushN way k (ps ++ [p]) s o = if p ∈ (pushN way k ps s o).1 then pushN way k ps s o else ((pushN way k ps s o).1 ++ [p], (pushN way k ps s o).2 ++ [(p, way ++ [k + ps.length])])
 | [], k, s, o => by by_cases h : p ∈ s <;> simp [pushN, h]
 | q :: ps, k, s, o => by
  simp only [List.cons_append, pushN]
  have e : k + (q :: ps).length = k + 1 + ps.length := by simp; omega
  rw [e]
  split
  ·exact pushN_snoc way p ps (k + 1) s o
  ·exact pushN_snoc way p ps (k + 1) _ _
/-- what the search for a way finds -/
def wayN (ag : Nat → Nat → Bool) (rf : Nat → List Nat) (n a b : Nat) : Option (List Nat) := apartN ag rf (n * n + 2) [(a, b)] [((a, b), [])]
theorem wayN_srch {n : Nat} {ag : Nat → Nat → Bool} {rf : Nat → List Nat} {a b : Nat} (G : AbsGraph n ag rf) (ha : a < n) (hb : b < n) : Srch ag rf [(a, b)] [((a, b), [])] (wayN ag rf n a b) :=
 srch_of G _ [] _ _ (Inv.init ha hb) (by unfold leftN; simp; omega)
end Go.Proofs.YtldnjnnhfeobdaaGreatDoor
/- Contract: Apart. Conditions: lengths below 2^20. -/
namespace Go.Proofs.YtldnjnnhfeobdaaGreatDoor
open Go.RowKit Go.Shelf
def apartG (g : Graph) (a b : Int) : Option (List Nat) := if errG g [a, b] = 0 then wayN (agN g) (refsN g) g.length a.toNat b.toNat else none
def ApartPost (w : World) (r : Option (List Nat)) (er : Int) (e : Ending) (w' : World) : Prop :=
 ∃ v, e = .returned (.tuple #[v, .bool r.isSome, .int .i64 er]) ∧ Sl intE w' v ((r.getD []).map fun (n : Nat) => (n : Int)) ∧ Ext w w'
def castP (p : Nat × Nat) : Int × Int := ((p.1 : Int), (p.2 : Int))
theorem Boxed.lt' {w : World} {b : Nat} {t : TypeId} {v : Value} (h : Boxed w b t v) : b < w.heap.size := (Array.getElem?_eq_some_iff.1 h).1
/-- the pairs that have been seen, as a map -/
def seenF (s : List (Nat × Nat)) : Int × Int → Option Value := fun q => if q ∈ s.map castP then some (.bool true) else none
theorem castP_inj {p q : Nat × Nat} (h : castP p = castP q) : p = q := by
 obtain ⟨a, b⟩ := p
 obtain ⟨c, d⟩ := q
 simp only [castP, Prod.mk.injEq] at h
 obtain ⟨h1, h2⟩ := h
 have h1 : a = c := by omega
 have h2 : b = d := by omega
 rw [h1, h2]
theorem castP_mem {p : Nat × Nat} {s : List (Nat × Nat)} : castP p ∈ s.map castP ↔ p ∈ s :=
 ⟨fun h => by obtain ⟨q, hq, e⟩ := List.mem_map.1 h; rw [← castP_inj e]; exact hq, fun h => List.mem_map_of_mem h⟩
theorem seenF_getD (s : List (Nat × Nat)) (p : Nat × Nat) : (seenF s (castP p)).getD (.bool false) = .bool (decide (p ∈ s)) := by
 unfold seenF
 by_cases h : p ∈ s
 ·rw [if_pos (castP_mem.2 h)]; simp [h]
 ·rw [if_neg (fun h' => h (castP_mem.1 h'))]; simp [h]
theorem seenF_put (s : List (Nat × Nat)) (p : Nat × Nat) : put (seenF s) (castP p) (.bool true) = seenF (s ++ [p]) := by
 funext q
 unfold put seenF
 by_cases h : q = castP p
 ·simp [h]
 ·rw [if_neg h]
  have : q ∈ (s ++ [p]).map castP ↔ q ∈ s.map castP := by
   rw [List.map_append, List.mem_append, List.map_cons, List.map_nil, List.mem_singleton]
   exact ⟨fun h' => h'.elim id (fun e => absurd e h), .inl⟩
  by_cases h2 : q ∈ s.map castP
  ·rw [if_pos h2, if_pos (this.2 h2)]
  ·rw [if_neg h2, if_neg (fun h' => h2 (this.1 h'))]
theorem seenF_nil : seenF [] = fun _ => none := by funext q; simp [seenF]
/-- ways are short -/
structure WInv (dn : List Spot) (s : List (Nat × Nat)) (o : List Spot) : Prop where
 eq : s = (dn ++ o).map (·.1)
 le : ∀ e ∈ dn ++ o, e.2.length ≤ dn.length
theorem WInv.init (a b : Nat) : WInv [] [(a, b)] [((a, b), [])] := ⟨rfl, by simp⟩
theorem WInv.step {dn : List Spot} {s : List (Nat × Nat)} {x : Spot} {o : List Spot} (ps : List (Nat × Nat)) (h : WInv dn s (x :: o)) : WInv (dn ++ [x]) (pushN x.2 0 ps s o).1 (pushN x.2 0 ps s o).2 := by
 obtain ⟨new, h1, h2, _⟩ := pushN_spec x.2 ps 0 s o
 rw [h1]
 refine ⟨by rw [h.eq]; simp, fun e he => ?_⟩
 have hx := h.le x (by simp)
 rw [List.length_append, List.length_singleton]
 rcases List.mem_append.1 he with he | he
 ·have := h.le e (by rcases List.mem_append.1 he with he | he <;> simp_all)
  omega
 ·rcases List.mem_append.1 he with he | he
  ·have := h.le e (by simp [he]); omega
  ·obtain ⟨_, m, hm, _, e2⟩ := h2 e he
   rw [e2]; simp; omega
theorem WInv.bound {n : Nat} {ag : Nat → Nat → Bool} {rf : Nat → List Nat} {a b : Nat} {dn : List Spot} {s : List (Nat × Nat)} {o : List Spot} (h : WInv dn s o) (I : Inv n ag rf a b dn s o) (hn : n ≤ 400) : o.length ≤ 160000 ∧ ∀ e ∈ o, e.2.length ≤ 160000 := by
 have h1 := I.seen_le
 have h2 : n * n ≤ 400 * 400 := Nat.mul_le_mul hn hn
 have h3 := congrArg List.length h.eq
 rw [List.length_map, List.length_append] at h3
 exact ⟨by omega, fun e he => by have := h.le e (by simp [he]); omega⟩
theorem pushN_len (way : List Nat) : ∀ ps k s o, (pushN way k ps s o).2.length ≤ o.length + ps.length
 | [], k, s, o => by simp [pushN]
 | p :: ps, k, s, o => by
  unfold pushN
  split
  ·have := pushN_len way ps (k + 1) s o; simp; omega
  ·have := pushN_len way ps (k + 1) (s ++ [p]) (o ++ [(p, way ++ [k])]); simp at this ⊢; omega
/-! ### what holds while the search runs -/
section
variable {w wr wr' : World} {b0 mb bx : Nat} {A : Option Addr} {cap n : Nat} {s : List (Nat × Nat)} {o : List Spot} {v vw va vb : Value} {x : Spot} {rf : Nat → List Nat}
structure ASt (w : World) (b0 mb : Nat) (A : Option Addr) (cap n : Nat) (s : List (Nat × Nat)) (o : List Spot) (v : Value) (wr : World) : Prop where
 ext : Ext w wr
 gbox : Boxed wr b0 77 (.slice A n cap)
 que : QueE (fun b => b ≠ mb) spotE wr w.heap.size v o
 seen : MapF pairK wr mb (seenF s)
 nb : w.heap.size ≤ mb ∧ mb ≠ b0 ∧ v.ownBlock ≠ some mb ∧ v.ownBlock ≠ some b0
theorem ASt.later (h : ASt w b0 mb A cap n s o v wr) (hx : Ext wr wr') : ASt w b0 mb A cap n s o v wr' :=
 ⟨h.ext.trans hx, Boxed.ext h.gbox hx, h.que.ext hx, h.seen.ext hx, h.nb⟩
theorem ASt.mark (h : ASt w b0 mb A cap n s o v wr) {p : Nat × Nat} (hm : MapF pairK wr' mb (put (seenF s) (castP p) (.bool true))) (hg : wr.grownBy wr' (some mb)) : ASt w b0 mb A cap n (s ++ [p]) o v wr' :=
  ⟨Below.grown h.ext hg h.ext.size (fun k hk => by cases hk; exact h.nb.1), (hg.block b0 (Boxed.lt' h.gbox) (fun e => h.nb.2.1 (by injection e with e; exact e.symm))).trans h.gbox, h.que.kept hg h.nb.2.2.1 (fun b hb e => hb (by injection e)),
   by rw [← seenF_put]; exact hm, h.nb⟩
/-- .. while the references of x are looked through -/
structure BSt (w : World) (b0 mb bx : Nat) (A : Option Addr) (cap n : Nat) (rf : Nat → List Nat) (x : Spot) (vw va vb : Value) (s : List (Nat × Nat)) (o : List Spot) (v : Value) (wr : World) : Prop where
 st : ASt w b0 mb A cap n s (x :: o) v wr
 box : wr.heap[bx]? = some (.cells #[.int .i64 (x.1.1 : Int), .int .i64 (x.1.2 : Int), vw] 82 (0, 0))
 way : SlF (fun b => b ≠ mb ∧ some b ≠ v.ownBlock) intE wr vw (x.2.map fun (n : Nat) => (n : Int))
 la : SlF (fun b => b ≠ mb ∧ some b ≠ v.ownBlock) intE wr va ((rf x.1.1).map fun (n : Nat) => (n : Int))
 lb : SlF (fun b => b ≠ mb ∧ some b ≠ v.ownBlock) intE wr vb ((rf x.1.2).map fun (n : Nat) => (n : Int))
 nbx : w.heap.size ≤ bx ∧ bx ≠ mb ∧ bx ≠ b0 ∧ v.ownBlock ≠ some bx
theorem BSt.later (h : BSt w b0 mb bx A cap n rf x vw va vb s o v wr) (hx : Ext wr wr') : BSt w b0 mb bx A cap n rf x vw va vb s o v wr' :=
 ⟨h.st.later hx, hx.heap h.box, h.way.ext hx, h.la.ext hx, h.lb.ext hx, h.nbx⟩
theorem BSt.lt (h : BSt w b0 mb bx A cap n rf x vw va vb s o v wr) : bx < wr.heap.size := (Array.getElem?_eq_some_iff.1 h.box).1
theorem BSt.mark (h : BSt w b0 mb bx A cap n rf x vw va vb s o v wr) {p : Nat × Nat} (hm : MapF pairK wr' mb (put (seenF s) (castP p) (.bool true))) (hg : wr.grownBy wr' (some mb)) : BSt w b0 mb bx A cap n rf x vw va vb (s ++ [p]) o v wr' :=
 have hk : ∀ b, b ≠ mb ∧ some b ≠ v.ownBlock → b < wr.heap.size → wr'.heap[b]? = wr.heap[b]? := fun b hb hlt => hg.block b hlt (fun e => hb.1 (by injection e))
 ⟨h.st.mark hm hg, (hg.block bx h.lt (fun e => h.nbx.2.1 (by injection e))).trans h.box, h.way.mono hk (fun _ h _ => h), h.la.mono hk (fun _ h _ => h), h.lb.mono hk (fun _ h _ => h), h.nbx⟩
/-- behind the append to the queue -/
theorem BSt.push (h : BSt w b0 mb bx A cap n rf x vw va vb s o v wr) {p : Nat × Nat} {k : Nat} {w4 w5 : World} {v1 v5 : Value} {rows : List (List Value)} {e : TypeId} (hx4 : Ext wr w4)
  (hl : rows.length = (x :: o).length) (hr : ∀ (i : Nat) (y : Spot) (r : List Value), (x :: o)[i]? = some y → rows[i]? = some r → spotE.rel (fun b => b ≠ mb ∧ some b ≠ v.ownBlock) wr y r)
  (hv1 : SlF (New wr) intE w4 v1 ((x.2 ++ [k]).map fun (n : Nat) => (n : Int)))
  (hq : Que w5 w.heap.size 3 v5 ((x :: o).length + 1) (rows.flatten ++ [.int .i64 (p.1 : Int), .int .i64 (p.2 : Int), v1])) (hg : w4.grownBy w5 v.ownBlock) (hat : v5.ownBlock = v.ownBlock ∨ ∃ b, v5.ownBlock = some b ∧ w4.heap.size ≤ b) :
  BSt w b0 mb bx A cap n rf x vw va vb s (o ++ [(p, x.2 ++ [k])]) v5 w5 := by
 have hb := h.later hx4
 have hvlt := h.st.que.lt
 have hsz := hx4.size
 have hy : spotE.rel (fun b => b ≠ mb ∧ some b ≠ v.ownBlock) w4 (p, x.2 ++ [k]) [.int .i64 (p.1 : Int), .int .i64 (p.2 : Int), v1] :=
  ⟨v1, rfl, hv1.mono (fun _ _ _ => rfl) (fun b hb' hlt => ⟨by have := h.st.seen.lt; unfold New at hb'; omega, fun e => by have := (hvlt b e.symm).2; unfold New at hb'; omega⟩)⟩
 have hqe : QueE (fun b => b ≠ mb) spotE w5 w.heap.size v5 ((x :: o) ++ [(p, x.2 ++ [k])]) :=
  QueE.push hl (fun i y r h1 h2 => Elt.ext (hr i y r h1 h2) hx4) hy hq hg hat
 have hk : ∀ b, b ≠ mb ∧ some b ≠ v.ownBlock → b < w4.heap.size → w5.heap[b]? = w4.heap[b]? := fun b hb' hlt => hg.block b hlt hb'.2
 have hG : ∀ b, b ≠ mb ∧ some b ≠ v.ownBlock → b < w4.heap.size → b ≠ mb ∧ some b ≠ v5.ownBlock := fun b hb' hlt => ⟨hb'.1, fun e => by
  rcases hat with hat | ⟨b', hat, hle⟩
  ·exact hb'.2 (e.trans hat)
  ·rw [hat] at e; injection e with e; omega⟩
 have hno : ∀ b, b < w4.heap.size → v.ownBlock ≠ some b → v5.ownBlock ≠ some b := fun b hlt hne e => by
  rcases hat with hat | ⟨b', hat, hle⟩
  ·exact hne (hat.symm.trans e)
  ·rw [hat] at e; injection e with e; omega
 have hmlt := hb.st.seen.lt
 have h0lt := Boxed.lt' hb.st.gbox
 have hn := hb.st.nb
 refine ⟨⟨Below.grown hb.st.ext hg hb.st.ext.size (fun k hk => (hvlt k hk).1), (hg.block b0 h0lt (fun e => hn.2.2.2 e.symm)).trans hb.st.gbox, by simpa using hqe, hb.st.seen.kept (hg.block mb hmlt (fun e => hn.2.2.1 e.symm)), hn.1, hn.2.1, hno mb hmlt hn.2.2.1, hno b0 h0lt hn.2.2.2⟩,
  (hg.block bx hb.lt (fun e => hb.nbx.2.2.2 e.symm)).trans hb.box, hb.way.mono hk hG, hb.la.mono hk hG, hb.lb.mono hk hG, hb.nbx.1, hb.nbx.2.1, hb.nbx.2.2.1, hno bx hb.lt hb.nbx.2.2.2⟩
end
theorem sl_cells {w : World} {A : Option Addr} {n c : Nat} {xs : List Int} (h : Sl intE w (.slice A n c) xs) (hn : xs.length = n) : (A = none → n = 0 ∧ n = 0) ∧ ∀ b, A = some b → ∀ (j : Nat) (u : Value), (xs.map (Value.int .i64))[j]? = some u → w.cell? (b.add j) = some u := by
 obtain ⟨A', c', e, hc⟩ := h.int
 simp only [Value.slice.injEq] at e
 obtain ⟨rfl, e2, rfl⟩ := e
 refine ⟨fun e => ?_, fun b e j u hj => ?_⟩
 ·cases n with
  | zero => exact ⟨rfl, rfl⟩
  | succ n => obtain ⟨b, off, e', _⟩ := hc 0 (by omega); rw [e] at e'; cases e'
 ·rw [List.getElem?_map] at hj
  obtain ⟨x, hx, rfl⟩ := Option.map_eq_some_iff.1 hj
  obtain ⟨hlt, rfl⟩ := List.getElem?_eq_some_iff.1 hx
  obtain ⟨b', off, e', hcell⟩ := hc j hlt
  rw [e] at e'
  cases e'
  rw [Addr.add_mid]; exact hcell
theorem slice83 : SliceOf Tryz.prog 83 82 3 40 := .mk' Tryz.underlying83 (by kernel_rfl)
set_option maxRecDepth 100000 in
set_option maxHeartbeats 16000000 in
theorem apart_any (w : World) (gv : Value) (g : Graph) (a b : Int) (hg : Sl tyE w gv g) (hT : Tidy g) (hG : Glob w) :
  Calls Tryz.prog 15 #[gv, .int .i64 a, .int .i64 b] w (ApartPost w (apartG g a b) (errG g [a, b])) := by
 have hop := opened_any (w.alloc (.cells #[.int .i64 a, .int .i64 b] 3)) gv _ g [a, b] (hg.mono ((Ext.refl w).alloc _)) hT (hG.mono ((Ext.refl w).alloc _)) (lit_ints w [a, b] 2 rfl) (by simp)
 have hag := fun (w' : World) (hx : Ext w w') (i j : Nat) (hi : i < g.length) (hj : j < g.length) => agree_any w' gv g i j (hg.mono hx) hT hi hj
 have hls := fun (hW : WF g) (w' : World) (hx : Ext w w') (i : Nat) (hi : i < g.length) => list_any w' gv g i g.length (hg.mono hx) hi hT.len (hW.fine (getT_mem hi))
 have hn := hT.len
 obtain ⟨A, cap, rfl⟩ := hg.len
 unfold apartG
 by_cases h0 : errG g [a, b] = 0
 ·rw [if_pos h0]
  rw [h0] at hop ⊢
  obtain ⟨hW, hab⟩ := errG_zero h0
  obtain ⟨a0, a1⟩ := hab a (by simp)
  obtain ⟨b0, b1⟩ := hab b (by simp)
  obtain ⟨i, rfl⟩ := Int.eq_ofNat_of_zero_le a0
  obtain ⟨j, rfl⟩ := Int.eq_ofNat_of_zero_le b0
  rw [Int.toNat_natCast, Int.toNat_natCast]
  have hls' : ∀ (w' : World) (hx : Ext w w') (i : Nat) (hi : i < g.length), Calls Tryz.prog 56 #[.agg #[.slice A g.length cap], .int .i64 i] w' (RetP w' (ResSl intE w' ((refsN g i).map fun (n : Nat) => (n : Int)))) := fun w' hx i hi => by
   have h := hls hW w' hx i hi
   rwa [refsL_nat hW hi] at h
  have hi : i < g.length := by omega
  have hj : j < g.length := by omega
  have G := hW.abs
  have hsr := wayN_srch G hi hj
  have hInv := Inv.init (rf := refsN g) (ag := agN g) hi hj
  generalize wayN (agN g) (refsN g) g.length i j = res at hsr ⊢
  have HG := Lib.hid G
  have Hsr := Lib.hid hsr
  have HI := Lib.hid hInv
  have Hop := Lib.hid hop
  have Hag := Lib.hid hag
  have Hls := Lib.hid hls'
  have HW := Lib.hid hW
  have Hrl := Lib.hid (fun (i : Nat) (hi : i < g.length) => (refsN_length g i).symm ▸ (hW.fine (getT_mem hi)).refs_le)
  have hmm := @run_makeMap Tryz.prog
  clear hop hag hls hls' hg hT h0 hab hW a0 a1 b0 b1 G hsr hInv hG
  go_enter Tryz.func15, Tryz.ntmps15
  go_wp2_with fail
  go_step3
  go_wp2_with fail
  refine Hop.out.mono ?_
  rintro e w1 ⟨rfl, hx1⟩
  have Hx1 := Lib.hid ((((Ext.refl w).alloc (.cells #[.int .i64 i, .int .i64 j] 3)).trans hx1).alloc (.cells #[.slice A g.length cap] 77))
  have Hbx := Lib.hid (show Boxed (w1.alloc (.cells #[.slice A g.length cap] 77)) w1.heap.size 77 (.slice A g.length cap) from heap_alloc_self _ _)
  clear hx1
  have hmd := MapF.made pairK (w1.alloc (.cells #[.slice A g.length cap] 77))
  rw [World.size_alloc] at hmd
  have Hmd := Lib.hid hmd
  clear hmd
  go_wp2_with (refine wpList_insert_F pairK (by rfl) _ _ _ 80 4 (by rfl) Tryz.underlying80 _ _ ((i : Int), (j : Int)) (by rfl) (by rfl) Hmd.out ?_; intro w3 hm3 hg3)
  have hst0 : ASt w w1.heap.size (w1.heap.size + 1) A cap g.length [(i, j)] [((i, j), [])] (.slice (some ⟨w3.heap.size, 0, none⟩) 1 1) (w3.alloc (.cells #[.int .i64 (i : Int), .int .i64 (j : Int), .slice none 0 0] 82)) := by
   have hx3 : Ext (w1.alloc (.cells #[.slice A g.length cap] 77)) w3 := by
    refine Below.grown (((Ext.refl _).alloc _)) hg3 (by simp) ?_
    intro k hk; cases hk; simp
   have hsz := hx3.size
   have hx := Hx1.out
   have hsx := hx.size
   have hw3 : w1.heap.size + 1 < w3.heap.size := by have := hg3.size; simp at this; omega
   have hne := MapF.lt hm3
   rw [World.size_alloc] at hsx hsz
   refine ⟨(hx.trans hx3).alloc _, Boxed.ext (Boxed.ext Hbx.out hx3) ((Ext.refl _).alloc _), ?_, ?_, ?_⟩
   ·exact QueE.made (E := spotE) (news := [.int .i64 (i : Int), .int .i64 (j : Int), .slice none 0 0]) (y := ((i, j), [])) (by have := (hx.trans hx3).size; exact this) ⟨_, rfl, SlF.nil _ _ _⟩ (fun _ _ _ => trivial)
   ·have e : put (fun _ => none) ((i : Int), (j : Int)) (.bool true) = seenF [(i, j)] := by
     rw [← seenF_nil, show ((i : Int), (j : Int)) = castP (i, j) from rfl, seenF_put]; rfl
    have := hm3.ext ((Ext.refl w3).alloc (.cells #[.int .i64 (i : Int), .int .i64 (j : Int), .slice none 0 0] 82))
    rw [← e]; exact this
   ·refine ⟨by omega, by omega, ?_, ?_⟩ <;> (simp [Value.ownBlock]; omega)
  have Hst0 := Lib.hid hst0
  clear hst0 Hmd hm3 hg3 Hx1 Hbx
  go_step3
  go_wp2_with fail
  generalize w3.alloc (.cells #[.int .i64 (i : Int), .int .i64 (j : Int), .slice none 0 0] 82) = w4 at Hst0 ⊢
  generalize w3.heap.size = bq at Hst0 ⊢
  go_loopg [12, 13, 14] (leftN g.length [(i, j)] [((i, j), [])]) (fun m tO ti v wr => ∃ (s : List (Nat × Nat)) (o dn : List Spot), tO = .slice none 0 0 ∧ ti = .bool false ∧ Hid (ASt w w1.heap.size (w1.heap.size + 1) A cap g.length s o v wr) ∧ Hid (Inv g.length (agN g) (refsN g) i j dn s o) ∧ Hid (Srch (agN g) (refsN g) s o res) ∧ leftN g.length s o ≤ m ∧ Hid (WInv dn s o))
  case atStart => exact ⟨_, _, _, rfl, rfl, Hst0, HI, Hsr, Nat.le_refl _, Lib.hid (WInv.init i j)⟩
  case round =>
   clear Hst0 HI Hsr
   obtain ⟨s, o, dn, rfl, rfl, Hst, HI, Hsr, hleft, Hwi⟩ := hrel
   obtain ⟨hol, hwl⟩ := Hwi.out.bound HI.out HW.out.len
   cases o with
   | nil =>
    have hres : res = none := by have := Hsr.out; cases this; rfl
    obtain ⟨rows, hl, ⟨_, gq, off, capq, rfl, _⟩, _⟩ := Hst.out.que
    clear hl HI Hsr hleft hol hwl Hwi
    subst hres
    rw [List.length_nil]
    go_wp2_with fail
    try rw [Exit.noGoto_ret]
    go_ret3
    exact ⟨_, rfl, Sl.nil _ _, Hst.out.ext⟩
   | cons x o =>
    obtain ⟨gq, off, capq, r, rfl, hcq, hcm, hrel, hcell⟩ := Hst.out.que.head
    obtain ⟨vw, rfl, hvw⟩ := hrel
    obtain ⟨hi1, hj1⟩ := HI.out.rng x (by simp)
    have d0 := hcell 0 _ rfl
    have d1 := hcell 1 _ rfl
    have d2 := hcell 2 _ rfl
    rw [Nat.add_zero] at d0
    have l0 := cell_lt d0
    have cb := Hst.out.gbox.cell
    have lb := cell_lt cb
    have hcap0 : (0 : Int) < ((o.length + 1 : Nat) : Int) := by omega
    have Hvw := Lib.hid hvw
    obtain ⟨Aw, cw, rfl⟩ := hvw.any.len
    rw [List.length_map] at d2 Hvw
    clear hvw hcell
    obtain ⟨⟨p, q⟩, way⟩ := x
    have hwy : way.length ≤ 160000 := hwl _ (List.mem_cons_self ..)
    have hol2 : o.length + 1 ≤ 160000 := by simpa using hol
    have Hwl := Lib.hid hwl
    clear hwl hol
    have hbx0 := heap_alloc_self wr (.cells #[.int .i64 (p : Int), .int .i64 (q : Int), .slice Aw way.length cw] 82)
    have Hbx0 := Lib.hid hbx0
    have hxa : Ext wr (wr.alloc (.cells #[.int .i64 (p : Int), .int .i64 (q : Int), .slice Aw way.length cw] 82)) := (Ext.refl wr).alloc _
    have Hxa := Lib.hid hxa
    cases ha : agN g p q
    ·have Ha := Lib.hid ha
     have hres : res = some way := by
      have h := Hsr.out
      cases h with
      | hit _ _ _ h => rfl
      | go _ _ _ _ h => rw [show agN g p q = true from h] at ha; cases ha
     subst hres
     clear hbx0 ha hxa HI Hsr hleft Hwi Hwl
     go_wp2_with fail
     refine (Hag.out _ (Hst.out.ext.trans Hxa.out) p q hi1 hj1).mono ?_
     rintro e w5 ⟨rfl, hx5⟩
     rw [Ha.out]
     have c2 := heap_cell (hx5.heap Hbx0.out) 2 _ rfl
     have lc := cell_lt c2
     have Hx5 := Lib.hid (Hxa.out.trans hx5)
     clear hx5
     go_wp2_with fail
     try rw [Exit.noGoto_ret]
     go_ret3
     exact ⟨_, rfl, (Hvw.out.ext Hx5.out).any, Hst.out.ext.trans Hx5.out⟩
    ·have Ha := Lib.hid ha
     have hI2 := HI.out.step HG.out ha
     have hL2 := HI.out.left HG.out ha
     have hS2 : Srch (agN g) (refsN g) (pushN way 0 (kidsN (refsN g) (p, q)) s o).1 (pushN way 0 (kidsN (refsN g) (p, q)) s o).2 res := by
      have h := Hsr.out
      cases h with
      | hit _ _ _ h => rw [show agN g p q = false from h] at ha; cases ha
      | go _ _ _ _ _ h => exact h
     have HI2 := Lib.hid hI2
     have HW2 := Lib.hid (Hwi.out.step (kidsN (refsN g) (p, q)))
     have HS2 := Lib.hid hS2
     have HL2 := Lib.hid hL2
     have Hleft := Lib.hid hleft
     have hlen := HG.out.len p q hi1 hj1 ha
     have Hlen := Lib.hid hlen
     clear hbx0 ha hxa HI Hsr hleft hI2 hS2 hL2 hlen Hwi Hwl
     go_wp2_with fail
     refine (Hag.out _ (Hst.out.ext.trans Hxa.out) p q hi1 hj1).mono ?_
     rintro e w5 ⟨rfl, hx5⟩
     rw [Ha.out]
     have c0 := heap_cell (hx5.heap Hbx0.out) 0 _ rfl
     have c1 := heap_cell (hx5.heap Hbx0.out) 1 _ rfl
     have c2 := heap_cell (hx5.heap Hbx0.out) 2 _ rfl
     replace cb := (Hxa.out.trans hx5).cell cb
     have lc := cell_lt c2
     replace lb := cell_lt cb
     have Hx5 := Lib.hid (Hxa.out.trans hx5)
     have Hb5 := Lib.hid (hx5.heap Hbx0.out)
     clear hx5 d0 d1 d2 l0
     go_wp2_with fail
     refine (Hls.out _ (Hst.out.ext.trans Hx5.out) q hj1).mono ?_
     rintro e w6 ⟨vb, rfl, hvb, hx6⟩
     obtain ⟨Ab, cbb, eb⟩ := hvb.any.len
     rw [List.length_map] at eb
     subst eb
     have Hvb := Lib.hid hvb
     have Hx6 := Lib.hid (Hx5.out.trans hx6)
     have Hb6 := Lib.hid (hx6.heap Hb5.out)
     replace c0 := hx6.cell c0
     replace c1 := hx6.cell c1
     replace c2 := hx6.cell c2
     replace cb := hx6.cell cb
     replace lc := cell_lt c2
     replace lb := cell_lt cb
     clear hvb hx6
     go_wp2_with fail
     refine (Hls.out _ (Hst.out.ext.trans Hx6.out) p hi1).mono ?_
     rintro e w7 ⟨va, rfl, hva, hx7⟩
     obtain ⟨Aa, caa, ea⟩ := hva.any.len
     rw [List.length_map] at ea
     subst ea
     have hst7 : BSt w w1.heap.size (w1.heap.size + 1) wr.heap.size A cap g.length (refsN g) ((p, q), way) (.slice Aw way.length cw) (.slice Aa (refsN g p).length caa) (.slice Ab (refsN g q).length cbb) s o (.slice (some ⟨gq, off, none⟩) (o.length + 1) capq) w7 := by
      have hx67 := hx7
      have hx7 := Hx6.out.trans hx7
      have hmb := Hst.out.seen.lt
      have hq := Hst.out.que.lt gq (by simp [Value.ownBlock])
      have hsz5 := Hx5.out.size
      have hsz6 := Hx6.out.size
      have hne : ∀ b : Nat, wr.heap.size ≤ b → b ≠ w1.heap.size + 1 ∧ some b ≠ (Value.slice (some ⟨gq, off, none⟩) (o.length + 1) capq).ownBlock := fun b hb => ⟨by omega, by simp [Value.ownBlock]; omega⟩
      refine ⟨Hst.out.later hx7, hx67.heap Hb6.out, (Hvw.out.ext hx7).mono (fun _ _ _ => rfl) (fun b hb _ => ⟨hb.1, by simp [Value.ownBlock]; exact hb.2⟩), ?_, ?_, ?_⟩
      ·have h := hva
       exact h.mono (fun _ _ _ => rfl) (fun b hb _ => hne b (by unfold New at hb; omega))
      ·have h := Hvb.out.ext hx67
       exact h.mono (fun _ _ _ => rfl) (fun b hb _ => hne b (by unfold New at hb; omega))
      ·have := Hst.out.ext.size
       have h0 := Boxed.lt' Hst.out.gbox
       exact ⟨this, by omega, by omega, by simp [Value.ownBlock]; omega⟩
     have Hst7 := Lib.hid hst7
     clear hst7 hva hx7 Hvb Hb6 Hx6 Hb5 Hx5 c0 c1 c2 cb lc lb Hbx0 Hxa Hvw Hst
     go_wp2_with fail
     obtain ⟨wo, rfl⟩ : ∃ wo : World, wo = wr := ⟨_, rfl⟩
     have hrl : (refsN g p).length ≤ 65 := Hrl.out p hi1
     have hkl : (kidsN (refsN g) (p, q)).length = (refsN g p).length := by unfold kidsN; rw [List.length_zip]; have h := Hlen.out; show min (refsN g p).length (refsN g q).length = (refsN g p).length; rw [← h]; exact Nat.min_self _
     have Hkl := Lib.hid hkl
     clear hkl
     go_loopw [14, 71] (fun v u wr2 => ∃ k : Nat, k ≤ (refsN g p).length ∧ u = .int .i64 k ∧ Hid (BSt w w1.heap.size (w1.heap.size + 1) wo.heap.size A cap g.length (refsN g) ((p, q), way) (.slice Aw way.length cw) (.slice Aa (refsN g p).length caa) (.slice Ab (refsN g q).length cbb) (pushN way 0 ((kidsN (refsN g) (p, q)).take k) s o).1 (pushN way 0 ((kidsN (refsN g) (p, q)).take k) s o).2 v wr2)) (fun _ u _ => (refsN g p).length - (intOf u).toNat)
     case atStart => exact ⟨0, by omega, rfl, Hst7⟩
     case round =>
      clear Hst7
      obtain ⟨k, hk, rfl, Hb⟩ := hrel
      by_cases hlt : k < (refsN g p).length
      ·have hk2 : k < (kidsN (refsN g) (p, q)).length := by rw [Hkl.out]; exact hlt
       have hlq : k < (refsN g q).length := by have := Hlen.out; omega
       have hpk : (kidsN (refsN g) (p, q))[k] = ((refsN g p).getD k 0, (refsN g q).getD k 0) := by
        simp [kidsN, List.getD_eq_getElem?_getD, List.getElem?_eq_getElem hlt, List.getElem?_eq_getElem hlq]
       have hstep := pushN_snoc way (kidsN (refsN g) (p, q))[k] ((kidsN (refsN g) (p, q)).take k) 0 s o
       rw [take_one _ k hk2, List.length_take, Nat.min_eq_left (by omega), Nat.zero_add, hpk] at hstep
       obtain ⟨Aa', ca', ea, hsa⟩ := Sl.nat Hb.out.la.any
       obtain ⟨Ab', cb', eb, hsb⟩ := Sl.nat Hb.out.lb.any
       obtain ⟨ba, oa, rfl, ca⟩ := hsa k hlt
       obtain ⟨bb, ob, rfl, cb⟩ := hsb k hlq
       simp only [Value.slice.injEq] at ea eb
       obtain ⟨rfl, _, rfl⟩ := ea
       obtain ⟨rfl, _, rfl⟩ := eb
       have la := cell_lt ca
       have lb := cell_lt cb
       generalize hso : pushN way 0 ((kidsN (refsN g) (p, q)).take k) s o = so at Hb hstep ⊢
       obtain ⟨sk, ok⟩ := so
       have Hso := Lib.hid hso
       clear hso
       simp only [] at Hb hstep
       generalize (refsN g p).getD k 0 = ra at *
       generalize (refsN g q).getD k 0 = rb at *
       have hk0 : (0 : Int) ≤ (k : Int) := by omega
       have hk1 : (k : Int) < ((refsN g p).length : Int) := by omega
       have hk3 : (k : Int) < ((refsN g q).length : Int) := by omega
       clear hsa hsb hpk
       by_cases hin : (ra, rb) ∈ sk
       ·rw [if_pos hin] at hstep
        have Hstep := Lib.hid hstep
        have Hin := Lib.hid hin
        clear hstep hin
        go_wp2_with (at_lookup; refine wpList_lookup_F pairK (by rfl) _ _ 80 4 (by rfl) Tryz.underlying80 (.bool false) zeroBool _ (seenF sk) (castP (ra, rb)) (by rfl) (by rfl) (Hb.out.st.seen.ext ((Ext.refl _).alloc _)) ?_; rw [seenF_getD, decide_eq_true Hin.out])
        go_roundw
        case rel => exact ⟨k + 1, by omega, by go_num, by rw [Hstep.out]; exact Lib.hid (Hb.out.later ((Ext.refl _).alloc _))⟩
        case measure => simp [intOf]; omega
       ·rw [if_neg hin] at hstep
        have Hstep := Lib.hid hstep
        have Hin := Lib.hid hin
        clear hstep hin
        have hwd : wr.heap.size < (wr.alloc (.cells #[.int .i64 (ra : Int), .int .i64 (rb : Int)] 61)).heap.size := by simp
        go_wp2_with (first | (at_lookup; refine wpList_lookup_F pairK (by rfl) _ _ 80 4 (by rfl) Tryz.underlying80 (.bool false) zeroBool _ (seenF sk) (castP (ra, rb)) (by rfl) (by rfl) (Hb.out.st.seen.ext ((Ext.refl _).alloc _)) ?_; rw [seenF_getD, decide_eq_false Hin.out]) | (at_mapUpdate; refine wpList_update_F pairK (by rfl) _ _ _ 80 4 (by rfl) Tryz.underlying80 _ (seenF sk) (castP (ra, rb)) (by rfl) (by rfl) (Hb.out.st.seen.ext ((Ext.refl _).alloc _)) ?_; intro w8 hm8 hg8))
        have hbp : w8.heap[wr.heap.size]? = some (.cells #[.int .i64 (ra : Int), .int .i64 (rb : Int)] 61 (0, 0)) := (hg8.block _ hwd (fun e => by have h := Hb.out.st.seen.lt; injection e with e; omega)).trans (heap_alloc_self wr _)
        have Hb8 := Lib.hid ((Hb.out.later ((Ext.refl wr).alloc (.cells #[.int .i64 (ra : Int), .int .i64 (rb : Int)] 61))).mark hm8 hg8)
        have Hbp := Lib.hid hbp
        have hS : ∀ w', Ext w8 w' → w'.cell? ⟨wo.heap.size, 2, none⟩ = some (.slice Aw way.length cw) ∧ w'.cell? ⟨wr.heap.size, 0, none⟩ = some (.int .i64 (ra : Int)) ∧ w'.cell? ⟨wr.heap.size, 1, none⟩ = some (.int .i64 (rb : Int)) := fun w' hx =>
         ⟨heap_cell (hx.heap Hb8.out.box) 2 _ rfl, heap_cell (hx.heap Hbp.out) 0 _ rfl, heap_cell (hx.heap Hbp.out) 1 _ rfl⟩
        have HS := Lib.hid hS
        have Hvl := Lib.hid Hb.out.st.que.lt
        have hlw : w8.heap.size = w8.heap.size := rfl
        clear hbp hm8 hg8 hS hlw
        obtain ⟨rows, hrl, hque, hrr⟩ := Hb8.out.st.que
        obtain ⟨i3, hi3, hz3, hs3, hb3⟩ := info_parts infoI
        obtain ⟨i82, z82, hi82, hz82, hs82, hb82, hc82⟩ := slice83.info
        have hokl : ok.length ≤ 160065 := by
         have h1 := pushN_len way ((kidsN (refsN g) (p, q)).take k) 0 s o
         rw [Hso.out] at h1
         rw [List.length_take] at h1
         simp only [] at h1
         omega
        have hbase : w.heap.size ≤ w8.heap.size := Hb8.out.st.ext.size
        have hcwl : way.length ≤ cw := by have := Hb8.out.way.any.cap_le; simpa using this
        have Hque := Lib.hid hque
        have Hrr := Lib.hid hrr
        have Hrl := Lib.hid hrl
        have Hi3 := Lib.hid hi3
        have Hz3 := Lib.hid hz3
        have Hs3 := Lib.hid hs3
        have Hb3 := Lib.hid hb3
        have Hi82 := Lib.hid hi82
        have Hz82 := Lib.hid hz82
        have Hs82 := Lib.hid hs82
        have Hb82 := Lib.hid hb82
        have Hc82 := Lib.hid hc82
        clear hque hrr hrl hi3 hz3 hs3 hb3 hi82 hz82 hs82 hb82 hc82
        go_frame
        go_region_held3 (fun w' => w'.cell? ⟨wo.heap.size, 2, none⟩ = some (.slice Aw way.length cw) ∧ w'.cell? ⟨wr.heap.size, 0, none⟩ = some (.int .i64 (ra : Int)) ∧ w'.cell? ⟨wr.heap.size, 1, none⟩ = some (.int .i64 (rb : Int)))
         (first | exact HS.out _ (Ext.refl _).drew | exact HS.out _ ((Ext.refl _).drew.alloc _) | exact HS.out _ hx9 | exact HS.out _ (hx9.alloc _) | exact hS5)
         (first
          | (refine step_append_grows (by rfl) _ _ 24 (by rfl) 3 i3 (.int .i64 0) 1 8 Tryz.underlying24 Hi3.out Hz3.out Hs3.out Hb3.out rfl (by decide) Aw way.length way.length ((way.map fun (n : Nat) => (n : Int)).map (Value.int .i64)) (by rfl) (sl_cells (Hb8.out.way.any) (by simp)).1 (by simp) (sl_cells (((Hb8.out.way.ext ((Ext.refl w8).drew.alloc (.cells #[.int .i64 (k : Int)] 3)))).any) (by simp)).2 ⟨w8.heap.size, 0, none⟩ 1 1 [.int .i64 (k : Int)] (by rfl) (by rfl) (cell_one_new w8.drew _ _) (by simp [Value.oneCell']) (by omega) (by simp only [maxLen]; omega) (by omega) ?_; intro v1 w9 hown9 hg9; obtain ⟨g9, c9, rfl⟩ := ownsRow_succ hown9; have hx9 : Ext w8 w9 := Below.grown ((Ext.refl w8).drew.alloc (.cells #[.int .i64 (k : Int)] 3)) hg9 (by simp) (by intro k hk; cases hk))
          | (refine step_append_que (by rfl) _ _ 83 (by rfl) w.heap.size 3 82 i82 z82 40 Tryz.underlying83 Hi82.out Hz82.out Hs82.out Hb82.out Hc82.out (by decide) _ _ rows.flatten (by rfl) (Hque.out.ext (hx9.alloc _)) (by have := hx9.size; simp; omega) ⟨w9.heap.size, 0, none⟩ 1 [.int .i64 (ra : Int), .int .i64 (rb : Int), .slice (some ⟨g9, 0, none⟩) (way.length + 1) c9] (by rfl) (by rfl) (World.news_of_block (cs := #[.int .i64 (ra : Int), .int .i64 (rb : Int), .slice (some ⟨g9, 0, none⟩) (way.length + 1) c9]) (t := 82) (fr := (0, 0)) (heap_alloc_new w9 _)) (by simp [Value.oneCell']) (by simp only [maxLen, List.length_cons]; omega) (by simp only [List.length_cons]; omega) ?_; intro v5 w10 hq10 hg10 hat10; have hS5 : w10.cell? ⟨wo.heap.size, 2, none⟩ = some (.slice Aw way.length cw) ∧ w10.cell? ⟨wr.heap.size, 0, none⟩ = some (.int .i64 (ra : Int)) ∧ w10.cell? ⟨wr.heap.size, 1, none⟩ = some (.int .i64 (rb : Int)) := ⟨hg10.cell (HS.out _ (hx9.alloc _)).1 (fun e => Hb8.out.nbx.2.2.2 e.symm), hg10.cell (HS.out _ (hx9.alloc _)).2.1 (fun e => absurd (Hvl.out _ e.symm).2 (Nat.lt_irrefl _)), hg10.cell (HS.out _ (hx9.alloc _)).2.2 (fun e => absurd (Hvl.out _ e.symm).2 (Nat.lt_irrefl _))⟩))
        all_goals
         have hv1 : SlF (New w8) intE w9 (.slice (some ⟨g9, 0, none⟩) (way.length + 1) c9) ((way ++ [k]).map fun (n : Nat) => (n : Int)) := by
          have h := ownsRow_sl (w := w8.drew.alloc (.cells #[.int .i64 (k : Int)] 3)) (xs := (way ++ [k]).map fun (n : Nat) => (n : Int)) (by simpa using hown9)
          exact h.mono (fun _ _ _ => rfl) (fun b hb _ => by unfold New at hb ⊢; simp at hb; omega)
         have hb10 := Hb8.out.push (p := (ra, rb)) (k := k) (e := 82) (hx9.alloc _) Hrl.out Hrr.out (hv1.ext ((Ext.refl w9).alloc _)) hq10 hg10 hat10
         have Hb10 := Lib.hid hb10
         clear hb10 hv1 hS5 hq10 hg10 hat10 hown9 hg9 hx9
         go_wp2_with fail
         go_roundw
         case rel => exact ⟨k + 1, by omega, by go_num, by rw [Hstep.out]; exact Hb10⟩
         case measure => simp [intOf]; omega
      ·have hke : (kidsN (refsN g) (p, q)).take k = kidsN (refsN g) (p, q) := List.take_of_length_le (by rw [Hkl.out]; omega)
       rw [hke] at Hb
       clear hke
       have hL3 := HL2.out
       have hgk : 0 < gk ∧ leftN g.length (pushN way 0 (kidsN (refsN g) (p, q)) s o).1 (pushN way 0 (kidsN (refsN g) (p, q)) s o).2 ≤ gk - 1 := by
        have hl := Hleft.out
        have hL4 : leftN g.length (pushN way 0 (kidsN (refsN g) (p, q)) s o).1 (pushN way 0 (kidsN (refsN g) (p, q)) s o).2 < leftN g.length s (((p, q), way) :: o) := hL3
        omega
       have Hgk := Lib.hid hgk
       have hgk0 := hgk.1
       have HI3 : Hid (Inv g.length (agN g) (refsN g) i j (dn ++ [((p, q), way)]) (pushN way 0 (kidsN (refsN g) (p, q)) s o).1 (pushN way 0 (kidsN (refsN g) (p, q)) s o).2) := HI2
       have HW3 : Hid (WInv (dn ++ [((p, q), way)]) (pushN way 0 (kidsN (refsN g) (p, q)) s o).1 (pushN way 0 (kidsN (refsN g) (p, q)) s o).2) := HW2
       clear hL3 HL2 hgk HI2 HW2 Hleft
       generalize (pushN way 0 (kidsN (refsN g) (p, q)) s o).1 = s2 at *
       generalize (pushN way 0 (kidsN (refsN g) (p, q)) s o).2 = o2 at *
       obtain ⟨g2, off2, cap2, r2, rfl, hc2, hm2, hrel2, hcell2⟩ := Hb.out.st.que.head
       clear hrel2 hcell2
       have hkk : decide ((k : Int) < ((refsN g p).length : Int)) = false := by simp; omega
       have hmax : cap2 ≤ 9223372036854775807 := by unfold maxLen at hm2; omega
       by_cases hc1 : cap2 = 1
       ·have ho2 : o2 = [] := List.eq_nil_of_length_eq_zero (by omega)
        subst ho2
        subst hc1
        have hst : ASt w w1.heap.size (w1.heap.size + 1) A cap g.length s2 [] (.slice (some ⟨g2, off2, none⟩) 0 0) wr := ⟨Hb.out.st.ext, Hb.out.st.gbox, Hb.out.st.que.pop_last, Hb.out.st.seen, Hb.out.st.nb⟩
        have Hst2 := Lib.hid hst
        clear hst Hb
        go_wp2_with fail
        go_roundg (gk - 1)
        case measure => omega
        case rel => exact ⟨s2, _, _, rfl, rfl, Hst2, HI3, HS2, Hgk.out.2, HW3⟩
       ·have hc1' : 1 < cap2 := by omega
        have hst : ASt w w1.heap.size (w1.heap.size + 1) A cap g.length s2 o2 (.slice (some ⟨g2, off2 + 3, none⟩) o2.length (cap2 - 1)) wr := ⟨Hb.out.st.ext, Hb.out.st.gbox, Hb.out.st.que.pop hc1', Hb.out.st.seen, Hb.out.st.nb⟩
        have Hst2 := Lib.hid hst
        clear hst Hb
        go_wp2_with fail
        go_roundg (gk - 1)
        case measure => omega
        case rel => exact ⟨s2, _, _, rfl, rfl, Hst2, HI3, HS2, Hgk.out.2, HW3⟩
 ·rw [if_neg h0]
  have hne : (errG g [a, b] != 0) = true := by simpa using h0
  generalize errG g [a, b] = er at hop hne ⊢
  have Hop := Lib.hid hop
  clear hop hag hls hg hT h0 hG
  go_enter Tryz.func15, Tryz.ntmps15
  go_wp2_with fail
  go_step3
  go_wp2_with fail
  refine Hop.out.mono ?_
  rintro e w1 ⟨rfl, hx1⟩
  go_wp2_with fail
  go_ret3
  exact ⟨_, rfl, Sl.nil _ _, (((Ext.refl w).alloc _).trans hx1).alloc _⟩
end Go.Proofs.YtldnjnnhfeobdaaGreatDoor
/- What the reference's search keeps in memory: the spots to do, the pairs seen; how appends change it. No condition. -/
namespace Go.Proofs.YtldnjnnhfeobdaaGreatDoor
open Go.RowKit Go.Shelf
theorem flat_pair : FlatE pairE := fun _ _ _ _ _ _ h => h
section
variable {α : Type} {F : Nat → Prop} {E : Elt α} {w w' : World} {base : Nat} {e : TypeId} {v : Value} {xs : List α}
theorem Own.keptG {G : Nat → Prop} (h : Own F E w base e v xs) {row : Option Nat} (hg : w.grownBy w' row) (hne : v.ownBlock = none ∨ v.ownBlock ≠ row) (hF : ∀ b, F b → some b ≠ row) (hG : ∀ b, F b → b < w.heap.size → G b) : Own G E w' base e v xs := by
 obtain ⟨rows, hl, hq, hr⟩ := h
 exact ⟨rows, hl, hq.kept hg hne, fun i x r h1 h2 => E.mono _ _ _ _ _ _ (fun b hb hlt => hg.block b hlt (hF b hb.1)) (fun b hb hlt => ⟨hG b hb.1 hlt, hb.2⟩) (hr i x r h1 h2)⟩
theorem Own.keptFlat (hflat : FlatE E) (h : Own F E w base e v xs) {row : Option Nat} (hg : w.grownBy w' row) (hne : v.ownBlock = none ∨ v.ownBlock ≠ row) : Own F E w' base e v xs := by
 obtain ⟨rows, hl, hq, hr⟩ := h
 exact ⟨rows, hl, hq.kept hg hne, fun i x r h1 h2 => hflat _ _ _ _ _ _ (hr i x r h1 h2)⟩
theorem Own.pushed {y : α} {news : List Value} {v' : Value} {rows : List (List Value)} (hl : rows.length = xs.length) (hr : ∀ (i : Nat) (x : α) (r : List Value), xs[i]? = some x → rows[i]? = some r → E.rel (fun b => F b ∧ some b ≠ v.ownBlock) w x r)
  (hy : E.rel (fun b => F b ∧ some b ≠ v.ownBlock) w y news) (hq : w'.ownsRow base e E.k v' (xs.length + 1) (rows.flatten ++ news)) (hg : w.grownBy w' v.ownBlock) (hat : v'.ownBlock = v.ownBlock ∨ ∃ b, v'.ownBlock = some b ∧ w.heap.size ≤ b) :
  Own F E w' base e v' (xs ++ [y]) := by
 have keep : ∀ x2 r2, E.rel (fun b => F b ∧ some b ≠ v.ownBlock) w x2 r2 → E.rel (fun b => F b ∧ some b ≠ v'.ownBlock) w' x2 r2 := by
  intro x2 r2 h3
  refine E.mono _ _ _ _ _ _ (fun b hb hbl => hg.block b hbl hb.2) (fun b hb hbl => ⟨hb.1, ?_⟩) h3
  rcases hat with hat | ⟨b', hat, hle⟩
  ·rw [hat]; exact hb.2
  ·rw [hat]; intro e; injection e with e; omega
 refine ⟨rows ++ [news], by simp [hl], by simpa using hq, fun i x r h1 h2 => ?_⟩
 by_cases hk : i < xs.length
 ·rw [List.getElem?_append_left hk] at h1
  rw [List.getElem?_append_left (by omega)] at h2
  exact keep _ _ (hr i x r h1 h2)
 ·rw [List.getElem?_append_right (by omega)] at h1
  rw [List.getElem?_append_right (by omega), hl] at h2
  have hk0 : i - xs.length = 0 := by have := (List.getElem?_eq_some_iff.1 h1).1; simp at this; omega
  rw [hk0] at h1 h2
  simp at h1 h2
  subst h1 h2
  exact keep _ _ hy
end
/-- append of one element to a row of the call's own, in a region that draws its order -/
theorem step_append_own {P : Program} {ops : Array Oper} {o : Oper} {a : Act} {w : World} {K : Act → World → Prop} {Q : Exit → Act → World → Prop} {E : Prop}
  (hg : o.guard = none) (s x : Operand) (t : TypeId) (hop : o.op = Op.call { callee := Callee.builtin Builtin.append, args := #[s, x], argTypes := #[t, t] })
  (base k : Nat) (e : TypeId) (i : TypeInfo) (z : Value) (bytes : Nat) (ht : P.underlying t = some (.slice e)) (hi : P.info? e = some i) (hz : i.zero = some z) (hsize : i.size = k) (hby : i.bytes = bytes) (hzs : z.cells.size = k) (hsz : 0 < k)
  (v : Value) (n : Nat) (xs : List Value) (hs : a.eval s = v) (h : w.ownsRow base e k v n xs) (hbase : base ≤ w.heap.size)
  (ad : Addr) (c : Nat) (news : List Value) (hx : a.eval x = .slice (some ad) 1 c) (hl : news.length = k) (hnews : ∀ j u, news[j]? = some u → w.cell? (ad.add j) = some u) (h1 : ∀ u ∈ news, u.oneCell' = true)
  (h63 : n + 1 ≤ maxLen) (hbytes : (n + 1) * bytes ≤ 140737488355328)
  (hK : ∀ v' w', w'.ownsRow base e k v' (n + 1) (xs ++ news) → w.grownBy w' v.ownBlock → (v'.ownBlock = v.ownBlock ∨ ∃ b, v'.ownBlock = some b ∧ w.heap.size ≤ b) → K (a.put o.dst v') w') :
  if Region.wanted o (yielded ops a.tmps) = true then Oper.wp P o a w K Q else E := by
 have hw : Region.wanted o (yielded ops a.tmps) = true := by simp [Region.wanted, hg]
 rw [if_pos hw]
 obtain ⟨v', w', hrun, h2, h3, _, h5⟩ := run_append_own_at (P := P) w base t o.type e i z k bytes ht hi hz hsize hby hzs hsz v n xs h ad 1 c news (by rw [hl, Nat.one_mul]) hnews h1 h63 hbytes hbase
 unfold Oper.wp execOp
 simp only [hop, resolve, invoke, builtin, Sem.run_bind, Sem.run_pure, Result.andThen_ok, List.map_toArray, List.map_cons, List.map_nil, hs, hx, hrun]
 refine hK v' w' h2 h3 ?_
 rcases h5 with h5 | h5
 ·exact .inl h5
 ·exact .inr ⟨_, h5, Nat.le_refl _⟩
/-! ### the state of the search -/
def Off (v u : Value) : Nat → Prop := fun b => some b ≠ v.ownBlock ∧ some b ≠ u.ownBlock
structure SSt (w : World) (T : List Spot) (S : List (Nat × Nat)) (vt vs : Value) (wr : World) : Prop where
 ext : Ext w wr
 todo : Own (fun b => some b ≠ vs.ownBlock) spotE wr w.heap.size 88 vt T
 seen : Own Any pairE wr w.heap.size 61 vs (S.map castP)
 ne : ∀ b, vt.ownBlock = some b → vs.ownBlock ≠ some b
variable {w wr wr' : World} {T : List Spot} {S : List (Nat × Nat)} {vt vs : Value}
theorem SSt.later (h : SSt w T S vt vs wr) (hx : Ext wr wr') : SSt w T S vt vs wr' := ⟨h.ext.trans hx, h.todo.kept hx, h.seen.kept hx, h.ne⟩
theorem SSt.ne2 (h : SSt w T S vt vs wr) : vs.ownBlock = none ∨ vs.ownBlock ≠ vt.ownBlock := by
 cases e : vs.ownBlock with
 | none => exact .inl rfl
 | some b => exact .inr fun h2 => h.ne b h2.symm e
/-- a round of the search: the spot that is looked at, in its box, and the references of its types -/
structure USt (w : World) (bx : Nat) (x : Spot) (rp rq : List Nat) (vw va vb : Value) (T : List Spot) (S : List (Nat × Nat)) (vt vs : Value) (wr : World) : Prop where
 st : SSt w T S vt vs wr
 box : wr.heap[bx]? = some (.cells #[.int .i64 (x.1.1 : Int), .int .i64 (x.1.2 : Int), vw] 88 (0, 0))
 way : SlF (Off vt vs) intE wr vw (x.2.map fun (n : Nat) => (n : Int))
 la : SlF (Off vt vs) intE wr va (rp.map fun (n : Nat) => (n : Int))
 lb : SlF (Off vt vs) intE wr vb (rq.map fun (n : Nat) => (n : Int))
 nbx : w.heap.size ≤ bx ∧ Off vt vs bx
variable {bx : Nat} {x : Spot} {rp rq : List Nat} {vw va vb : Value}
theorem USt.later (h : USt w bx x rp rq vw va vb T S vt vs wr) (hx : Ext wr wr') : USt w bx x rp rq vw va vb T S vt vs wr' :=
 ⟨h.st.later hx, hx.heap h.box, h.way.ext hx, h.la.ext hx, h.lb.ext hx, h.nbx⟩
theorem USt.lt (h : USt w bx x rp rq vw va vb T S vt vs wr) : bx < wr.heap.size := (Array.getElem?_eq_some_iff.1 h.box).1
/-- another own block, old or new, in the place of one -/
theorem off_new {v v' u : Value} {n b : Nat} (hat : v'.ownBlock = v.ownBlock ∨ ∃ b, v'.ownBlock = some b ∧ n ≤ b) (hb : some b ≠ v.ownBlock) (hlt : b < n) : some b ≠ v'.ownBlock := by
 rcases hat with h | ⟨c, h, hle⟩
 ·rw [h]; exact hb
 ·rw [h]; intro e; injection e with e; omega
theorem USt.push (h : USt w bx x rp rq vw va vb T S vt vs wr) {w4 w5 : World} {v1 vt' : Value} {p : Nat × Nat} {way : List Nat} {rows : List (List Value)} (hl : rows.length = T.length)
  (hr : ∀ (i : Nat) (y : Spot) (r : List Value), T[i]? = some y → rows[i]? = some r → spotE.rel (fun b => some b ≠ vs.ownBlock ∧ some b ≠ vt.ownBlock) wr y r) (hx4 : Ext wr w4)
  (hv1 : SlF (New wr) intE w4 v1 (way.map fun (n : Nat) => (n : Int)))
  (hq : w5.ownsRow w.heap.size 88 3 vt' (T.length + 1) (rows.flatten ++ [.int .i64 (p.1 : Int), .int .i64 (p.2 : Int), v1])) (hg : w4.grownBy w5 vt.ownBlock) (hat : vt'.ownBlock = vt.ownBlock ∨ ∃ b, vt'.ownBlock = some b ∧ w4.heap.size ≤ b) :
  USt w bx x rp rq vw va vb (T ++ [(p, way)]) S vt' vs w5 := by
 have h4 := h.later hx4
 have hoff : ∀ b, Off vt vs b → b < w4.heap.size → Off vt' vs b := fun b hb hlt => ⟨off_new (v' := vt') (u := vt) hat hb.1 hlt, hb.2⟩
 have hnew : ∀ b, New wr b → b < w4.heap.size → some b ≠ vs.ownBlock ∧ some b ≠ vt.ownBlock := by
  intro b hb _
  unfold New at hb
  refine ⟨fun e => ?_, fun e => ?_⟩
  ·have := (h.st.seen.lt b e.symm).2; omega
  ·have := (h.st.todo.lt b e.symm).2; omega
 refine ⟨⟨Below.grown h4.st.ext hg h4.st.ext.size (fun b hb => (h4.st.todo.lt b hb).1), ?_, ?_, ?_⟩, ?_, ?_, ?_, ?_, ?_⟩
 ·exact Own.pushed (E := spotE) (F := fun b => some b ≠ vs.ownBlock) (y := (p, way)) (e := 88) hl (fun i x r h1 h2 => Elt.ext (hr i x r h1 h2) hx4) ⟨v1, rfl, hv1.mono (fun _ _ _ => rfl) hnew⟩ hq hg hat
 ·exact h4.st.seen.keptFlat flat_pair hg h4.st.ne2
 ·intro b hb e
  rcases hat with h5 | ⟨c, h5, hle⟩
  ·exact h4.st.ne b (by rw [← h5]; exact hb) e
  ·rw [h5] at hb
   injection hb with hb
   have := (h4.st.seen.lt b e).2
   omega
 ·rw [hg.block bx h4.lt (h4.nbx.2.1)]; exact h4.box
 ·exact h4.way.mono (fun b hb hlt => hg.block b hlt hb.1) hoff
 ·exact h4.la.mono (fun b hb hlt => hg.block b hlt hb.1) hoff
 ·exact h4.lb.mono (fun b hb hlt => hg.block b hlt hb.1) hoff
 ·exact ⟨h4.nbx.1, hoff bx h4.nbx.2 h4.lt⟩
/-! ### its sizes -/
structure RInvA (n : Nat) (ag : Nat → Nat → Bool) (rf : Nat → List Nat) (dn o : List Spot) (S : List (Nat × Nat)) : Prop where
 rng : ∀ e ∈ dn ++ o, e.1.1 < n ∧ e.1.2 < n
 nodup : S.Nodup
 srng : ∀ p ∈ S, p.1 < n ∧ p.2 < n
 eq : (dn ++ o).length = S.length + 1
 le : ∀ e ∈ dn ++ o, e.2.length ≤ dn.length
theorem RInvA.init {n a b : Nat} {ag : Nat → Nat → Bool} {rf : Nat → List Nat} (ha : a < n) (hb : b < n) : RInvA n ag rf [] [((a, b), [])] [] :=
 ⟨fun e he => by simp at he; subst he; exact ⟨ha, hb⟩, by simp, fun p hp => by simp at hp, rfl, fun e he => by simp at he; subst he; simp⟩
theorem RInvA.step {n : Nat} {ag : Nat → Nat → Bool} {rf : Nat → List Nat} {dn o : List Spot} {S : List (Nat × Nat)} {x : Spot} (G : AbsGraph n ag rf) (I : RInvA n ag rf dn (x :: o) S) :
  RInvA n ag rf (dn ++ [x]) (pushN x.2 0 (kidsN rf x.1) S o).2 (pushN x.2 0 (kidsN rf x.1) S o).1 := by
 obtain ⟨new, hp, hnew, _, hnd⟩ := pushN_spec x.2 (kidsN rf x.1) 0 S o
 rw [hp]
 have hx := I.rng x (by simp)
 have hk : ∀ c ∈ kidsN rf x.1, c.1 < n ∧ c.2 < n := by
  intro c hc
  have h1 := List.of_mem_zip (show (c.1, c.2) ∈ (rf x.1.1).zip (rf x.1.2) from hc)
  exact ⟨G.rng _ hx.1 _ h1.1, G.rng _ hx.2 _ h1.2⟩
 have hnr : ∀ e ∈ new, e.1.1 < n ∧ e.1.2 < n := by
  intro e he
  obtain ⟨_, m, hm, h1, _⟩ := hnew e he
  rw [h1]
  exact hk _ (List.getElem_mem hm)
 have hxl := I.le x (by simp)
 refine ⟨fun e he => ?_, hnd I.nodup, fun p hp => ?_, ?_, fun e he => ?_⟩
 ·simp only [List.mem_append, List.mem_singleton] at he
  rcases he with (he | rfl) | he | he
  ·exact I.rng e (by simp [he])
  ·exact hx
  ·exact I.rng e (by simp [he])
  ·exact hnr e he
 ·rcases List.mem_append.1 hp with hp | hp
  ·exact I.srng p hp
  ·obtain ⟨e, he, rfl⟩ := List.mem_map.1 hp
   exact hnr e he
 ·have := I.eq
  simp at this ⊢
  omega
 ·rw [List.length_append, List.length_singleton]
  simp only [List.mem_append, List.mem_singleton] at he
  rcases he with (he | rfl) | he | he
  ·have := I.le e (by simp [he]); omega
  ·omega
  ·have := I.le e (by simp [he]); omega
  ·obtain ⟨_, m, hm, _, h2⟩ := hnew e he
   rw [h2, List.length_append, List.length_singleton]
   omega
theorem RInvA.bound {n : Nat} {ag : Nat → Nat → Bool} {rf : Nat → List Nat} {dn o : List Spot} {S : List (Nat × Nat)} (I : RInvA n ag rf dn o S) (hn : n ≤ 400) : (dn ++ o).length ≤ 160001 ∧ S.length ≤ 160000 := by
 have h1 := pairs_le I.nodup I.srng
 have h2 : n * n ≤ 400 * 400 := Nat.mul_le_mul hn hn
 have := I.eq
 omega
end Go.Proofs.YtldnjnnhfeobdaaGreatDoor
/- Small facts about slices of the call's own. No condition. -/
namespace Go.Proofs.YtldnjnnhfeobdaaGreatDoor
open Go.RowKit Go.Shelf
theorem Own.one {α : Type} {F : Nat → Prop} {E : Elt α} {w : World} {base : Nat} {e : TypeId} {y : α} {news : List Value} (hb : base ≤ w.heap.size) (hy : E.rel F w y news) : Own F E (w.alloc (.cells news.toArray e)) base e (.slice (some ⟨w.heap.size, 0, none⟩) 1 1) [y] := by
 have hl := E.len _ _ _ _ hy
 refine ⟨[news], rfl, ⟨by simp [hl], .inr ⟨w.heap.size, 1, news.toArray, rfl, hb, heap_alloc_self _ _, Nat.le_refl _, by simp [maxLen], by simp [hl], by simp [hl, List.take_of_length_le]⟩⟩, fun i x r h1 h2 => ?_⟩
 cases i with
 | zero =>
  simp at h1 h2
  subst h1 h2
  refine E.mono _ _ _ _ _ _ (fun b _ hlt => Below.block ((Ext.refl w).alloc (.cells news.toArray e)) b hlt) (fun b hb hlt => ⟨hb, ?_⟩) hy
  simp [Value.ownBlock]
  omega
 | succ i => simp at h1
theorem Own.at {α : Type} {F : Nat → Prop} {E : Elt α} {w : World} {base : Nat} {e : TypeId} {v : Value} {xs : List α} {i : Nat} {x : α} (h : Own F E w base e v xs) (hi : xs[i]? = some x) :
  ∃ g cap r, v = .slice (some ⟨g, 0, none⟩) xs.length cap ∧ xs.length ≤ cap ∧ E.rel (fun b => F b ∧ some b ≠ v.ownBlock) w x r ∧ ∀ j u, r[j]? = some u → w.cell? ⟨g, i * E.k + j, none⟩ = some u := by
 obtain ⟨rows, hl, ho, hr⟩ := h
 have hk : ∀ r ∈ rows, r.length = E.k := by
  intro r hm
  obtain ⟨i, hi, rfl⟩ := List.mem_iff_getElem.1 hm
  exact E.len _ _ _ _ (hr i (xs[i]'(by omega)) rows[i] (List.getElem?_eq_getElem (by omega)) (List.getElem?_eq_getElem hi))
 have hlt : i < xs.length := (List.getElem?_eq_some_iff.1 hi).1
 rcases ho.2 with ⟨rfl, h0⟩ | ⟨g, cap, cur, rfl, hg, hrest⟩
 ·omega
 ·have hrow : rows[i]? = some (rows[i]'(by omega)) := List.getElem?_eq_getElem (by omega)
  refine ⟨g, cap, rows[i]'(by omega), rfl, hrest.2.1, hr i x _ hi hrow, fun j u hj => ?_⟩
  have hc := ho.cells (g := g) rfl (i * E.k + j) u (flatten_get rows hk i j _ u hrow hj)
  have ha : (⟨g, 0, none⟩ : Addr).add (i * E.k + j) = ⟨g, i * E.k + j, none⟩ := by unfold Addr.add; split <;> simp_all
  rwa [ha] at hc
theorem Sl.natF {F : Nat → Prop} {w : World} {v : Value} {ns : List Nat} (h : SlF F intE w v (ns.map fun (n : Nat) => (n : Int))) : ∃ A cap, v = .slice A ns.length cap ∧
  ∀ i, i < ns.length → ∃ b off, A = some ⟨b, off, none⟩ ∧ F b ∧ w.cell? ⟨b, off + i, none⟩ = some (.int .i64 (ns.getD i 0 : Nat)) := by
 obtain ⟨A, cap, e, h⟩ := h
 rw [List.length_map] at e
 refine ⟨A, cap, e, fun i hi => ?_⟩
 obtain ⟨b, off, cs, hA, ⟨hF, _⟩, rfl, hc⟩ := h i (ns.getD i 0 : Nat) (by simp [List.getElem?_map, List.getD_eq_getElem?_getD, List.getElem?_eq_getElem hi])
 exact ⟨b, off, hA, hF, by simpa [intE] using hc 0 _ rfl⟩
end Go.Proofs.YtldnjnnhfeobdaaGreatDoor
/- Contracts of the reference: brands, parts, what may be above. Conditions: lengths below 2^20. -/
namespace Go.Proofs.YtldnjnnhfeobdaaGreatDoor
open Go.RowKit Go.Shelf
theorem brand_bad {s : ByteArray} {k : Nat} (hk : k < s.size) (h : (s[k].toNat : Int) < 32 ∨ (s[k].toNat : Int) > 126 ∨ (s[k].toNat : Int) = 34) : isBrandB s = false := by
 unfold isBrandB
 have : ((byts s).any fun n => decide (n < 32 ∨ n > 126 ∨ n = 34)) = true := List.any_eq_true.2 ⟨(s[k].toNat : Int), by rw [← byts_get s k hk]; exact List.getElem_mem _, by simpa using h⟩
 rw [this]; simp
theorem brand_good {s : ByteArray} (h : ∀ j (hj : j < s.size), ¬ ((s[j].toNat : Int) < 32 ∨ (s[j].toNat : Int) > 126 ∨ (s[j].toNat : Int) = 34)) : isBrandB s = decide (s.size ≤ 20) := by
 unfold isBrandB
 have : ((byts s).any fun n => decide (n < 32 ∨ n > 126 ∨ n = 34)) = false := by
  rw [List.any_eq_false]
  intro x hx
  obtain ⟨i, hi, rfl⟩ := List.mem_iff_getElem.1 hx
  rw [byts_length] at hi
  rw [byts_get s i hi]
  simpa using h i hi
 rw [this]; simp
set_option maxRecDepth 100000 in
set_option maxHeartbeats 4000000 in
theorem rbrand_any (s : ByteArray) (w : World) (hs : s.size ≤ 1048576) : Calls Tryz.prog 117 #[.string s] w fun e w' => e = .returned (.bool (isBrandB s)) ∧ w' = w := by
 go_enter Tryz.func117, Tryz.ntmps117
 go_wp2_with fail
 go_loopw [3] (fun u wr => ∃ k : Nat, k ≤ s.size ∧ u = .int .i64 k ∧ wr = w ∧ Hid (∀ j (hj : j < s.size), j < k → ¬ ((s[j].toNat : Int) < 32 ∨ (s[j].toNat : Int) > 126 ∨ (s[j].toNat : Int) = 34))) (fun u _ => s.size - (intOf u).toNat)
 case atStart => exact ⟨0, by omega, rfl, rfl, Lib.hid (fun j _ h => by omega)⟩
 case round =>
  obtain ⟨k, hk, rfl, rfl, Hno⟩ := hrel
  by_cases hlt : k < s.size
  ·have i0 : (0 : Int) ≤ (k : Int) := by omega
   have i1 : (k : Int) < (s.size : Int) := by omega
   have hbad := brand_bad hlt
   have hnext := fun (h : ¬ ((s[k].toNat : Int) < 32 ∨ (s[k].toNat : Int) > 126 ∨ (s[k].toNat : Int) = 34)) j (hj : j < s.size) (hjk : j < k + 1) => if e : j = k then by subst e; exact h else Hno.out j hj (by omega)
   have Hbad := Lib.hid hbad
   have Hnext := Lib.hid hnext
   clear hbad hnext
   by_cases h1 : (s[k].toNat : Int) < 32
   ·have Hb := Lib.hid (Hbad.out (.inl h1))
    go_wp2_with fail
    go_ret
    rw [Hb.out]
    exact ⟨rfl, rfl⟩
   ·by_cases h2 : (126 : Int) < (s[k].toNat : Int)
    ·have Hb := Lib.hid (Hbad.out (.inr (.inl h2)))
     go_wp2_with fail
     go_ret
     rw [Hb.out]
     exact ⟨rfl, rfl⟩
    ·by_cases h3 : (s[k].toNat : Int) = 34
     ·have h3' : ((s[k].toNat : Int) == 34) = true := by simpa using h3
      have Hb := Lib.hid (Hbad.out (.inr (.inr h3)))
      clear h3
      go_wp2_with fail
      go_ret
      rw [Hb.out]
      exact ⟨rfl, rfl⟩
     ·have h3' : ((s[k].toNat : Int) == 34) = false := by rw [beq_eq_false_iff_ne]; exact h3
      have hn := Hnext.out (by omega)
      have Hn := Lib.hid hn
      clear hn h3
      go_wp2_with fail
      go_roundw
      case rel => exact ⟨k + 1, by omega, by go_num, trivial, Hn⟩
      case measure => simp [intOf]; omega
  ·have i1 : ¬ (k : Int) < (s.size : Int) := by omega
   have hb : isBrandB s = decide (s.size ≤ 20) := brand_good (fun j hj => Hno.out j hj (by omega))
   have Hb := Lib.hid hb
   clear hb
   by_cases h20 : s.size ≤ 20
   ·have q : (s.size : Int) ≤ 20 := by omega
    have hb : isBrandB s = true := by rw [Hb.out, decide_eq_true h20]
    have Hb2 := Lib.hid hb
    clear hb
    go_wp2_with fail
    go_ret
    rw [Hb2.out]
    exact ⟨rfl, rfl⟩
   ·have q : ¬ (s.size : Int) ≤ 20 := by omega
    have hb : isBrandB s = false := by rw [Hb.out, decide_eq_false h20]
    have Hb2 := Lib.hid hb
    clear hb
    go_wp2_with fail
    go_ret
    rw [Hb2.out]
    exact ⟨rfl, rfl⟩
end Go.Proofs.YtldnjnnhfeobdaaGreatDoor
