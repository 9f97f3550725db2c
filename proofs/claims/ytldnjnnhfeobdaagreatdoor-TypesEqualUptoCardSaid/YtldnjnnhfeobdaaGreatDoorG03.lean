/- Parts of the proof, joined: Contract: the rule of a type's kind. Conditions: lengths below 2^20; Contract: right. Conditions: lengths below 2^20; Contract: Check. Conditions: lengths below 2^20; Contract: opened. Conditions: lengths below 2^20; Contract: agree. Conditions: lengths below 2^20; Contract: the references of a type, as an iterator. Conditions: the type is right; Contracts: refs, slices.AppendSeq, slices.Collect, list. Conditions: the type is right; Words and small contracts for classes: rows of ints that are written, the function values that look into them. Conditions: lengths below 2^20. -/
import Derived.Deep.DeepCutAuto
import Derived.StillTailTactics
import Derived.IntWalk
import Derived.Deep.RegionHeld3
import Derived.RangeFuncNested
import Derived.RangeFuncBound
import Derived.RangeFuncCalls
import Derived.RangeFuncLeaves
import Derived.Shelf.RegionOpen
import Derived.OwnWalkIn
import Derived.TacticsInMore
import Derived.LoopNIn
import Derived.LoopIn
import Derived.RangeFuncWrites
import Derived.Maps.AppendAt
import Derived.Deep.LoopGhost
import Derived.Laws.NewBlocks
import Derived.Test.YtldnjnnhfeobdaaGreatDoorG02
set_option linter.all false
set_option linter.unusedSimpArgs false
set_option linter.unusedVariables false
namespace Go.Proofs.YtldnjnnhfeobdaaGreatDoor
open Go.RowKit Go.Shelf
/-- what of two types is plain is the same -/
def plainB7 (k l h : Int) (b : Bool) (br op : ByteArray) (su k2 l2 h2 : Int) (b2 : Bool) (br2 op2 : ByteArray) (su2 : Int) : Bool :=
 decide (k = k2) && (decide (l = l2) && (decide (h = h2) && ((b == b2) && (strEq br br2 && (strEq op op2 && decide (su = su2))))))
theorem eql_plain (k l h : Int) (b : Bool) (br op : ByteArray) (su k2 l2 h2 : Int) (b2 : Bool) (br2 op2 : ByteArray) (su2 : Int) (w : World) :
  (binOp .eql 109 (.agg #[.int .u8 k, .int .i64 l, .int .i64 h, .bool b, .string br, .string op, .int .i64 su]) (.agg #[.int .u8 k2, .int .i64 l2, .int .i64 h2, .bool b2, .string br2, .string op2, .int .i64 su2])).run Tryz.prog w = .ok (.bool (plainB7 k l h b br op su k2 l2 h2 b2 br2 op2 su2)) w := by
 have u9 := Tryz.underlying9
 have a9 := Tryz.isAgg9
 have z9 := Tryz.sizeOf9
 have u3 := Tryz.underlying3
 have a3 := Tryz.isAgg3
 have z3 := Tryz.sizeOf3
 have u4 := Tryz.underlying4
 have a4 := Tryz.isAgg4
 have z4 := Tryz.sizeOf4
 have u5 := Tryz.underlying5
 have a5 := Tryz.isAgg5
 have z5 := Tryz.sizeOf5
 have hS : Tryz.prog.underlying 109 = some (.struct (Tryz.prog.fieldsOf 109)) := by kernel_rfl
 have hp : Tryz.prog.stoodInHeld 109 = false := by kernel_rfl
 rw [run_eql_struct, show (10000 : Nat) = 9999 + 1 from rfl, run_equalIn_agg w 9999 109 _ _ hS hp]
 simp only [Program.fieldsOf, Tryz.underlying109]
 go_simp
 unfold plainB7 strEq
 by_cases e1 : k = k2 <;> by_cases e2 : l = l2 <;> by_cases e3 : h = h2 <;> by_cases e4 : b = b2 <;> by_cases e5 : br.toList = br2.toList <;> by_cases e6 : op.toList = op2.toList <;> by_cases e7 : su = su2 <;> simp [e1, e2, e3, e4, e5, e6, e7]
theorem guard109 (op : BinOp) (x y : Operand) (xs ys : Array Value) (w : World) : (eqGuard op 109 x y (.agg xs) (.agg ys)).run Tryz.prog w = .ok () w := run_eqGuard_agg w op 109 x y xs ys (by kernel_rfl)
theorem zeroB_plain (t' : Ty) : zeroB t' = (plainB7 t'.kind t'.low t'.high t'.branded t'.brand t'.opaq t'.super t'.kind 0 0 false ByteArray.empty ByteArray.empty 0 && decide (t'.parts.length + t'.methods.length + t'.overs.length = 0)) := by
 unfold zeroB plainB7
 rw [strEq_empty, strEq_empty]
 cases t'.branded <;> simp
theorem heap_alloc_self (w : World) (o : Obj) : (w.alloc o).heap[w.heap.size]? = some o := by simp only [World.alloc]; exact Array.getElem?_push_size
set_option maxRecDepth 100000 in
set_option maxHeartbeats 8000000 in
theorem right_rule (f : Nat) (ok : Graph → Ty → Bool) (aft : Ty → Ty) (hR : Rule f ok aft) (w : World) (gv : Value) (g : Graph) (t : Ty) (vp vm vo : Value) (hg : Sl tyE w gv g) (hgn : g.length ≤ 1048576) (hG : Glob w) (hof : TyOf w t vp vm vo) (hs : TySmall t)
  (k : Nat) (hk : t.kind = k) (hk1 : 1 ≤ k) (hk2 : k < 14) (hcell : rulesV.cells[k]? = some (fn f)) (hcf : ∀ args w', (callFunc f args).run Tryz.prog w' = .ok (.enter f args) w') (hl1 : (aft t).parts.length ≤ 1048576) (hl2 : (aft t).methods.length ≤ 1048576) (hl3 : (aft t).overs.length ≤ 1048576) (hnil : ∀ w', (binOp .eql 151 (.func (.func f) #[] #[]) .nilFunc).run Tryz.prog w' = .ok (.bool false) w') :
  Calls Tryz.prog 62 #[.agg #[gv], tyV t vp vm vo] w (Ret w (.bool (ok g t && zeroB (aft t)))) := by
 obtain ⟨A, cap, rfl⟩ := hg.len
 obtain ⟨A1, cap1, rfl⟩ := hof.parts.len
 obtain ⟨A2, cap2, rfl⟩ := hof.methods.len
 obtain ⟨A3, cap3, rfl⟩ := hof.overs.len
 have Hrules := Lib.hid (fun w => rules_any w)
 have Hrule := fun (w2 : World) (hEx : Ext w w2) hbx => hR w w2 _ g (w.heap.size + 1) t _ _ _ hEx (by omega) hG hg hgn hof hs hbx
 rw [zeroB_plain]
 generalize ok g t = r at Hrule ⊢
 generalize aft t = t' at Hrule hl1 hl2 hl3 ⊢
 replace Hrule := Lib.hid Hrule
 have heq := fun w' => eql_plain t'.kind t'.low t'.high t'.branded t'.brand t'.opaq t'.super t'.kind 0 0 false ByteArray.empty ByteArray.empty 0 w'
 have hsum : (((t'.parts.length : Int) + (t'.methods.length : Int) + (t'.overs.length : Int)) == 0) = decide (t'.parts.length + t'.methods.length + t'.overs.length = 0) := by
  rw [Bool.eq_iff_iff, beq_iff_eq, decide_eq_true_eq]; omega
 generalize plainB7 t'.kind t'.low t'.high t'.branded t'.brand t'.opaq t'.super t'.kind 0 0 false ByteArray.empty ByteArray.empty 0 = q at heq ⊢
 generalize decide (t'.parts.length + t'.methods.length + t'.overs.length = 0) = D at hsum ⊢
 have Heq := Lib.hid heq
 have Hsum := Lib.hid hsum
 clear heq hsum
 have Hcell := Lib.hid hcell
 have Hk := Lib.hid hk
 clear hcell hR hG hof hs hg
 unfold tyV
 go_enter Tryz.func62, Tryz.ntmps62
 go_wp2_with fail
 refine (Hrules.out _).mono ?_
 rintro e w1 ⟨rfl, hx1⟩
 have hbx := heap_alloc_self (w.alloc (.cells #[.slice A g.length cap] 77)) (.cells #[.int .u8 k, .int .i64 t.low, .int .i64 t.high, .bool t.branded, .string t.brand, .string t.opaq, .int .i64 t.super, .slice A1 t.parts.length cap1, .slice A2 t.methods.length cap2, .slice A3 t.overs.length cap3] 42)
 rw [World.size_alloc] at hbx
 have Hbx := Lib.hid (show TyBox w1 (w.heap.size + 1) t (.slice A1 t.parts.length cap1) (.slice A2 t.methods.length cap2) (.slice A3 t.overs.length cap3) from by unfold TyBox; rw [Hk.out]; exact hx1.heap hbx)
 have Hx1 := Lib.hid ((((Ext.refl w).alloc (.cells #[.slice A g.length cap] 77)).alloc _).trans hx1)
 have hgc := hx1.cell (v := .slice A g.length cap) (p := ⟨w.heap.size, 0, none⟩) (by simp)
 clear hbx hx1
 unfold rulesV fn
 go_upto_region 2 with fail
 have k0 := (Hbx.out.ext ((Ext.refl w1).alloc (.cells rulesV.cells 152))).at.c0
 have hkg := ((Ext.refl w1).alloc (.cells rulesV.cells 152)).cell hgc
 have hkr : (w1.alloc (.cells rulesV.cells 152)).cell? ⟨w1.heap.size, k, none⟩ = some (.func (.func f) #[] #[]) := by rw [World.cell?_alloc_new]; exact Hcell.out
 have Hxr := Lib.hid (Hx1.out.alloc (.cells rulesV.cells 152)).drew
 have Hbr := Lib.hid ((Hbx.out.ext ((Ext.refl w1).alloc (.cells rulesV.cells 152))).ext (Ext.refl _).drew)
 have hne : w1.heap.size ≠ w.heap.size + 1 := by have := Hbx.out.lt; omega
 have hne2 : w1.heap.size ≠ w.heap.size := by have := Hbx.out.lt; omega
 rw [Hk.out] at k0
 unfold rulesV fn at k0 hkg hkr Hxr Hbr
 simp only [Value.cells] at k0 hkg hkr Hxr Hbr
 generalize w1.alloc (.cells #[.nilFunc, .func (.func 155) #[] #[], .func (.func 155) #[] #[], .func (.func 156) #[] #[], .func (.func 155) #[] #[], .func (.func 155) #[] #[], .func (.func 155) #[] #[], .func (.func 155) #[] #[], .func (.func 155) #[] #[], .func (.func 157) #[] #[], .func (.func 158) #[] #[], .func (.func 157) #[] #[], .func (.func 159) #[] #[], .func (.func 160) #[] #[]] 152) = w2 at k0 hkg hkr Hxr Hbr ⊢
 have hk14 : (k : Int) < 14 := by omega
 have hk00 : (0 : Int) ≤ (k : Int) := by omega
 have hwr : IntKind.i64.wrap (k : Int) = k := IntWalk.i64_in _ (by omega)
 have hd14 : decide ((14 : Int) ≤ (k : Int)) = false := by simp; omega
 generalize w1.heap.size = B5 at hkr hne hne2 ⊢
 clear Hbx Hx1 hgc
 go_still_tail 17, (by kernel_rfl)
 change wpList _ _ _ _ _ w2.drew
 generalize w2.drew = w3 at Hxr Hbr ⊢
 clear k0 hkg hkr
 go_wp2_with fail
 refine (Hrule.out _ Hxr.out Hbr.out).mono ?_
 rintro e wc ⟨rfl, hx3, vp3, vm3, vo3, hb3, ⟨Ap3, cp3, rfl⟩, ⟨Am3, cm3, rfl⟩, ⟨Ao3, co3, rfl⟩⟩
 have Hx3 := Lib.hid hx3
 have Hb3 := Lib.hid hb3
 clear hx3 hb3 Hxr Hbr
 obtain ⟨d0, d1, d2, d3, d4, d5, d6, d7, d8, d9⟩ := Hb3.out.at
 simp only [Nat.zero_add] at d0 d1 d2 d3 d4 d5 d6 d7 d8 d9
 cases r
 ·go_wp2_with fail
  go_ret
  exact ⟨rfl, Hx3.out⟩
 go_wp2_with fail
 refine (plainOf_any wc t' Ap3 Am3 Ao3 _ _ _ cp3 cm3 co3).mono ?_
 rintro e w4 ⟨rfl, hx4⟩
 have Hx4 := Lib.hid (Hx3.out.trans hx4)
 have Hb4 := Lib.hid (Hb3.out.ext hx4)
 clear d0 d1 d2 d3 d4 d5 d6 d7 d8 d9 hx4
 obtain ⟨d0, d1, d2, d3, d4, d5, d6, d7, d8, d9⟩ := Hb4.out.at
 simp only [Nat.zero_add] at d0 d1 d2 d3 d4 d5 d6 d7 d8 d9
 have hl4 : w.heap.size + 1 < w4.heap.size := Hb4.out.lt
 have g109 := fun x y xs ys w => guard109 .eql x y xs ys w
 have heq : ∀ w', (binOp .eql 109 (.agg #[.int .u8 t'.kind, .int .i64 t'.low, .int .i64 t'.high, .bool t'.branded, .string t'.brand, .string t'.opaq, .int .i64 t'.super]) (.agg #[.int .u8 t'.kind, .int .i64 0, .int .i64 0, .bool false, .string ⟨#[]⟩, .string ⟨#[]⟩, .int .i64 0])).run Tryz.prog w' = .ok (.bool q) w' := Heq.out
 have hsum := Hsum.out
 unfold plainV
 cases q <;> cases D
 all_goals
  go_wp2_with fail
  go_ret
  exact ⟨rfl, Hx4.out.alloc _⟩
end Go.Proofs.YtldnjnnhfeobdaaGreatDoor
/- Contract: right. Conditions: lengths below 2^20. -/
namespace Go.Proofs.YtldnjnnhfeobdaaGreatDoor
open Go.RowKit Go.Shelf
set_option maxRecDepth 100000 in
set_option maxHeartbeats 8000000 in
theorem right_big (w : World) (gv : Value) (g : Graph) (t : Ty) (vp vm vo : Value) (hg : Sl tyE w gv g) (hof : TyOf w t vp vm vo)
  (k : Nat) (hk : t.kind = k) (hk1 : 14 ≤ k) (hk2 : k ≤ 255) :
  Calls Tryz.prog 62 #[.agg #[gv], tyV t vp vm vo] w (Ret w (.bool false)) := by
 obtain ⟨A, cap, rfl⟩ := hg.len
 obtain ⟨A1, cap1, rfl⟩ := hof.parts.len
 obtain ⟨A2, cap2, rfl⟩ := hof.methods.len
 obtain ⟨A3, cap3, rfl⟩ := hof.overs.len
 have Hrules := Lib.hid (fun w => rules_any w)
 have Hk := Lib.hid hk
 clear hof hg
 unfold tyV
 go_enter Tryz.func62, Tryz.ntmps62
 go_wp2_with fail
 refine (Hrules.out _).mono ?_
 rintro e w1 ⟨rfl, hx1⟩
 have hbx := heap_alloc_self (w.alloc (.cells #[.slice A g.length cap] 77)) (.cells #[.int .u8 k, .int .i64 t.low, .int .i64 t.high, .bool t.branded, .string t.brand, .string t.opaq, .int .i64 t.super, .slice A1 t.parts.length cap1, .slice A2 t.methods.length cap2, .slice A3 t.overs.length cap3] 42)
 rw [World.size_alloc] at hbx
 have Hbx := Lib.hid (show TyBox w1 (w.heap.size + 1) t (.slice A1 t.parts.length cap1) (.slice A2 t.methods.length cap2) (.slice A3 t.overs.length cap3) from by unfold TyBox; rw [Hk.out]; exact hx1.heap hbx)
 have Hx1 := Lib.hid ((((Ext.refl w).alloc (.cells #[.slice A g.length cap] 77)).alloc _).trans hx1)
 have hgc := hx1.cell (v := .slice A g.length cap) (p := ⟨w.heap.size, 0, none⟩) (by simp)
 clear hbx hx1
 unfold rulesV fn
 go_upto_region 2 with fail
 have k0 := (Hbx.out.ext ((Ext.refl w1).alloc (.cells rulesV.cells 152))).at.c0
 have hkg := ((Ext.refl w1).alloc (.cells rulesV.cells 152)).cell hgc
 have Hxr := Lib.hid (Hx1.out.alloc (.cells rulesV.cells 152)).drew
 have Hbr := Lib.hid ((Hbx.out.ext ((Ext.refl w1).alloc (.cells rulesV.cells 152))).ext (Ext.refl _).drew)
 have hne : w1.heap.size ≠ w.heap.size + 1 := by have := Hbx.out.lt; omega
 have hne2 : w1.heap.size ≠ w.heap.size := by have := Hbx.out.lt; omega
 rw [Hk.out] at k0
 unfold rulesV fn at k0 hkg Hxr Hbr
 simp only [Value.cells] at k0 hkg Hxr Hbr
 generalize w1.alloc (.cells #[.nilFunc, .func (.func 155) #[] #[], .func (.func 155) #[] #[], .func (.func 156) #[] #[], .func (.func 155) #[] #[], .func (.func 155) #[] #[], .func (.func 155) #[] #[], .func (.func 155) #[] #[], .func (.func 155) #[] #[], .func (.func 157) #[] #[], .func (.func 158) #[] #[], .func (.func 157) #[] #[], .func (.func 159) #[] #[], .func (.func 160) #[] #[]] 152) = w2 at k0 hkg Hxr Hbr ⊢
 have hk00 : (0 : Int) ≤ (k : Int) := by omega
 have hk255 : (k : Int) ≤ 255 := by omega
 have hwr : IntKind.i64.wrap (k : Int) = k := IntWalk.i64_in _ (by omega)
 have hd14 : decide ((14 : Int) ≤ (k : Int)) = true := by simp; omega
 generalize w1.heap.size = B5 at hne hne2 ⊢
 clear Hbx Hx1 hgc
 go_still_tail 17, (by kernel_rfl)
 change wpList _ _ _ _ _ w2.drew
 generalize w2.drew = w3 at Hxr Hbr ⊢
 clear k0 hkg
 go_wp2_with fail
 go_ret
 exact ⟨rfl, Hxr.out⟩
set_option maxRecDepth 100000 in
set_option maxHeartbeats 8000000 in
theorem right_zero (w : World) (gv : Value) (g : Graph) (t : Ty) (vp vm vo : Value) (hg : Sl tyE w gv g) (hof : TyOf w t vp vm vo)
  (k : Nat) (hk : t.kind = k) (hk0 : k = 0) :
  Calls Tryz.prog 62 #[.agg #[gv], tyV t vp vm vo] w (Ret w (.bool false)) := by
 obtain ⟨A, cap, rfl⟩ := hg.len
 obtain ⟨A1, cap1, rfl⟩ := hof.parts.len
 obtain ⟨A2, cap2, rfl⟩ := hof.methods.len
 obtain ⟨A3, cap3, rfl⟩ := hof.overs.len
 have Hrules := Lib.hid (fun w => rules_any w)
 have Hk := Lib.hid hk
 have Hk0 := Lib.hid hk0
 clear hk0
 clear hof hg
 unfold tyV
 go_enter Tryz.func62, Tryz.ntmps62
 go_wp2_with fail
 refine (Hrules.out _).mono ?_
 rintro e w1 ⟨rfl, hx1⟩
 have hbx := heap_alloc_self (w.alloc (.cells #[.slice A g.length cap] 77)) (.cells #[.int .u8 k, .int .i64 t.low, .int .i64 t.high, .bool t.branded, .string t.brand, .string t.opaq, .int .i64 t.super, .slice A1 t.parts.length cap1, .slice A2 t.methods.length cap2, .slice A3 t.overs.length cap3] 42)
 rw [World.size_alloc] at hbx
 have Hbx := Lib.hid (show TyBox w1 (w.heap.size + 1) t (.slice A1 t.parts.length cap1) (.slice A2 t.methods.length cap2) (.slice A3 t.overs.length cap3) from by unfold TyBox; rw [Hk.out]; exact hx1.heap hbx)
 have Hx1 := Lib.hid ((((Ext.refl w).alloc (.cells #[.slice A g.length cap] 77)).alloc _).trans hx1)
 have hgc := hx1.cell (v := .slice A g.length cap) (p := ⟨w.heap.size, 0, none⟩) (by simp)
 clear hbx hx1
 unfold rulesV fn
 go_upto_region 2 with fail
 have k0 := (Hbx.out.ext ((Ext.refl w1).alloc (.cells rulesV.cells 152))).at.c0
 have hkg := ((Ext.refl w1).alloc (.cells rulesV.cells 152)).cell hgc
 have hkr : (w1.alloc (.cells rulesV.cells 152)).cell? ⟨w1.heap.size, k, none⟩ = some .nilFunc := by rw [World.cell?_alloc_new, Hk0.out]; rfl
 have Hxr := Lib.hid (Hx1.out.alloc (.cells rulesV.cells 152)).drew
 have Hbr := Lib.hid ((Hbx.out.ext ((Ext.refl w1).alloc (.cells rulesV.cells 152))).ext (Ext.refl _).drew)
 have hne : w1.heap.size ≠ w.heap.size + 1 := by have := Hbx.out.lt; omega
 have hne2 : w1.heap.size ≠ w.heap.size := by have := Hbx.out.lt; omega
 rw [Hk.out] at k0
 unfold rulesV fn at k0 hkg hkr Hxr Hbr
 simp only [Value.cells] at k0 hkg hkr Hxr Hbr
 generalize w1.alloc (.cells #[.nilFunc, .func (.func 155) #[] #[], .func (.func 155) #[] #[], .func (.func 156) #[] #[], .func (.func 155) #[] #[], .func (.func 155) #[] #[], .func (.func 155) #[] #[], .func (.func 155) #[] #[], .func (.func 155) #[] #[], .func (.func 157) #[] #[], .func (.func 158) #[] #[], .func (.func 157) #[] #[], .func (.func 159) #[] #[], .func (.func 160) #[] #[]] 152) = w2 at k0 hkg hkr Hxr Hbr ⊢
 have hk14 : (k : Int) < 14 := by have := Hk0.out; omega
 have hk00 : (0 : Int) ≤ (k : Int) := by omega
 have hwr : IntKind.i64.wrap (k : Int) = k := IntWalk.i64_in _ (by omega)
 have hd14 : decide ((14 : Int) ≤ (k : Int)) = false := by simp; omega
 have hnil : ∀ w', (binOp .eql 151 .nilFunc .nilFunc).run Tryz.prog w' = .ok (.bool true) w' := fun w' => by kernel_rfl
 generalize w1.heap.size = B5 at hkr hne hne2 ⊢
 clear Hbx Hx1 hgc
 go_still_tail 17, (by kernel_rfl)
 change wpList _ _ _ _ _ w2.drew
 generalize w2.drew = w3 at Hxr Hbr ⊢
 clear k0 hkg hkr
 go_wp2_with fail
 go_ret
 exact ⟨rfl, Hxr.out⟩
theorem right_any (w : World) (gv : Value) (g : Graph) (t : Ty) (vp vm vo : Value) (hg : Sl tyE w gv g) (hgn : g.length ≤ 1048576) (hG : Glob w) (hof : TyOf w t vp vm vo) (hs : TySmall t) (hk : 0 ≤ t.kind ∧ t.kind ≤ 255) :
  Calls Tryz.prog 62 #[.agg #[gv], tyV t vp vm vo] w (Ret w (.bool (rightB g t))) := by
 obtain ⟨k, hk'⟩ := Int.eq_ofNat_of_zero_le hk.1
 have hp := hs.parts
 have hm := hs.methods
 have ho := hs.overs
 have h0 : ([] : List Part).length ≤ 1048576 := by simp
 have h0m : ([] : List Method).length ≤ 1048576 := by simp
 have h0o : ([] : List Over).length ≤ 1048576 := by simp
 by_cases hb : 14 ≤ k
 ·have e : rightB g t = false := by
   unfold rightB
   rw [if_neg (by omega), if_neg (by omega), if_neg (by omega), if_neg (by omega), if_neg (by omega), decide_eq_false (by omega)]; rfl
  rw [e]
  exact right_big w gv g t vp vm vo hg hof k hk' hb (by omega)
 by_cases hz : k = 0
 ·have e : rightB g t = false := by
   unfold rightB
   rw [if_neg (by omega), if_neg (by omega), if_neg (by omega), if_neg (by omega), if_neg (by omega), decide_eq_false (by omega)]; rfl
  rw [e]
  exact right_zero w gv g t vp vm vo hg hof k hk' hz
 have plainR : k = 1 ∨ k = 2 ∨ k = 4 ∨ k = 5 ∨ k = 6 ∨ k = 7 ∨ k = 8 → rightB g t = (true && zeroB t) := fun h => by
  unfold rightB
  rw [if_neg (by omega), if_neg (by omega), if_neg (by omega), if_neg (by omega), if_neg (by omega), decide_eq_true (by omega)]
 by_cases h1 : k = 1
 ·have e : rightB g t = (true && zeroB t) := plainR (by omega)
  rw [e]
  exact right_rule 155 _ _ nothing_rule w gv g t vp vm vo hg hgn hG hof hs k hk' (by omega) (by omega) (by rw [h1]; rfl) (enters_of Tryz.func155 (by kernel_rfl) rfl) hp hm ho (fun w' => by kernel_rfl)
 by_cases h2 : k = 2
 ·have e : rightB g t = (true && zeroB t) := plainR (by omega)
  rw [e]
  exact right_rule 155 _ _ nothing_rule w gv g t vp vm vo hg hgn hG hof hs k hk' (by omega) (by omega) (by rw [h2]; rfl) (enters_of Tryz.func155 (by kernel_rfl) rfl) hp hm ho (fun w' => by kernel_rfl)
 by_cases h4 : k = 4
 ·have e : rightB g t = (true && zeroB t) := plainR (by omega)
  rw [e]
  exact right_rule 155 _ _ nothing_rule w gv g t vp vm vo hg hgn hG hof hs k hk' (by omega) (by omega) (by rw [h4]; rfl) (enters_of Tryz.func155 (by kernel_rfl) rfl) hp hm ho (fun w' => by kernel_rfl)
 by_cases h5 : k = 5
 ·have e : rightB g t = (true && zeroB t) := plainR (by omega)
  rw [e]
  exact right_rule 155 _ _ nothing_rule w gv g t vp vm vo hg hgn hG hof hs k hk' (by omega) (by omega) (by rw [h5]; rfl) (enters_of Tryz.func155 (by kernel_rfl) rfl) hp hm ho (fun w' => by kernel_rfl)
 by_cases h6 : k = 6
 ·have e : rightB g t = (true && zeroB t) := plainR (by omega)
  rw [e]
  exact right_rule 155 _ _ nothing_rule w gv g t vp vm vo hg hgn hG hof hs k hk' (by omega) (by omega) (by rw [h6]; rfl) (enters_of Tryz.func155 (by kernel_rfl) rfl) hp hm ho (fun w' => by kernel_rfl)
 by_cases h7 : k = 7
 ·have e : rightB g t = (true && zeroB t) := plainR (by omega)
  rw [e]
  exact right_rule 155 _ _ nothing_rule w gv g t vp vm vo hg hgn hG hof hs k hk' (by omega) (by omega) (by rw [h7]; rfl) (enters_of Tryz.func155 (by kernel_rfl) rfl) hp hm ho (fun w' => by kernel_rfl)
 by_cases h8 : k = 8
 ·have e : rightB g t = (true && zeroB t) := plainR (by omega)
  rw [e]
  exact right_rule 155 _ _ nothing_rule w gv g t vp vm vo hg hgn hG hof hs k hk' (by omega) (by omega) (by rw [h8]; rfl) (enters_of Tryz.func155 (by kernel_rfl) rfl) hp hm ho (fun w' => by kernel_rfl)
 by_cases h3 : k = 3
 ·have e : rightB g t = (rangedB g t && zeroB (noRange t)) := by unfold rightB; rw [if_pos (by omega)]
  rw [e]
  exact right_rule 156 _ _ ranged_rule w gv g t vp vm vo hg hgn hG hof hs k hk' (by omega) (by omega) (by rw [h3]; rfl) (enters_of Tryz.func156 (by kernel_rfl) rfl) hp hm ho (fun w' => by kernel_rfl)
 by_cases h9 : k = 9
 ·have e : rightB g t = (heldB g t && zeroB (noParts t)) := by unfold rightB; rw [if_neg (by omega), if_pos (by omega)]
  rw [e]
  exact right_rule 157 _ _ held_rule w gv g t vp vm vo hg hgn hG hof hs k hk' (by omega) (by omega) (by rw [h9]; rfl) (enters_of Tryz.func157 (by kernel_rfl) rfl) h0 hm ho (fun w' => by kernel_rfl)
 by_cases h10 : k = 10
 ·have e : rightB g t = (recordedB g t && zeroB (noParts t)) := by unfold rightB; rw [if_neg (by omega), if_neg (by omega), if_pos (by omega)]
  rw [e]
  exact right_rule 158 _ _ recorded_rule w gv g t vp vm vo hg hgn hG hof hs k hk' (by omega) (by omega) (by rw [h10]; rfl) (enters_of Tryz.func158 (by kernel_rfl) rfl) h0 hm ho (fun w' => by kernel_rfl)
 by_cases h11 : k = 11
 ·have e : rightB g t = (heldB g t && zeroB (noParts t)) := by unfold rightB; rw [if_neg (by omega), if_pos (by omega)]
  rw [e]
  exact right_rule 157 _ _ held_rule w gv g t vp vm vo hg hgn hG hof hs k hk' (by omega) (by omega) (by rw [h11]; rfl) (enters_of Tryz.func157 (by kernel_rfl) rfl) h0 hm ho (fun w' => by kernel_rfl)
 by_cases h12 : k = 12
 ·have e : rightB g t = (objectsB g t && zeroB (noObject t)) := by unfold rightB; rw [if_neg (by omega), if_neg (by omega), if_neg (by omega), if_pos (by omega)]
  rw [e]
  exact right_rule 159 _ _ objects_rule w gv g t vp vm vo hg hgn hG hof hs k hk' (by omega) (by omega) (by rw [h12]; rfl) (enters_of Tryz.func159 (by kernel_rfl) rfl) h0 h0m h0o (fun w' => by kernel_rfl)
 by_cases h13 : k = 13
 ·have e : rightB g t = (opaqueB g t && zeroB (noOpaque t)) := by unfold rightB; rw [if_neg (by omega), if_neg (by omega), if_neg (by omega), if_neg (by omega), if_pos (by omega)]
  rw [e]
  exact right_rule 160 _ _ opaque_rule w gv g t vp vm vo hg hgn hG hof hs k hk' (by omega) (by omega) (by rw [h13]; rfl) (enters_of Tryz.func160 (by kernel_rfl) rfl) hp hm ho (fun w' => by kernel_rfl)
 omega
end Go.Proofs.YtldnjnnhfeobdaaGreatDoor
/- Contract: Check. Conditions: lengths below 2^20. -/
namespace Go.Proofs.YtldnjnnhfeobdaaGreatDoor
open Go.RowKit Go.Shelf
/-- a graph of which nothing is long -/
structure Tidy (g : Graph) : Prop where
 len : g.length ≤ 1048576
 ty : ∀ t ∈ g, TySmall t ∧ 0 ≤ t.kind ∧ t.kind ≤ 255
theorem checkG_bad {g : Graph} {k : Nat} (h4 : ¬ 400 < g.length) (hk : k < g.length) (h : ∀ i (hi : i < g.length), i < k → rightB g g[i] = true) (hb : rightB g g[k] = false) : checkG g = ((k : Int), 30) := by
 unfold checkG
 rw [if_neg h4]
 have : g.findIdx? (fun t => !rightB g t) = some k := by
  rw [List.findIdx?_eq_some_iff_getElem]
  exact ⟨hk, by simp [hb], fun j hj => by simp [h j (by omega) hj]⟩
 rw [this]
theorem checkG_rest {g : Graph} (h4 : ¬ 400 < g.length) (h : ∀ i (hi : i < g.length), rightB g g[i] = true) :
  checkG g = match (List.range g.length).find? fun i => cycN g i g.length i with | some i => ((i : Int), 30) | none => (0, 0) := by
 unfold checkG
 rw [if_neg h4]
 have : g.findIdx? (fun t => !rightB g t) = none := by
  rw [List.findIdx?_eq_none_iff]
  intro t ht
  obtain ⟨i, hi, rfl⟩ := List.mem_iff_getElem.1 ht
  simp [h i hi]
 rw [this]
 all_goals rfl
theorem checkG_cyc {g : Graph} {k : Nat} (h4 : ¬ 400 < g.length) (h : ∀ i (hi : i < g.length), rightB g g[i] = true) (hk : k < g.length) (hc : ∀ i, i < k → cycN g i g.length i = false) (hb : cycN g k g.length k = true) : checkG g = ((k : Int), 30) := by
 rw [checkG_rest h4 h]
 have : (List.range g.length).find? (fun i => cycN g i g.length i) = some k := by
  rw [List.find?_eq_some_iff_getElem]
  exact ⟨hb, k, by simpa using hk, by simp, fun j hj => by simp [hc j hj]⟩
 rw [this]
theorem checkG_fine {g : Graph} (h4 : ¬ 400 < g.length) (h : ∀ i (hi : i < g.length), rightB g g[i] = true) (hc : ∀ i, i < g.length → cycN g i g.length i = false) : checkG g = (0, 0) := by
 rw [checkG_rest h4 h]
 have : (List.range g.length).find? (fun i => cycN g i g.length i) = none := by
  rw [List.find?_eq_none]
  intro i hi
  simp [hc i (by simpa using hi)]
 rw [this]
theorem cycN_stop {g : Graph} {i n a : Nat} (h : hasSuperB (getT g a).kind = false) : cycN g i n a = false := by
 cases n with
 | zero => rfl
 | succ n => simp [cycN, h]
theorem cycN_hit {g : Graph} {i n a : Nat} (hn : 0 < n) (h : hasSuperB (getT g a).kind = true) (hs : superN g a = i) : cycN g i n a = true := by
 cases n with
 | zero => omega
 | succ n => simp [cycN, h, hs]
theorem cycN_go {g : Graph} {i n a : Nat} (h : hasSuperB (getT g a).kind = true) (hs : superN g a ≠ i) : cycN g i (n + 1) a = cycN g i n (superN g a) := by
 simp [cycN, h, hs]
set_option maxRecDepth 100000 in
set_option maxHeartbeats 8000000 in
theorem check_any (w : World) (gv : Value) (g : Graph) (hg : Sl tyE w gv g) (hT : Tidy g) (hG : Glob w) :
  Calls Tryz.prog 23 #[gv] w (Ret w (.tuple #[.int .i64 (checkG g).1, .int .i64 (checkG g).2])) := by
 obtain ⟨A, cap, rfl, hs⟩ := hg.ty
 have hlen := hT.len
 have hcall := fun (w' : World) (hx : Ext w w') (i : Nat) (hi : i < g.length) vp vm vo (hof : TyOf w g[i] vp vm vo) =>
  right_any w' _ g g[i] vp vm vo (hg.mono hx) hlen (hG.mono hx) (hof.mono hx) (hT.ty _ (List.getElem_mem hi)).1 (hT.ty _ (List.getElem_mem hi)).2
 have Hcall := Lib.hid hcall
 have Hs := Lib.hid hs
 clear hcall hs hg hT hG
 by_cases h4 : 400 < g.length
 ·have e : checkG g = (400, 30) := by unfold checkG; rw [if_pos h4]
  rw [e]
  have h4' : (400 : Int) < (g.length : Int) := by omega
  clear e Hcall Hs
  go_enter Tryz.func23, Tryz.ntmps23
  go_wp2_with fail
  go_ret2
  exact ⟨rfl, Ext.refl _⟩
 ·have h4' : ¬ (400 : Int) < (g.length : Int) := by omega
  have H4 := Lib.hid h4
  have hx0 := (Ext.refl w).alloc (.cells #[.slice A g.length cap] 77)
  have hcg := World.cell?_alloc_new (w := w) #[.slice A g.length cap] 77 0
  have Hx0 := Lib.hid hx0
  clear h4 hx0
  go_enter Tryz.func23, Tryz.ntmps23
  go_wp2_with fail
  obtain ⟨w0, hw0⟩ : ∃ w0, w.alloc (.cells #[.slice A g.length cap] 77) = w0 := ⟨_, rfl⟩
  rw [hw0] at hcg Hx0 ⊢
  have Hcg := Lib.hid (show w0.cell? ⟨w.heap.size, 0, none⟩ = some (.slice A g.length cap) from hcg)
  clear hw0 hcg
  go_loopw [16] (fun i wr => ∃ k : Nat, k ≤ g.length ∧ i = .int .i64 k ∧ Hid (Ext w0 wr) ∧ Hid (∀ i (hi : i < g.length), i < k → rightB g g[i] = true)) (fun i _ => g.length - (intOf i).toNat)
  case atStart => exact ⟨0, by omega, by simp, Lib.hid (Ext.refl _), fun i _ h => by omega⟩
  case round =>
   obtain ⟨k, hk, rfl, Hxr, Hno⟩ := hrel
   by_cases hlt : k < g.length
   ·obtain ⟨b, off, vp, vm, vo, rfl, hat, hof⟩ := Hs.out k hlt
    have hof' := Lib.hid hof
    obtain ⟨A1, c1, e1⟩ := hof.parts.len
    obtain ⟨A2, c2, e2⟩ := hof.methods.len
    obtain ⟨A3, c3, e3⟩ := hof.overs.len
    subst e1 e2 e3
    obtain ⟨d0, d1, d2, d3, d4, d5, d6, d7, d8, d9⟩ := hat.mono (Hx0.out.trans Hxr.out)
    have hcr := Hxr.out.cell Hcg.out
    have hb1 := cell_lt hcr
    have hi0 : (0 : Int) ≤ (k : Int) := by omega
    have hi1 : (k : Int) < (g.length : Int) := by omega
    clear hat hof
    go_wp2_with fail
    refine (Hcall.out _ ((Hx0.out.trans Hxr.out).alloc _) k hlt _ _ _ hof'.out).mono ?_
    rintro e w1 ⟨rfl, hx1⟩
    have Hx1 := Lib.hid ((Hxr.out.alloc _).trans hx1)
    clear d0 d1 d2 d3 d4 d5 d6 d7 d8 d9 hcr hx1
    cases hr : rightB g g[k]
    ·have e := Lib.hid (checkG_bad H4.out hlt Hno.out hr)
     clear hr
     go_wp2_with fail
     go_ret2
     exact ⟨by rw [e.out]; rfl, Hx0.out.trans Hx1.out⟩
    ·have Hr := Lib.hid hr
     clear hr
     go_wp2_with fail
     go_roundw
     case rel => exact ⟨k + 1, by omega, by go_num, Hx1, fun i h hi => by
       by_cases e : i = k
       ·subst e; exact Hr.out
       ·exact Hno.out i h (by omega)⟩
     case measure => simp [intOf]; omega
   ·have Hall := Lib.hid (show ∀ i (hi : i < g.length), rightB g g[i] = true from fun i hi => Hno.out i hi (by omega))
    clear Hno
    go_wp2_with fail
    clear hlt
    go_loopw [29] (fun i wq => ∃ k : Nat, k ≤ g.length ∧ i = .int .i64 k ∧ Hid (Ext w0 wq) ∧ Hid (∀ i, i < k → cycN g i g.length i = false)) (fun i _ => g.length - (intOf i).toNat)
    case atStart => exact ⟨0, by omega, by simp, Hxr, fun i h => by omega⟩
    case round =>
     clear Hxr
     obtain ⟨j, hj, rfl, Hxr, Hno⟩ := hrel
     by_cases hlt : j < g.length
     ·have hj0 : (j : Int) < (g.length : Int) := by omega
      go_wp2_with fail
      obtain ⟨wo, rfl⟩ : ∃ wo : World, wo = wr := ⟨_, rfl⟩
      go_loopw [8, 35] (fun a i wq => ∃ n q : Nat, n ≤ g.length ∧ i = .int .i64 n ∧ q < g.length ∧ a = .int .i64 q ∧ Hid (Ext w0 wq) ∧ Hid (cycN g j g.length j = cycN g j (g.length - n) q)) (fun _ i _ => g.length - (intOf i).toNat)
      case atStart => exact ⟨0, j, by omega, by simp, hlt, by simp, Hxr, rfl⟩
      case round =>
       clear Hxr
       obtain ⟨n, q, hn, rfl, hq, rfl, Hxr, Hcy⟩ := hrel
       by_cases hnl : n < g.length
       ·obtain ⟨b, off, vp, vm, vo, hA, hat, hof⟩ := Hs.out q hq
        subst hA
        have hat' := hat.mono (Hx0.out.trans Hxr.out)
        have d0 := hat'.c0
        have d6 := hat'.c6
        have hi0 : (0 : Int) ≤ (q : Int) := by omega
        have hi1 : (q : Int) < (g.length : Int) := by omega
        have hgq := getT_lt hq
        clear hat hof hat'
        cases hsup : hasSuperB g[q].kind
        ·have Hsup := Lib.hid hsup
         have Hc := Lib.hid (Hcy.out.trans (cycN_stop (by rw [hgq]; exact hsup)))
         clear hsup hgq
         go_wp2_with fail
         refine (hasSuper_any _ _).mono ?_
         rintro e w' ⟨rfl, rfl⟩
         rw [Hsup.out]
         go_wp2_with fail
         go_roundw
         case rel => exact ⟨j + 1, by omega, by go_num, Hxr, fun i h => by
           by_cases e : i = j
           ·subst e; exact Hc.out
           ·exact Hno.out i (by omega)⟩
         case measure => simp [intOf]; omega
        ·have Hsup := Lib.hid hsup
         have hsg : hasSuperB (getT g q).kind = true := by rw [hgq]; exact hsup
         obtain ⟨s0, s1⟩ := (right_fine (Hall.out q hq)).super hsup
         have hse : superN g q = g[q].super.toNat := by unfold superN; rw [hgq]
         obtain ⟨m, hm⟩ := Int.eq_ofNat_of_zero_le s0
         rw [hm] at d6 s1 hse
         have hse' : superN g q = m := by rw [hse]; rfl
         have hmlt : m < g.length := by omega
         by_cases hmj : m = j
         ·have e := Lib.hid (checkG_cyc H4.out Hall.out hlt Hno.out (by rw [Hcy.out]; exact cycN_hit (by omega) hsg (by rw [hse']; exact hmj)))
          have hmj' : ((m : Int) == (j : Int)) = true := by rw [beq_iff_eq]; omega
          have Hmj := Lib.hid hmj
          clear hsup hgq hsg hse hse' hm hmj
          go_wp2_with fail
          refine (hasSuper_any _ _).mono ?_
          rintro e w' ⟨rfl, rfl⟩
          rw [Hsup.out]
          go_wp2_with fail
          go_ret2
          exact ⟨by rw [e.out]; rfl, Hx0.out.trans Hxr.out⟩
         ·have hmj' : ((m : Int) == (j : Int)) = false := by simp; omega
          have Hc := Lib.hid (show cycN g j g.length j = cycN g j (g.length - (n + 1)) m by
           rw [Hcy.out, show g.length - n = (g.length - (n + 1)) + 1 by omega, cycN_go hsg (by rw [hse']; exact hmj), hse'])
          clear hsup hgq hsg hse hse' hm hmj
          go_wp2_with fail
          refine (hasSuper_any _ _).mono ?_
          rintro e w' ⟨rfl, rfl⟩
          rw [Hsup.out]
          go_wp2_with fail
          go_roundw
          case rel => exact ⟨n + 1, m, by omega, by go_num, hmlt, rfl, Hxr, Hc⟩
          case measure => simp [intOf]; omega
       ·have Hc := Lib.hid (Hcy.out.trans (by rw [show g.length - n = 0 by omega, cycN]))
        go_wp2_with fail
        go_roundw
        case rel => exact ⟨j + 1, by omega, by go_num, Hxr, fun i h => by
          by_cases e : i = j
          ·subst e; exact Hc.out
          ·exact Hno.out i (by omega)⟩
        case measure => simp [intOf]; omega
     ·have e := Lib.hid (checkG_fine H4.out Hall.out (fun i hi => Hno.out i (by omega)))
      go_wp2_with fail
      go_ret2
      exact ⟨by rw [e.out]; rfl, Hx0.out.trans Hxr.out⟩
end Go.Proofs.YtldnjnnhfeobdaaGreatDoor
/- Contract: opened. Conditions: lengths below 2^20. -/
namespace Go.Proofs.YtldnjnnhfeobdaaGreatDoor
open Go.RowKit Go.Shelf
def outB (n : Nat) (i : Int) : Bool := !hasB n i
set_option maxRecDepth 100000 in
theorem opened1 (w : World) (B : Nat) (A : Option Addr) (n cap : Nat) (i : Int) (hn : n ≤ 1048576) (hc : w.cell? ⟨B, 0, none⟩ = some (.slice A n cap)) :
  Calls Tryz.prog 103 #[.int .i64 i, .pointer (some ⟨B, 0, none⟩)] w (Ret w (.bool (outB n i))) := by
 have hlt := cell_lt hc
 have hh := fun w => has_any w A n cap i hn
 unfold outB
 generalize hasB n i = r at hh ⊢
 have Hh := Lib.hid hh
 clear hh
 go_enter Tryz.func103, Tryz.ntmps103
 go_wp2_with fail
 refine (Hh.out _).mono ?_
 rintro e w1 ⟨rfl, hx1⟩
 go_wp2_with fail
 go_ret
 exact ⟨rfl, hx1⟩
theorem pred103 (w : World) (B : Nat) (A : Option Addr) (n cap : Nat) (xs : List Int) (hn : n ≤ 1048576) (hc : w.cell? ⟨B, 0, none⟩ = some (.slice A n cap)) :
  Pred intE w 103 #[.pointer (some ⟨B, 0, none⟩)] xs (outB n) :=
 ⟨enters_of Tryz.func103 (by kernel_rfl) rfl, by
  rintro x _ w' A' hx ⟨cs, rfl, rfl⟩
  exact opened1 w' B A n cap x hn (hx.cell hc)⟩
/-- the error of a graph, and of indices -/
def errG (g : Graph) (ats : List Int) : Int := if (checkG g).2 = 0 then (if ats.any (outB g.length) then 1 else 0) else 30
theorem errG_bad {g : Graph} {ats : List Int} (h : (checkG g).2 ≠ 0) : errG g ats = 30 := by unfold errG; rw [if_neg h]
set_option maxRecDepth 100000 in
set_option maxHeartbeats 4000000 in
theorem opened_any (w : World) (gv v : Value) (g : Graph) (ats : List Int) (hg : Sl tyE w gv g) (hT : Tidy g) (hG : Glob w) (hv : Sl intE w v ats) (hn : ats.length ≤ 1048576) :
  Calls Tryz.prog 54 #[gv, v] w (Ret w (.tuple #[.agg #[gv], .int .i64 (errG g ats)])) := by
 have hch := fun (w' : World) (hx : Ext w w') => check_any w' gv g (hg.mono hx) hT (hG.mono hx)
 have hlen := hT.len
 obtain ⟨A, cap, rfl⟩ := hg.len
 have hcf := fun (B : Nat) (w' : World) (hx : Ext w w') (hc : w'.cell? ⟨B, 0, none⟩ = some (.slice A g.length cap)) =>
  containsFunc_int 103 #[.pointer (some ⟨B, 0, none⟩)] w' v ats (outB g.length) (hv.mono hx) hn (pred103 w' B A g.length cap ats hlen hc)
 obtain ⟨Av, cv, rfl⟩ := hv.len
 have h30 := checkG_err (g := g)
 have hx0 := Lib.hid (((Ext.refl w).alloc (.cells #[.slice none 0 0] 77)).alloc (.cells #[.slice A g.length cap] 77))
 have hsz : w.heap.size + 1 < ((w.alloc (.cells #[.slice none 0 0] 77)).alloc (.cells #[.slice A g.length cap] 77)).heap.size := by simp
 unfold errG
 generalize ats.any (outB g.length) = r at hcf ⊢
 generalize checkG g = c at hch h30 ⊢
 obtain ⟨c1, c2⟩ := c
 simp only at h30 ⊢
 have Hch := Lib.hid hch
 have Hcf := Lib.hid hcf
 clear hch hcf hg hv hG
 rcases h30 with e | e
 ·subst e
  rw [if_pos rfl]
  cases r
  ·rw [if_neg (by decide)]
   go_enter Tryz.func54, Tryz.ntmps54
   go_wp2_with fail
   refine (Hch.out _ hx0.out).mono ?_
   rintro e w1 ⟨rfl, hx1⟩
   have Hx1 := Lib.hid (hx0.out.trans hx1)
   have c0 := hx1.cell (v := .slice none 0 0) (p := ⟨w.heap.size, 0, none⟩) (by simp)
   have c1' := hx1.cell (v := .slice A g.length cap) (p := ⟨w.heap.size + 1, 0, none⟩) (by simp)
   have f0 : w1.frozen? ⟨w.heap.size, 0, none⟩ = false := hx1.frozen (v := .slice none 0 0) (p := ⟨w.heap.size, 0, none⟩) (by simp) (by simp)
   have l0 := cell_lt c0
   have l1 := cell_lt c1'
   clear hx1
   go_wp2_with fail
   refine (Hcf.out _ _ Hx1.out c1').mono ?_
   rintro e w2 ⟨rfl, hx2⟩
   have Hx2 := Lib.hid (Hx1.out.trans hx2)
   replace f0 := hx2.frozen c0 f0
   replace c0 := hx2.cell c0
   replace c1' := hx2.cell c1'
   clear hx2
   have l2 := cell_lt c0
   have l3 := cell_lt c1'
   go_wp2_with fail
   exact bodyPost_ret (v := .tuple #[.agg #[.slice A g.length cap], .int .i64 0]) (by simp [results, Tryz.results54, go_sem, c0]) rfl ⟨rfl, Hx2.out.setCell (by simp) _⟩
  ·rw [if_pos rfl]
   go_enter Tryz.func54, Tryz.ntmps54
   go_wp2_with fail
   refine (Hch.out _ hx0.out).mono ?_
   rintro e w1 ⟨rfl, hx1⟩
   have Hx1 := Lib.hid (hx0.out.trans hx1)
   have c0 := hx1.cell (v := .slice none 0 0) (p := ⟨w.heap.size, 0, none⟩) (by simp)
   have c1' := hx1.cell (v := .slice A g.length cap) (p := ⟨w.heap.size + 1, 0, none⟩) (by simp)
   have f0 : w1.frozen? ⟨w.heap.size, 0, none⟩ = false := hx1.frozen (v := .slice none 0 0) (p := ⟨w.heap.size, 0, none⟩) (by simp) (by simp)
   have l0 := cell_lt c0
   have l1 := cell_lt c1'
   clear hx1
   go_wp2_with fail
   refine (Hcf.out _ _ Hx1.out c1').mono ?_
   rintro e w2 ⟨rfl, hx2⟩
   have Hx2 := Lib.hid (Hx1.out.trans hx2)
   replace f0 := hx2.frozen c0 f0
   replace c0 := hx2.cell c0
   replace c1' := hx2.cell c1'
   clear hx2
   have l2 := cell_lt c0
   have l3 := cell_lt c1'
   go_wp2_with fail
   exact bodyPost_ret (v := .tuple #[.agg #[.slice A g.length cap], .int .i64 1]) (by simp [results, Tryz.results54, go_sem, c0]) rfl ⟨rfl, Hx2.out.setCell (by simp) _⟩
 ·subst e
  rw [if_neg (by decide)]
  go_enter Tryz.func54, Tryz.ntmps54
  go_wp2_with fail
  refine (Hch.out _ hx0.out).mono ?_
  rintro e w1 ⟨rfl, hx1⟩
  have Hx1 := Lib.hid (hx0.out.trans hx1)
  have c0 := hx1.cell (v := .slice none 0 0) (p := ⟨w.heap.size, 0, none⟩) (by simp)
  have c1' := hx1.cell (v := .slice A g.length cap) (p := ⟨w.heap.size + 1, 0, none⟩) (by simp)
  have f0 : w1.frozen? ⟨w.heap.size, 0, none⟩ = false := hx1.frozen (v := .slice none 0 0) (p := ⟨w.heap.size, 0, none⟩) (by simp) (by simp)
  have l0 := cell_lt c0
  have l1 := cell_lt c1'
  clear hx1
  go_wp2_with fail
  exact bodyPost_ret (v := .tuple #[.agg #[.slice A g.length cap], .int .i64 30]) (by simp [results, Tryz.results54, go_sem, c0]) rfl ⟨rfl, Hx1.out.setCell (by simp) _⟩
end Go.Proofs.YtldnjnnhfeobdaaGreatDoor
/- Contract: agree. Conditions: lengths below 2^20. -/
namespace Go.Proofs.YtldnjnnhfeobdaaGreatDoor
open Go.RowKit Go.Shelf
theorem pred105 (w : World) (xs ys : List Part) : Pred2 partE w 105 #[] xs ys partEq :=
 ⟨enters_of Tryz.func105 (by kernel_rfl) rfl, by
  rintro x _ y _ w' A B hx ⟨cs, rfl, rfl⟩ ⟨ds, rfl, rfl⟩
  exact agree1_any w' x y⟩
set_option maxRecDepth 100000 in
theorem pred106 (w : World) (xs ys : List Method) (hx : ∀ m ∈ xs, MethodSmall m) (hy : ∀ m ∈ ys, MethodSmall m) : Pred2 methodE w 106 #[] xs ys sameMethodB :=
 ⟨enters_of Tryz.func106 (by kernel_rfl) rfl, by
  intro x mx y my w' A B hxt hA hB
  obtain ⟨cs, ⟨va, vr, rfl, ha, hr⟩, rfl⟩ := hA
  obtain ⟨ds, ⟨ua, ur, rfl, ga, gr⟩, rfl⟩ := hB
  obtain ⟨A1, c1, e1⟩ := Sl.len ha
  obtain ⟨A2, c2, e2⟩ := Sl.len hr
  obtain ⟨B1, d1, e3⟩ := Sl.len ga
  obtain ⟨B2, d2, e4⟩ := Sl.len gr
  subst e1 e2 e3 e4
  have h := sameMethods_any w' x y A1 B1 A2 B2 c1 d1 c2 d2 hr gr (hx x mx).2.2.2.1 (hy y my).2.2.2.1
  simpa only [pack, Array.append_empty] using h⟩
theorem alloc2_first (W : World) (o1 o2 : Obj) : ((W.alloc o1).alloc o2).drew.heap[W.heap.size]? = some o1 := by
 have h := (Below.heap_alloc (W.alloc o1) o2 W.heap.size (by simp)).trans (heap_alloc_self W o1)
 exact h
theorem alloc2_second (W : World) (o1 o2 : Obj) : ((W.alloc o1).alloc o2).drew.heap[W.heap.size + 1]? = some o2 := by
 have h := heap_alloc_self (W.alloc o1) o2
 rw [World.size_alloc] at h
 exact h
theorem plain_eq (x y : Ty) : plainB7 x.kind x.low x.high x.branded x.brand x.opaq 0 y.kind y.low y.high y.branded y.brand y.opaq 0 = plainEqB x y := by
 unfold plainB7 plainEqB; simp
theorem TyBox.cells {w : World} {b : Nat} {t : Ty} {vp vm vo : Value} (h : w.heap[b]? = some (.cells #[.int .u8 t.kind, .int .i64 t.low, .int .i64 t.high, .bool t.branded, .string t.brand, .string t.opaq, .int .i64 t.super, vp, vm, vo] 42 (0, 0))) : TyBox w b t vp vm vo := h
set_option maxRecDepth 100000 in
set_option maxHeartbeats 8000000 in
theorem agree_types (w : World) (A : Option Addr) (cap n i j : Nat) (x y : Ty) (xp xm xo yp ym yo : Value) (hi : i < n) (hj : j < n) (hn : n ≤ 1048576) (hx : TySmall x) (hy : TySmall y)
  (hox : TyOf w x xp xm xo) (hoy : TyOf w y yp ym yo) (hA : ∃ b off, A = some ⟨b, off, none⟩ ∧ TyAt w b (off + i * 10) x xp xm xo ∧ TyAt w b (off + j * 10) y yp ym yo) :
  Calls Tryz.prog 55 #[.agg #[.slice A n cap], .int .i64 i, .int .i64 j] w (Ret w (.bool (agreeT x y))) := by
 obtain ⟨b, off, rfl, hax, hay⟩ := hA
 have hparts := fun (w' : World) (h : Ext w w') => equalFunc_part 105 #[] w' _ _ x.parts y.parts partEq (hox.parts.mono h) (hoy.parts.mono h) hx.parts hy.parts (pred105 w' _ _)
 have hmeths := fun (w' : World) (h : Ext w w') => equalFunc_method 106 #[] w' _ _ x.methods y.methods sameMethodB (hox.methods.mono h) (hoy.methods.mono h) hx.methods hy.methods (pred106 w' _ _ hx.method hy.method)
 have hovers := fun (w' : World) (h : Ext w w') => equal_over w' _ _ x.overs y.overs (hox.overs.mono h) (hoy.overs.mono h) hx.overs hy.overs
 obtain ⟨A1, c1, e1⟩ := hox.parts.len
 obtain ⟨A2, c2, e2⟩ := hox.methods.len
 obtain ⟨A3, c3, e3⟩ := hox.overs.len
 obtain ⟨B1, p1, e4⟩ := hoy.parts.len
 obtain ⟨B2, p2, e5⟩ := hoy.methods.len
 obtain ⟨B3, p3, e6⟩ := hoy.overs.len
 subst e1 e2 e3 e4 e5 e6
 have heq := fun w' => eql_plain x.kind x.low x.high x.branded x.brand x.opaq 0 y.kind y.low y.high y.branded y.brand y.opaq 0 w'
 rw [plain_eq] at heq
 have hpx := fun w' => plainOf_any w' x A1 A2 A3 x.parts.length x.methods.length x.overs.length c1 c2 c3
 have hpy := fun w' => plainOf_any w' y B1 B2 B3 y.parts.length y.methods.length y.overs.length p1 p2 p3
 unfold plainV at hpx hpy
 unfold agreeT
 generalize plainEqB x y = q1 at heq ⊢
 generalize eqF partEq x.parts y.parts = q2 at hparts ⊢
 generalize eqF sameMethodB x.methods y.methods = q3 at hmeths ⊢
 generalize eqF overEq x.overs y.overs = q4 at hovers ⊢
 have Hparts := Lib.hid hparts
 have Hmeths := Lib.hid hmeths
 have Hovers := Lib.hid hovers
 have Heq := Lib.hid heq
 have Hpx := Lib.hid hpx
 have Hpy := Lib.hid hpy
 obtain ⟨d0, d1, d2, d3, d4, d5, d6, d7, d8, d9⟩ := hax
 obtain ⟨f0, f1, f2, f3, f4, f5, f6, f7, f8, f9⟩ := hay
 have hi0 : (0 : Int) ≤ (i : Int) := by omega
 have hi1 : (i : Int) < (n : Int) := by omega
 have hj0 : (0 : Int) ≤ (j : Int) := by omega
 have hj1 : (j : Int) < (n : Int) := by omega
 have hb := cell_lt d0
 clear hparts hmeths hovers heq hpx hpy hox hoy hx hy
 go_enter Tryz.func55, Tryz.ntmps55
 go_wp2_with fail
 go_cut [7, 8] (fun s7 s8 wx => Hid (Ext w wx) ∧ ∃ b7 b8, s7 = .pointer (some ⟨b7, 0, none⟩) ∧ s8 = .pointer (some ⟨b8, 0, none⟩) ∧ Hid (TyBox wx b7 x (.slice A1 x.parts.length c1) (.slice A2 x.methods.length c2) (.slice A3 x.overs.length c3)) ∧ Hid (TyBox wx b8 y (.slice B1 y.parts.length p1) (.slice B2 y.methods.length p2) (.slice B3 y.overs.length p3)))
 case first =>
  have hW := (Ext.refl w).alloc (.cells #[.slice (some ⟨b, off, none⟩) n cap] 77)
  have Hw := Lib.hid hW
  have hS : ∀ w', Ext (w.alloc (.cells #[.slice (some ⟨b, off, none⟩) n cap] 77)) w' → (w'.cell? ⟨w.heap.size, 0, none⟩ = some (.slice (some ⟨b, off, none⟩) n cap) ∧ w'.cell? ⟨b, off + i * 10, none⟩ = some (.int .u8 x.kind) ∧ w'.cell? ⟨b, off + i * 10 + 1, none⟩ = some (.int .i64 x.low) ∧ w'.cell? ⟨b, off + i * 10 + 2, none⟩ = some (.int .i64 x.high) ∧ w'.cell? ⟨b, off + i * 10 + 3, none⟩ = some (.bool x.branded) ∧ w'.cell? ⟨b, off + i * 10 + 4, none⟩ = some (.string x.brand) ∧ w'.cell? ⟨b, off + i * 10 + 5, none⟩ = some (.string x.opaq) ∧ w'.cell? ⟨b, off + i * 10 + 6, none⟩ = some (.int .i64 x.super) ∧ w'.cell? ⟨b, off + i * 10 + 7, none⟩ = some (.slice A1 x.parts.length c1) ∧ w'.cell? ⟨b, off + i * 10 + 8, none⟩ = some (.slice A2 x.methods.length c2) ∧ w'.cell? ⟨b, off + i * 10 + 9, none⟩ = some (.slice A3 x.overs.length c3) ∧ w'.cell? ⟨b, off + j * 10, none⟩ = some (.int .u8 y.kind) ∧ w'.cell? ⟨b, off + j * 10 + 1, none⟩ = some (.int .i64 y.low) ∧ w'.cell? ⟨b, off + j * 10 + 2, none⟩ = some (.int .i64 y.high) ∧ w'.cell? ⟨b, off + j * 10 + 3, none⟩ = some (.bool y.branded) ∧ w'.cell? ⟨b, off + j * 10 + 4, none⟩ = some (.string y.brand) ∧ w'.cell? ⟨b, off + j * 10 + 5, none⟩ = some (.string y.opaq) ∧ w'.cell? ⟨b, off + j * 10 + 6, none⟩ = some (.int .i64 y.super) ∧ w'.cell? ⟨b, off + j * 10 + 7, none⟩ = some (.slice B1 y.parts.length p1) ∧ w'.cell? ⟨b, off + j * 10 + 8, none⟩ = some (.slice B2 y.methods.length p2) ∧ w'.cell? ⟨b, off + j * 10 + 9, none⟩ = some (.slice B3 y.overs.length p3)) := fun w' h =>
   ⟨h.cell (by simp), h.cell (Hw.out.cell d0), h.cell (Hw.out.cell d1), h.cell (Hw.out.cell d2), h.cell (Hw.out.cell d3), h.cell (Hw.out.cell d4), h.cell (Hw.out.cell d5), h.cell (Hw.out.cell d6), h.cell (Hw.out.cell d7), h.cell (Hw.out.cell d8), h.cell (Hw.out.cell d9), h.cell (Hw.out.cell f0), h.cell (Hw.out.cell f1), h.cell (Hw.out.cell f2), h.cell (Hw.out.cell f3), h.cell (Hw.out.cell f4), h.cell (Hw.out.cell f5), h.cell (Hw.out.cell f6), h.cell (Hw.out.cell f7), h.cell (Hw.out.cell f8), h.cell (Hw.out.cell f9)⟩
  have HS := Lib.hid hS
  clear hW hS d0 f0 d1 f1 d2 f2 d3 f3 d4 f4 d5 f5 d6 f6 d7 f7 d8 f8 d9 f9
  go_region_held3 (fun w' => w'.cell? ⟨w.heap.size, 0, none⟩ = some (.slice (some ⟨b, off, none⟩) n cap) ∧ w'.cell? ⟨b, off + i * 10, none⟩ = some (.int .u8 x.kind) ∧ w'.cell? ⟨b, off + i * 10 + 1, none⟩ = some (.int .i64 x.low) ∧ w'.cell? ⟨b, off + i * 10 + 2, none⟩ = some (.int .i64 x.high) ∧ w'.cell? ⟨b, off + i * 10 + 3, none⟩ = some (.bool x.branded) ∧ w'.cell? ⟨b, off + i * 10 + 4, none⟩ = some (.string x.brand) ∧ w'.cell? ⟨b, off + i * 10 + 5, none⟩ = some (.string x.opaq) ∧ w'.cell? ⟨b, off + i * 10 + 6, none⟩ = some (.int .i64 x.super) ∧ w'.cell? ⟨b, off + i * 10 + 7, none⟩ = some (.slice A1 x.parts.length c1) ∧ w'.cell? ⟨b, off + i * 10 + 8, none⟩ = some (.slice A2 x.methods.length c2) ∧ w'.cell? ⟨b, off + i * 10 + 9, none⟩ = some (.slice A3 x.overs.length c3) ∧ w'.cell? ⟨b, off + j * 10, none⟩ = some (.int .u8 y.kind) ∧ w'.cell? ⟨b, off + j * 10 + 1, none⟩ = some (.int .i64 y.low) ∧ w'.cell? ⟨b, off + j * 10 + 2, none⟩ = some (.int .i64 y.high) ∧ w'.cell? ⟨b, off + j * 10 + 3, none⟩ = some (.bool y.branded) ∧ w'.cell? ⟨b, off + j * 10 + 4, none⟩ = some (.string y.brand) ∧ w'.cell? ⟨b, off + j * 10 + 5, none⟩ = some (.string y.opaq) ∧ w'.cell? ⟨b, off + j * 10 + 6, none⟩ = some (.int .i64 y.super) ∧ w'.cell? ⟨b, off + j * 10 + 7, none⟩ = some (.slice B1 y.parts.length p1) ∧ w'.cell? ⟨b, off + j * 10 + 8, none⟩ = some (.slice B2 y.methods.length p2) ∧ w'.cell? ⟨b, off + j * 10 + 9, none⟩ = some (.slice B3 y.overs.length p3)) (first | exact HS.out _ (Ext.refl _).drew | exact HS.out _ ((Ext.refl _).drew.alloc _) | exact HS.out _ (((Ext.refl _).drew.alloc _).alloc _)) (fail)
  ·go_wp2_with fail
   go_meet
   refine ⟨Lib.hid ((Hw.out.alloc _).alloc _).drew, _, _, rfl, rfl, ?_, ?_⟩
   ·have h := alloc2_first (w.alloc (.cells #[.slice (some ⟨b, off, none⟩) n cap] 77)) (.cells #[.int .u8 x.kind, .int .i64 x.low, .int .i64 x.high, .bool x.branded, .string x.brand, .string x.opaq, .int .i64 x.super, .slice A1 x.parts.length c1, .slice A2 x.methods.length c2, .slice A3 x.overs.length c3] 42) (.cells #[.int .u8 y.kind, .int .i64 y.low, .int .i64 y.high, .bool y.branded, .string y.brand, .string y.opaq, .int .i64 y.super, .slice B1 y.parts.length p1, .slice B2 y.methods.length p2, .slice B3 y.overs.length p3] 42)
    rw [World.size_alloc] at h
    exact h
   ·have h := alloc2_second (w.alloc (.cells #[.slice (some ⟨b, off, none⟩) n cap] 77)) (.cells #[.int .u8 x.kind, .int .i64 x.low, .int .i64 x.high, .bool x.branded, .string x.brand, .string x.opaq, .int .i64 x.super, .slice A1 x.parts.length c1, .slice A2 x.methods.length c2, .slice A3 x.overs.length c3] 42) (.cells #[.int .u8 y.kind, .int .i64 y.low, .int .i64 y.high, .bool y.branded, .string y.brand, .string y.opaq, .int .i64 y.super, .slice B1 y.parts.length p1, .slice B2 y.methods.length p2, .slice B3 y.overs.length p3] 42)
    rw [World.size_alloc] at h
    exact h
  ·go_wp2_with fail
   go_meet
   refine ⟨Lib.hid ((Hw.out.alloc _).alloc _).drew, _, _, rfl, rfl, ?_, ?_⟩
   ·have h := alloc2_second (w.alloc (.cells #[.slice (some ⟨b, off, none⟩) n cap] 77)) (.cells #[.int .u8 y.kind, .int .i64 y.low, .int .i64 y.high, .bool y.branded, .string y.brand, .string y.opaq, .int .i64 y.super, .slice B1 y.parts.length p1, .slice B2 y.methods.length p2, .slice B3 y.overs.length p3] 42) (.cells #[.int .u8 x.kind, .int .i64 x.low, .int .i64 x.high, .bool x.branded, .string x.brand, .string x.opaq, .int .i64 x.super, .slice A1 x.parts.length c1, .slice A2 x.methods.length c2, .slice A3 x.overs.length c3] 42)
    rw [World.size_alloc] at h
    exact h
   ·have h := alloc2_first (w.alloc (.cells #[.slice (some ⟨b, off, none⟩) n cap] 77)) (.cells #[.int .u8 y.kind, .int .i64 y.low, .int .i64 y.high, .bool y.branded, .string y.brand, .string y.opaq, .int .i64 y.super, .slice B1 y.parts.length p1, .slice B2 y.methods.length p2, .slice B3 y.overs.length p3] 42) (.cells #[.int .u8 x.kind, .int .i64 x.low, .int .i64 x.high, .bool x.branded, .string x.brand, .string x.opaq, .int .i64 x.super, .slice A1 x.parts.length c1, .slice A2 x.methods.length c2, .slice A3 x.overs.length c3] 42)
    rw [World.size_alloc] at h
    exact h
 case rest =>
  clear d0 d1 d2 d3 d4 d5 d6 d7 d8 d9 f0 f1 f2 f3 f4 f5 f6 f7 f8 f9 hb
  obtain ⟨Hx, b7, b8, rfl, rfl, Hb7, Hb8⟩ := hcut
  obtain ⟨d0, d1, d2, d3, d4, d5, d6, d7, d8, d9⟩ := Hb7.out.at
  obtain ⟨f0, f1, f2, f3, f4, f5, f6, f7, f8, f9⟩ := Hb8.out.at
  simp only [Nat.zero_add] at d0 d1 d2 d3 d4 d5 d6 d7 d8 d9 f0 f1 f2 f3 f4 f5 f6 f7 f8 f9
  go_wp2_with fail
  refine (Hparts.out _ Hx.out).mono ?_
  rintro e w1 ⟨rfl, hx1⟩
  replace Hx := Lib.hid (Hx.out.trans hx1)
  replace Hb7 := Lib.hid (Hb7.out.ext hx1)
  replace Hb8 := Lib.hid (Hb8.out.ext hx1)
  clear d0 d1 d2 d3 d4 d5 d6 d7 d8 d9 f0 f1 f2 f3 f4 f5 f6 f7 f8 f9 hx1
  obtain ⟨d0, d1, d2, d3, d4, d5, d6, d7, d8, d9⟩ := Hb7.out.at
  obtain ⟨f0, f1, f2, f3, f4, f5, f6, f7, f8, f9⟩ := Hb8.out.at
  simp only [Nat.zero_add] at d0 d1 d2 d3 d4 d5 d6 d7 d8 d9 f0 f1 f2 f3 f4 f5 f6 f7 f8 f9
  have g109 := fun x y xs ys w => guard109 .eql x y xs ys w
  have heq := Heq.out
  cases q1
  ·go_wp2_with fail
   refine wp_region_X (by kernel_rfl) (by kernel_rfl) (fun w3 => Ext w1 w3) ((Ext.refl _).drew) ?_
   refine X_want rfl ?_
   refine X_val (v := ?_) (fun w1 hC => ?_) ?_
   rotate_left
   ·have q_d0 := hC.cell d0
    have q_d1 := hC.cell d1
    have q_d2 := hC.cell d2
    have q_d3 := hC.cell d3
    have q_d4 := hC.cell d4
    have q_d5 := hC.cell d5
    have q_d6 := hC.cell d6
    have q_d7 := hC.cell d7
    have q_d8 := hC.cell d8
    have q_d9 := hC.cell d9
    have q_f0 := hC.cell f0
    have q_f1 := hC.cell f1
    have q_f2 := hC.cell f2
    have q_f3 := hC.cell f3
    have q_f4 := hC.cell f4
    have q_f5 := hC.cell f5
    have q_f6 := hC.cell f6
    have q_f7 := hC.cell f7
    have q_f8 := hC.cell f8
    have q_f9 := hC.cell f9
    go_simp
    (first | done | exact rfl)
   simp only [Act.put, List.setIfInBounds_toArray, List.set_cons_zero, List.set_cons_succ]
   refine X_want rfl ?_
   refine X_call (v := .agg #[.int .u8 x.kind, .int .i64 x.low, .int .i64 x.high, .bool x.branded, .string x.brand, .string x.opaq, .int .i64 0]) (f := 78) (args := #[.agg #[.int .u8 x.kind, .int .i64 x.low, .int .i64 x.high, .bool x.branded, .string x.brand, .string x.opaq, .int .i64 x.super, .slice A1 x.parts.length c1, .slice A2 x.methods.length c2, .slice A3 x.overs.length c3]]) (fun w1 => ?_) (fun w1 hC => (Hpx.out w1).mono fun e w2 ⟨he, hx⟩ => ⟨he, hC.trans hx⟩) ?_
   ·go_simp
   simp only [Act.put, List.setIfInBounds_toArray, List.set_cons_zero, List.set_cons_succ]
   refine X_want rfl ?_
   refine X_val (v := ?_) (fun w1 hC => ?_) ?_
   rotate_left
   ·have q_d0 := hC.cell d0
    have q_d1 := hC.cell d1
    have q_d2 := hC.cell d2
    have q_d3 := hC.cell d3
    have q_d4 := hC.cell d4
    have q_d5 := hC.cell d5
    have q_d6 := hC.cell d6
    have q_d7 := hC.cell d7
    have q_d8 := hC.cell d8
    have q_d9 := hC.cell d9
    have q_f0 := hC.cell f0
    have q_f1 := hC.cell f1
    have q_f2 := hC.cell f2
    have q_f3 := hC.cell f3
    have q_f4 := hC.cell f4
    have q_f5 := hC.cell f5
    have q_f6 := hC.cell f6
    have q_f7 := hC.cell f7
    have q_f8 := hC.cell f8
    have q_f9 := hC.cell f9
    go_simp
    (first | done | exact rfl)
   simp only [Act.put, List.setIfInBounds_toArray, List.set_cons_zero, List.set_cons_succ]
   refine X_want rfl ?_
   refine X_call (v := .agg #[.int .u8 y.kind, .int .i64 y.low, .int .i64 y.high, .bool y.branded, .string y.brand, .string y.opaq, .int .i64 0]) (f := 78) (args := #[.agg #[.int .u8 y.kind, .int .i64 y.low, .int .i64 y.high, .bool y.branded, .string y.brand, .string y.opaq, .int .i64 y.super, .slice B1 y.parts.length p1, .slice B2 y.methods.length p2, .slice B3 y.overs.length p3]]) (fun w1 => ?_) (fun w1 hC => (Hpy.out w1).mono fun e w2 ⟨he, hx⟩ => ⟨he, hC.trans hx⟩) ?_
   ·go_simp
   simp only [Act.put, List.setIfInBounds_toArray, List.set_cons_zero, List.set_cons_succ]
   refine X_want rfl ?_
   refine X_val (v := ?_) (fun w1 hC => ?_) ?_
   rotate_left
   ·go_simp
    (first | done | exact rfl)
   simp only [Act.put, List.setIfInBounds_toArray, List.set_cons_zero, List.set_cons_succ]
   refine X_want rfl ?_
   refine X_val (v := ?_) (fun w1 hC => ?_) ?_
   rotate_left
   ·go_simp
    (first | done | exact rfl)
   simp only [Act.put, List.setIfInBounds_toArray, List.set_cons_zero, List.set_cons_succ]
   refine X_skip rfl ?_
   simp only [Act.put, List.setIfInBounds_toArray, List.set_cons_zero, List.set_cons_succ]
   refine X_want rfl ?_
   refine X_val (v := ?_) (fun w1 hC => ?_) ?_
   rotate_left
   ·go_simp
    (first | done | exact rfl)
   simp only [Act.put, List.setIfInBounds_toArray, List.set_cons_zero, List.set_cons_succ]
   refine X_want rfl ?_
   refine X_val (v := ?_) (fun w1 hC => ?_) ?_
   rotate_left
   ·go_simp
    (first | done | exact rfl)
   simp only [Act.put, List.setIfInBounds_toArray, List.set_cons_zero, List.set_cons_succ]
   refine X_skip rfl ?_
   simp only [Act.put, List.setIfInBounds_toArray, List.set_cons_zero, List.set_cons_succ]
   refine X_skip rfl ?_
   simp only [Act.put, List.setIfInBounds_toArray, List.set_cons_zero, List.set_cons_succ]
   refine X_skip rfl ?_
   simp only [Act.put, List.setIfInBounds_toArray, List.set_cons_zero, List.set_cons_succ]
   refine X_skip rfl ?_
   simp only [Act.put, List.setIfInBounds_toArray, List.set_cons_zero, List.set_cons_succ]
   refine X_skip rfl ?_
   simp only [Act.put, List.setIfInBounds_toArray, List.set_cons_zero, List.set_cons_succ]
   refine X_want rfl ?_
   refine X_val (v := ?_) (fun w1 hC => ?_) ?_
   rotate_left
   ·go_simp
    (first | done | exact rfl)
   simp only [Act.put, List.setIfInBounds_toArray, List.set_cons_zero, List.set_cons_succ]
   refine X_want rfl ?_
   refine X_val (v := ?_) (fun w1 hC => ?_) ?_
   rotate_left
   ·go_simp
    (first | done | exact rfl)
   simp only [Act.put, List.setIfInBounds_toArray, List.set_cons_zero, List.set_cons_succ]
   refine X_skip rfl ?_
   simp only [Act.put, List.setIfInBounds_toArray, List.set_cons_zero, List.set_cons_succ]
   refine X_skip rfl ?_
   simp only [Act.put, List.setIfInBounds_toArray, List.set_cons_zero, List.set_cons_succ]
   refine X_skip rfl ?_
   simp only [Act.put, List.setIfInBounds_toArray, List.set_cons_zero, List.set_cons_succ]
   refine X_skip rfl ?_
   simp only [Act.put, List.setIfInBounds_toArray, List.set_cons_zero, List.set_cons_succ]
   refine X_skip rfl ?_
   simp only [Act.put, List.setIfInBounds_toArray, List.set_cons_zero, List.set_cons_succ]
   refine X_want rfl ?_
   refine X_val (v := ?_) (fun w1 hC => ?_) ?_
   rotate_left
   ·go_simp
    (first | done | exact rfl)
   simp only [Act.put, List.setIfInBounds_toArray, List.set_cons_zero, List.set_cons_succ]
   refine X_want rfl ?_
   refine X_val (v := ?_) (fun w1 hC => ?_) ?_
   rotate_left
   ·go_simp
    (first | done | exact rfl)
   simp only [Act.put, List.setIfInBounds_toArray, List.set_cons_zero, List.set_cons_succ]
   refine wpQuiet_nil ?_
   intro w3 hx3
   go_wp2_with fail
   go_ret
   exact ⟨by first | rfl | simp, Hx.out.trans hx3⟩
  ·cases q2
   ·go_wp2_with fail
    refine wp_region_X (by kernel_rfl) (by kernel_rfl) (fun w3 => Ext w1 w3) ((Ext.refl _).drew) ?_
    refine X_want rfl ?_
    refine X_val (v := ?_) (fun w1 hC => ?_) ?_
    rotate_left
    ·have q_d0 := hC.cell d0
     have q_d1 := hC.cell d1
     have q_d2 := hC.cell d2
     have q_d3 := hC.cell d3
     have q_d4 := hC.cell d4
     have q_d5 := hC.cell d5
     have q_d6 := hC.cell d6
     have q_d7 := hC.cell d7
     have q_d8 := hC.cell d8
     have q_d9 := hC.cell d9
     have q_f0 := hC.cell f0
     have q_f1 := hC.cell f1
     have q_f2 := hC.cell f2
     have q_f3 := hC.cell f3
     have q_f4 := hC.cell f4
     have q_f5 := hC.cell f5
     have q_f6 := hC.cell f6
     have q_f7 := hC.cell f7
     have q_f8 := hC.cell f8
     have q_f9 := hC.cell f9
     go_simp
     (first | done | exact rfl)
    simp only [Act.put, List.setIfInBounds_toArray, List.set_cons_zero, List.set_cons_succ]
    refine X_want rfl ?_
    refine X_call (v := .agg #[.int .u8 x.kind, .int .i64 x.low, .int .i64 x.high, .bool x.branded, .string x.brand, .string x.opaq, .int .i64 0]) (f := 78) (args := #[.agg #[.int .u8 x.kind, .int .i64 x.low, .int .i64 x.high, .bool x.branded, .string x.brand, .string x.opaq, .int .i64 x.super, .slice A1 x.parts.length c1, .slice A2 x.methods.length c2, .slice A3 x.overs.length c3]]) (fun w1 => ?_) (fun w1 hC => (Hpx.out w1).mono fun e w2 ⟨he, hx⟩ => ⟨he, hC.trans hx⟩) ?_
    ·go_simp
    simp only [Act.put, List.setIfInBounds_toArray, List.set_cons_zero, List.set_cons_succ]
    refine X_want rfl ?_
    refine X_val (v := ?_) (fun w1 hC => ?_) ?_
    rotate_left
    ·have q_d0 := hC.cell d0
     have q_d1 := hC.cell d1
     have q_d2 := hC.cell d2
     have q_d3 := hC.cell d3
     have q_d4 := hC.cell d4
     have q_d5 := hC.cell d5
     have q_d6 := hC.cell d6
     have q_d7 := hC.cell d7
     have q_d8 := hC.cell d8
     have q_d9 := hC.cell d9
     have q_f0 := hC.cell f0
     have q_f1 := hC.cell f1
     have q_f2 := hC.cell f2
     have q_f3 := hC.cell f3
     have q_f4 := hC.cell f4
     have q_f5 := hC.cell f5
     have q_f6 := hC.cell f6
     have q_f7 := hC.cell f7
     have q_f8 := hC.cell f8
     have q_f9 := hC.cell f9
     go_simp
     (first | done | exact rfl)
    simp only [Act.put, List.setIfInBounds_toArray, List.set_cons_zero, List.set_cons_succ]
    refine X_want rfl ?_
    refine X_call (v := .agg #[.int .u8 y.kind, .int .i64 y.low, .int .i64 y.high, .bool y.branded, .string y.brand, .string y.opaq, .int .i64 0]) (f := 78) (args := #[.agg #[.int .u8 y.kind, .int .i64 y.low, .int .i64 y.high, .bool y.branded, .string y.brand, .string y.opaq, .int .i64 y.super, .slice B1 y.parts.length p1, .slice B2 y.methods.length p2, .slice B3 y.overs.length p3]]) (fun w1 => ?_) (fun w1 hC => (Hpy.out w1).mono fun e w2 ⟨he, hx⟩ => ⟨he, hC.trans hx⟩) ?_
    ·go_simp
    simp only [Act.put, List.setIfInBounds_toArray, List.set_cons_zero, List.set_cons_succ]
    refine X_want rfl ?_
    refine X_val (v := ?_) (fun w1 hC => ?_) ?_
    rotate_left
    ·go_simp
     (first | done | exact rfl)
    simp only [Act.put, List.setIfInBounds_toArray, List.set_cons_zero, List.set_cons_succ]
    refine X_want rfl ?_
    refine X_val (v := ?_) (fun w1 hC => ?_) ?_
    rotate_left
    ·go_simp
     (first | done | exact rfl)
    simp only [Act.put, List.setIfInBounds_toArray, List.set_cons_zero, List.set_cons_succ]
    refine X_want rfl ?_
    refine X_val (v := ?_) (fun w1 hC => ?_) ?_
    rotate_left
    ·go_simp
     (first | done | exact rfl)
    simp only [Act.put, List.setIfInBounds_toArray, List.set_cons_zero, List.set_cons_succ]
    refine X_want rfl ?_
    refine X_val (v := ?_) (fun w1 hC => ?_) ?_
    rotate_left
    ·go_simp
     (first | done | exact rfl)
    simp only [Act.put, List.setIfInBounds_toArray, List.set_cons_zero, List.set_cons_succ]
    refine X_want rfl ?_
    refine X_val (v := ?_) (fun w1 hC => ?_) ?_
    rotate_left
    ·go_simp
     (first | done | exact rfl)
    simp only [Act.put, List.setIfInBounds_toArray, List.set_cons_zero, List.set_cons_succ]
    refine X_skip rfl ?_
    simp only [Act.put, List.setIfInBounds_toArray, List.set_cons_zero, List.set_cons_succ]
    refine X_skip rfl ?_
    simp only [Act.put, List.setIfInBounds_toArray, List.set_cons_zero, List.set_cons_succ]
    refine X_skip rfl ?_
    simp only [Act.put, List.setIfInBounds_toArray, List.set_cons_zero, List.set_cons_succ]
    refine X_skip rfl ?_
    simp only [Act.put, List.setIfInBounds_toArray, List.set_cons_zero, List.set_cons_succ]
    refine X_skip rfl ?_
    simp only [Act.put, List.setIfInBounds_toArray, List.set_cons_zero, List.set_cons_succ]
    refine X_want rfl ?_
    refine X_val (v := ?_) (fun w1 hC => ?_) ?_
    rotate_left
    ·go_simp
     (first | done | exact rfl)
    simp only [Act.put, List.setIfInBounds_toArray, List.set_cons_zero, List.set_cons_succ]
    refine X_want rfl ?_
    refine X_val (v := ?_) (fun w1 hC => ?_) ?_
    rotate_left
    ·go_simp
     (first | done | exact rfl)
    simp only [Act.put, List.setIfInBounds_toArray, List.set_cons_zero, List.set_cons_succ]
    refine X_skip rfl ?_
    simp only [Act.put, List.setIfInBounds_toArray, List.set_cons_zero, List.set_cons_succ]
    refine X_skip rfl ?_
    simp only [Act.put, List.setIfInBounds_toArray, List.set_cons_zero, List.set_cons_succ]
    refine X_skip rfl ?_
    simp only [Act.put, List.setIfInBounds_toArray, List.set_cons_zero, List.set_cons_succ]
    refine X_skip rfl ?_
    simp only [Act.put, List.setIfInBounds_toArray, List.set_cons_zero, List.set_cons_succ]
    refine X_skip rfl ?_
    simp only [Act.put, List.setIfInBounds_toArray, List.set_cons_zero, List.set_cons_succ]
    refine X_want rfl ?_
    refine X_val (v := ?_) (fun w1 hC => ?_) ?_
    rotate_left
    ·go_simp
     (first | done | exact rfl)
    simp only [Act.put, List.setIfInBounds_toArray, List.set_cons_zero, List.set_cons_succ]
    refine X_want rfl ?_
    refine X_val (v := ?_) (fun w1 hC => ?_) ?_
    rotate_left
    ·go_simp
     (first | done | exact rfl)
    simp only [Act.put, List.setIfInBounds_toArray, List.set_cons_zero, List.set_cons_succ]
    refine wpQuiet_nil ?_
    intro w3 hx3
    go_wp2_with fail
    go_ret
    exact ⟨by first | rfl | simp, Hx.out.trans hx3⟩
   ·cases q3
    ·go_wp2_with fail
     refine wp_region_X (by kernel_rfl) (by kernel_rfl) (fun w3 => Ext w1 w3) ((Ext.refl _).drew) ?_
     refine X_want rfl ?_
     refine X_val (v := ?_) (fun w1 hC => ?_) ?_
     rotate_left
     ·have q_d0 := hC.cell d0
      have q_d1 := hC.cell d1
      have q_d2 := hC.cell d2
      have q_d3 := hC.cell d3
      have q_d4 := hC.cell d4
      have q_d5 := hC.cell d5
      have q_d6 := hC.cell d6
      have q_d7 := hC.cell d7
      have q_d8 := hC.cell d8
      have q_d9 := hC.cell d9
      have q_f0 := hC.cell f0
      have q_f1 := hC.cell f1
      have q_f2 := hC.cell f2
      have q_f3 := hC.cell f3
      have q_f4 := hC.cell f4
      have q_f5 := hC.cell f5
      have q_f6 := hC.cell f6
      have q_f7 := hC.cell f7
      have q_f8 := hC.cell f8
      have q_f9 := hC.cell f9
      go_simp
      (first | done | exact rfl)
     simp only [Act.put, List.setIfInBounds_toArray, List.set_cons_zero, List.set_cons_succ]
     refine X_want rfl ?_
     refine X_call (v := .agg #[.int .u8 x.kind, .int .i64 x.low, .int .i64 x.high, .bool x.branded, .string x.brand, .string x.opaq, .int .i64 0]) (f := 78) (args := #[.agg #[.int .u8 x.kind, .int .i64 x.low, .int .i64 x.high, .bool x.branded, .string x.brand, .string x.opaq, .int .i64 x.super, .slice A1 x.parts.length c1, .slice A2 x.methods.length c2, .slice A3 x.overs.length c3]]) (fun w1 => ?_) (fun w1 hC => (Hpx.out w1).mono fun e w2 ⟨he, hx⟩ => ⟨he, hC.trans hx⟩) ?_
     ·go_simp
     simp only [Act.put, List.setIfInBounds_toArray, List.set_cons_zero, List.set_cons_succ]
     refine X_want rfl ?_
     refine X_val (v := ?_) (fun w1 hC => ?_) ?_
     rotate_left
     ·have q_d0 := hC.cell d0
      have q_d1 := hC.cell d1
      have q_d2 := hC.cell d2
      have q_d3 := hC.cell d3
      have q_d4 := hC.cell d4
      have q_d5 := hC.cell d5
      have q_d6 := hC.cell d6
      have q_d7 := hC.cell d7
      have q_d8 := hC.cell d8
      have q_d9 := hC.cell d9
      have q_f0 := hC.cell f0
      have q_f1 := hC.cell f1
      have q_f2 := hC.cell f2
      have q_f3 := hC.cell f3
      have q_f4 := hC.cell f4
      have q_f5 := hC.cell f5
      have q_f6 := hC.cell f6
      have q_f7 := hC.cell f7
      have q_f8 := hC.cell f8
      have q_f9 := hC.cell f9
      go_simp
      (first | done | exact rfl)
     simp only [Act.put, List.setIfInBounds_toArray, List.set_cons_zero, List.set_cons_succ]
     refine X_want rfl ?_
     refine X_call (v := .agg #[.int .u8 y.kind, .int .i64 y.low, .int .i64 y.high, .bool y.branded, .string y.brand, .string y.opaq, .int .i64 0]) (f := 78) (args := #[.agg #[.int .u8 y.kind, .int .i64 y.low, .int .i64 y.high, .bool y.branded, .string y.brand, .string y.opaq, .int .i64 y.super, .slice B1 y.parts.length p1, .slice B2 y.methods.length p2, .slice B3 y.overs.length p3]]) (fun w1 => ?_) (fun w1 hC => (Hpy.out w1).mono fun e w2 ⟨he, hx⟩ => ⟨he, hC.trans hx⟩) ?_
     ·go_simp
     simp only [Act.put, List.setIfInBounds_toArray, List.set_cons_zero, List.set_cons_succ]
     refine X_want rfl ?_
     refine X_val (v := ?_) (fun w1 hC => ?_) ?_
     rotate_left
     ·go_simp
      (first | done | exact rfl)
     simp only [Act.put, List.setIfInBounds_toArray, List.set_cons_zero, List.set_cons_succ]
     refine X_want rfl ?_
     refine X_val (v := ?_) (fun w1 hC => ?_) ?_
     rotate_left
     ·go_simp
      (first | done | exact rfl)
     simp only [Act.put, List.setIfInBounds_toArray, List.set_cons_zero, List.set_cons_succ]
     refine X_want rfl ?_
     refine X_val (v := ?_) (fun w1 hC => ?_) ?_
     rotate_left
     ·go_simp
      (first | done | exact rfl)
     simp only [Act.put, List.setIfInBounds_toArray, List.set_cons_zero, List.set_cons_succ]
     refine X_want rfl ?_
     refine X_val (v := ?_) (fun w1 hC => ?_) ?_
     rotate_left
     ·go_simp
      (first | done | exact rfl)
     simp only [Act.put, List.setIfInBounds_toArray, List.set_cons_zero, List.set_cons_succ]
     refine X_want rfl ?_
     refine X_val (v := ?_) (fun w1 hC => ?_) ?_
     rotate_left
     ·go_simp
      (first | done | exact rfl)
     simp only [Act.put, List.setIfInBounds_toArray, List.set_cons_zero, List.set_cons_succ]
     refine X_want rfl ?_
     refine X_val (v := ?_) (fun w1 hC => ?_) ?_
     rotate_left
     ·go_simp
      (first | done | exact rfl)
     simp only [Act.put, List.setIfInBounds_toArray, List.set_cons_zero, List.set_cons_succ]
     refine X_want rfl ?_
     refine X_val (v := ?_) (fun w1 hC => ?_) ?_
     rotate_left
     ·have q_d0 := hC.cell d0
      have q_d1 := hC.cell d1
      have q_d2 := hC.cell d2
      have q_d3 := hC.cell d3
      have q_d4 := hC.cell d4
      have q_d5 := hC.cell d5
      have q_d6 := hC.cell d6
      have q_d7 := hC.cell d7
      have q_d8 := hC.cell d8
      have q_d9 := hC.cell d9
      have q_f0 := hC.cell f0
      have q_f1 := hC.cell f1
      have q_f2 := hC.cell f2
      have q_f3 := hC.cell f3
      have q_f4 := hC.cell f4
      have q_f5 := hC.cell f5
      have q_f6 := hC.cell f6
      have q_f7 := hC.cell f7
      have q_f8 := hC.cell f8
      have q_f9 := hC.cell f9
      go_simp
      (first | done | exact rfl)
     simp only [Act.put, List.setIfInBounds_toArray, List.set_cons_zero, List.set_cons_succ]
     refine X_want rfl ?_
     refine X_val (v := ?_) (fun w1 hC => ?_) ?_
     rotate_left
     ·go_simp
      (first | done | exact rfl)
     simp only [Act.put, List.setIfInBounds_toArray, List.set_cons_zero, List.set_cons_succ]
     refine X_want rfl ?_
     refine X_val (v := ?_) (fun w1 hC => ?_) ?_
     rotate_left
     ·have q_d0 := hC.cell d0
      have q_d1 := hC.cell d1
      have q_d2 := hC.cell d2
      have q_d3 := hC.cell d3
      have q_d4 := hC.cell d4
      have q_d5 := hC.cell d5
      have q_d6 := hC.cell d6
      have q_d7 := hC.cell d7
      have q_d8 := hC.cell d8
      have q_d9 := hC.cell d9
      have q_f0 := hC.cell f0
      have q_f1 := hC.cell f1
      have q_f2 := hC.cell f2
      have q_f3 := hC.cell f3
      have q_f4 := hC.cell f4
      have q_f5 := hC.cell f5
      have q_f6 := hC.cell f6
      have q_f7 := hC.cell f7
      have q_f8 := hC.cell f8
      have q_f9 := hC.cell f9
      go_simp
      (first | done | exact rfl)
     simp only [Act.put, List.setIfInBounds_toArray, List.set_cons_zero, List.set_cons_succ]
     refine X_want rfl ?_
     refine X_call (v := .bool false) (f := 83) (args := #[.slice A2 x.methods.length c2, .slice B2 y.methods.length p2, .func (.func 106) #[] #[]]) (fun w1 => ?_) (fun w1 hC => (Hmeths.out w1 (Hx.out.trans hC)).mono fun e w2 ⟨he, hx⟩ => ⟨he, hC.trans hx⟩) ?_
     ·go_simp
     simp only [Act.put, List.setIfInBounds_toArray, List.set_cons_zero, List.set_cons_succ]
     refine X_want rfl ?_
     refine X_val (v := ?_) (fun w1 hC => ?_) ?_
     rotate_left
     ·go_simp
      (first | done | exact rfl)
     simp only [Act.put, List.setIfInBounds_toArray, List.set_cons_zero, List.set_cons_succ]
     refine X_want rfl ?_
     refine X_val (v := ?_) (fun w1 hC => ?_) ?_
     rotate_left
     ·go_simp
      (first | done | exact rfl)
     simp only [Act.put, List.setIfInBounds_toArray, List.set_cons_zero, List.set_cons_succ]
     refine X_skip rfl ?_
     simp only [Act.put, List.setIfInBounds_toArray, List.set_cons_zero, List.set_cons_succ]
     refine X_skip rfl ?_
     simp only [Act.put, List.setIfInBounds_toArray, List.set_cons_zero, List.set_cons_succ]
     refine X_skip rfl ?_
     simp only [Act.put, List.setIfInBounds_toArray, List.set_cons_zero, List.set_cons_succ]
     refine X_skip rfl ?_
     simp only [Act.put, List.setIfInBounds_toArray, List.set_cons_zero, List.set_cons_succ]
     refine X_skip rfl ?_
     simp only [Act.put, List.setIfInBounds_toArray, List.set_cons_zero, List.set_cons_succ]
     refine X_want rfl ?_
     refine X_val (v := ?_) (fun w1 hC => ?_) ?_
     rotate_left
     ·go_simp
      (first | done | exact rfl)
     simp only [Act.put, List.setIfInBounds_toArray, List.set_cons_zero, List.set_cons_succ]
     refine X_want rfl ?_
     refine X_val (v := ?_) (fun w1 hC => ?_) ?_
     rotate_left
     ·go_simp
      (first | done | exact rfl)
     simp only [Act.put, List.setIfInBounds_toArray, List.set_cons_zero, List.set_cons_succ]
     refine wpQuiet_nil ?_
     intro w3 hx3
     go_wp2_with fail
     go_ret
     exact ⟨by first | rfl | simp, Hx.out.trans hx3⟩
    ·go_wp2_with fail
     refine wp_region_X (by kernel_rfl) (by kernel_rfl) (fun w3 => Ext w1 w3) ((Ext.refl _).drew) ?_
     refine X_want rfl ?_
     refine X_val (v := ?_) (fun w1 hC => ?_) ?_
     rotate_left
     ·have q_d0 := hC.cell d0
      have q_d1 := hC.cell d1
      have q_d2 := hC.cell d2
      have q_d3 := hC.cell d3
      have q_d4 := hC.cell d4
      have q_d5 := hC.cell d5
      have q_d6 := hC.cell d6
      have q_d7 := hC.cell d7
      have q_d8 := hC.cell d8
      have q_d9 := hC.cell d9
      have q_f0 := hC.cell f0
      have q_f1 := hC.cell f1
      have q_f2 := hC.cell f2
      have q_f3 := hC.cell f3
      have q_f4 := hC.cell f4
      have q_f5 := hC.cell f5
      have q_f6 := hC.cell f6
      have q_f7 := hC.cell f7
      have q_f8 := hC.cell f8
      have q_f9 := hC.cell f9
      go_simp
      (first | done | exact rfl)
     simp only [Act.put, List.setIfInBounds_toArray, List.set_cons_zero, List.set_cons_succ]
     refine X_want rfl ?_
     refine X_call (v := .agg #[.int .u8 x.kind, .int .i64 x.low, .int .i64 x.high, .bool x.branded, .string x.brand, .string x.opaq, .int .i64 0]) (f := 78) (args := #[.agg #[.int .u8 x.kind, .int .i64 x.low, .int .i64 x.high, .bool x.branded, .string x.brand, .string x.opaq, .int .i64 x.super, .slice A1 x.parts.length c1, .slice A2 x.methods.length c2, .slice A3 x.overs.length c3]]) (fun w1 => ?_) (fun w1 hC => (Hpx.out w1).mono fun e w2 ⟨he, hx⟩ => ⟨he, hC.trans hx⟩) ?_
     ·go_simp
     simp only [Act.put, List.setIfInBounds_toArray, List.set_cons_zero, List.set_cons_succ]
     refine X_want rfl ?_
     refine X_val (v := ?_) (fun w1 hC => ?_) ?_
     rotate_left
     ·have q_d0 := hC.cell d0
      have q_d1 := hC.cell d1
      have q_d2 := hC.cell d2
      have q_d3 := hC.cell d3
      have q_d4 := hC.cell d4
      have q_d5 := hC.cell d5
      have q_d6 := hC.cell d6
      have q_d7 := hC.cell d7
      have q_d8 := hC.cell d8
      have q_d9 := hC.cell d9
      have q_f0 := hC.cell f0
      have q_f1 := hC.cell f1
      have q_f2 := hC.cell f2
      have q_f3 := hC.cell f3
      have q_f4 := hC.cell f4
      have q_f5 := hC.cell f5
      have q_f6 := hC.cell f6
      have q_f7 := hC.cell f7
      have q_f8 := hC.cell f8
      have q_f9 := hC.cell f9
      go_simp
      (first | done | exact rfl)
     simp only [Act.put, List.setIfInBounds_toArray, List.set_cons_zero, List.set_cons_succ]
     refine X_want rfl ?_
     refine X_call (v := .agg #[.int .u8 y.kind, .int .i64 y.low, .int .i64 y.high, .bool y.branded, .string y.brand, .string y.opaq, .int .i64 0]) (f := 78) (args := #[.agg #[.int .u8 y.kind, .int .i64 y.low, .int .i64 y.high, .bool y.branded, .string y.brand, .string y.opaq, .int .i64 y.super, .slice B1 y.parts.length p1, .slice B2 y.methods.length p2, .slice B3 y.overs.length p3]]) (fun w1 => ?_) (fun w1 hC => (Hpy.out w1).mono fun e w2 ⟨he, hx⟩ => ⟨he, hC.trans hx⟩) ?_
     ·go_simp
     simp only [Act.put, List.setIfInBounds_toArray, List.set_cons_zero, List.set_cons_succ]
     refine X_want rfl ?_
     refine X_val (v := ?_) (fun w1 hC => ?_) ?_
     rotate_left
     ·go_simp
      (first | done | exact rfl)
     simp only [Act.put, List.setIfInBounds_toArray, List.set_cons_zero, List.set_cons_succ]
     refine X_want rfl ?_
     refine X_val (v := ?_) (fun w1 hC => ?_) ?_
     rotate_left
     ·go_simp
      (first | done | exact rfl)
     simp only [Act.put, List.setIfInBounds_toArray, List.set_cons_zero, List.set_cons_succ]
     refine X_want rfl ?_
     refine X_val (v := ?_) (fun w1 hC => ?_) ?_
     rotate_left
     ·go_simp
      (first | done | exact rfl)
     simp only [Act.put, List.setIfInBounds_toArray, List.set_cons_zero, List.set_cons_succ]
     refine X_want rfl ?_
     refine X_val (v := ?_) (fun w1 hC => ?_) ?_
     rotate_left
     ·go_simp
      (first | done | exact rfl)
     simp only [Act.put, List.setIfInBounds_toArray, List.set_cons_zero, List.set_cons_succ]
     refine X_want rfl ?_
     refine X_val (v := ?_) (fun w1 hC => ?_) ?_
     rotate_left
     ·go_simp
      (first | done | exact rfl)
     simp only [Act.put, List.setIfInBounds_toArray, List.set_cons_zero, List.set_cons_succ]
     refine X_want rfl ?_
     refine X_val (v := ?_) (fun w1 hC => ?_) ?_
     rotate_left
     ·go_simp
      (first | done | exact rfl)
     simp only [Act.put, List.setIfInBounds_toArray, List.set_cons_zero, List.set_cons_succ]
     refine X_want rfl ?_
     refine X_val (v := ?_) (fun w1 hC => ?_) ?_
     rotate_left
     ·have q_d0 := hC.cell d0
      have q_d1 := hC.cell d1
      have q_d2 := hC.cell d2
      have q_d3 := hC.cell d3
      have q_d4 := hC.cell d4
      have q_d5 := hC.cell d5
      have q_d6 := hC.cell d6
      have q_d7 := hC.cell d7
      have q_d8 := hC.cell d8
      have q_d9 := hC.cell d9
      have q_f0 := hC.cell f0
      have q_f1 := hC.cell f1
      have q_f2 := hC.cell f2
      have q_f3 := hC.cell f3
      have q_f4 := hC.cell f4
      have q_f5 := hC.cell f5
      have q_f6 := hC.cell f6
      have q_f7 := hC.cell f7
      have q_f8 := hC.cell f8
      have q_f9 := hC.cell f9
      go_simp
      (first | done | exact rfl)
     simp only [Act.put, List.setIfInBounds_toArray, List.set_cons_zero, List.set_cons_succ]
     refine X_want rfl ?_
     refine X_val (v := ?_) (fun w1 hC => ?_) ?_
     rotate_left
     ·go_simp
      (first | done | exact rfl)
     simp only [Act.put, List.setIfInBounds_toArray, List.set_cons_zero, List.set_cons_succ]
     refine X_want rfl ?_
     refine X_val (v := ?_) (fun w1 hC => ?_) ?_
     rotate_left
     ·have q_d0 := hC.cell d0
      have q_d1 := hC.cell d1
      have q_d2 := hC.cell d2
      have q_d3 := hC.cell d3
      have q_d4 := hC.cell d4
      have q_d5 := hC.cell d5
      have q_d6 := hC.cell d6
      have q_d7 := hC.cell d7
      have q_d8 := hC.cell d8
      have q_d9 := hC.cell d9
      have q_f0 := hC.cell f0
      have q_f1 := hC.cell f1
      have q_f2 := hC.cell f2
      have q_f3 := hC.cell f3
      have q_f4 := hC.cell f4
      have q_f5 := hC.cell f5
      have q_f6 := hC.cell f6
      have q_f7 := hC.cell f7
      have q_f8 := hC.cell f8
      have q_f9 := hC.cell f9
      go_simp
      (first | done | exact rfl)
     simp only [Act.put, List.setIfInBounds_toArray, List.set_cons_zero, List.set_cons_succ]
     refine X_want rfl ?_
     refine X_call (v := .bool true) (f := 83) (args := #[.slice A2 x.methods.length c2, .slice B2 y.methods.length p2, .func (.func 106) #[] #[]]) (fun w1 => ?_) (fun w1 hC => (Hmeths.out w1 (Hx.out.trans hC)).mono fun e w2 ⟨he, hx⟩ => ⟨he, hC.trans hx⟩) ?_
     ·go_simp
     simp only [Act.put, List.setIfInBounds_toArray, List.set_cons_zero, List.set_cons_succ]
     refine X_want rfl ?_
     refine X_val (v := ?_) (fun w1 hC => ?_) ?_
     rotate_left
     ·go_simp
      (first | done | exact rfl)
     simp only [Act.put, List.setIfInBounds_toArray, List.set_cons_zero, List.set_cons_succ]
     refine X_want rfl ?_
     refine X_val (v := ?_) (fun w1 hC => ?_) ?_
     rotate_left
     ·go_simp
      (first | done | exact rfl)
     simp only [Act.put, List.setIfInBounds_toArray, List.set_cons_zero, List.set_cons_succ]
     refine X_want rfl ?_
     refine X_val (v := ?_) (fun w1 hC => ?_) ?_
     rotate_left
     ·go_simp
      (first | done | exact rfl)
     simp only [Act.put, List.setIfInBounds_toArray, List.set_cons_zero, List.set_cons_succ]
     refine X_want rfl ?_
     refine X_val (v := ?_) (fun w1 hC => ?_) ?_
     rotate_left
     ·have q_d0 := hC.cell d0
      have q_d1 := hC.cell d1
      have q_d2 := hC.cell d2
      have q_d3 := hC.cell d3
      have q_d4 := hC.cell d4
      have q_d5 := hC.cell d5
      have q_d6 := hC.cell d6
      have q_d7 := hC.cell d7
      have q_d8 := hC.cell d8
      have q_d9 := hC.cell d9
      have q_f0 := hC.cell f0
      have q_f1 := hC.cell f1
      have q_f2 := hC.cell f2
      have q_f3 := hC.cell f3
      have q_f4 := hC.cell f4
      have q_f5 := hC.cell f5
      have q_f6 := hC.cell f6
      have q_f7 := hC.cell f7
      have q_f8 := hC.cell f8
      have q_f9 := hC.cell f9
      go_simp
      (first | done | exact rfl)
     simp only [Act.put, List.setIfInBounds_toArray, List.set_cons_zero, List.set_cons_succ]
     refine X_want rfl ?_
     refine X_val (v := ?_) (fun w1 hC => ?_) ?_
     rotate_left
     ·go_simp
      (first | done | exact rfl)
     simp only [Act.put, List.setIfInBounds_toArray, List.set_cons_zero, List.set_cons_succ]
     refine X_want rfl ?_
     refine X_val (v := ?_) (fun w1 hC => ?_) ?_
     rotate_left
     ·have q_d0 := hC.cell d0
      have q_d1 := hC.cell d1
      have q_d2 := hC.cell d2
      have q_d3 := hC.cell d3
      have q_d4 := hC.cell d4
      have q_d5 := hC.cell d5
      have q_d6 := hC.cell d6
      have q_d7 := hC.cell d7
      have q_d8 := hC.cell d8
      have q_d9 := hC.cell d9
      have q_f0 := hC.cell f0
      have q_f1 := hC.cell f1
      have q_f2 := hC.cell f2
      have q_f3 := hC.cell f3
      have q_f4 := hC.cell f4
      have q_f5 := hC.cell f5
      have q_f6 := hC.cell f6
      have q_f7 := hC.cell f7
      have q_f8 := hC.cell f8
      have q_f9 := hC.cell f9
      go_simp
      (first | done | exact rfl)
     simp only [Act.put, List.setIfInBounds_toArray, List.set_cons_zero, List.set_cons_succ]
     refine X_want rfl ?_
     refine X_call (v := .bool q4) (f := 84) (args := #[.slice A3 x.overs.length c3, .slice B3 y.overs.length p3]) (fun w1 => ?_) (fun w1 hC => (Hovers.out w1 (Hx.out.trans hC)).mono fun e w2 ⟨he, hx⟩ => ⟨he, hC.trans hx⟩) ?_
     ·go_simp
     simp only [Act.put, List.setIfInBounds_toArray, List.set_cons_zero, List.set_cons_succ]
     refine X_want rfl ?_
     refine X_val (v := ?_) (fun w1 hC => ?_) ?_
     rotate_left
     ·go_simp
      (first | done | exact rfl)
     simp only [Act.put, List.setIfInBounds_toArray, List.set_cons_zero, List.set_cons_succ]
     refine X_want rfl ?_
     refine X_val (v := ?_) (fun w1 hC => ?_) ?_
     rotate_left
     ·go_simp
      (first | done | exact rfl)
     simp only [Act.put, List.setIfInBounds_toArray, List.set_cons_zero, List.set_cons_succ]
     refine wpQuiet_nil ?_
     intro w3 hx3
     go_wp2_with fail
     go_ret
     exact ⟨by first | rfl | simp, Hx.out.trans hx3⟩
end Go.Proofs.YtldnjnnhfeobdaaGreatDoor
/- Contract: the references of a type, as an iterator. Conditions: the type is right. -/
namespace Go.Proofs.YtldnjnnhfeobdaaGreatDoor
open Go.RowKit Go.Shelf
attribute [local go_sem] Oper.semAt_some
/-- what a round keeps: what lay below n₀; types and methods in boxes -/
def KpR (n₀ : Nat) (W W' : World) : Prop := Below n₀ W W' ∧ ∀ (b : Nat) (c : Array Value) (ty : TypeId) (f : Nat × Nat), ty = 42 ∨ ty = 74 → W.heap[b]? = some (.cells c ty f) → W'.heap[b]? = some (.cells c ty f)
theorem KpR.trans {n₀ : Nat} {A B C : World} (h : KpR n₀ A B) (k : KpR n₀ B C) : KpR n₀ A C := ⟨h.1.trans k.1, fun b c ty f ht hb => k.2 b c ty f ht (h.2 b c ty f ht hb)⟩
theorem KpR.refl (n₀ : Nat) (A : World) : KpR n₀ A A := ⟨Below.refl _ _, fun _ _ _ _ _ h => h⟩
theorem KpR.alloc {n₀ : Nat} {A : World} (h : n₀ ≤ A.heap.size) (o : Obj) : KpR n₀ A (A.alloc o) :=
 ⟨(Below.refl _ _).alloc h o, fun b c ty f ht hb => (Below.heap_alloc _ _ _ (Array.getElem?_eq_some_iff.1 hb).1).trans hb⟩
theorem KpR.book {n₀ : Nat} {w : World} (hn : n₀ ≤ w.heap.size) (W : World) (l : Nat) (o o' : Obj) (hl : w.heap.size ≤ l) (h : W.heap[l]? = some o) (h1 : o.isCells = false) (h2 : o.isWalk = false) : KpR n₀ W (W.putObj l o') :=
 ⟨belowK_b hn W l o o' hl h h1 h2, fun b c ty f ht hb => by
  have hne : b ≠ l := by rintro rfl; rw [h] at hb; injection hb with hb; subst hb; simp [Obj.isCells] at h1
  exact (World.putObj_heap_other hne).trans hb⟩
theorem KpR.ext {w0 A B : World} (h : KpR w0.heap.size A B) (k : Ext w0 A) : Ext w0 B := Below.trans k h.1
/-- a method in a box -/
def MethBox (w : World) (b : Nat) (m : Method) (va vr : Value) : Prop := w.heap[b]? = some (.cells #[.string m.name, va, .int .i64 m.result, vr, .string m.proc] 74 (0, 0))
theorem TyBox.kp {n₀ : Nat} {A B : World} {b : Nat} {t : Ty} {vp vm vo : Value} (h : TyBox A b t vp vm vo) (k : KpR n₀ A B) : TyBox B b t vp vm vo := k.2 _ _ _ _ (.inl rfl) h
theorem MethBox.kp {n₀ : Nat} {A B : World} {b : Nat} {m : Method} {va vr : Value} (h : MethBox A b m va vr) (k : KpR n₀ A B) : MethBox B b m va vr := k.2 _ _ _ _ (.inr rfl) h
theorem MethBox.ext {A B : World} {b : Nat} {m : Method} {va vr : Value} (h : MethBox A b m va vr) (k : Ext A B) : MethBox B b m va vr := k.heap h
theorem MethBox.made (A : World) (m : Method) (va vr : Value) : MethBox (A.alloc (.cells #[.string m.name, va, .int .i64 m.result, vr, .string m.proc] 74)) A.heap.size m va vr := World.alloc_heap_new A _
theorem take_map_one {α β : Type} (f : α → β) (l : List α) (k : Nat) (h : k < l.length) : (l.map f).take k ++ [f l[k]] = (l.map f).take (k + 1) := by
 rw [List.take_succ_eq_append_getElem (by simpa using h)]; simp
theorem take_one {α : Type} (l : List α) (k : Nat) (h : k < l.length) : l.take k ++ [l[k]] = l.take (k + 1) := (List.take_succ_eq_append_getElem h).symm
theorem flat_take_one {α β : Type} (f : α → List β) (l : List α) (k : Nat) (h : k < l.length) : (l.take (k + 1)).flatMap f = (l.take k).flatMap f ++ f l[k] := by
 rw [List.take_succ_eq_append_getElem h, List.flatMap_append]; simp
set_option maxRecDepth 100000 in
set_option maxHeartbeats 4000000 in
theorem refs1_in (n : Nat) (hn : 1 ≤ n) (l bx nn : Nat) (w0 : World) (t : Ty) (vp vm vo : Value) (hof : TyOf w0 t vp vm vo) (hf : Fine nn t) (J Jx : List Int → World → Prop)
  (hY : ∀ (pre : List Int) (x : Int) (W : World), (0 ≤ x ∧ x < nn) → J pre W → pre.length < 66 → YieldAt Fence.wide (n - 1) Tryz.prog l #[.int .i64 x] W fun e W' =>
   (e = .returned (.bool true) ∧ J (pre ++ [x]) W' ∧ KpR w0.heap.size W W') ∨ (e = .returned (.bool false) ∧ Jx (pre ++ [x]) W'))
  (W : World) (hx : Ext w0 W) (hb : TyBox W bx t vp vm vo) (hJ : AbidesFrom W.heap.size J) (h0 : J [] W) :
  CallsIn Fence.wide n Tryz.prog 152 #[.func (.yield l) #[] #[], .pointer (some ⟨bx, 0, none⟩)] W fun e W' => (∃ v, e = .returned v) ∧
   ((∃ xs, xs = refsL t ∧ J xs W') ∨ (∃ pre, True ∧ Jx pre W')) := by
 have HJa := Lib.hid (fun (s : List Int) (W : World) (o : Obj) (h : J s W) => hJ s W (W.alloc o) none h (World.grownBy_alloc W o none) (fun r e => by cases e))
 have HY := Lib.hid hY
 have Hf := Lib.hid hf
 obtain ⟨Ap, cp, ep, hsp⟩ := hof.parts.part
 obtain ⟨Am, cm, em, hsm⟩ := hof.methods.method
 subst ep em
 have hpl := hf.parts
 have hml := hf.methods
 have Hal := Lib.hid hf.args
 have hS : (refsS t).length ≤ 1 := by unfold refsS; split <;> simp
 have Hsp := Lib.hid hsp
 have Hsm := Lib.hid hsm
 have hPl : ∀ k, (refsS t ++ (t.parts.map Part.type).take k).length < 66 := fun k => by
  rw [List.length_append, List.length_take, List.length_map]; omega
 have hMl : ∀ m (hm : m < t.methods.length) a, (refsS t ++ (t.parts.map Part.type ++ (t.methods.take m).flatMap refsM) ++ t.methods[m].args.take a).length < 66 := fun m hm a => by
  have h1 := flatMap_le refsM 7 (t.methods.take m) fun x hx => by
   have := hf.args x (List.mem_of_mem_take hx)
   unfold refsM
   rw [List.length_append]
   split <;> simp <;> omega
  have h2 := hf.args _ (List.getElem_mem hm)
  rw [List.length_take] at h1
  rw [List.length_append, List.length_append, List.length_append, List.length_take, List.length_map]
  omega
 have HPl := Lib.hid hPl
 have HMl := Lib.hid hMl
 have Hb := Lib.hid hb
 have c0 := hb.at.c0
 have c6 := hb.at.c6
 simp only [Nat.zero_add] at c0 c6
 have hs0 : refsS t = if hasSuperB t.kind then [t.super] else [] := rfl
 clear hJ hY hof hf hS hsp hsm hPl hMl hb
 refine callsIn_of_wp Tryz.func152 rfl trivial ?_ rfl
 simp only [Tryz.ntmps152, List.size_toArray, List.length_cons, List.length_nil, Nat.reduceAdd, Nat.reduceSub, Array.replicate_succ, Array.replicate_zero, List.push_toArray, List.append_toArray, List.nil_append, List.cons_append]
 cases hsup : hasSuperB t.kind
 ·rw [hsup] at hs0
  simp only [Bool.false_eq_true, if_false] at hs0
  rw [← hs0] at h0
  have Hsup := Lib.hid hsup
  have Hj := Lib.hid h0
  clear hsup hs0 h0
  gi_wp2_with (refine ⟨trivial, ?_⟩; gi_at_call 63; refine (callsIn_wide.2 (hasSuper_any _ _)).mono ?_; rintro e w' ⟨rfl, rfl⟩; rw [Hsup.out])
  refine ⟨fun _ h => (by cases h), ?_⟩
  have Hx := Lib.hid hx
  have c7 := Hb.out.at.c7
  simp only [Nat.zero_add] at c7
  clear c0 c6 hx Hsup
  gi_wp2
  clear c7
  gi_loopw [22] (fun i wr => ∃ k : Nat, k ≤ t.parts.length ∧ i = .int .i64 k ∧ Hid (J (refsS t ++ (t.parts.map Part.type).take k) wr) ∧ Hid (Ext w0 wr) ∧ Hid (TyBox wr bx t (.slice Ap t.parts.length cp) (.slice Am t.methods.length cm) vo)) (fun i _ => t.parts.length - (intOf i).toNat)
  case atStart => exact ⟨0, by omega, rfl, Lib.hid (by simpa using Hj.out), Hx, Hb⟩
  case round =>
   obtain ⟨k, hk, rfl, Hjr, Hxr, Hbr⟩ := hrel
   by_cases hlt : k < t.parts.length
   ·obtain ⟨b1, o1, rfl, d0, d1⟩ := Hsp.out k hlt
    replace d0 := Hxr.out.cell d0
    replace d1 := Hxr.out.cell d1
    obtain ⟨fn, tmps, assign, body, hy, hR⟩ := HY.out _ (t.parts[k]).type (wr.alloc (.cells #[.string (t.parts[k]).name, .int .i64 (t.parts[k]).type] 95)) (Hf.out.part _ (List.getElem_mem hlt)) (HJa.out _ _ _ Hjr.out) (HPl.out k)
    rw [List.append_assoc, take_map_one Part.type t.parts k hlt] at hR
    gi_wp2
    refine hR.mono ?_
    rintro e W3 (⟨rfl, hJ3, hk3⟩ | ⟨rfl, hJx3⟩)
    ·have Hj3 := Lib.hid hJ3
     have Hk3 := Lib.hid hk3
     clear hJ3 hk3 d0 d1
     gi_wp2
     go_roundw
     case rel => exact ⟨k + 1, by omega, by go_num, Hj3, Hk3.out.ext (Hxr.out.alloc _), (Hbr.out.ext ((Ext.refl _).alloc _)).kp Hk3.out⟩
     case measure => simp [intOf]; omega
    ·have Hj3 := Lib.hid hJx3
     clear hJx3 d0 d1
     gi_wp2
     refine bodyPost_ret (results_none rfl _ _ _) rfl ?_
     exact ⟨⟨_, rfl⟩, .inr ⟨_, trivial, Hj3.out⟩⟩
   ·obtain rfl : k = t.parts.length := by omega
    have Hj1 := Lib.hid (by have h := Hjr.out; rwa [List.take_of_length_le (by simp)] at h : J (refsS t ++ t.parts.map Part.type) wr)
    have c8 := Hbr.out.at.c8
    simp only [Nat.zero_add] at c8
    clear Hjr hlt
    gi_wp2
    clear c8
    gi_loopw [35] (fun i wq => ∃ m : Nat, m ≤ t.methods.length ∧ i = .int .i64 m ∧ Hid (J (refsS t ++ (t.parts.map Part.type ++ (t.methods.take m).flatMap refsM)) wq) ∧ Hid (Ext w0 wq) ∧ Hid (TyBox wq bx t (.slice Ap t.parts.length cp) (.slice Am t.methods.length cm) vo)) (fun i _ => t.methods.length - (intOf i).toNat)
    case atStart => exact ⟨0, by omega, rfl, Lib.hid (by simpa using Hj1.out), Hxr, Hbr⟩
    case round =>
     clear Hj1 Hxr Hbr
     obtain ⟨m, hm, rfl, Hjq, Hxq, Hbq⟩ := hrel
     by_cases hlt : m < t.methods.length
     ·obtain ⟨b2, o2, va, vr, rfl, hva, hvr, d0, d1, d2, d3, d4⟩ := Hsm.out m hlt
      obtain ⟨wo, rfl⟩ : ∃ wo : World, wo = wr := ⟨_, rfl⟩
      have Hflat := Lib.hid (flat_take_one refsM t.methods m hlt)
      replace d0 := Hxq.out.cell d0
      replace d1 := Hxq.out.cell d1
      replace d2 := Hxq.out.cell d2
      replace d3 := Hxq.out.cell d3
      replace d4 := Hxq.out.cell d4
      obtain ⟨Aa, ca, ea, hsa⟩ := hva.int
      obtain ⟨Av, cv, ev⟩ := hvr.len
      subst ea ev
      have Hsa := Lib.hid hsa
      have Hmb := Lib.hid (MethBox.made wo t.methods[m] (.slice Aa (t.methods[m]).args.length ca) (.slice Av (t.methods[m]).raises.length cv))
      have hal := Hal.out _ (List.getElem_mem hlt)
      have Hml := Lib.hid (HMl.out m hlt)
      have Hma := Lib.hid (Hf.out.arg _ (List.getElem_mem hlt))
      have Hmr := Lib.hid (Hf.out.result _ (List.getElem_mem hlt))
      have hmr : refsM t.methods[m] = (t.methods[m]).args ++ if 0 ≤ (t.methods[m]).result then [(t.methods[m]).result] else [] := rfl
      rw [hmr] at Hflat
      have Hjo := Lib.hid (HJa.out _ _ (.cells #[.string (t.methods[m]).name, .slice Aa (t.methods[m]).args.length ca, .int .i64 (t.methods[m]).result, .slice Av (t.methods[m]).raises.length cv, .string (t.methods[m]).proc] 74) Hjq.out)
      have Hxo := Lib.hid (Hxq.out.alloc (.cells #[.string (t.methods[m]).name, .slice Aa (t.methods[m]).args.length ca, .int .i64 (t.methods[m]).result, .slice Av (t.methods[m]).raises.length cv, .string (t.methods[m]).proc] 74))
      have Hbo := Lib.hid (Hbq.out.ext ((Ext.refl _).alloc (.cells #[.string (t.methods[m]).name, .slice Aa (t.methods[m]).args.length ca, .int .i64 (t.methods[m]).result, .slice Av (t.methods[m]).raises.length cv, .string (t.methods[m]).proc] 74)))
      generalize hM : t.methods[m] = M at *
      clear hva hvr hsa hmr Hjq Hxq Hbq HMl
      gi_wp2
      obtain ⟨b6, hb6⟩ : ∃ b6, b6 = wo.heap.size := ⟨_, rfl⟩
      rw [← hb6] at Hmb ⊢
      clear hb6 d0 d1 d2 d3 d4
      gi_loopw [43] (fun i wq => ∃ q : Nat, q ≤ M.args.length ∧ i = .int .i64 q ∧ Hid (J (refsS t ++ (t.parts.map Part.type ++ (t.methods.take m).flatMap refsM) ++ M.args.take q) wq) ∧ Hid (Ext w0 wq) ∧ Hid (TyBox wq bx t (.slice Ap t.parts.length cp) (.slice (some ⟨b2, o2, none⟩) t.methods.length cm) vo) ∧ Hid (MethBox wq b6 M (.slice Aa M.args.length ca) (.slice Av M.raises.length cv))) (fun i _ => M.args.length - (intOf i).toNat)
      case atStart => exact ⟨0, by omega, rfl, Lib.hid (by simpa using Hjo.out), Hxo, Hbo, Hmb⟩
      case round =>
       clear Hjo Hxo Hbo Hmb
       obtain ⟨q, hq, rfl, Hji, Hxi, Hbi, Hmi⟩ := hrel
       by_cases hla : q < M.args.length
       ·obtain ⟨b3, o3, rfl, d0⟩ := Hsa.out q hla
        replace d0 := Hxi.out.cell d0
        obtain ⟨fn, tmps, assign, body, hy, hR⟩ := HY.out _ M.args[q] wr (Hma.out _ (List.getElem_mem hla)) Hji.out (Hml.out q)
        rw [List.append_assoc, take_one M.args q hla] at hR
        gi_wp2
        refine hR.mono ?_
        rintro e W3 (⟨rfl, hJ3, hk3⟩ | ⟨rfl, hJx3⟩)
        ·have Hj3 := Lib.hid hJ3
         have Hk3 := Lib.hid hk3
         clear hJ3 hk3 d0
         gi_wp2
         go_roundw
         case rel => exact ⟨q + 1, by omega, by go_num, Hj3, Hk3.out.ext Hxi.out, Hbi.out.kp Hk3.out, Hmi.out.kp Hk3.out⟩
         case measure => simp [intOf]; omega
        ·have Hj3 := Lib.hid hJx3
         clear hJx3 d0
         gi_wp2
         refine bodyPost_ret (results_none rfl _ _ _) rfl ?_
         exact ⟨⟨_, rfl⟩, .inr ⟨_, trivial, Hj3.out⟩⟩
       ·obtain rfl : q = M.args.length := by omega
        have Hj2 := Lib.hid (by have h := Hji.out; rwa [List.take_length] at h : J (refsS t ++ (t.parts.map Part.type ++ (t.methods.take m).flatMap refsM) ++ M.args) wr)
        have m2 := heap_cell Hmi.out 2 _ rfl
        by_cases hr0 : 0 ≤ M.result
        ·rw [if_pos hr0] at Hflat
         obtain ⟨fn, tmps, assign, body, hy, hR⟩ := HY.out _ M.result wr (Hmr.out.elim (fun e => by omega) id) Hj2.out (by have := Hml.out M.args.length; rwa [List.take_length] at this)
         rw [List.append_assoc, List.append_assoc, List.append_assoc, ← Hflat.out] at hR
         clear hla Hji
         gi_wp2
         refine hR.mono ?_
         rintro e W3 (⟨rfl, hJ3, hk3⟩ | ⟨rfl, hJx3⟩)
         ·have Hj3 := Lib.hid hJ3
          have Hk3 := Lib.hid hk3
          clear hJ3 hk3 m2
          gi_wp2
          go_roundw
          case rel => exact ⟨m + 1, by omega, by go_num, Hj3, Hk3.out.ext Hxi.out, Hbi.out.kp Hk3.out⟩
          case measure => simp [intOf]; omega
         ·have Hj3 := Lib.hid hJx3
          clear hJx3 m2
          gi_wp2
          refine bodyPost_ret (results_none rfl _ _ _) rfl ?_
          exact ⟨⟨_, rfl⟩, .inr ⟨_, trivial, Hj3.out⟩⟩
        ·rw [if_neg hr0, List.append_nil] at Hflat
         have hr1 : decide (0 ≤ M.result) = false := by simpa using hr0
         have Hj3 := Lib.hid (by have h := Hj2.out; rwa [List.append_assoc, List.append_assoc, ← Hflat.out] at h : J (refsS t ++ (t.parts.map Part.type ++ (t.methods.take (m + 1)).flatMap refsM)) wr)
         clear hla Hji
         gi_wp2
         refine ⟨fun _ h => (by cases h), ?_⟩
         gi_wp2
         go_roundw
         case rel => exact ⟨m + 1, by omega, by go_num, Hj3, Hxi, Hbi⟩
         case measure => simp [intOf]; omega
     ·obtain rfl : m = t.methods.length := by omega
      have Hj2 := Lib.hid (by have h := Hjq.out; rwa [List.take_length] at h : J (refsL t) wr)
      gi_wp2
      go_end0
      exact ⟨⟨_, rfl⟩, .inl ⟨_, rfl, Hj2.out⟩⟩
 ·rw [hsup] at hs0
  simp only [if_true] at hs0
  have Hsup := Lib.hid hsup
  obtain ⟨fn, tmps, assign, body, hy, hR⟩ := HY.out [] t.super W (Hf.out.super hsup) h0 (by simp)
  rw [List.nil_append, ← hs0] at hR
  clear hsup hs0 h0
  gi_wp2_with (refine ⟨trivial, ?_⟩; gi_at_call 63; refine (callsIn_wide.2 (hasSuper_any _ _)).mono ?_; rintro e w' ⟨rfl, rfl⟩; rw [Hsup.out])
  refine hR.mono ?_
  rintro e W3 (⟨rfl, hJ3, hk3⟩ | ⟨rfl, hJx3⟩)
  ·have Hj := Lib.hid hJ3
   have Hx := Lib.hid (hk3.ext hx)
   replace Hb := Lib.hid (Hb.out.kp hk3)
   have c7 := Hb.out.at.c7
   simp only [Nat.zero_add] at c7
   clear c0 c6 hx Hsup hJ3 hk3 hR
   gi_wp2
   clear c7
   gi_loopw [22] (fun i wr => ∃ k : Nat, k ≤ t.parts.length ∧ i = .int .i64 k ∧ Hid (J (refsS t ++ (t.parts.map Part.type).take k) wr) ∧ Hid (Ext w0 wr) ∧ Hid (TyBox wr bx t (.slice Ap t.parts.length cp) (.slice Am t.methods.length cm) vo)) (fun i _ => t.parts.length - (intOf i).toNat)
   case atStart => exact ⟨0, by omega, rfl, Lib.hid (by simpa using Hj.out), Hx, Hb⟩
   case round =>
    obtain ⟨k, hk, rfl, Hjr, Hxr, Hbr⟩ := hrel
    by_cases hlt : k < t.parts.length
    ·obtain ⟨b1, o1, rfl, d0, d1⟩ := Hsp.out k hlt
     replace d0 := Hxr.out.cell d0
     replace d1 := Hxr.out.cell d1
     obtain ⟨fn, tmps, assign, body, hy, hR⟩ := HY.out _ (t.parts[k]).type (wr.alloc (.cells #[.string (t.parts[k]).name, .int .i64 (t.parts[k]).type] 95)) (Hf.out.part _ (List.getElem_mem hlt)) (HJa.out _ _ _ Hjr.out) (HPl.out k)
     rw [List.append_assoc, take_map_one Part.type t.parts k hlt] at hR
     gi_wp2
     refine hR.mono ?_
     rintro e W3 (⟨rfl, hJ3, hk3⟩ | ⟨rfl, hJx3⟩)
     ·have Hj3 := Lib.hid hJ3
      have Hk3 := Lib.hid hk3
      clear hJ3 hk3 d0 d1
      gi_wp2
      go_roundw
      case rel => exact ⟨k + 1, by omega, by go_num, Hj3, Hk3.out.ext (Hxr.out.alloc _), (Hbr.out.ext ((Ext.refl _).alloc _)).kp Hk3.out⟩
      case measure => simp [intOf]; omega
     ·have Hj3 := Lib.hid hJx3
      clear hJx3 d0 d1
      gi_wp2
      refine bodyPost_ret (results_none rfl _ _ _) rfl ?_
      exact ⟨⟨_, rfl⟩, .inr ⟨_, trivial, Hj3.out⟩⟩
    ·obtain rfl : k = t.parts.length := by omega
     have Hj1 := Lib.hid (by have h := Hjr.out; rwa [List.take_of_length_le (by simp)] at h : J (refsS t ++ t.parts.map Part.type) wr)
     have c8 := Hbr.out.at.c8
     simp only [Nat.zero_add] at c8
     clear Hjr hlt
     gi_wp2
     clear c8
     gi_loopw [35] (fun i wq => ∃ m : Nat, m ≤ t.methods.length ∧ i = .int .i64 m ∧ Hid (J (refsS t ++ (t.parts.map Part.type ++ (t.methods.take m).flatMap refsM)) wq) ∧ Hid (Ext w0 wq) ∧ Hid (TyBox wq bx t (.slice Ap t.parts.length cp) (.slice Am t.methods.length cm) vo)) (fun i _ => t.methods.length - (intOf i).toNat)
     case atStart => exact ⟨0, by omega, rfl, Lib.hid (by simpa using Hj1.out), Hxr, Hbr⟩
     case round =>
      clear Hj1 Hxr Hbr
      obtain ⟨m, hm, rfl, Hjq, Hxq, Hbq⟩ := hrel
      by_cases hlt : m < t.methods.length
      ·obtain ⟨b2, o2, va, vr, rfl, hva, hvr, d0, d1, d2, d3, d4⟩ := Hsm.out m hlt
       obtain ⟨wo, rfl⟩ : ∃ wo : World, wo = wr := ⟨_, rfl⟩
       have Hflat := Lib.hid (flat_take_one refsM t.methods m hlt)
       replace d0 := Hxq.out.cell d0
       replace d1 := Hxq.out.cell d1
       replace d2 := Hxq.out.cell d2
       replace d3 := Hxq.out.cell d3
       replace d4 := Hxq.out.cell d4
       obtain ⟨Aa, ca, ea, hsa⟩ := hva.int
       obtain ⟨Av, cv, ev⟩ := hvr.len
       subst ea ev
       have Hsa := Lib.hid hsa
       have Hmb := Lib.hid (MethBox.made wo t.methods[m] (.slice Aa (t.methods[m]).args.length ca) (.slice Av (t.methods[m]).raises.length cv))
       have hal := Hal.out _ (List.getElem_mem hlt)
       have Hml := Lib.hid (HMl.out m hlt)
       have Hma := Lib.hid (Hf.out.arg _ (List.getElem_mem hlt))
       have Hmr := Lib.hid (Hf.out.result _ (List.getElem_mem hlt))
       have hmr : refsM t.methods[m] = (t.methods[m]).args ++ if 0 ≤ (t.methods[m]).result then [(t.methods[m]).result] else [] := rfl
       rw [hmr] at Hflat
       have Hjo := Lib.hid (HJa.out _ _ (.cells #[.string (t.methods[m]).name, .slice Aa (t.methods[m]).args.length ca, .int .i64 (t.methods[m]).result, .slice Av (t.methods[m]).raises.length cv, .string (t.methods[m]).proc] 74) Hjq.out)
       have Hxo := Lib.hid (Hxq.out.alloc (.cells #[.string (t.methods[m]).name, .slice Aa (t.methods[m]).args.length ca, .int .i64 (t.methods[m]).result, .slice Av (t.methods[m]).raises.length cv, .string (t.methods[m]).proc] 74))
       have Hbo := Lib.hid (Hbq.out.ext ((Ext.refl _).alloc (.cells #[.string (t.methods[m]).name, .slice Aa (t.methods[m]).args.length ca, .int .i64 (t.methods[m]).result, .slice Av (t.methods[m]).raises.length cv, .string (t.methods[m]).proc] 74)))
       generalize hM : t.methods[m] = M at *
       clear hva hvr hsa hmr Hjq Hxq Hbq HMl
       gi_wp2
       obtain ⟨b6, hb6⟩ : ∃ b6, b6 = wo.heap.size := ⟨_, rfl⟩
       rw [← hb6] at Hmb ⊢
       clear hb6 d0 d1 d2 d3 d4
       gi_loopw [43] (fun i wq => ∃ q : Nat, q ≤ M.args.length ∧ i = .int .i64 q ∧ Hid (J (refsS t ++ (t.parts.map Part.type ++ (t.methods.take m).flatMap refsM) ++ M.args.take q) wq) ∧ Hid (Ext w0 wq) ∧ Hid (TyBox wq bx t (.slice Ap t.parts.length cp) (.slice (some ⟨b2, o2, none⟩) t.methods.length cm) vo) ∧ Hid (MethBox wq b6 M (.slice Aa M.args.length ca) (.slice Av M.raises.length cv))) (fun i _ => M.args.length - (intOf i).toNat)
       case atStart => exact ⟨0, by omega, rfl, Lib.hid (by simpa using Hjo.out), Hxo, Hbo, Hmb⟩
       case round =>
        clear Hjo Hxo Hbo Hmb
        obtain ⟨q, hq, rfl, Hji, Hxi, Hbi, Hmi⟩ := hrel
        by_cases hla : q < M.args.length
        ·obtain ⟨b3, o3, rfl, d0⟩ := Hsa.out q hla
         replace d0 := Hxi.out.cell d0
         obtain ⟨fn, tmps, assign, body, hy, hR⟩ := HY.out _ M.args[q] wr (Hma.out _ (List.getElem_mem hla)) Hji.out (Hml.out q)
         rw [List.append_assoc, take_one M.args q hla] at hR
         gi_wp2
         refine hR.mono ?_
         rintro e W3 (⟨rfl, hJ3, hk3⟩ | ⟨rfl, hJx3⟩)
         ·have Hj3 := Lib.hid hJ3
          have Hk3 := Lib.hid hk3
          clear hJ3 hk3 d0
          gi_wp2
          go_roundw
          case rel => exact ⟨q + 1, by omega, by go_num, Hj3, Hk3.out.ext Hxi.out, Hbi.out.kp Hk3.out, Hmi.out.kp Hk3.out⟩
          case measure => simp [intOf]; omega
         ·have Hj3 := Lib.hid hJx3
          clear hJx3 d0
          gi_wp2
          refine bodyPost_ret (results_none rfl _ _ _) rfl ?_
          exact ⟨⟨_, rfl⟩, .inr ⟨_, trivial, Hj3.out⟩⟩
        ·obtain rfl : q = M.args.length := by omega
         have Hj2 := Lib.hid (by have h := Hji.out; rwa [List.take_length] at h : J (refsS t ++ (t.parts.map Part.type ++ (t.methods.take m).flatMap refsM) ++ M.args) wr)
         have m2 := heap_cell Hmi.out 2 _ rfl
         by_cases hr0 : 0 ≤ M.result
         ·rw [if_pos hr0] at Hflat
          obtain ⟨fn, tmps, assign, body, hy, hR⟩ := HY.out _ M.result wr (Hmr.out.elim (fun e => by omega) id) Hj2.out (by have := Hml.out M.args.length; rwa [List.take_length] at this)
          rw [List.append_assoc, List.append_assoc, List.append_assoc, ← Hflat.out] at hR
          clear hla Hji
          gi_wp2
          refine hR.mono ?_
          rintro e W3 (⟨rfl, hJ3, hk3⟩ | ⟨rfl, hJx3⟩)
          ·have Hj3 := Lib.hid hJ3
           have Hk3 := Lib.hid hk3
           clear hJ3 hk3 m2
           gi_wp2
           go_roundw
           case rel => exact ⟨m + 1, by omega, by go_num, Hj3, Hk3.out.ext Hxi.out, Hbi.out.kp Hk3.out⟩
           case measure => simp [intOf]; omega
          ·have Hj3 := Lib.hid hJx3
           clear hJx3 m2
           gi_wp2
           refine bodyPost_ret (results_none rfl _ _ _) rfl ?_
           exact ⟨⟨_, rfl⟩, .inr ⟨_, trivial, Hj3.out⟩⟩
         ·rw [if_neg hr0, List.append_nil] at Hflat
          have hr1 : decide (0 ≤ M.result) = false := by simpa using hr0
          have Hj3 := Lib.hid (by have h := Hj2.out; rwa [List.append_assoc, List.append_assoc, ← Hflat.out] at h : J (refsS t ++ (t.parts.map Part.type ++ (t.methods.take (m + 1)).flatMap refsM)) wr)
          clear hla Hji
          gi_wp2
          refine ⟨fun _ h => (by cases h), ?_⟩
          gi_wp2
          go_roundw
          case rel => exact ⟨m + 1, by omega, by go_num, Hj3, Hxi, Hbi⟩
          case measure => simp [intOf]; omega
      ·obtain rfl : m = t.methods.length := by omega
       have Hj2 := Lib.hid (by have h := Hjq.out; rwa [List.take_length] at h : J (refsL t) wr)
       gi_wp2
       go_end0
       exact ⟨⟨_, rfl⟩, .inl ⟨_, rfl, Hj2.out⟩⟩
  ·have Hj3 := Lib.hid hJx3
   clear hJx3
   gi_wp2
   refine bodyPost_ret (results_none rfl _ _ _) rfl ?_
   exact ⟨⟨_, rfl⟩, .inr ⟨_, trivial, Hj3.out⟩⟩
end Go.Proofs.YtldnjnnhfeobdaaGreatDoor
/- Contracts: refs, slices.AppendSeq, slices.Collect, list. Conditions: the type is right. -/
namespace Go.Proofs.YtldnjnnhfeobdaaGreatDoor
open Go.RowKit Go.Shelf
attribute [local go_sem] Oper.semAt_some
/-- a function value that yields xs, made in w -/
def GivesR (w : World) (n₀ g bx : Nat) (xs : List Int) : Prop :=
 Enters Tryz.prog g ∧ ∀ n, 1 ≤ n → SeqStopsK Fence.wide n Tryz.prog g #[.pointer (some ⟨bx, 0, none⟩)] (fun x : Int => #[Value.int .i64 x]) (KpR n₀) (fun ys => ys = xs) (fun _ => True) 66 w
theorem refs_gives {w0 w : World} {bx nn : Nat} {t : Ty} {vp vm vo : Value} (hx : Ext w0 w) (hof : TyOf w0 t vp vm vo) (hf : Fine nn t) (hb : TyBox w bx t vp vm vo) : GivesR w w0.heap.size 152 bx (refsL t) :=
 ⟨enters_of Tryz.func152 (by kernel_rfl) rfl, fun n hn l J Jx W hW hJ hJx hY h0 => refs1_in n hn l bx nn w0 t vp vm vo hof hf J Jx (fun pre x W _ => hY pre x W) W (hx.trans hW) (hb.ext hW) hJ h0⟩
/-- a function value that yields xs, all of them numbers below nn -/
abbrev Bel (nn : Nat) := { x : Int // 0 ≤ x ∧ x < nn }
def GivesN (w : World) (n₀ g bx nn : Nat) (xs : List Int) : Prop :=
 Enters Tryz.prog g ∧ ∀ n, 1 ≤ n → SeqStopsK Fence.wide n Tryz.prog g #[.pointer (some ⟨bx, 0, none⟩)] (fun x : Bel nn => #[Value.int .i64 x.1]) (KpR n₀) (fun ys => ys.map (·.1) = xs) (fun _ => True) 66 w
theorem refs_givesN {w0 w : World} {bx nn : Nat} {t : Ty} {vp vm vo : Value} (hx : Ext w0 w) (hof : TyOf w0 t vp vm vo) (hf : Fine nn t) (hb : TyBox w bx t vp vm vo) : GivesN w w0.heap.size 152 bx nn (refsL t) :=
 ⟨enters_of Tryz.func152 (by kernel_rfl) rfl, fun n hn l J Jx W hW hJ hJx hY h0 => by
  have key := refs1_in n hn l bx nn w0 t vp vm vo hof hf (fun pre W => ∃ pre' : List (Bel nn), pre'.map (·.1) = pre ∧ J pre' W) (fun pre W => ∃ pre' : List (Bel nn), pre'.map (·.1) = pre ∧ Jx pre' W)
   (fun pre x W hx ⟨pre', e, h⟩ hl => (hY pre' ⟨x, hx⟩ W h (by rw [← e] at hl; simpa using hl)).mono fun e' W' h' => h'.imp (fun ⟨a, b, c⟩ => ⟨a, ⟨pre' ++ [⟨x, hx⟩], by simp [e], b⟩, c⟩) (fun ⟨a, b⟩ => ⟨a, ⟨pre' ++ [⟨x, hx⟩], by simp [e], b⟩⟩))
   W (hx.trans hW) (hb.ext hW) (fun s X Y row ⟨pre', e, h⟩ hg hr => ⟨pre', e, hJ pre' X Y row h hg hr⟩) ⟨[], rfl, h0⟩
  refine key.mono fun e W' ⟨hv, h⟩ => ⟨hv, h.imp (fun ⟨xs, e, ys, e2, h⟩ => ⟨ys, e2.trans e, h⟩) (fun ⟨pre, _, ys, _, h⟩ => ⟨ys, trivial, h⟩)⟩⟩
/-- what refs hands back -/
def RefsPost (w : World) (t : Ty) (e : Ending) (w' : World) : Prop :=
 ∃ bx vp vm vo, e = .returned (.func (.func 152) #[] #[.pointer (some ⟨bx, 0, none⟩)]) ∧ TyBox w' bx t vp vm vo ∧ TyOf w t vp vm vo ∧ Ext w w' ∧ w.heap.size ≤ bx
set_option maxRecDepth 100000 in
set_option maxHeartbeats 1000000 in
theorem refs_any (w : World) (gv : Value) (g : Graph) (i : Nat) (hg : Sl tyE w gv g) (hi : i < g.length) (hn : g.length ≤ 1048576) :
  Calls Tryz.prog 108 #[.agg #[gv], .int .i64 i] w (RefsPost w (getT g i)) := by
 obtain ⟨A, cap, rfl, hs⟩ := hg.ty
 obtain ⟨b, off, vp, vm, vo, rfl, hat, hof⟩ := hs i hi
 have hof' := hof
 obtain ⟨A1, c1, e1⟩ := hof.parts.len
 obtain ⟨A2, c2, e2⟩ := hof.methods.len
 obtain ⟨A3, c3, e3⟩ := hof.overs.len
 subst e1 e2 e3
 rw [getT_lt hi]
 have Hof := Lib.hid hof
 generalize g[i] = t at *
 obtain ⟨d0, d1, d2, d3, d4, d5, d6, d7, d8, d9⟩ := hat
 have hlt := cell_lt d0
 have hi0 : (0 : Int) ≤ (i : Int) := by omega
 have hi1 : (i : Int) < (g.length : Int) := by omega
 clear hs hg hof hof'
 go_enter Tryz.func108, Tryz.ntmps108
 go_wp2_with fail
 go_ret
 have hbox := World.alloc_heap_new (w.alloc (.cells #[.slice (some ⟨b, off, none⟩) g.length cap] 77)) (.cells #[.int .u8 t.kind, .int .i64 t.low, .int .i64 t.high, .bool t.branded, .string t.brand, .string t.opaq, .int .i64 t.super, .slice A1 t.parts.length c1, .slice A2 t.methods.length c2, .slice A3 t.overs.length c3] 42)
 rw [World.size_alloc] at hbox
 exact ⟨_, _, _, _, rfl, hbox, Hof.out, ((Ext.refl _).alloc _).alloc _, by simp⟩
/-- .. where the type lies since w0 -/
def RefsPost2 (w0 w : World) (t : Ty) (e : Ending) (w' : World) : Prop :=
 ∃ bx vp vm vo, e = .returned (.func (.func 152) #[] #[.pointer (some ⟨bx, 0, none⟩)]) ∧ TyBox w' bx t vp vm vo ∧ TyOf w0 t vp vm vo ∧ Ext w w' ∧ w.heap.size ≤ bx
set_option maxRecDepth 100000 in
set_option maxHeartbeats 1000000 in
theorem refs_any2 (w0 w : World) (gv : Value) (g : Graph) (i : Nat) (hx0 : Ext w0 w) (hg : Sl tyE w0 gv g) (hi : i < g.length) (hn : g.length ≤ 1048576) :
  Calls Tryz.prog 108 #[.agg #[gv], .int .i64 i] w (RefsPost2 w0 w (getT g i)) := by
 obtain ⟨A, cap, rfl, hs⟩ := hg.ty
 obtain ⟨b, off, vp, vm, vo, rfl, hat, hof⟩ := hs i hi
 have hof' := hof
 obtain ⟨A1, c1, e1⟩ := hof.parts.len
 obtain ⟨A2, c2, e2⟩ := hof.methods.len
 obtain ⟨A3, c3, e3⟩ := hof.overs.len
 subst e1 e2 e3
 rw [getT_lt hi]
 have Hof := Lib.hid hof
 generalize g[i] = t at *
 obtain ⟨d0, d1, d2, d3, d4, d5, d6, d7, d8, d9⟩ := hat.mono hx0
 have hlt := cell_lt d0
 have hi0 : (0 : Int) ≤ (i : Int) := by omega
 have hi1 : (i : Int) < (g.length : Int) := by omega
 clear hs hg hof hof'
 go_enter Tryz.func108, Tryz.ntmps108
 go_wp2_with fail
 go_ret
 have hbox := World.alloc_heap_new (w.alloc (.cells #[.slice (some ⟨b, off, none⟩) g.length cap] 77)) (.cells #[.int .u8 t.kind, .int .i64 t.low, .int .i64 t.high, .bool t.branded, .string t.brand, .string t.opaq, .int .i64 t.super, .slice A1 t.parts.length c1, .slice A2 t.methods.length c2, .slice A3 t.overs.length c3] 42)
 rw [World.size_alloc] at hbox
 exact ⟨_, _, _, _, rfl, hbox, Hof.out, ((Ext.refl _).alloc _).alloc _, by simp⟩
theorem infoI : (Tryz.prog.info? 3).map (fun i => (i.zero, i.size, i.bytes)) = some (some (.int .i64 0), 1, 8) := by kernel_rfl
/-- behind 'out = append(out, x)' types and methods in boxes lie as they lay -/
theorem kp_appended {W w1 : World} {n₀ B : Nat} {v v' : Value} {k m : Nat} {xs ys : List Value} {tmp : Obj}
  (hv : Boxed W B 24 v) (hrow : W.ownsRow n₀ 3 1 v k xs) (hn₀ : n₀ ≤ W.heap.size) (hB : n₀ ≤ B)
  (hown' : w1.ownsRow n₀ 3 1 v' m ys) (hgrow : (W.alloc tmp).grownBy w1 v.ownBlock) : KpR n₀ W (w1.setCell ⟨B, 0, none⟩ v') := by
 refine ⟨(hv.appended (by decide) hrow hn₀ hB hown' hgrow).2.2.2.2, fun b c ty f ht hb => ?_⟩
 have hlt : b < W.heap.size := (Array.getElem?_eq_some_iff.1 hb).1
 have h1 : b ≠ B := by
  rintro rfl
  have := (show W.heap[b]? = _ from hv).symm.trans hb
  rcases ht with rfl | rfl <;> simp at this
 rw [Below.heap_setCell _ _ _ _ h1, hgrow.block b (by simp; omega) ?_, Below.heap_alloc _ _ _ hlt]
 ·exact hb
 ·rcases hrow.2 with ⟨rfl, _⟩ | ⟨g, cap, cur, rfl, _, hgb, _⟩
  ·simp [Value.ownBlock]
  ·intro e
   obtain rfl : b = g := by simpa [Value.ownBlock] using e
   have := hgb.symm.trans hb
   rcases ht with rfl | rfl <;> simp at this
set_option maxRecDepth 100000 in
set_option maxHeartbeats 2000000 in
theorem appendSeq_in (n : Nat) (hn : 3 ≤ n) (w : World) (n₀ g bx : Nat) (xs : List Int) (hn₀ : n₀ ≤ w.heap.size) (hg : GivesR w n₀ g bx xs) :
  CallsIn Fence.wide n Tryz.prog 151 #[.slice none 0 0, .func (.func g) #[] #[.pointer (some ⟨bx, 0, none⟩)]] w fun e W' => ∃ v, e = .returned v ∧ W'.ownsRow w.heap.size 3 1 v xs.length (xs.map (Value.int .i64)) ∧ Below w.heap.size w W' := by
 have h1 : 1 ≤ n := by omega
 obtain ⟨i0, hi, hz0, hz1, hz2⟩ := info_parts infoI
 obtain ⟨eg, hseq⟩ := hg
 have Hseq := Lib.hid (hseq (n - 1) (by omega))
 have eg' : ∀ args w, (callFunc g args).run Tryz.prog w = .ok (.enter g args) w := eg
 clear hseq eg
 refine callsIn_of_wp_marks Tryz.func151 rfl trivial ?_ rfl
 simp only [Tryz.ntmps151, List.size_toArray, List.length_cons, List.length_nil, Nat.reduceAdd, Nat.reduceSub, Array.replicate_succ, Array.replicate_zero, List.push_toArray, List.append_toArray, List.nil_append, List.cons_append]
 gi_wp2
 have bO := Boxed.new w 24 (.slice none 0 0)
 have hB0 : Below w.heap.size w (w.alloc (.cells #[.slice none 0 0] 24)) := (Below.refl _ w).alloc (Nat.le_refl _) _
 refine wpIn_rangeFunc_ownG rfl h1 (gf := g) (lb := #[.pointer (some ⟨bx, 0, none⟩)]) rfl trivial eg' (w0 := w)
  Hseq.out KpR.trans (KpR.book (by simp; omega)) hB0 (fun _ => rfl)
  (fun pre W => (∃ v, Boxed W w.heap.size 24 v ∧ W.ownsRow w.heap.size 3 1 v pre.length (pre.map (Value.int .i64)) ∧ True) ∧ Below w.heap.size w W)
  (fun _ _ _ => False)
  (OwnFrom.and (Own.from (holdsRow_own w.heap.size w.heap.size 24 3 1 (fun pre : List Int => pre.length) (fun pre => pre.map (Value.int .i64)) (fun pre v => True)) _) (ownFrom_below (Nat.le_refl _) (by simp)))
  (fun _ _ _ _ _ hs _ _ => hs)
  ⟨⟨_, bO, World.ownsRow_nil _ _ _ _, trivial⟩, hB0⟩
  (fun x => { tmps := #[.slice none 0 0, .func (.func g) #[] #[.pointer (some ⟨bx, 0, none⟩)], .pointer (some ⟨w.heap.size, 0, none⟩), undef, .slice none 0 0, .int .i64 x, .func (.func g) #[] #[.pointer (some ⟨bx, 0, none⟩)], .int .i64 x, undef, undef, undef, undef, undef], defers := [] }) ?assign ?body ?done ?stop
 case assign =>
  intro l x W K hK
  gi_wp2
  exact hK
 case body =>
  rintro l pre x W ⟨⟨v, hv, hrow, _⟩, hB⟩ hlt
  have hc := hv.cell
  gi_wp2_with (gi_at_builtin; refine wpListIn_append_own _ rfl _ _ 24 rfl w.heap.size 3 i0 (.int .i64 0) 1 8 Tryz.underlying24 hi hz0 hz1 hz2 rfl (by decide) _ _ _ rfl (hrow.alloc _) ⟨W.heap.size, 0, none⟩ 1 1 [.int .i64 x] rfl rfl (cell_one_new _ _ _) (by simp [Value.oneCell']) (by simp only [maxLen]; omega) (by omega) (by have := hB.size; simp; omega) ?_; intro v' w1 hown' hgrow _; obtain ⟨g', cap', rfl⟩ := ownsRow_succ hown'; obtain ⟨hv1, hv2, hr2, hk2, hb2⟩ := hv.appended (by decide) hrow hB.size (Nat.le_refl _) hown' hgrow; have hkp := Lib.hid (kp_appended hv hrow hB.size (Nat.le_refl _) hown' hgrow); have hc1 := hv1.cell; have hf1 := hv1.frozen)
  exact ⟨hk2.from _, ⟨hb2.mono hn₀, hkp.out.2⟩, ⟨_, hv2, by simpa using hr2, trivial⟩, hB.trans hb2⟩
 case done =>
  rintro D ys W hD rfl ⟨⟨v, hv, hrow, _⟩, hB⟩ hK
  have hc := hv.cell
  gi_wp2
  refine ⟨by simp, .inl ⟨_, _, rfl, run_takeDeferred hK, ?_⟩⟩
  exact ⟨_, results_tmp rfl _ _ _, v, rfl, ownsRow_putObj hrow _ hK rfl, hB.trans (belowK_b (w := w) (Nat.le_refl _) W D _ _ (by simp at hD; omega) hK rfl rfl)⟩
 case stop =>
  rintro D c pre W _ _ h _
  exact h.elim
set_option maxRecDepth 100000 in
theorem collect_in (n : Nat) (hn : 4 ≤ n) (w : World) (n₀ g bx : Nat) (xs : List Int) (hn₀ : n₀ ≤ w.heap.size) (hg : GivesR w n₀ g bx xs) :
  CallsIn Fence.wide n Tryz.prog 107 #[.func (.func g) #[] #[.pointer (some ⟨bx, 0, none⟩)]] w fun e W' => ∃ v, e = .returned v ∧ W'.ownsRow w.heap.size 3 1 v xs.length (xs.map (Value.int .i64)) ∧ Below w.heap.size w W' := by
 have Hc := Lib.hid (appendSeq_in (n - 1) (by omega) w n₀ g bx xs hn₀ hg)
 have h1 : 1 ≤ n := by omega
 clear hg
 refine callsIn_of_wp Tryz.func107 rfl trivial ?_ rfl
 simp only [Tryz.ntmps107, List.size_toArray, List.length_cons, List.length_nil, Nat.reduceAdd, Nat.reduceSub, Array.replicate_succ, Array.replicate_zero, List.push_toArray, List.append_toArray, List.nil_append, List.cons_append]
 gi_wp2_with (refine ⟨trivial, ?_⟩; gi_at_call 151; refine Hc.out.mono ?_; rintro e w' ⟨v, rfl, hrow, hb⟩)
 go_ret
 exact ⟨v, rfl, hrow, hb⟩
theorem ownsRow_sl {w w' : World} {v : Value} {xs : List Int} (h : w'.ownsRow w.heap.size 3 1 v xs.length (xs.map (Value.int .i64))) : SlF (New w) intE w' v xs := by
 rcases h.2 with ⟨rfl, h0⟩ | ⟨g, cap, cur, rfl, hg, hb, hle, _, _, hc⟩
 ·have : xs = [] := List.eq_nil_of_length_eq_zero h0
  subst this
  exact SlF.nil _ _ _
 ·refine ⟨_, cap, rfl, fun i x hi => ⟨g, 0, [.int .i64 x], rfl, ⟨hg, hle⟩, rfl, fun j u hj => ?_⟩⟩
  have hlt : i < xs.length := (List.getElem?_eq_some_iff.1 hi).1
  cases j with
  | succ j => simp at hj
  | zero =>
   simp at hj
   subst hj
   have h1 : (cur.toList.take (xs.length * 1))[i]? = some (.int .i64 x) := by rw [hc]; simp [hi]
   rw [List.getElem?_take_of_lt (by omega)] at h1
   simp only [World.cell?, intE, Nat.mul_one, Nat.zero_add, Nat.add_zero, hb]
   simpa using h1
/-- a fresh slice of ints -/
def ResSl {α : Type} (E : Elt α) (w : World) (xs : List α) (w' : World) (v : Value) : Prop := SlF (New w) E w' v xs
set_option maxRecDepth 100000 in
set_option maxHeartbeats 1000000 in
theorem list_any (w : World) (gv : Value) (g : Graph) (i nn : Nat) (hg : Sl tyE w gv g) (hi : i < g.length) (hn : g.length ≤ 1048576) (hf : Fine nn (getT g i)) :
  Calls Tryz.prog 56 #[.agg #[gv], .int .i64 i] w (RetP w (ResSl intE w (refsL (getT g i)))) := by
 have hx0 := (Ext.refl w).alloc (.cells #[gv] 77)
 have hr := fun w' (hx : Ext w w') => refs_any w' gv g i (hg.mono hx) hi hn
 have hc := fun (w1 w2 : World) (bx : Nat) vp vm vo (h1 : TyBox w2 bx (getT g i) vp vm vo) (h2 : TyOf w1 (getT g i) vp vm vo) (h3 : Ext w1 w2) => (callsIn_wide (n := 6)).1 (collect_in 6 (by omega) w2 w1.heap.size 152 bx (refsL (getT g i)) h3.size (refs_gives h3 h2 hf h1))
 have Hr := Lib.hid hr
 have Hc := Lib.hid hc
 generalize getT g i = t at *
 obtain ⟨A, cap, rfl⟩ := hg.len
 clear hr hc hg hf
 go_enter Tryz.func56, Tryz.ntmps56
 go_wp2_with fail
 refine (Hr.out _ hx0).mono ?_
 rintro e w1 ⟨bx, vp, vm, vo, rfl, h1, h2, h3, h4⟩
 have h3' := Lib.hid h3
 go_wp2_with fail
 refine (Hc.out _ _ _ _ _ _ h1 h2 h3).mono ?_
 rintro e w2 ⟨v, rfl, hrow, hb⟩
 have hx2 : Ext w w2 := (hx0.trans h3).trans hb
 obtain ⟨A3, c3, e3⟩ := (ownsRow_sl hrow).any.len
 subst e3
 have Hrow := Lib.hid hrow
 clear hrow h1 h2 h3 hx0
 go_wp2_with fail
 go_ret
 exact ⟨_, rfl, SlF.mono (ownsRow_sl Hrow.out) (fun _ _ _ => rfl) (fun b hb' _ => by have h5 := h3'.out.size; simp at h5; unfold New at hb' ⊢; omega), hx2⟩
end Go.Proofs.YtldnjnnhfeobdaaGreatDoor
/- Words and small contracts for classes: rows of ints that are written, the function values that look into them. Conditions: lengths below 2^20. -/
namespace Go.Proofs.YtldnjnnhfeobdaaGreatDoor
open Go.RowKit Go.Shelf
theorem agree_any (w : World) (gv : Value) (g : Graph) (i j : Nat) (hg : Sl tyE w gv g) (hT : Tidy g) (hi : i < g.length) (hj : j < g.length) :
  Calls Tryz.prog 55 #[.agg #[gv], .int .i64 i, .int .i64 j] w (Ret w (.bool (agN g i j))) := by
 obtain ⟨A, cap, rfl, hs⟩ := hg.ty
 obtain ⟨b, off, xp, xm, xo, hA, hax, hox⟩ := hs i hi
 obtain ⟨b', off', yp, ym, yo, hA', hay, hoy⟩ := hs j hj
 rw [hA] at hA'
 simp only [Option.some.injEq, Addr.mk.injEq, and_true] at hA'
 obtain ⟨rfl, rfl⟩ := hA'
 unfold agN
 rw [getT_lt hi, getT_lt hj]
 exact agree_types w A cap g.length i j _ _ _ _ _ _ _ _ hi hj hT.len (hT.ty _ (List.getElem_mem hi)).1 (hT.ty _ (List.getElem_mem hj)).1 hox hoy ⟨b, off, hA, hax, hay⟩
/-- block b is a row of ints -/
def IntRow (w : World) (b : Nat) (xs : List Nat) : Prop := w.heap[b]? = some (.cells (xs.map fun (n : Nat) => Value.int .i64 (n : Int)).toArray 3 (0, 0))
section
variable {w w' : World} {b : Nat} {xs : List Nat}
theorem IntRow.ext (h : IntRow w b xs) (hx : Ext w w') : IntRow w' b xs := hx.heap h
theorem IntRow.lt (h : IntRow w b xs) : b < w.heap.size := (Array.getElem?_eq_some_iff.1 h).1
theorem IntRow.cell (h : IntRow w b xs) (i : Nat) (hi : i < xs.length) : w.cell? ⟨b, i, none⟩ = some (.int .i64 (xs.getD i 0 : Nat)) := by
 refine heap_cell h i _ ?_
 simp [List.getD_eq_getElem?_getD, List.getElem?_eq_getElem hi]
theorem IntRow.frozen (h : IntRow w b xs) (i : Nat) : w.frozen? ⟨b, i, none⟩ = false := heap_frozen h i
theorem IntRow.set (h : IntRow w b xs) (i v : Nat) : IntRow (w.setCell ⟨b, i, none⟩ (.int .i64 (v : Int))) b (xs.set i v) := by
 have := heap_set h i (.int .i64 (v : Int))
 unfold IntRow
 rw [this]
 simp [List.map_set]
theorem IntRow.other (h : IntRow w b xs) {b' i : Nat} (v : Value) (hne : b ≠ b') : IntRow (w.setCell ⟨b', i, none⟩ v) b xs := by
 unfold IntRow
 rw [Below.heap_setCell _ _ _ _ hne]
 exact h
theorem IntRow.sl (h : IntRow w b xs) (cap : Nat) (hcap : xs.length ≤ cap) : Sl intE w (.slice (some ⟨b, 0, none⟩) xs.length cap) (xs.map fun (n : Nat) => (n : Int)) := by
 refine ⟨_, cap, by rw [List.length_map], fun i x hi => ⟨b, 0, [.int .i64 x], rfl, ⟨trivial, by rw [List.length_map]; exact hcap⟩, rfl, fun j u hj => ?_⟩⟩
 have hlt : i < xs.length := by simpa using (List.getElem?_eq_some_iff.1 hi).1
 cases j with
 | succ j => simp at hj
 | zero =>
  simp at hj
  subst hj
  have := h.cell i hlt
  simp only [intE, Nat.mul_one, Nat.zero_add, Nat.add_zero]
  rw [this]
  simp [List.getD_eq_getElem?_getD, List.getElem?_eq_getElem hlt] at hi ⊢
  exact hi
end
theorem Boxed.ext {w w' : World} {b : Nat} {t : TypeId} {v : Value} (h : Boxed w b t v) (hx : Ext w w') : Boxed w' b t v := hx.heap h
theorem Boxed.other' {w : World} {b b' i : Nat} {t : TypeId} {u : Value} (h : Boxed w b t u) (v : Value) (hne : b ≠ b') : Boxed (w.setCell ⟨b', i, none⟩ v) b t u := by
 unfold Boxed
 rw [Below.heap_setCell _ _ _ _ hne]
 exact h
theorem set_next (L : List Nat) (i n v : Nat) (hL : L.length = i) (hi : i < n) : (L ++ List.replicate (n - i) 0).set i v = L ++ [v] ++ List.replicate (n - (i + 1)) 0 := by
 subst hL
 rw [List.set_append_right _ _ (Nat.le_refl _), Nat.sub_self, show n - L.length = (n - (L.length + 1)) + 1 by omega, List.replicate_succ]
 simp
theorem getD_pre (L M : List Nat) (k : Nat) (hk : k < L.length) : (L ++ M).getD k 0 = L.getD k 0 := by
 simp only [List.getD_eq_getElem?_getD]; rw [List.getElem?_append_left hk]
theorem getD_zero (L : List Nat) (m k : Nat) (hk : L.length ≤ k) : (L ++ List.replicate m 0).getD k 0 = 0 := by
 simp only [List.getD_eq_getElem?_getD]
 rw [List.getElem?_append_right hk, List.getElem?_replicate]
 split <;> rfl
/-! ### the function values of classes -/
set_option maxRecDepth 100000 in
theorem classes1 (w : World) (bx Bc n i : Nat) (cs : List Nat) (hb : Boxed w bx 24 (.slice (some ⟨Bc, 0, none⟩) n n)) (hr : IntRow w Bc cs) (hl : cs.length = n) (hi : i < n) (hn : n ≤ 1048576) :
  Calls Tryz.prog 109 #[.int .i64 i, .pointer (some ⟨bx, 0, none⟩)] w (Ret w (.int .i64 (cs.getD i 0 : Nat))) := by
 have c0 := hb.cell
 have c1 := hr.cell i (by omega)
 have l0 := hb.lt
 have l1 := hr.lt
 have h0 : (0 : Int) ≤ (i : Int) := by omega
 have h1 : (i : Int) < (n : Int) := by omega
 clear hb hr hl
 go_enter Tryz.func109, Tryz.ntmps109
 go_wp2_with fail
 go_ret
 exact ⟨rfl, Ext.refl _⟩
set_option maxRecDepth 100000 in
theorem classes2 (w : World) (bx Bc n i : Nat) (cs : List Nat) (hb : Boxed w bx 24 (.slice (some ⟨Bc, 0, none⟩) n n)) (hr : IntRow w Bc cs) (hl : cs.length = n) (hi : i < n) (hn : n ≤ 1048576) :
  Calls Tryz.prog 110 #[.int .i64 i, .pointer (some ⟨bx, 0, none⟩)] w (Ret w (.int .i64 (cs.getD i 0 : Nat))) := by
 have c0 := hb.cell
 have c1 := hr.cell i (by omega)
 have l0 := hb.lt
 have l1 := hr.lt
 have h0 : (0 : Int) ≤ (i : Int) := by omega
 have h1 : (i : Int) < (n : Int) := by omega
 clear hb hr hl
 go_enter Tryz.func110, Tryz.ntmps110
 go_wp2_with fail
 go_ret
 exact ⟨rfl, Ext.refl _⟩
def lookN (cs : List Nat) (x : Int) : Int := (cs.getD x.toNat 0 : Nat)
theorem res_int {w : World} {s : Int} {f : Nat} {args : Array Value} (h : Calls Tryz.prog f args w (Ret w (.int .i64 s))) : Calls Tryz.prog f args w (RetP w (Res intE w s)) :=
 h.mono fun e w' ⟨he, hx⟩ => ⟨_, he, ⟨[.int .i64 s], rfl, rfl⟩, hx⟩
theorem map109 (w : World) (bx Bc n : Nat) (cs : List Nat) (xs : List Int) (hb : Boxed w bx 24 (.slice (some ⟨Bc, 0, none⟩) n n)) (hr : IntRow w Bc cs) (hl : cs.length = n) (hn : n ≤ 1048576) (hx : ∀ x ∈ xs, 0 ≤ x ∧ x < n) :
  MapP intE intE w 109 #[.pointer (some ⟨bx, 0, none⟩)] xs (lookN cs) :=
 ⟨enters_of Tryz.func109 (by kernel_rfl) rfl, by
  rintro x hxm w' A hxt ⟨_, rfl, rfl⟩
  obtain ⟨h0, h1⟩ := hx x hxm
  obtain ⟨i, rfl⟩ := Int.eq_ofNat_of_zero_le h0
  exact res_int (classes1 w' bx Bc n i cs (Boxed.ext hb hxt) (hr.ext hxt) hl (by omega) hn)⟩
theorem map110 (w : World) (bx Bc n : Nat) (cs : List Nat) (xs : List Int) (hb : Boxed w bx 24 (.slice (some ⟨Bc, 0, none⟩) n n)) (hr : IntRow w Bc cs) (hl : cs.length = n) (hn : n ≤ 1048576) (hx : ∀ x ∈ xs, 0 ≤ x ∧ x < n) :
  MapP intE intE w 110 #[.pointer (some ⟨bx, 0, none⟩)] xs (lookN cs) :=
 ⟨enters_of Tryz.func110 (by kernel_rfl) rfl, by
  rintro x hxm w' A hxt ⟨_, rfl, rfl⟩
  obtain ⟨h0, h1⟩ := hx x hxm
  obtain ⟨i, rfl⟩ := Int.eq_ofNat_of_zero_le h0
  exact res_int (classes2 w' bx Bc n i cs (Boxed.ext hb hxt) (hr.ext hxt) hl (by omega) hn)⟩
/-- what classes keeps while it runs -/
structure CSt (w : World) (b0 bx Bc : Nat) (A : Option Addr) (cap n : Nat) (cs : List Nat) (wr : World) : Prop where
 ext : Ext w wr
 gbox : Boxed wr b0 77 (.slice A n cap)
 cbox : Boxed wr bx 24 (.slice (some ⟨Bc, 0, none⟩) n n)
 row : IntRow wr Bc cs
 len : cs.length = n
 nb : w.heap.size ≤ Bc ∧ w.heap.size ≤ bx ∧ b0 ≠ Bc ∧ bx ≠ Bc ∧ b0 ≠ bx
section
variable {w wr : World} {b0 bx Bc : Nat} {A : Option Addr} {cap n : Nat} {cs : List Nat}
theorem CSt.later {wr' : World} (h : CSt w b0 bx Bc A cap n cs wr) (hx : Ext wr wr') : CSt w b0 bx Bc A cap n cs wr' :=
 ⟨h.ext.trans hx, Boxed.ext h.gbox hx, Boxed.ext h.cbox hx, h.row.ext hx, h.len, h.nb⟩
theorem CSt.set (h : CSt w b0 bx Bc A cap n cs wr) (i v : Nat) : CSt w b0 bx Bc A cap n (cs.set i v) (wr.setCell ⟨Bc, i, none⟩ (.int .i64 (v : Int))) :=
 ⟨h.ext.setCell h.nb.1 _, Boxed.other' h.gbox _ h.nb.2.2.1, Boxed.other' h.cbox _ h.nb.2.2.2.1, h.row.set i v, by simp [h.len], h.nb⟩
theorem CSt.put (h : CSt w b0 bx Bc A cap n cs wr) (Bn i : Nat) (v : Value) (h1 : w.heap.size ≤ Bn) (h2 : b0 ≠ Bn) (h3 : bx ≠ Bn) (h4 : Bc ≠ Bn) : CSt w b0 bx Bc A cap n cs (wr.setCell ⟨Bn, i, none⟩ v) :=
 ⟨h.ext.setCell h1 _, Boxed.other' h.gbox _ h2, Boxed.other' h.cbox _ h3, h.row.other _ h4, h.len, h.nb⟩
end
end Go.Proofs.YtldnjnnhfeobdaaGreatDoor
