/- Parts of the proof, joined: Contract: two types, compared as types.Same compares them. Conditions: lengths below 2^20; Contract: types.Same. Conditions: tidy graphs. -/
import Derived.Test.YtldnjnnhfeobdaaGreatDoorG11
import Derived.Test.YtldnjnnhfeobdaaGreatDoorG03
set_option linter.all false
set_option linter.unusedSimpArgs false
set_option linter.unusedVariables false
namespace Go.Proofs.YtldnjnnhfeobdaaGreatDoor
open Go.RowKit Go.Shelf
theorem row7_set {w : World} {b : Nat} {t : TypeId} {fr : Nat × Nat} {a0 a1 a2 a3 a4 a5 a6 : Value} (h : w.heap[b]? = some (.cells #[a0, a1, a2, a3, a4, a5, a6] t fr)) (v0 v1 v2 v3 v4 v5 v6 : Value) :
  (((((((w.setCell ⟨b, 0, none⟩ v0).setCell ⟨b, 1, none⟩ v1).setCell ⟨b, 2, none⟩ v2).setCell ⟨b, 3, none⟩ v3).setCell ⟨b, 4, none⟩ v4).setCell ⟨b, 5, none⟩ v5).setCell ⟨b, 6, none⟩ v6).heap[b]? = some (.cells #[v0, v1, v2, v3, v4, v5, v6] t fr) := by
 have h0 := heap_set h 0 v0
 simp only [List.setIfInBounds_toArray, List.set_cons_zero, List.set_cons_succ] at h0
 have h1 := heap_set h0 1 v1
 simp only [List.setIfInBounds_toArray, List.set_cons_zero, List.set_cons_succ] at h1
 have h2 := heap_set h1 2 v2
 simp only [List.setIfInBounds_toArray, List.set_cons_zero, List.set_cons_succ] at h2
 have h3 := heap_set h2 3 v3
 simp only [List.setIfInBounds_toArray, List.set_cons_zero, List.set_cons_succ] at h3
 have h4 := heap_set h3 4 v4
 simp only [List.setIfInBounds_toArray, List.set_cons_zero, List.set_cons_succ] at h4
 have h5 := heap_set h4 5 v5
 simp only [List.setIfInBounds_toArray, List.set_cons_zero, List.set_cons_succ] at h5
 have h6 := heap_set h5 6 v6
 simp only [List.setIfInBounds_toArray, List.set_cons_zero, List.set_cons_succ] at h6
 exact h6
theorem row7_other {w : World} {b c : Nat} {x : Obj} (hne : b ≠ c) (h : w.heap[c]? = some x) (v0 v1 v2 v3 v4 v5 v6 : Value) :
  (((((((w.setCell ⟨b, 0, none⟩ v0).setCell ⟨b, 1, none⟩ v1).setCell ⟨b, 2, none⟩ v2).setCell ⟨b, 3, none⟩ v3).setCell ⟨b, 4, none⟩ v4).setCell ⟨b, 5, none⟩ v5).setCell ⟨b, 6, none⟩ v6).heap[c]? = some x := by
 have hc : c ≠ b := fun e => hne e.symm
 rw [Below.heap_setCell _ _ _ _ hc, Below.heap_setCell _ _ _ _ hc, Below.heap_setCell _ _ _ _ hc, Below.heap_setCell _ _ _ _ hc, Below.heap_setCell _ _ _ _ hc, Below.heap_setCell _ _ _ _ hc, Below.heap_setCell _ _ _ _ hc]
 exact h
theorem plain_super (x y : Ty) : plainB7 x.kind x.low x.high x.branded x.brand x.opaq x.super y.kind y.low y.high y.branded y.brand y.opaq y.super = (plainEqB x y && decide (x.super = y.super)) := by
 unfold plainB7 plainEqB
 simp only [Bool.and_assoc]
set_option maxRecDepth 100000 in
set_option maxHeartbeats 16000000 in
theorem same1_any (w : World) (x y : Ty) (xp xm xo yp ym yo : Value) (hx : TySmall x) (hy : TySmall y) (hox : TyOf w x xp xm xo) (hoy : TyOf w y yp ym yo) :
  Calls Tryz.prog 77 #[tyV x xp xm xo, tyV y yp ym yo] w (Ret w (.bool (tySame x y))) := by
 have hparts := fun (w' : World) (h : Ext w w') => equal_part w' _ _ x.parts y.parts (hox.parts.mono h) (hoy.parts.mono h) hx.parts hy.parts
 have hmeths := fun (w' : World) (h : Ext w w') => equalFunc_method 79 #[] w' _ _ x.methods y.methods methSame (hox.methods.mono h) (hoy.methods.mono h) hx.methods hy.methods (pred79 w' _ _ hx.method hy.method)
 have hovers := fun (w' : World) (h : Ext w w') => equal_over w' _ _ x.overs y.overs (hox.overs.mono h) (hoy.overs.mono h) hx.overs hy.overs
 obtain ⟨A1, c1, e1⟩ := hox.parts.len
 obtain ⟨A2, c2, e2⟩ := hox.methods.len
 obtain ⟨A3, c3, e3⟩ := hox.overs.len
 obtain ⟨B1, p1, e4⟩ := hoy.parts.len
 obtain ⟨B2, p2, e5⟩ := hoy.methods.len
 obtain ⟨B3, p3, e6⟩ := hoy.overs.len
 subst e1 e2 e3 e4 e5 e6
 have heq := fun w' => eql_plain x.kind x.low x.high x.branded x.brand x.opaq x.super y.kind y.low y.high y.branded y.brand y.opaq y.super w'
 rw [plain_super] at heq
 have hpx := fun w' => plainOf_any w' x A1 A2 A3 x.parts.length x.methods.length x.overs.length c1 c2 c3
 have hpy := fun w' => plainOf_any w' y B1 B2 B3 y.parts.length y.methods.length y.overs.length p1 p2 p3
 unfold plainV at hpx hpy
 unfold tySame
 generalize (plainEqB x y && decide (x.super = y.super)) = q1 at heq ⊢
 generalize eqF partSame x.parts y.parts = q2 at hparts ⊢
 generalize eqF methSame x.methods y.methods = q3 at hmeths ⊢
 generalize eqF overEq x.overs y.overs = q4 at hovers ⊢
 have Hparts := Lib.hid hparts
 have Hmeths := Lib.hid hmeths
 have Hovers := Lib.hid hovers
 have Heq := Lib.hid heq
 have Hpx := Lib.hid hpx
 have Hpy := Lib.hid hpy
 clear hparts hmeths hovers heq hpx hpy hox hoy hx hy
 unfold tyV
 go_enter Tryz.func77, Tryz.ntmps77
 go_upto_region 1 with fail
 have hb2 := (Below.heap_alloc (w.alloc (.cells #[.int .u8 x.kind, .int .i64 x.low, .int .i64 x.high, .bool x.branded, .string x.brand, .string x.opaq, .int .i64 x.super, .slice A1 x.parts.length c1, .slice A2 x.methods.length c2, .slice A3 x.overs.length c3] 42)) (.cells #[.int .u8 y.kind, .int .i64 y.low, .int .i64 y.high, .bool y.branded, .string y.brand, .string y.opaq, .int .i64 y.super, .slice B1 y.parts.length p1, .slice B2 y.methods.length p2, .slice B3 y.overs.length p3] 42) w.heap.size (by simp)).trans (heap_alloc_self w (.cells #[.int .u8 x.kind, .int .i64 x.low, .int .i64 x.high, .bool x.branded, .string x.brand, .string x.opaq, .int .i64 x.super, .slice A1 x.parts.length c1, .slice A2 x.methods.length c2, .slice A3 x.overs.length c3] 42))
 have hb3 := heap_alloc_self (w.alloc (.cells #[.int .u8 x.kind, .int .i64 x.low, .int .i64 x.high, .bool x.branded, .string x.brand, .string x.opaq, .int .i64 x.super, .slice A1 x.parts.length c1, .slice A2 x.methods.length c2, .slice A3 x.overs.length c3] 42)) (.cells #[.int .u8 y.kind, .int .i64 y.low, .int .i64 y.high, .bool y.branded, .string y.brand, .string y.opaq, .int .i64 y.super, .slice B1 y.parts.length p1, .slice B2 y.methods.length p2, .slice B3 y.overs.length p3] 42)
 rw [World.size_alloc] at hb3
 have HX := Lib.hid (Ext.refl ((w.alloc (.cells #[.int .u8 x.kind, .int .i64 x.low, .int .i64 x.high, .bool x.branded, .string x.brand, .string x.opaq, .int .i64 x.super, .slice A1 x.parts.length c1, .slice A2 x.methods.length c2, .slice A3 x.overs.length c3] 42)).alloc (.cells #[.int .u8 y.kind, .int .i64 y.low, .int .i64 y.high, .bool y.branded, .string y.brand, .string y.opaq, .int .i64 y.super, .slice B1 y.parts.length p1, .slice B2 y.methods.length p2, .slice B3 y.overs.length p3] 42)))
 have HXw := Lib.hid (((Ext.refl w).alloc (.cells #[.int .u8 x.kind, .int .i64 x.low, .int .i64 x.high, .bool x.branded, .string x.brand, .string x.opaq, .int .i64 x.super, .slice A1 x.parts.length c1, .slice A2 x.methods.length c2, .slice A3 x.overs.length c3] 42)).alloc (.cells #[.int .u8 y.kind, .int .i64 y.low, .int .i64 y.high, .bool y.branded, .string y.brand, .string y.opaq, .int .i64 y.super, .slice B1 y.parts.length p1, .slice B2 y.methods.length p2, .slice B3 y.overs.length p3] 42))
 generalize (w.alloc (.cells #[.int .u8 x.kind, .int .i64 x.low, .int .i64 x.high, .bool x.branded, .string x.brand, .string x.opaq, .int .i64 x.super, .slice A1 x.parts.length c1, .slice A2 x.methods.length c2, .slice A3 x.overs.length c3] 42)).alloc (.cells #[.int .u8 y.kind, .int .i64 y.low, .int .i64 y.high, .bool y.branded, .string y.brand, .string y.opaq, .int .i64 y.super, .slice B1 y.parts.length p1, .slice B2 y.methods.length p2, .slice B3 y.overs.length p3] 42) = w0 at *
 have Hb2 : Hid (TyBox w0 w.heap.size x (.slice A1 x.parts.length c1) (.slice A2 x.methods.length c2) (.slice A3 x.overs.length c3)) := Lib.hid hb2
 have Hb3 : Hid (TyBox w0 (w.heap.size + 1) y (.slice B1 y.parts.length p1) (.slice B2 y.methods.length p2) (.slice B3 y.overs.length p3)) := Lib.hid hb3
 generalize w.heap.size + 1 = b3 at *
 generalize w.heap.size = b2 at *
 clear hb2 hb3
 have HS := Lib.hid (show ∀ w', Ext w0 w' → w'.cell? ⟨b2, 0, none⟩ = some (.int .u8 x.kind) ∧ w'.cell? ⟨b2, 1, none⟩ = some (.int .i64 x.low) ∧ w'.cell? ⟨b2, 2, none⟩ = some (.int .i64 x.high) ∧ w'.cell? ⟨b2, 3, none⟩ = some (.bool x.branded) ∧ w'.cell? ⟨b2, 4, none⟩ = some (.string x.brand) ∧ w'.cell? ⟨b2, 5, none⟩ = some (.string x.opaq) ∧ w'.cell? ⟨b2, 6, none⟩ = some (.int .i64 x.super) ∧ w'.cell? ⟨b2, 7, none⟩ = some (.slice A1 x.parts.length c1) ∧ w'.cell? ⟨b2, 8, none⟩ = some (.slice A2 x.methods.length c2) ∧ w'.cell? ⟨b2, 9, none⟩ = some (.slice A3 x.overs.length c3) ∧ w'.cell? ⟨b3, 0, none⟩ = some (.int .u8 y.kind) ∧ w'.cell? ⟨b3, 1, none⟩ = some (.int .i64 y.low) ∧ w'.cell? ⟨b3, 2, none⟩ = some (.int .i64 y.high) ∧ w'.cell? ⟨b3, 3, none⟩ = some (.bool y.branded) ∧ w'.cell? ⟨b3, 4, none⟩ = some (.string y.brand) ∧ w'.cell? ⟨b3, 5, none⟩ = some (.string y.opaq) ∧ w'.cell? ⟨b3, 6, none⟩ = some (.int .i64 y.super) ∧ w'.cell? ⟨b3, 7, none⟩ = some (.slice B1 y.parts.length p1) ∧ w'.cell? ⟨b3, 8, none⟩ = some (.slice B2 y.methods.length p2) ∧ w'.cell? ⟨b3, 9, none⟩ = some (.slice B3 y.overs.length p3) from fun w' h => by
  obtain ⟨d0, d1, d2, d3, d4, d5, d6, d7, d8, d9⟩ := (Hb2.out.ext h).at
  obtain ⟨f0, f1, f2, f3, f4, f5, f6, f7, f8, f9⟩ := (Hb3.out.ext h).at
  simp only [Nat.zero_add] at d0 d1 d2 d3 d4 d5 d6 d7 d8 d9 f0 f1 f2 f3 f4 f5 f6 f7 f8 f9
  exact ⟨d0, d1, d2, d3, d4, d5, d6, d7, d8, d9, f0, f1, f2, f3, f4, f5, f6, f7, f8, f9⟩)
 go_cut [5, 6] (fun s5 s6 wx => Hid (Ext w0 wx) ∧ ∃ b5 b6, s5 = .pointer (some ⟨b5, 0, none⟩) ∧ s6 = .pointer (some ⟨b6, 0, none⟩) ∧ Hid (wx.heap[b5]? = some (.cells #[.int .u8 x.kind, .int .i64 x.low, .int .i64 x.high, .bool x.branded, .string x.brand, .string x.opaq, .int .i64 0] 109)) ∧ Hid (wx.heap[b6]? = some (.cells #[.int .u8 y.kind, .int .i64 y.low, .int .i64 y.high, .bool y.branded, .string y.brand, .string y.opaq, .int .i64 0] 109)) ∧ Hid (w0.heap.size ≤ b5) ∧ Hid (w0.heap.size ≤ b6) ∧ b5 ≠ b6)
 case first =>
  replace HX := Lib.hid HX.out.drew
  refine wp_region_held_drew (S := (fun w' => w'.cell? ⟨b2, 0, none⟩ = some (.int .u8 x.kind) ∧ w'.cell? ⟨b2, 1, none⟩ = some (.int .i64 x.low) ∧ w'.cell? ⟨b2, 2, none⟩ = some (.int .i64 x.high) ∧ w'.cell? ⟨b2, 3, none⟩ = some (.bool x.branded) ∧ w'.cell? ⟨b2, 4, none⟩ = some (.string x.brand) ∧ w'.cell? ⟨b2, 5, none⟩ = some (.string x.opaq) ∧ w'.cell? ⟨b2, 6, none⟩ = some (.int .i64 x.super) ∧ w'.cell? ⟨b2, 7, none⟩ = some (.slice A1 x.parts.length c1) ∧ w'.cell? ⟨b2, 8, none⟩ = some (.slice A2 x.methods.length c2) ∧ w'.cell? ⟨b2, 9, none⟩ = some (.slice A3 x.overs.length c3) ∧ w'.cell? ⟨b3, 0, none⟩ = some (.int .u8 y.kind) ∧ w'.cell? ⟨b3, 1, none⟩ = some (.int .i64 y.low) ∧ w'.cell? ⟨b3, 2, none⟩ = some (.int .i64 y.high) ∧ w'.cell? ⟨b3, 3, none⟩ = some (.bool y.branded) ∧ w'.cell? ⟨b3, 4, none⟩ = some (.string y.brand) ∧ w'.cell? ⟨b3, 5, none⟩ = some (.string y.opaq) ∧ w'.cell? ⟨b3, 6, none⟩ = some (.int .i64 y.super) ∧ w'.cell? ⟨b3, 7, none⟩ = some (.slice B1 y.parts.length p1) ∧ w'.cell? ⟨b3, 8, none⟩ = some (.slice B2 y.methods.length p2) ∧ w'.cell? ⟨b3, 9, none⟩ = some (.slice B3 y.overs.length p3))) (by kernel_rfl) ?_ (fun hHeld => ?_)
  ·(try dsimp only)
   exact HS.out _ HX.out
  generalize w0.drew = u0 at *
  refine wpAnyH_take (i := 0) (v := ?_) rfl (by kernel_rfl) (by kernel_rfl) (by kernel_rfl) (fun _ _ _ h => h) (Or.inl ⟨by rfl, ?_⟩) (by assumption) ?_
  rotate_left
  ·intro w hSw
   (try dsimp only at hSw)
   go_simp
   (first | done | with_reducible rfl | exact rfl)
  (try simp only [Act.put, List.setIfInBounds_toArray, List.set_cons_zero, List.set_cons_succ])
  refine wpAnyH_take (i := 2) (v := ?_) rfl (by kernel_rfl) (by kernel_rfl) (by kernel_rfl) (fun _ _ _ h => h) (Or.inl ⟨by rfl, ?_⟩) (by assumption) ?_
  rotate_left
  ·intro w hSw
   (try dsimp only at hSw)
   go_simp
   (first | done | with_reducible rfl | exact rfl)
  (try simp only [Act.put, List.setIfInBounds_toArray, List.set_cons_zero, List.set_cons_succ])
  refine wpAnyH_ready (rs := [1, 4, 5]) (by kernel_rfl) (by simp) ?_
  refine AllReadyH.cons rfl (fun K hK => ?_) ?_
  ·go_simp
   go_at_call 78
   refine (Hpx.out _).mono ?_
   rintro e u1 ⟨rfl, hxx⟩
   replace HX := Lib.hid (HX.out.trans hxx)
   clear hxx
   refine hK.out _ _ ?_ (fun hHeld => ?_)
   ·(try dsimp only)
    exact HS.out _ HX.out
   clear hK K
   (try simp only [Act.put, List.setIfInBounds_toArray, List.set_cons_zero, List.set_cons_succ])
   refine wpAnyH_ready (rs := [3, 4, 5]) (by kernel_rfl) (by simp) ?_
   refine AllReadyH.cons rfl (fun K hK => ?_) ?_
   ·go_simp
    go_at_call 78
    refine (Hpy.out _).mono ?_
    rintro e u13 ⟨rfl, hxx⟩
    replace HX := Lib.hid (HX.out.trans hxx)
    clear hxx
    refine hK.out _ _ ?_ (fun hHeld => ?_)
    ·(try dsimp only)
     exact HS.out _ HX.out
    clear hK K
    (try simp only [Act.put, List.setIfInBounds_toArray, List.set_cons_zero, List.set_cons_succ])
    refine wpAnyH_ready (rs := [4, 5]) (by kernel_rfl) (by simp) ?_
    refine AllReadyH.cons rfl (fun K hK => ?_) ?_
    ·go_simp
     have hz := heap_alloc_self u13 (.cells #[.int .u8 0, .int .i64 0, .int .i64 0, .bool false, .string ⟨#[]⟩, .string ⟨#[]⟩, .int .i64 0] 109)
     have hge := HX.out.size
     have hxx := (Ext.refl u13).alloc (.cells #[.int .u8 0, .int .i64 0, .int .i64 0, .bool false, .string ⟨#[]⟩, .string ⟨#[]⟩, .int .i64 0] 109)
     replace HX := Lib.hid (HX.out.trans hxx)
     obtain ⟨b5, hb5⟩ : ∃ b, b = u13.heap.size := ⟨_, rfl⟩
     rw [← hb5] at hz hge ⊢
     clear hb5
     generalize u13.alloc (.cells #[.int .u8 0, .int .i64 0, .int .i64 0, .bool false, .string ⟨#[]⟩, .string ⟨#[]⟩, .int .i64 0] 109) = u134 at *
     have HB5 := Lib.hid hz
     have HG5 := Lib.hid hge
     clear hz hge hxx
     refine hK.out _ _ ?_ (fun hHeld => ?_)
     ·(try dsimp only)
      exact HS.out _ HX.out
     clear hK K
     (try simp only [Act.put, List.setIfInBounds_toArray, List.set_cons_zero, List.set_cons_succ])
     refine wpAnyH_ready (rs := [5]) (by kernel_rfl) (by simp) ?_
     refine AllReadyH.cons rfl (fun K hK => ?_) ?_
     ·go_simp
      have hz := heap_alloc_self u134 (.cells #[.int .u8 0, .int .i64 0, .int .i64 0, .bool false, .string ⟨#[]⟩, .string ⟨#[]⟩, .int .i64 0] 109)
      have hge := HX.out.size
      have hxx := (Ext.refl u134).alloc (.cells #[.int .u8 0, .int .i64 0, .int .i64 0, .bool false, .string ⟨#[]⟩, .string ⟨#[]⟩, .int .i64 0] 109)
      have hlt := (Array.getElem?_eq_some_iff.1 HB5.out).1
      replace HB5 := Lib.hid (hxx.heap HB5.out)
      replace HX := Lib.hid (HX.out.trans hxx)
      obtain ⟨b6, hb6⟩ : ∃ b, b = u134.heap.size := ⟨_, rfl⟩
      rw [← hb6] at hz hge hlt ⊢
      clear hb6
      generalize u134.alloc (.cells #[.int .u8 0, .int .i64 0, .int .i64 0, .bool false, .string ⟨#[]⟩, .string ⟨#[]⟩, .int .i64 0] 109) = u1345 at *
      have HB6 := Lib.hid hz
      have HG6 := Lib.hid hge
      have hne56 : b5 ≠ b6 := by omega
      have hne65 : b6 ≠ b5 := by omega
      clear hz hge hxx hlt
      refine hK.out _ _ ?_ (fun hHeld => ?_)
      ·(try dsimp only)
       exact HS.out _ HX.out
      clear hK K
      (try simp only [Act.put, List.setIfInBounds_toArray, List.set_cons_zero, List.set_cons_succ])
      refine wpAnyH_ready (rs := [6]) (by kernel_rfl) (by simp) ?_
      refine AllReadyH.cons rfl (fun K hK => ?_) ?_
      ·have y0 := heap_cell HB5.out 0 _ rfl
       have y1 := heap_cell HB5.out 1 _ rfl
       have y2 := heap_cell HB5.out 2 _ rfl
       have y3 := heap_cell HB5.out 3 _ rfl
       have y4 := heap_cell HB5.out 4 _ rfl
       have y5 := heap_cell HB5.out 5 _ rfl
       have y6 := heap_cell HB5.out 6 _ rfl
       have f0 := heap_frozen HB5.out 0
       have f1 := heap_frozen HB5.out 1
       have f2 := heap_frozen HB5.out 2
       have f3 := heap_frozen HB5.out 3
       have f4 := heap_frozen HB5.out 4
       have f5 := heap_frozen HB5.out 5
       have f6 := heap_frozen HB5.out 6
       have ly := (Array.getElem?_eq_some_iff.1 HB5.out).1
       go_simp
       have e5 := row7_set HB5.out (.int .u8 x.kind) (.int .i64 x.low) (.int .i64 x.high) (.bool x.branded) (.string x.brand) (.string x.opaq) (.int .i64 0)
       have e6 := row7_other (b := b5) (c := b6) hne56 HB6.out (.int .u8 x.kind) (.int .i64 x.low) (.int .i64 x.high) (.bool x.branded) (.string x.brand) (.string x.opaq) (.int .i64 0)
       have hxx := (((((((HX.out).setCell (p := ⟨b5, 0, none⟩) HG5.out (.int .u8 x.kind)).setCell (p := ⟨b5, 1, none⟩) HG5.out (.int .i64 x.low)).setCell (p := ⟨b5, 2, none⟩) HG5.out (.int .i64 x.high)).setCell (p := ⟨b5, 3, none⟩) HG5.out (.bool x.branded)).setCell (p := ⟨b5, 4, none⟩) HG5.out (.string x.brand)).setCell (p := ⟨b5, 5, none⟩) HG5.out (.string x.opaq)).setCell (p := ⟨b5, 6, none⟩) HG5.out (.int .i64 0)
       clear y0 f0 y1 f1 y2 f2 y3 f3 y4 f4 y5 f5 y6 f6 ly
       generalize (((((((u1345).setCell ⟨b5, 0, none⟩ (.int .u8 x.kind)).setCell ⟨b5, 1, none⟩ (.int .i64 x.low)).setCell ⟨b5, 2, none⟩ (.int .i64 x.high)).setCell ⟨b5, 3, none⟩ (.bool x.branded)).setCell ⟨b5, 4, none⟩ (.string x.brand)).setCell ⟨b5, 5, none⟩ (.string x.opaq)).setCell ⟨b5, 6, none⟩ (.int .i64 0) = u13456 at *
       replace HB5 := Lib.hid e5
       replace HB6 := Lib.hid e6
       replace HX := Lib.hid hxx
       clear e5 e6 hxx
       refine hK.out _ _ ?_ (fun hHeld => ?_)
       ·(try dsimp only)
        exact HS.out _ HX.out
       clear hK K
       (try simp only [Act.put, List.setIfInBounds_toArray, List.set_cons_zero, List.set_cons_succ])
       refine wpAnyH_ready (rs := [7]) (by kernel_rfl) (by simp) ?_
       refine AllReadyH.cons rfl (fun K hK => ?_) ?_
       ·have y0 := heap_cell HB6.out 0 _ rfl
        have y1 := heap_cell HB6.out 1 _ rfl
        have y2 := heap_cell HB6.out 2 _ rfl
        have y3 := heap_cell HB6.out 3 _ rfl
        have y4 := heap_cell HB6.out 4 _ rfl
        have y5 := heap_cell HB6.out 5 _ rfl
        have y6 := heap_cell HB6.out 6 _ rfl
        have f0 := heap_frozen HB6.out 0
        have f1 := heap_frozen HB6.out 1
        have f2 := heap_frozen HB6.out 2
        have f3 := heap_frozen HB6.out 3
        have f4 := heap_frozen HB6.out 4
        have f5 := heap_frozen HB6.out 5
        have f6 := heap_frozen HB6.out 6
        have ly := (Array.getElem?_eq_some_iff.1 HB6.out).1
        go_simp
        have e5 := row7_set HB6.out (.int .u8 y.kind) (.int .i64 y.low) (.int .i64 y.high) (.bool y.branded) (.string y.brand) (.string y.opaq) (.int .i64 0)
        have e6 := row7_other (b := b6) (c := b5) hne65 HB5.out (.int .u8 y.kind) (.int .i64 y.low) (.int .i64 y.high) (.bool y.branded) (.string y.brand) (.string y.opaq) (.int .i64 0)
        have hxx := (((((((HX.out).setCell (p := ⟨b6, 0, none⟩) HG6.out (.int .u8 y.kind)).setCell (p := ⟨b6, 1, none⟩) HG6.out (.int .i64 y.low)).setCell (p := ⟨b6, 2, none⟩) HG6.out (.int .i64 y.high)).setCell (p := ⟨b6, 3, none⟩) HG6.out (.bool y.branded)).setCell (p := ⟨b6, 4, none⟩) HG6.out (.string y.brand)).setCell (p := ⟨b6, 5, none⟩) HG6.out (.string y.opaq)).setCell (p := ⟨b6, 6, none⟩) HG6.out (.int .i64 0)
        clear y0 f0 y1 f1 y2 f2 y3 f3 y4 f4 y5 f5 y6 f6 ly
        generalize (((((((u13456).setCell ⟨b6, 0, none⟩ (.int .u8 y.kind)).setCell ⟨b6, 1, none⟩ (.int .i64 y.low)).setCell ⟨b6, 2, none⟩ (.int .i64 y.high)).setCell ⟨b6, 3, none⟩ (.bool y.branded)).setCell ⟨b6, 4, none⟩ (.string y.brand)).setCell ⟨b6, 5, none⟩ (.string y.opaq)).setCell ⟨b6, 6, none⟩ (.int .i64 0) = u134567 at *
        replace HB6 := Lib.hid e5
        replace HB5 := Lib.hid e6
        replace HX := Lib.hid hxx
        clear e5 e6 hxx
        refine hK.out _ _ ?_ (fun hHeld => ?_)
        ·(try dsimp only)
         exact HS.out _ HX.out
        clear hK K
        (try simp only [Act.put, List.setIfInBounds_toArray, List.set_cons_zero, List.set_cons_succ])
        refine wpAnyH_done (by kernel_rfl) ?_ _
        go_wp2_with fail
        go_meet
        exact ⟨HX, b5, b6, rfl, rfl, HB5, HB6, HG5, HG6, hne56⟩
       exact AllReadyH.nil
      exact AllReadyH.nil
     exact AllReadyH.nil
    refine AllReadyH.cons rfl (fun K hK => ?_) ?_
    ·go_simp
     have hz := heap_alloc_self u13 (.cells #[.int .u8 0, .int .i64 0, .int .i64 0, .bool false, .string ⟨#[]⟩, .string ⟨#[]⟩, .int .i64 0] 109)
     have hge := HX.out.size
     have hxx := (Ext.refl u13).alloc (.cells #[.int .u8 0, .int .i64 0, .int .i64 0, .bool false, .string ⟨#[]⟩, .string ⟨#[]⟩, .int .i64 0] 109)
     replace HX := Lib.hid (HX.out.trans hxx)
     obtain ⟨b6, hb6⟩ : ∃ b, b = u13.heap.size := ⟨_, rfl⟩
     rw [← hb6] at hz hge ⊢
     clear hb6
     generalize u13.alloc (.cells #[.int .u8 0, .int .i64 0, .int .i64 0, .bool false, .string ⟨#[]⟩, .string ⟨#[]⟩, .int .i64 0] 109) = u135 at *
     have HB6 := Lib.hid hz
     have HG6 := Lib.hid hge
     clear hz hge hxx
     refine hK.out _ _ ?_ (fun hHeld => ?_)
     ·(try dsimp only)
      exact HS.out _ HX.out
     clear hK K
     (try simp only [Act.put, List.setIfInBounds_toArray, List.set_cons_zero, List.set_cons_succ])
     refine wpAnyH_ready (rs := [4]) (by kernel_rfl) (by simp) ?_
     refine AllReadyH.cons rfl (fun K hK => ?_) ?_
     ·go_simp
      have hz := heap_alloc_self u135 (.cells #[.int .u8 0, .int .i64 0, .int .i64 0, .bool false, .string ⟨#[]⟩, .string ⟨#[]⟩, .int .i64 0] 109)
      have hge := HX.out.size
      have hxx := (Ext.refl u135).alloc (.cells #[.int .u8 0, .int .i64 0, .int .i64 0, .bool false, .string ⟨#[]⟩, .string ⟨#[]⟩, .int .i64 0] 109)
      have hlt := (Array.getElem?_eq_some_iff.1 HB6.out).1
      replace HB6 := Lib.hid (hxx.heap HB6.out)
      replace HX := Lib.hid (HX.out.trans hxx)
      obtain ⟨b5, hb5⟩ : ∃ b, b = u135.heap.size := ⟨_, rfl⟩
      rw [← hb5] at hz hge hlt ⊢
      clear hb5
      generalize u135.alloc (.cells #[.int .u8 0, .int .i64 0, .int .i64 0, .bool false, .string ⟨#[]⟩, .string ⟨#[]⟩, .int .i64 0] 109) = u1354 at *
      have HB5 := Lib.hid hz
      have HG5 := Lib.hid hge
      have hne56 : b5 ≠ b6 := by omega
      have hne65 : b6 ≠ b5 := by omega
      clear hz hge hxx hlt
      refine hK.out _ _ ?_ (fun hHeld => ?_)
      ·(try dsimp only)
       exact HS.out _ HX.out
      clear hK K
      (try simp only [Act.put, List.setIfInBounds_toArray, List.set_cons_zero, List.set_cons_succ])
      refine wpAnyH_ready (rs := [6]) (by kernel_rfl) (by simp) ?_
      refine AllReadyH.cons rfl (fun K hK => ?_) ?_
      ·have y0 := heap_cell HB5.out 0 _ rfl
       have y1 := heap_cell HB5.out 1 _ rfl
       have y2 := heap_cell HB5.out 2 _ rfl
       have y3 := heap_cell HB5.out 3 _ rfl
       have y4 := heap_cell HB5.out 4 _ rfl
       have y5 := heap_cell HB5.out 5 _ rfl
       have y6 := heap_cell HB5.out 6 _ rfl
       have f0 := heap_frozen HB5.out 0
       have f1 := heap_frozen HB5.out 1
       have f2 := heap_frozen HB5.out 2
       have f3 := heap_frozen HB5.out 3
       have f4 := heap_frozen HB5.out 4
       have f5 := heap_frozen HB5.out 5
       have f6 := heap_frozen HB5.out 6
       have ly := (Array.getElem?_eq_some_iff.1 HB5.out).1
       go_simp
       have e5 := row7_set HB5.out (.int .u8 x.kind) (.int .i64 x.low) (.int .i64 x.high) (.bool x.branded) (.string x.brand) (.string x.opaq) (.int .i64 0)
       have e6 := row7_other (b := b5) (c := b6) hne56 HB6.out (.int .u8 x.kind) (.int .i64 x.low) (.int .i64 x.high) (.bool x.branded) (.string x.brand) (.string x.opaq) (.int .i64 0)
       have hxx := (((((((HX.out).setCell (p := ⟨b5, 0, none⟩) HG5.out (.int .u8 x.kind)).setCell (p := ⟨b5, 1, none⟩) HG5.out (.int .i64 x.low)).setCell (p := ⟨b5, 2, none⟩) HG5.out (.int .i64 x.high)).setCell (p := ⟨b5, 3, none⟩) HG5.out (.bool x.branded)).setCell (p := ⟨b5, 4, none⟩) HG5.out (.string x.brand)).setCell (p := ⟨b5, 5, none⟩) HG5.out (.string x.opaq)).setCell (p := ⟨b5, 6, none⟩) HG5.out (.int .i64 0)
       clear y0 f0 y1 f1 y2 f2 y3 f3 y4 f4 y5 f5 y6 f6 ly
       generalize (((((((u1354).setCell ⟨b5, 0, none⟩ (.int .u8 x.kind)).setCell ⟨b5, 1, none⟩ (.int .i64 x.low)).setCell ⟨b5, 2, none⟩ (.int .i64 x.high)).setCell ⟨b5, 3, none⟩ (.bool x.branded)).setCell ⟨b5, 4, none⟩ (.string x.brand)).setCell ⟨b5, 5, none⟩ (.string x.opaq)).setCell ⟨b5, 6, none⟩ (.int .i64 0) = u13546 at *
       replace HB5 := Lib.hid e5
       replace HB6 := Lib.hid e6
       replace HX := Lib.hid hxx
       clear e5 e6 hxx
       refine hK.out _ _ ?_ (fun hHeld => ?_)
       ·(try dsimp only)
        exact HS.out _ HX.out
       clear hK K
       (try simp only [Act.put, List.setIfInBounds_toArray, List.set_cons_zero, List.set_cons_succ])
       refine wpAnyH_ready (rs := [7]) (by kernel_rfl) (by simp) ?_
       refine AllReadyH.cons rfl (fun K hK => ?_) ?_
       ·have y0 := heap_cell HB6.out 0 _ rfl
        have y1 := heap_cell HB6.out 1 _ rfl
        have y2 := heap_cell HB6.out 2 _ rfl
        have y3 := heap_cell HB6.out 3 _ rfl
        have y4 := heap_cell HB6.out 4 _ rfl
        have y5 := heap_cell HB6.out 5 _ rfl
        have y6 := heap_cell HB6.out 6 _ rfl
        have f0 := heap_frozen HB6.out 0
        have f1 := heap_frozen HB6.out 1
        have f2 := heap_frozen HB6.out 2
        have f3 := heap_frozen HB6.out 3
        have f4 := heap_frozen HB6.out 4
        have f5 := heap_frozen HB6.out 5
        have f6 := heap_frozen HB6.out 6
        have ly := (Array.getElem?_eq_some_iff.1 HB6.out).1
        go_simp
        have e5 := row7_set HB6.out (.int .u8 y.kind) (.int .i64 y.low) (.int .i64 y.high) (.bool y.branded) (.string y.brand) (.string y.opaq) (.int .i64 0)
        have e6 := row7_other (b := b6) (c := b5) hne65 HB5.out (.int .u8 y.kind) (.int .i64 y.low) (.int .i64 y.high) (.bool y.branded) (.string y.brand) (.string y.opaq) (.int .i64 0)
        have hxx := (((((((HX.out).setCell (p := ⟨b6, 0, none⟩) HG6.out (.int .u8 y.kind)).setCell (p := ⟨b6, 1, none⟩) HG6.out (.int .i64 y.low)).setCell (p := ⟨b6, 2, none⟩) HG6.out (.int .i64 y.high)).setCell (p := ⟨b6, 3, none⟩) HG6.out (.bool y.branded)).setCell (p := ⟨b6, 4, none⟩) HG6.out (.string y.brand)).setCell (p := ⟨b6, 5, none⟩) HG6.out (.string y.opaq)).setCell (p := ⟨b6, 6, none⟩) HG6.out (.int .i64 0)
        clear y0 f0 y1 f1 y2 f2 y3 f3 y4 f4 y5 f5 y6 f6 ly
        generalize (((((((u13546).setCell ⟨b6, 0, none⟩ (.int .u8 y.kind)).setCell ⟨b6, 1, none⟩ (.int .i64 y.low)).setCell ⟨b6, 2, none⟩ (.int .i64 y.high)).setCell ⟨b6, 3, none⟩ (.bool y.branded)).setCell ⟨b6, 4, none⟩ (.string y.brand)).setCell ⟨b6, 5, none⟩ (.string y.opaq)).setCell ⟨b6, 6, none⟩ (.int .i64 0) = u135467 at *
        replace HB6 := Lib.hid e5
        replace HB5 := Lib.hid e6
        replace HX := Lib.hid hxx
        clear e5 e6 hxx
        refine hK.out _ _ ?_ (fun hHeld => ?_)
        ·(try dsimp only)
         exact HS.out _ HX.out
        clear hK K
        (try simp only [Act.put, List.setIfInBounds_toArray, List.set_cons_zero, List.set_cons_succ])
        refine wpAnyH_done (by kernel_rfl) ?_ _
        go_wp2_with fail
        go_meet
        exact ⟨HX, b5, b6, rfl, rfl, HB5, HB6, HG5, HG6, hne56⟩
       exact AllReadyH.nil
      exact AllReadyH.nil
     exact AllReadyH.nil
    exact AllReadyH.nil
   refine AllReadyH.cons rfl (fun K hK => ?_) ?_
   ·go_simp
    have hz := heap_alloc_self u1 (.cells #[.int .u8 0, .int .i64 0, .int .i64 0, .bool false, .string ⟨#[]⟩, .string ⟨#[]⟩, .int .i64 0] 109)
    have hge := HX.out.size
    have hxx := (Ext.refl u1).alloc (.cells #[.int .u8 0, .int .i64 0, .int .i64 0, .bool false, .string ⟨#[]⟩, .string ⟨#[]⟩, .int .i64 0] 109)
    replace HX := Lib.hid (HX.out.trans hxx)
    obtain ⟨b5, hb5⟩ : ∃ b, b = u1.heap.size := ⟨_, rfl⟩
    rw [← hb5] at hz hge ⊢
    clear hb5
    generalize u1.alloc (.cells #[.int .u8 0, .int .i64 0, .int .i64 0, .bool false, .string ⟨#[]⟩, .string ⟨#[]⟩, .int .i64 0] 109) = u14 at *
    have HB5 := Lib.hid hz
    have HG5 := Lib.hid hge
    clear hz hge hxx
    refine hK.out _ _ ?_ (fun hHeld => ?_)
    ·(try dsimp only)
     exact HS.out _ HX.out
    clear hK K
    (try simp only [Act.put, List.setIfInBounds_toArray, List.set_cons_zero, List.set_cons_succ])
    refine wpAnyH_ready (rs := [3, 5]) (by kernel_rfl) (by simp) ?_
    refine AllReadyH.cons rfl (fun K hK => ?_) ?_
    ·go_simp
     go_at_call 78
     refine (Hpy.out _).mono ?_
     rintro e u143 ⟨rfl, hxx⟩
     replace HB5 := Lib.hid (hxx.heap HB5.out)
     replace HX := Lib.hid (HX.out.trans hxx)
     clear hxx
     refine hK.out _ _ ?_ (fun hHeld => ?_)
     ·(try dsimp only)
      exact HS.out _ HX.out
     clear hK K
     (try simp only [Act.put, List.setIfInBounds_toArray, List.set_cons_zero, List.set_cons_succ])
     refine wpAnyH_ready (rs := [5]) (by kernel_rfl) (by simp) ?_
     refine AllReadyH.cons rfl (fun K hK => ?_) ?_
     ·go_simp
      have hz := heap_alloc_self u143 (.cells #[.int .u8 0, .int .i64 0, .int .i64 0, .bool false, .string ⟨#[]⟩, .string ⟨#[]⟩, .int .i64 0] 109)
      have hge := HX.out.size
      have hxx := (Ext.refl u143).alloc (.cells #[.int .u8 0, .int .i64 0, .int .i64 0, .bool false, .string ⟨#[]⟩, .string ⟨#[]⟩, .int .i64 0] 109)
      have hlt := (Array.getElem?_eq_some_iff.1 HB5.out).1
      replace HB5 := Lib.hid (hxx.heap HB5.out)
      replace HX := Lib.hid (HX.out.trans hxx)
      obtain ⟨b6, hb6⟩ : ∃ b, b = u143.heap.size := ⟨_, rfl⟩
      rw [← hb6] at hz hge hlt ⊢
      clear hb6
      generalize u143.alloc (.cells #[.int .u8 0, .int .i64 0, .int .i64 0, .bool false, .string ⟨#[]⟩, .string ⟨#[]⟩, .int .i64 0] 109) = u1435 at *
      have HB6 := Lib.hid hz
      have HG6 := Lib.hid hge
      have hne56 : b5 ≠ b6 := by omega
      have hne65 : b6 ≠ b5 := by omega
      clear hz hge hxx hlt
      refine hK.out _ _ ?_ (fun hHeld => ?_)
      ·(try dsimp only)
       exact HS.out _ HX.out
      clear hK K
      (try simp only [Act.put, List.setIfInBounds_toArray, List.set_cons_zero, List.set_cons_succ])
      refine wpAnyH_ready (rs := [6]) (by kernel_rfl) (by simp) ?_
      refine AllReadyH.cons rfl (fun K hK => ?_) ?_
      ·have y0 := heap_cell HB5.out 0 _ rfl
       have y1 := heap_cell HB5.out 1 _ rfl
       have y2 := heap_cell HB5.out 2 _ rfl
       have y3 := heap_cell HB5.out 3 _ rfl
       have y4 := heap_cell HB5.out 4 _ rfl
       have y5 := heap_cell HB5.out 5 _ rfl
       have y6 := heap_cell HB5.out 6 _ rfl
       have f0 := heap_frozen HB5.out 0
       have f1 := heap_frozen HB5.out 1
       have f2 := heap_frozen HB5.out 2
       have f3 := heap_frozen HB5.out 3
       have f4 := heap_frozen HB5.out 4
       have f5 := heap_frozen HB5.out 5
       have f6 := heap_frozen HB5.out 6
       have ly := (Array.getElem?_eq_some_iff.1 HB5.out).1
       go_simp
       have e5 := row7_set HB5.out (.int .u8 x.kind) (.int .i64 x.low) (.int .i64 x.high) (.bool x.branded) (.string x.brand) (.string x.opaq) (.int .i64 0)
       have e6 := row7_other (b := b5) (c := b6) hne56 HB6.out (.int .u8 x.kind) (.int .i64 x.low) (.int .i64 x.high) (.bool x.branded) (.string x.brand) (.string x.opaq) (.int .i64 0)
       have hxx := (((((((HX.out).setCell (p := ⟨b5, 0, none⟩) HG5.out (.int .u8 x.kind)).setCell (p := ⟨b5, 1, none⟩) HG5.out (.int .i64 x.low)).setCell (p := ⟨b5, 2, none⟩) HG5.out (.int .i64 x.high)).setCell (p := ⟨b5, 3, none⟩) HG5.out (.bool x.branded)).setCell (p := ⟨b5, 4, none⟩) HG5.out (.string x.brand)).setCell (p := ⟨b5, 5, none⟩) HG5.out (.string x.opaq)).setCell (p := ⟨b5, 6, none⟩) HG5.out (.int .i64 0)
       clear y0 f0 y1 f1 y2 f2 y3 f3 y4 f4 y5 f5 y6 f6 ly
       generalize (((((((u1435).setCell ⟨b5, 0, none⟩ (.int .u8 x.kind)).setCell ⟨b5, 1, none⟩ (.int .i64 x.low)).setCell ⟨b5, 2, none⟩ (.int .i64 x.high)).setCell ⟨b5, 3, none⟩ (.bool x.branded)).setCell ⟨b5, 4, none⟩ (.string x.brand)).setCell ⟨b5, 5, none⟩ (.string x.opaq)).setCell ⟨b5, 6, none⟩ (.int .i64 0) = u14356 at *
       replace HB5 := Lib.hid e5
       replace HB6 := Lib.hid e6
       replace HX := Lib.hid hxx
       clear e5 e6 hxx
       refine hK.out _ _ ?_ (fun hHeld => ?_)
       ·(try dsimp only)
        exact HS.out _ HX.out
       clear hK K
       (try simp only [Act.put, List.setIfInBounds_toArray, List.set_cons_zero, List.set_cons_succ])
       refine wpAnyH_ready (rs := [7]) (by kernel_rfl) (by simp) ?_
       refine AllReadyH.cons rfl (fun K hK => ?_) ?_
       ·have y0 := heap_cell HB6.out 0 _ rfl
        have y1 := heap_cell HB6.out 1 _ rfl
        have y2 := heap_cell HB6.out 2 _ rfl
        have y3 := heap_cell HB6.out 3 _ rfl
        have y4 := heap_cell HB6.out 4 _ rfl
        have y5 := heap_cell HB6.out 5 _ rfl
        have y6 := heap_cell HB6.out 6 _ rfl
        have f0 := heap_frozen HB6.out 0
        have f1 := heap_frozen HB6.out 1
        have f2 := heap_frozen HB6.out 2
        have f3 := heap_frozen HB6.out 3
        have f4 := heap_frozen HB6.out 4
        have f5 := heap_frozen HB6.out 5
        have f6 := heap_frozen HB6.out 6
        have ly := (Array.getElem?_eq_some_iff.1 HB6.out).1
        go_simp
        have e5 := row7_set HB6.out (.int .u8 y.kind) (.int .i64 y.low) (.int .i64 y.high) (.bool y.branded) (.string y.brand) (.string y.opaq) (.int .i64 0)
        have e6 := row7_other (b := b6) (c := b5) hne65 HB5.out (.int .u8 y.kind) (.int .i64 y.low) (.int .i64 y.high) (.bool y.branded) (.string y.brand) (.string y.opaq) (.int .i64 0)
        have hxx := (((((((HX.out).setCell (p := ⟨b6, 0, none⟩) HG6.out (.int .u8 y.kind)).setCell (p := ⟨b6, 1, none⟩) HG6.out (.int .i64 y.low)).setCell (p := ⟨b6, 2, none⟩) HG6.out (.int .i64 y.high)).setCell (p := ⟨b6, 3, none⟩) HG6.out (.bool y.branded)).setCell (p := ⟨b6, 4, none⟩) HG6.out (.string y.brand)).setCell (p := ⟨b6, 5, none⟩) HG6.out (.string y.opaq)).setCell (p := ⟨b6, 6, none⟩) HG6.out (.int .i64 0)
        clear y0 f0 y1 f1 y2 f2 y3 f3 y4 f4 y5 f5 y6 f6 ly
        generalize (((((((u14356).setCell ⟨b6, 0, none⟩ (.int .u8 y.kind)).setCell ⟨b6, 1, none⟩ (.int .i64 y.low)).setCell ⟨b6, 2, none⟩ (.int .i64 y.high)).setCell ⟨b6, 3, none⟩ (.bool y.branded)).setCell ⟨b6, 4, none⟩ (.string y.brand)).setCell ⟨b6, 5, none⟩ (.string y.opaq)).setCell ⟨b6, 6, none⟩ (.int .i64 0) = u143567 at *
        replace HB6 := Lib.hid e5
        replace HB5 := Lib.hid e6
        replace HX := Lib.hid hxx
        clear e5 e6 hxx
        refine hK.out _ _ ?_ (fun hHeld => ?_)
        ·(try dsimp only)
         exact HS.out _ HX.out
        clear hK K
        (try simp only [Act.put, List.setIfInBounds_toArray, List.set_cons_zero, List.set_cons_succ])
        refine wpAnyH_done (by kernel_rfl) ?_ _
        go_wp2_with fail
        go_meet
        exact ⟨HX, b5, b6, rfl, rfl, HB5, HB6, HG5, HG6, hne56⟩
       exact AllReadyH.nil
      exact AllReadyH.nil
     exact AllReadyH.nil
    refine AllReadyH.cons rfl (fun K hK => ?_) ?_
    ·go_simp
     have hz := heap_alloc_self u14 (.cells #[.int .u8 0, .int .i64 0, .int .i64 0, .bool false, .string ⟨#[]⟩, .string ⟨#[]⟩, .int .i64 0] 109)
     have hge := HX.out.size
     have hxx := (Ext.refl u14).alloc (.cells #[.int .u8 0, .int .i64 0, .int .i64 0, .bool false, .string ⟨#[]⟩, .string ⟨#[]⟩, .int .i64 0] 109)
     have hlt := (Array.getElem?_eq_some_iff.1 HB5.out).1
     replace HB5 := Lib.hid (hxx.heap HB5.out)
     replace HX := Lib.hid (HX.out.trans hxx)
     obtain ⟨b6, hb6⟩ : ∃ b, b = u14.heap.size := ⟨_, rfl⟩
     rw [← hb6] at hz hge hlt ⊢
     clear hb6
     generalize u14.alloc (.cells #[.int .u8 0, .int .i64 0, .int .i64 0, .bool false, .string ⟨#[]⟩, .string ⟨#[]⟩, .int .i64 0] 109) = u145 at *
     have HB6 := Lib.hid hz
     have HG6 := Lib.hid hge
     have hne56 : b5 ≠ b6 := by omega
     have hne65 : b6 ≠ b5 := by omega
     clear hz hge hxx hlt
     refine hK.out _ _ ?_ (fun hHeld => ?_)
     ·(try dsimp only)
      exact HS.out _ HX.out
     clear hK K
     (try simp only [Act.put, List.setIfInBounds_toArray, List.set_cons_zero, List.set_cons_succ])
     refine wpAnyH_ready (rs := [3]) (by kernel_rfl) (by simp) ?_
     refine AllReadyH.cons rfl (fun K hK => ?_) ?_
     ·go_simp
      go_at_call 78
      refine (Hpy.out _).mono ?_
      rintro e u1453 ⟨rfl, hxx⟩
      replace HB5 := Lib.hid (hxx.heap HB5.out)
      replace HB6 := Lib.hid (hxx.heap HB6.out)
      replace HX := Lib.hid (HX.out.trans hxx)
      clear hxx
      refine hK.out _ _ ?_ (fun hHeld => ?_)
      ·(try dsimp only)
       exact HS.out _ HX.out
      clear hK K
      (try simp only [Act.put, List.setIfInBounds_toArray, List.set_cons_zero, List.set_cons_succ])
      refine wpAnyH_ready (rs := [6]) (by kernel_rfl) (by simp) ?_
      refine AllReadyH.cons rfl (fun K hK => ?_) ?_
      ·have y0 := heap_cell HB5.out 0 _ rfl
       have y1 := heap_cell HB5.out 1 _ rfl
       have y2 := heap_cell HB5.out 2 _ rfl
       have y3 := heap_cell HB5.out 3 _ rfl
       have y4 := heap_cell HB5.out 4 _ rfl
       have y5 := heap_cell HB5.out 5 _ rfl
       have y6 := heap_cell HB5.out 6 _ rfl
       have f0 := heap_frozen HB5.out 0
       have f1 := heap_frozen HB5.out 1
       have f2 := heap_frozen HB5.out 2
       have f3 := heap_frozen HB5.out 3
       have f4 := heap_frozen HB5.out 4
       have f5 := heap_frozen HB5.out 5
       have f6 := heap_frozen HB5.out 6
       have ly := (Array.getElem?_eq_some_iff.1 HB5.out).1
       go_simp
       have e5 := row7_set HB5.out (.int .u8 x.kind) (.int .i64 x.low) (.int .i64 x.high) (.bool x.branded) (.string x.brand) (.string x.opaq) (.int .i64 0)
       have e6 := row7_other (b := b5) (c := b6) hne56 HB6.out (.int .u8 x.kind) (.int .i64 x.low) (.int .i64 x.high) (.bool x.branded) (.string x.brand) (.string x.opaq) (.int .i64 0)
       have hxx := (((((((HX.out).setCell (p := ⟨b5, 0, none⟩) HG5.out (.int .u8 x.kind)).setCell (p := ⟨b5, 1, none⟩) HG5.out (.int .i64 x.low)).setCell (p := ⟨b5, 2, none⟩) HG5.out (.int .i64 x.high)).setCell (p := ⟨b5, 3, none⟩) HG5.out (.bool x.branded)).setCell (p := ⟨b5, 4, none⟩) HG5.out (.string x.brand)).setCell (p := ⟨b5, 5, none⟩) HG5.out (.string x.opaq)).setCell (p := ⟨b5, 6, none⟩) HG5.out (.int .i64 0)
       clear y0 f0 y1 f1 y2 f2 y3 f3 y4 f4 y5 f5 y6 f6 ly
       generalize (((((((u1453).setCell ⟨b5, 0, none⟩ (.int .u8 x.kind)).setCell ⟨b5, 1, none⟩ (.int .i64 x.low)).setCell ⟨b5, 2, none⟩ (.int .i64 x.high)).setCell ⟨b5, 3, none⟩ (.bool x.branded)).setCell ⟨b5, 4, none⟩ (.string x.brand)).setCell ⟨b5, 5, none⟩ (.string x.opaq)).setCell ⟨b5, 6, none⟩ (.int .i64 0) = u14536 at *
       replace HB5 := Lib.hid e5
       replace HB6 := Lib.hid e6
       replace HX := Lib.hid hxx
       clear e5 e6 hxx
       refine hK.out _ _ ?_ (fun hHeld => ?_)
       ·(try dsimp only)
        exact HS.out _ HX.out
       clear hK K
       (try simp only [Act.put, List.setIfInBounds_toArray, List.set_cons_zero, List.set_cons_succ])
       refine wpAnyH_ready (rs := [7]) (by kernel_rfl) (by simp) ?_
       refine AllReadyH.cons rfl (fun K hK => ?_) ?_
       ·have y0 := heap_cell HB6.out 0 _ rfl
        have y1 := heap_cell HB6.out 1 _ rfl
        have y2 := heap_cell HB6.out 2 _ rfl
        have y3 := heap_cell HB6.out 3 _ rfl
        have y4 := heap_cell HB6.out 4 _ rfl
        have y5 := heap_cell HB6.out 5 _ rfl
        have y6 := heap_cell HB6.out 6 _ rfl
        have f0 := heap_frozen HB6.out 0
        have f1 := heap_frozen HB6.out 1
        have f2 := heap_frozen HB6.out 2
        have f3 := heap_frozen HB6.out 3
        have f4 := heap_frozen HB6.out 4
        have f5 := heap_frozen HB6.out 5
        have f6 := heap_frozen HB6.out 6
        have ly := (Array.getElem?_eq_some_iff.1 HB6.out).1
        go_simp
        have e5 := row7_set HB6.out (.int .u8 y.kind) (.int .i64 y.low) (.int .i64 y.high) (.bool y.branded) (.string y.brand) (.string y.opaq) (.int .i64 0)
        have e6 := row7_other (b := b6) (c := b5) hne65 HB5.out (.int .u8 y.kind) (.int .i64 y.low) (.int .i64 y.high) (.bool y.branded) (.string y.brand) (.string y.opaq) (.int .i64 0)
        have hxx := (((((((HX.out).setCell (p := ⟨b6, 0, none⟩) HG6.out (.int .u8 y.kind)).setCell (p := ⟨b6, 1, none⟩) HG6.out (.int .i64 y.low)).setCell (p := ⟨b6, 2, none⟩) HG6.out (.int .i64 y.high)).setCell (p := ⟨b6, 3, none⟩) HG6.out (.bool y.branded)).setCell (p := ⟨b6, 4, none⟩) HG6.out (.string y.brand)).setCell (p := ⟨b6, 5, none⟩) HG6.out (.string y.opaq)).setCell (p := ⟨b6, 6, none⟩) HG6.out (.int .i64 0)
        clear y0 f0 y1 f1 y2 f2 y3 f3 y4 f4 y5 f5 y6 f6 ly
        generalize (((((((u14536).setCell ⟨b6, 0, none⟩ (.int .u8 y.kind)).setCell ⟨b6, 1, none⟩ (.int .i64 y.low)).setCell ⟨b6, 2, none⟩ (.int .i64 y.high)).setCell ⟨b6, 3, none⟩ (.bool y.branded)).setCell ⟨b6, 4, none⟩ (.string y.brand)).setCell ⟨b6, 5, none⟩ (.string y.opaq)).setCell ⟨b6, 6, none⟩ (.int .i64 0) = u145367 at *
        replace HB6 := Lib.hid e5
        replace HB5 := Lib.hid e6
        replace HX := Lib.hid hxx
        clear e5 e6 hxx
        refine hK.out _ _ ?_ (fun hHeld => ?_)
        ·(try dsimp only)
         exact HS.out _ HX.out
        clear hK K
        (try simp only [Act.put, List.setIfInBounds_toArray, List.set_cons_zero, List.set_cons_succ])
        refine wpAnyH_done (by kernel_rfl) ?_ _
        go_wp2_with fail
        go_meet
        exact ⟨HX, b5, b6, rfl, rfl, HB5, HB6, HG5, HG6, hne56⟩
       exact AllReadyH.nil
      exact AllReadyH.nil
     exact AllReadyH.nil
    exact AllReadyH.nil
   refine AllReadyH.cons rfl (fun K hK => ?_) ?_
   ·go_simp
    have hz := heap_alloc_self u1 (.cells #[.int .u8 0, .int .i64 0, .int .i64 0, .bool false, .string ⟨#[]⟩, .string ⟨#[]⟩, .int .i64 0] 109)
    have hge := HX.out.size
    have hxx := (Ext.refl u1).alloc (.cells #[.int .u8 0, .int .i64 0, .int .i64 0, .bool false, .string ⟨#[]⟩, .string ⟨#[]⟩, .int .i64 0] 109)
    replace HX := Lib.hid (HX.out.trans hxx)
    obtain ⟨b6, hb6⟩ : ∃ b, b = u1.heap.size := ⟨_, rfl⟩
    rw [← hb6] at hz hge ⊢
    clear hb6
    generalize u1.alloc (.cells #[.int .u8 0, .int .i64 0, .int .i64 0, .bool false, .string ⟨#[]⟩, .string ⟨#[]⟩, .int .i64 0] 109) = u15 at *
    have HB6 := Lib.hid hz
    have HG6 := Lib.hid hge
    clear hz hge hxx
    refine hK.out _ _ ?_ (fun hHeld => ?_)
    ·(try dsimp only)
     exact HS.out _ HX.out
    clear hK K
    (try simp only [Act.put, List.setIfInBounds_toArray, List.set_cons_zero, List.set_cons_succ])
    refine wpAnyH_ready (rs := [3, 4]) (by kernel_rfl) (by simp) ?_
    refine AllReadyH.cons rfl (fun K hK => ?_) ?_
    ·go_simp
     go_at_call 78
     refine (Hpy.out _).mono ?_
     rintro e u153 ⟨rfl, hxx⟩
     replace HB6 := Lib.hid (hxx.heap HB6.out)
     replace HX := Lib.hid (HX.out.trans hxx)
     clear hxx
     refine hK.out _ _ ?_ (fun hHeld => ?_)
     ·(try dsimp only)
      exact HS.out _ HX.out
     clear hK K
     (try simp only [Act.put, List.setIfInBounds_toArray, List.set_cons_zero, List.set_cons_succ])
     refine wpAnyH_ready (rs := [4]) (by kernel_rfl) (by simp) ?_
     refine AllReadyH.cons rfl (fun K hK => ?_) ?_
     ·go_simp
      have hz := heap_alloc_self u153 (.cells #[.int .u8 0, .int .i64 0, .int .i64 0, .bool false, .string ⟨#[]⟩, .string ⟨#[]⟩, .int .i64 0] 109)
      have hge := HX.out.size
      have hxx := (Ext.refl u153).alloc (.cells #[.int .u8 0, .int .i64 0, .int .i64 0, .bool false, .string ⟨#[]⟩, .string ⟨#[]⟩, .int .i64 0] 109)
      have hlt := (Array.getElem?_eq_some_iff.1 HB6.out).1
      replace HB6 := Lib.hid (hxx.heap HB6.out)
      replace HX := Lib.hid (HX.out.trans hxx)
      obtain ⟨b5, hb5⟩ : ∃ b, b = u153.heap.size := ⟨_, rfl⟩
      rw [← hb5] at hz hge hlt ⊢
      clear hb5
      generalize u153.alloc (.cells #[.int .u8 0, .int .i64 0, .int .i64 0, .bool false, .string ⟨#[]⟩, .string ⟨#[]⟩, .int .i64 0] 109) = u1534 at *
      have HB5 := Lib.hid hz
      have HG5 := Lib.hid hge
      have hne56 : b5 ≠ b6 := by omega
      have hne65 : b6 ≠ b5 := by omega
      clear hz hge hxx hlt
      refine hK.out _ _ ?_ (fun hHeld => ?_)
      ·(try dsimp only)
       exact HS.out _ HX.out
      clear hK K
      (try simp only [Act.put, List.setIfInBounds_toArray, List.set_cons_zero, List.set_cons_succ])
      refine wpAnyH_ready (rs := [6]) (by kernel_rfl) (by simp) ?_
      refine AllReadyH.cons rfl (fun K hK => ?_) ?_
      ·have y0 := heap_cell HB5.out 0 _ rfl
       have y1 := heap_cell HB5.out 1 _ rfl
       have y2 := heap_cell HB5.out 2 _ rfl
       have y3 := heap_cell HB5.out 3 _ rfl
       have y4 := heap_cell HB5.out 4 _ rfl
       have y5 := heap_cell HB5.out 5 _ rfl
       have y6 := heap_cell HB5.out 6 _ rfl
       have f0 := heap_frozen HB5.out 0
       have f1 := heap_frozen HB5.out 1
       have f2 := heap_frozen HB5.out 2
       have f3 := heap_frozen HB5.out 3
       have f4 := heap_frozen HB5.out 4
       have f5 := heap_frozen HB5.out 5
       have f6 := heap_frozen HB5.out 6
       have ly := (Array.getElem?_eq_some_iff.1 HB5.out).1
       go_simp
       have e5 := row7_set HB5.out (.int .u8 x.kind) (.int .i64 x.low) (.int .i64 x.high) (.bool x.branded) (.string x.brand) (.string x.opaq) (.int .i64 0)
       have e6 := row7_other (b := b5) (c := b6) hne56 HB6.out (.int .u8 x.kind) (.int .i64 x.low) (.int .i64 x.high) (.bool x.branded) (.string x.brand) (.string x.opaq) (.int .i64 0)
       have hxx := (((((((HX.out).setCell (p := ⟨b5, 0, none⟩) HG5.out (.int .u8 x.kind)).setCell (p := ⟨b5, 1, none⟩) HG5.out (.int .i64 x.low)).setCell (p := ⟨b5, 2, none⟩) HG5.out (.int .i64 x.high)).setCell (p := ⟨b5, 3, none⟩) HG5.out (.bool x.branded)).setCell (p := ⟨b5, 4, none⟩) HG5.out (.string x.brand)).setCell (p := ⟨b5, 5, none⟩) HG5.out (.string x.opaq)).setCell (p := ⟨b5, 6, none⟩) HG5.out (.int .i64 0)
       clear y0 f0 y1 f1 y2 f2 y3 f3 y4 f4 y5 f5 y6 f6 ly
       generalize (((((((u1534).setCell ⟨b5, 0, none⟩ (.int .u8 x.kind)).setCell ⟨b5, 1, none⟩ (.int .i64 x.low)).setCell ⟨b5, 2, none⟩ (.int .i64 x.high)).setCell ⟨b5, 3, none⟩ (.bool x.branded)).setCell ⟨b5, 4, none⟩ (.string x.brand)).setCell ⟨b5, 5, none⟩ (.string x.opaq)).setCell ⟨b5, 6, none⟩ (.int .i64 0) = u15346 at *
       replace HB5 := Lib.hid e5
       replace HB6 := Lib.hid e6
       replace HX := Lib.hid hxx
       clear e5 e6 hxx
       refine hK.out _ _ ?_ (fun hHeld => ?_)
       ·(try dsimp only)
        exact HS.out _ HX.out
       clear hK K
       (try simp only [Act.put, List.setIfInBounds_toArray, List.set_cons_zero, List.set_cons_succ])
       refine wpAnyH_ready (rs := [7]) (by kernel_rfl) (by simp) ?_
       refine AllReadyH.cons rfl (fun K hK => ?_) ?_
       ·have y0 := heap_cell HB6.out 0 _ rfl
        have y1 := heap_cell HB6.out 1 _ rfl
        have y2 := heap_cell HB6.out 2 _ rfl
        have y3 := heap_cell HB6.out 3 _ rfl
        have y4 := heap_cell HB6.out 4 _ rfl
        have y5 := heap_cell HB6.out 5 _ rfl
        have y6 := heap_cell HB6.out 6 _ rfl
        have f0 := heap_frozen HB6.out 0
        have f1 := heap_frozen HB6.out 1
        have f2 := heap_frozen HB6.out 2
        have f3 := heap_frozen HB6.out 3
        have f4 := heap_frozen HB6.out 4
        have f5 := heap_frozen HB6.out 5
        have f6 := heap_frozen HB6.out 6
        have ly := (Array.getElem?_eq_some_iff.1 HB6.out).1
        go_simp
        have e5 := row7_set HB6.out (.int .u8 y.kind) (.int .i64 y.low) (.int .i64 y.high) (.bool y.branded) (.string y.brand) (.string y.opaq) (.int .i64 0)
        have e6 := row7_other (b := b6) (c := b5) hne65 HB5.out (.int .u8 y.kind) (.int .i64 y.low) (.int .i64 y.high) (.bool y.branded) (.string y.brand) (.string y.opaq) (.int .i64 0)
        have hxx := (((((((HX.out).setCell (p := ⟨b6, 0, none⟩) HG6.out (.int .u8 y.kind)).setCell (p := ⟨b6, 1, none⟩) HG6.out (.int .i64 y.low)).setCell (p := ⟨b6, 2, none⟩) HG6.out (.int .i64 y.high)).setCell (p := ⟨b6, 3, none⟩) HG6.out (.bool y.branded)).setCell (p := ⟨b6, 4, none⟩) HG6.out (.string y.brand)).setCell (p := ⟨b6, 5, none⟩) HG6.out (.string y.opaq)).setCell (p := ⟨b6, 6, none⟩) HG6.out (.int .i64 0)
        clear y0 f0 y1 f1 y2 f2 y3 f3 y4 f4 y5 f5 y6 f6 ly
        generalize (((((((u15346).setCell ⟨b6, 0, none⟩ (.int .u8 y.kind)).setCell ⟨b6, 1, none⟩ (.int .i64 y.low)).setCell ⟨b6, 2, none⟩ (.int .i64 y.high)).setCell ⟨b6, 3, none⟩ (.bool y.branded)).setCell ⟨b6, 4, none⟩ (.string y.brand)).setCell ⟨b6, 5, none⟩ (.string y.opaq)).setCell ⟨b6, 6, none⟩ (.int .i64 0) = u153467 at *
        replace HB6 := Lib.hid e5
        replace HB5 := Lib.hid e6
        replace HX := Lib.hid hxx
        clear e5 e6 hxx
        refine hK.out _ _ ?_ (fun hHeld => ?_)
        ·(try dsimp only)
         exact HS.out _ HX.out
        clear hK K
        (try simp only [Act.put, List.setIfInBounds_toArray, List.set_cons_zero, List.set_cons_succ])
        refine wpAnyH_done (by kernel_rfl) ?_ _
        go_wp2_with fail
        go_meet
        exact ⟨HX, b5, b6, rfl, rfl, HB5, HB6, HG5, HG6, hne56⟩
       exact AllReadyH.nil
      exact AllReadyH.nil
     exact AllReadyH.nil
    refine AllReadyH.cons rfl (fun K hK => ?_) ?_
    ·go_simp
     have hz := heap_alloc_self u15 (.cells #[.int .u8 0, .int .i64 0, .int .i64 0, .bool false, .string ⟨#[]⟩, .string ⟨#[]⟩, .int .i64 0] 109)
     have hge := HX.out.size
     have hxx := (Ext.refl u15).alloc (.cells #[.int .u8 0, .int .i64 0, .int .i64 0, .bool false, .string ⟨#[]⟩, .string ⟨#[]⟩, .int .i64 0] 109)
     have hlt := (Array.getElem?_eq_some_iff.1 HB6.out).1
     replace HB6 := Lib.hid (hxx.heap HB6.out)
     replace HX := Lib.hid (HX.out.trans hxx)
     obtain ⟨b5, hb5⟩ : ∃ b, b = u15.heap.size := ⟨_, rfl⟩
     rw [← hb5] at hz hge hlt ⊢
     clear hb5
     generalize u15.alloc (.cells #[.int .u8 0, .int .i64 0, .int .i64 0, .bool false, .string ⟨#[]⟩, .string ⟨#[]⟩, .int .i64 0] 109) = u154 at *
     have HB5 := Lib.hid hz
     have HG5 := Lib.hid hge
     have hne56 : b5 ≠ b6 := by omega
     have hne65 : b6 ≠ b5 := by omega
     clear hz hge hxx hlt
     refine hK.out _ _ ?_ (fun hHeld => ?_)
     ·(try dsimp only)
      exact HS.out _ HX.out
     clear hK K
     (try simp only [Act.put, List.setIfInBounds_toArray, List.set_cons_zero, List.set_cons_succ])
     refine wpAnyH_ready (rs := [3]) (by kernel_rfl) (by simp) ?_
     refine AllReadyH.cons rfl (fun K hK => ?_) ?_
     ·go_simp
      go_at_call 78
      refine (Hpy.out _).mono ?_
      rintro e u1543 ⟨rfl, hxx⟩
      replace HB5 := Lib.hid (hxx.heap HB5.out)
      replace HB6 := Lib.hid (hxx.heap HB6.out)
      replace HX := Lib.hid (HX.out.trans hxx)
      clear hxx
      refine hK.out _ _ ?_ (fun hHeld => ?_)
      ·(try dsimp only)
       exact HS.out _ HX.out
      clear hK K
      (try simp only [Act.put, List.setIfInBounds_toArray, List.set_cons_zero, List.set_cons_succ])
      refine wpAnyH_ready (rs := [6]) (by kernel_rfl) (by simp) ?_
      refine AllReadyH.cons rfl (fun K hK => ?_) ?_
      ·have y0 := heap_cell HB5.out 0 _ rfl
       have y1 := heap_cell HB5.out 1 _ rfl
       have y2 := heap_cell HB5.out 2 _ rfl
       have y3 := heap_cell HB5.out 3 _ rfl
       have y4 := heap_cell HB5.out 4 _ rfl
       have y5 := heap_cell HB5.out 5 _ rfl
       have y6 := heap_cell HB5.out 6 _ rfl
       have f0 := heap_frozen HB5.out 0
       have f1 := heap_frozen HB5.out 1
       have f2 := heap_frozen HB5.out 2
       have f3 := heap_frozen HB5.out 3
       have f4 := heap_frozen HB5.out 4
       have f5 := heap_frozen HB5.out 5
       have f6 := heap_frozen HB5.out 6
       have ly := (Array.getElem?_eq_some_iff.1 HB5.out).1
       go_simp
       have e5 := row7_set HB5.out (.int .u8 x.kind) (.int .i64 x.low) (.int .i64 x.high) (.bool x.branded) (.string x.brand) (.string x.opaq) (.int .i64 0)
       have e6 := row7_other (b := b5) (c := b6) hne56 HB6.out (.int .u8 x.kind) (.int .i64 x.low) (.int .i64 x.high) (.bool x.branded) (.string x.brand) (.string x.opaq) (.int .i64 0)
       have hxx := (((((((HX.out).setCell (p := ⟨b5, 0, none⟩) HG5.out (.int .u8 x.kind)).setCell (p := ⟨b5, 1, none⟩) HG5.out (.int .i64 x.low)).setCell (p := ⟨b5, 2, none⟩) HG5.out (.int .i64 x.high)).setCell (p := ⟨b5, 3, none⟩) HG5.out (.bool x.branded)).setCell (p := ⟨b5, 4, none⟩) HG5.out (.string x.brand)).setCell (p := ⟨b5, 5, none⟩) HG5.out (.string x.opaq)).setCell (p := ⟨b5, 6, none⟩) HG5.out (.int .i64 0)
       clear y0 f0 y1 f1 y2 f2 y3 f3 y4 f4 y5 f5 y6 f6 ly
       generalize (((((((u1543).setCell ⟨b5, 0, none⟩ (.int .u8 x.kind)).setCell ⟨b5, 1, none⟩ (.int .i64 x.low)).setCell ⟨b5, 2, none⟩ (.int .i64 x.high)).setCell ⟨b5, 3, none⟩ (.bool x.branded)).setCell ⟨b5, 4, none⟩ (.string x.brand)).setCell ⟨b5, 5, none⟩ (.string x.opaq)).setCell ⟨b5, 6, none⟩ (.int .i64 0) = u15436 at *
       replace HB5 := Lib.hid e5
       replace HB6 := Lib.hid e6
       replace HX := Lib.hid hxx
       clear e5 e6 hxx
       refine hK.out _ _ ?_ (fun hHeld => ?_)
       ·(try dsimp only)
        exact HS.out _ HX.out
       clear hK K
       (try simp only [Act.put, List.setIfInBounds_toArray, List.set_cons_zero, List.set_cons_succ])
       refine wpAnyH_ready (rs := [7]) (by kernel_rfl) (by simp) ?_
       refine AllReadyH.cons rfl (fun K hK => ?_) ?_
       ·have y0 := heap_cell HB6.out 0 _ rfl
        have y1 := heap_cell HB6.out 1 _ rfl
        have y2 := heap_cell HB6.out 2 _ rfl
        have y3 := heap_cell HB6.out 3 _ rfl
        have y4 := heap_cell HB6.out 4 _ rfl
        have y5 := heap_cell HB6.out 5 _ rfl
        have y6 := heap_cell HB6.out 6 _ rfl
        have f0 := heap_frozen HB6.out 0
        have f1 := heap_frozen HB6.out 1
        have f2 := heap_frozen HB6.out 2
        have f3 := heap_frozen HB6.out 3
        have f4 := heap_frozen HB6.out 4
        have f5 := heap_frozen HB6.out 5
        have f6 := heap_frozen HB6.out 6
        have ly := (Array.getElem?_eq_some_iff.1 HB6.out).1
        go_simp
        have e5 := row7_set HB6.out (.int .u8 y.kind) (.int .i64 y.low) (.int .i64 y.high) (.bool y.branded) (.string y.brand) (.string y.opaq) (.int .i64 0)
        have e6 := row7_other (b := b6) (c := b5) hne65 HB5.out (.int .u8 y.kind) (.int .i64 y.low) (.int .i64 y.high) (.bool y.branded) (.string y.brand) (.string y.opaq) (.int .i64 0)
        have hxx := (((((((HX.out).setCell (p := ⟨b6, 0, none⟩) HG6.out (.int .u8 y.kind)).setCell (p := ⟨b6, 1, none⟩) HG6.out (.int .i64 y.low)).setCell (p := ⟨b6, 2, none⟩) HG6.out (.int .i64 y.high)).setCell (p := ⟨b6, 3, none⟩) HG6.out (.bool y.branded)).setCell (p := ⟨b6, 4, none⟩) HG6.out (.string y.brand)).setCell (p := ⟨b6, 5, none⟩) HG6.out (.string y.opaq)).setCell (p := ⟨b6, 6, none⟩) HG6.out (.int .i64 0)
        clear y0 f0 y1 f1 y2 f2 y3 f3 y4 f4 y5 f5 y6 f6 ly
        generalize (((((((u15436).setCell ⟨b6, 0, none⟩ (.int .u8 y.kind)).setCell ⟨b6, 1, none⟩ (.int .i64 y.low)).setCell ⟨b6, 2, none⟩ (.int .i64 y.high)).setCell ⟨b6, 3, none⟩ (.bool y.branded)).setCell ⟨b6, 4, none⟩ (.string y.brand)).setCell ⟨b6, 5, none⟩ (.string y.opaq)).setCell ⟨b6, 6, none⟩ (.int .i64 0) = u154367 at *
        replace HB6 := Lib.hid e5
        replace HB5 := Lib.hid e6
        replace HX := Lib.hid hxx
        clear e5 e6 hxx
        refine hK.out _ _ ?_ (fun hHeld => ?_)
        ·(try dsimp only)
         exact HS.out _ HX.out
        clear hK K
        (try simp only [Act.put, List.setIfInBounds_toArray, List.set_cons_zero, List.set_cons_succ])
        refine wpAnyH_done (by kernel_rfl) ?_ _
        go_wp2_with fail
        go_meet
        exact ⟨HX, b5, b6, rfl, rfl, HB5, HB6, HG5, HG6, hne56⟩
       exact AllReadyH.nil
      exact AllReadyH.nil
     exact AllReadyH.nil
    exact AllReadyH.nil
   exact AllReadyH.nil
  refine AllReadyH.cons rfl (fun K hK => ?_) ?_
  ·go_simp
   have hz := heap_alloc_self u0 (.cells #[.int .u8 0, .int .i64 0, .int .i64 0, .bool false, .string ⟨#[]⟩, .string ⟨#[]⟩, .int .i64 0] 109)
   have hge := HX.out.size
   have hxx := (Ext.refl u0).alloc (.cells #[.int .u8 0, .int .i64 0, .int .i64 0, .bool false, .string ⟨#[]⟩, .string ⟨#[]⟩, .int .i64 0] 109)
   replace HX := Lib.hid (HX.out.trans hxx)
   obtain ⟨b5, hb5⟩ : ∃ b, b = u0.heap.size := ⟨_, rfl⟩
   rw [← hb5] at hz hge ⊢
   clear hb5
   generalize u0.alloc (.cells #[.int .u8 0, .int .i64 0, .int .i64 0, .bool false, .string ⟨#[]⟩, .string ⟨#[]⟩, .int .i64 0] 109) = u4 at *
   have HB5 := Lib.hid hz
   have HG5 := Lib.hid hge
   clear hz hge hxx
   refine hK.out _ _ ?_ (fun hHeld => ?_)
   ·(try dsimp only)
    exact HS.out _ HX.out
   clear hK K
   (try simp only [Act.put, List.setIfInBounds_toArray, List.set_cons_zero, List.set_cons_succ])
   refine wpAnyH_ready (rs := [1, 5]) (by kernel_rfl) (by simp) ?_
   refine AllReadyH.cons rfl (fun K hK => ?_) ?_
   ·go_simp
    go_at_call 78
    refine (Hpx.out _).mono ?_
    rintro e u41 ⟨rfl, hxx⟩
    replace HB5 := Lib.hid (hxx.heap HB5.out)
    replace HX := Lib.hid (HX.out.trans hxx)
    clear hxx
    refine hK.out _ _ ?_ (fun hHeld => ?_)
    ·(try dsimp only)
     exact HS.out _ HX.out
    clear hK K
    (try simp only [Act.put, List.setIfInBounds_toArray, List.set_cons_zero, List.set_cons_succ])
    refine wpAnyH_ready (rs := [3, 5]) (by kernel_rfl) (by simp) ?_
    refine AllReadyH.cons rfl (fun K hK => ?_) ?_
    ·go_simp
     go_at_call 78
     refine (Hpy.out _).mono ?_
     rintro e u413 ⟨rfl, hxx⟩
     replace HB5 := Lib.hid (hxx.heap HB5.out)
     replace HX := Lib.hid (HX.out.trans hxx)
     clear hxx
     refine hK.out _ _ ?_ (fun hHeld => ?_)
     ·(try dsimp only)
      exact HS.out _ HX.out
     clear hK K
     (try simp only [Act.put, List.setIfInBounds_toArray, List.set_cons_zero, List.set_cons_succ])
     refine wpAnyH_ready (rs := [5]) (by kernel_rfl) (by simp) ?_
     refine AllReadyH.cons rfl (fun K hK => ?_) ?_
     ·go_simp
      have hz := heap_alloc_self u413 (.cells #[.int .u8 0, .int .i64 0, .int .i64 0, .bool false, .string ⟨#[]⟩, .string ⟨#[]⟩, .int .i64 0] 109)
      have hge := HX.out.size
      have hxx := (Ext.refl u413).alloc (.cells #[.int .u8 0, .int .i64 0, .int .i64 0, .bool false, .string ⟨#[]⟩, .string ⟨#[]⟩, .int .i64 0] 109)
      have hlt := (Array.getElem?_eq_some_iff.1 HB5.out).1
      replace HB5 := Lib.hid (hxx.heap HB5.out)
      replace HX := Lib.hid (HX.out.trans hxx)
      obtain ⟨b6, hb6⟩ : ∃ b, b = u413.heap.size := ⟨_, rfl⟩
      rw [← hb6] at hz hge hlt ⊢
      clear hb6
      generalize u413.alloc (.cells #[.int .u8 0, .int .i64 0, .int .i64 0, .bool false, .string ⟨#[]⟩, .string ⟨#[]⟩, .int .i64 0] 109) = u4135 at *
      have HB6 := Lib.hid hz
      have HG6 := Lib.hid hge
      have hne56 : b5 ≠ b6 := by omega
      have hne65 : b6 ≠ b5 := by omega
      clear hz hge hxx hlt
      refine hK.out _ _ ?_ (fun hHeld => ?_)
      ·(try dsimp only)
       exact HS.out _ HX.out
      clear hK K
      (try simp only [Act.put, List.setIfInBounds_toArray, List.set_cons_zero, List.set_cons_succ])
      refine wpAnyH_ready (rs := [6]) (by kernel_rfl) (by simp) ?_
      refine AllReadyH.cons rfl (fun K hK => ?_) ?_
      ·have y0 := heap_cell HB5.out 0 _ rfl
       have y1 := heap_cell HB5.out 1 _ rfl
       have y2 := heap_cell HB5.out 2 _ rfl
       have y3 := heap_cell HB5.out 3 _ rfl
       have y4 := heap_cell HB5.out 4 _ rfl
       have y5 := heap_cell HB5.out 5 _ rfl
       have y6 := heap_cell HB5.out 6 _ rfl
       have f0 := heap_frozen HB5.out 0
       have f1 := heap_frozen HB5.out 1
       have f2 := heap_frozen HB5.out 2
       have f3 := heap_frozen HB5.out 3
       have f4 := heap_frozen HB5.out 4
       have f5 := heap_frozen HB5.out 5
       have f6 := heap_frozen HB5.out 6
       have ly := (Array.getElem?_eq_some_iff.1 HB5.out).1
       go_simp
       have e5 := row7_set HB5.out (.int .u8 x.kind) (.int .i64 x.low) (.int .i64 x.high) (.bool x.branded) (.string x.brand) (.string x.opaq) (.int .i64 0)
       have e6 := row7_other (b := b5) (c := b6) hne56 HB6.out (.int .u8 x.kind) (.int .i64 x.low) (.int .i64 x.high) (.bool x.branded) (.string x.brand) (.string x.opaq) (.int .i64 0)
       have hxx := (((((((HX.out).setCell (p := ⟨b5, 0, none⟩) HG5.out (.int .u8 x.kind)).setCell (p := ⟨b5, 1, none⟩) HG5.out (.int .i64 x.low)).setCell (p := ⟨b5, 2, none⟩) HG5.out (.int .i64 x.high)).setCell (p := ⟨b5, 3, none⟩) HG5.out (.bool x.branded)).setCell (p := ⟨b5, 4, none⟩) HG5.out (.string x.brand)).setCell (p := ⟨b5, 5, none⟩) HG5.out (.string x.opaq)).setCell (p := ⟨b5, 6, none⟩) HG5.out (.int .i64 0)
       clear y0 f0 y1 f1 y2 f2 y3 f3 y4 f4 y5 f5 y6 f6 ly
       generalize (((((((u4135).setCell ⟨b5, 0, none⟩ (.int .u8 x.kind)).setCell ⟨b5, 1, none⟩ (.int .i64 x.low)).setCell ⟨b5, 2, none⟩ (.int .i64 x.high)).setCell ⟨b5, 3, none⟩ (.bool x.branded)).setCell ⟨b5, 4, none⟩ (.string x.brand)).setCell ⟨b5, 5, none⟩ (.string x.opaq)).setCell ⟨b5, 6, none⟩ (.int .i64 0) = u41356 at *
       replace HB5 := Lib.hid e5
       replace HB6 := Lib.hid e6
       replace HX := Lib.hid hxx
       clear e5 e6 hxx
       refine hK.out _ _ ?_ (fun hHeld => ?_)
       ·(try dsimp only)
        exact HS.out _ HX.out
       clear hK K
       (try simp only [Act.put, List.setIfInBounds_toArray, List.set_cons_zero, List.set_cons_succ])
       refine wpAnyH_ready (rs := [7]) (by kernel_rfl) (by simp) ?_
       refine AllReadyH.cons rfl (fun K hK => ?_) ?_
       ·have y0 := heap_cell HB6.out 0 _ rfl
        have y1 := heap_cell HB6.out 1 _ rfl
        have y2 := heap_cell HB6.out 2 _ rfl
        have y3 := heap_cell HB6.out 3 _ rfl
        have y4 := heap_cell HB6.out 4 _ rfl
        have y5 := heap_cell HB6.out 5 _ rfl
        have y6 := heap_cell HB6.out 6 _ rfl
        have f0 := heap_frozen HB6.out 0
        have f1 := heap_frozen HB6.out 1
        have f2 := heap_frozen HB6.out 2
        have f3 := heap_frozen HB6.out 3
        have f4 := heap_frozen HB6.out 4
        have f5 := heap_frozen HB6.out 5
        have f6 := heap_frozen HB6.out 6
        have ly := (Array.getElem?_eq_some_iff.1 HB6.out).1
        go_simp
        have e5 := row7_set HB6.out (.int .u8 y.kind) (.int .i64 y.low) (.int .i64 y.high) (.bool y.branded) (.string y.brand) (.string y.opaq) (.int .i64 0)
        have e6 := row7_other (b := b6) (c := b5) hne65 HB5.out (.int .u8 y.kind) (.int .i64 y.low) (.int .i64 y.high) (.bool y.branded) (.string y.brand) (.string y.opaq) (.int .i64 0)
        have hxx := (((((((HX.out).setCell (p := ⟨b6, 0, none⟩) HG6.out (.int .u8 y.kind)).setCell (p := ⟨b6, 1, none⟩) HG6.out (.int .i64 y.low)).setCell (p := ⟨b6, 2, none⟩) HG6.out (.int .i64 y.high)).setCell (p := ⟨b6, 3, none⟩) HG6.out (.bool y.branded)).setCell (p := ⟨b6, 4, none⟩) HG6.out (.string y.brand)).setCell (p := ⟨b6, 5, none⟩) HG6.out (.string y.opaq)).setCell (p := ⟨b6, 6, none⟩) HG6.out (.int .i64 0)
        clear y0 f0 y1 f1 y2 f2 y3 f3 y4 f4 y5 f5 y6 f6 ly
        generalize (((((((u41356).setCell ⟨b6, 0, none⟩ (.int .u8 y.kind)).setCell ⟨b6, 1, none⟩ (.int .i64 y.low)).setCell ⟨b6, 2, none⟩ (.int .i64 y.high)).setCell ⟨b6, 3, none⟩ (.bool y.branded)).setCell ⟨b6, 4, none⟩ (.string y.brand)).setCell ⟨b6, 5, none⟩ (.string y.opaq)).setCell ⟨b6, 6, none⟩ (.int .i64 0) = u413567 at *
        replace HB6 := Lib.hid e5
        replace HB5 := Lib.hid e6
        replace HX := Lib.hid hxx
        clear e5 e6 hxx
        refine hK.out _ _ ?_ (fun hHeld => ?_)
        ·(try dsimp only)
         exact HS.out _ HX.out
        clear hK K
        (try simp only [Act.put, List.setIfInBounds_toArray, List.set_cons_zero, List.set_cons_succ])
        refine wpAnyH_done (by kernel_rfl) ?_ _
        go_wp2_with fail
        go_meet
        exact ⟨HX, b5, b6, rfl, rfl, HB5, HB6, HG5, HG6, hne56⟩
       exact AllReadyH.nil
      exact AllReadyH.nil
     exact AllReadyH.nil
    refine AllReadyH.cons rfl (fun K hK => ?_) ?_
    ·go_simp
     have hz := heap_alloc_self u41 (.cells #[.int .u8 0, .int .i64 0, .int .i64 0, .bool false, .string ⟨#[]⟩, .string ⟨#[]⟩, .int .i64 0] 109)
     have hge := HX.out.size
     have hxx := (Ext.refl u41).alloc (.cells #[.int .u8 0, .int .i64 0, .int .i64 0, .bool false, .string ⟨#[]⟩, .string ⟨#[]⟩, .int .i64 0] 109)
     have hlt := (Array.getElem?_eq_some_iff.1 HB5.out).1
     replace HB5 := Lib.hid (hxx.heap HB5.out)
     replace HX := Lib.hid (HX.out.trans hxx)
     obtain ⟨b6, hb6⟩ : ∃ b, b = u41.heap.size := ⟨_, rfl⟩
     rw [← hb6] at hz hge hlt ⊢
     clear hb6
     generalize u41.alloc (.cells #[.int .u8 0, .int .i64 0, .int .i64 0, .bool false, .string ⟨#[]⟩, .string ⟨#[]⟩, .int .i64 0] 109) = u415 at *
     have HB6 := Lib.hid hz
     have HG6 := Lib.hid hge
     have hne56 : b5 ≠ b6 := by omega
     have hne65 : b6 ≠ b5 := by omega
     clear hz hge hxx hlt
     refine hK.out _ _ ?_ (fun hHeld => ?_)
     ·(try dsimp only)
      exact HS.out _ HX.out
     clear hK K
     (try simp only [Act.put, List.setIfInBounds_toArray, List.set_cons_zero, List.set_cons_succ])
     refine wpAnyH_ready (rs := [3]) (by kernel_rfl) (by simp) ?_
     refine AllReadyH.cons rfl (fun K hK => ?_) ?_
     ·go_simp
      go_at_call 78
      refine (Hpy.out _).mono ?_
      rintro e u4153 ⟨rfl, hxx⟩
      replace HB5 := Lib.hid (hxx.heap HB5.out)
      replace HB6 := Lib.hid (hxx.heap HB6.out)
      replace HX := Lib.hid (HX.out.trans hxx)
      clear hxx
      refine hK.out _ _ ?_ (fun hHeld => ?_)
      ·(try dsimp only)
       exact HS.out _ HX.out
      clear hK K
      (try simp only [Act.put, List.setIfInBounds_toArray, List.set_cons_zero, List.set_cons_succ])
      refine wpAnyH_ready (rs := [6]) (by kernel_rfl) (by simp) ?_
      refine AllReadyH.cons rfl (fun K hK => ?_) ?_
      ·have y0 := heap_cell HB5.out 0 _ rfl
       have y1 := heap_cell HB5.out 1 _ rfl
       have y2 := heap_cell HB5.out 2 _ rfl
       have y3 := heap_cell HB5.out 3 _ rfl
       have y4 := heap_cell HB5.out 4 _ rfl
       have y5 := heap_cell HB5.out 5 _ rfl
       have y6 := heap_cell HB5.out 6 _ rfl
       have f0 := heap_frozen HB5.out 0
       have f1 := heap_frozen HB5.out 1
       have f2 := heap_frozen HB5.out 2
       have f3 := heap_frozen HB5.out 3
       have f4 := heap_frozen HB5.out 4
       have f5 := heap_frozen HB5.out 5
       have f6 := heap_frozen HB5.out 6
       have ly := (Array.getElem?_eq_some_iff.1 HB5.out).1
       go_simp
       have e5 := row7_set HB5.out (.int .u8 x.kind) (.int .i64 x.low) (.int .i64 x.high) (.bool x.branded) (.string x.brand) (.string x.opaq) (.int .i64 0)
       have e6 := row7_other (b := b5) (c := b6) hne56 HB6.out (.int .u8 x.kind) (.int .i64 x.low) (.int .i64 x.high) (.bool x.branded) (.string x.brand) (.string x.opaq) (.int .i64 0)
       have hxx := (((((((HX.out).setCell (p := ⟨b5, 0, none⟩) HG5.out (.int .u8 x.kind)).setCell (p := ⟨b5, 1, none⟩) HG5.out (.int .i64 x.low)).setCell (p := ⟨b5, 2, none⟩) HG5.out (.int .i64 x.high)).setCell (p := ⟨b5, 3, none⟩) HG5.out (.bool x.branded)).setCell (p := ⟨b5, 4, none⟩) HG5.out (.string x.brand)).setCell (p := ⟨b5, 5, none⟩) HG5.out (.string x.opaq)).setCell (p := ⟨b5, 6, none⟩) HG5.out (.int .i64 0)
       clear y0 f0 y1 f1 y2 f2 y3 f3 y4 f4 y5 f5 y6 f6 ly
       generalize (((((((u4153).setCell ⟨b5, 0, none⟩ (.int .u8 x.kind)).setCell ⟨b5, 1, none⟩ (.int .i64 x.low)).setCell ⟨b5, 2, none⟩ (.int .i64 x.high)).setCell ⟨b5, 3, none⟩ (.bool x.branded)).setCell ⟨b5, 4, none⟩ (.string x.brand)).setCell ⟨b5, 5, none⟩ (.string x.opaq)).setCell ⟨b5, 6, none⟩ (.int .i64 0) = u41536 at *
       replace HB5 := Lib.hid e5
       replace HB6 := Lib.hid e6
       replace HX := Lib.hid hxx
       clear e5 e6 hxx
       refine hK.out _ _ ?_ (fun hHeld => ?_)
       ·(try dsimp only)
        exact HS.out _ HX.out
       clear hK K
       (try simp only [Act.put, List.setIfInBounds_toArray, List.set_cons_zero, List.set_cons_succ])
       refine wpAnyH_ready (rs := [7]) (by kernel_rfl) (by simp) ?_
       refine AllReadyH.cons rfl (fun K hK => ?_) ?_
       ·have y0 := heap_cell HB6.out 0 _ rfl
        have y1 := heap_cell HB6.out 1 _ rfl
        have y2 := heap_cell HB6.out 2 _ rfl
        have y3 := heap_cell HB6.out 3 _ rfl
        have y4 := heap_cell HB6.out 4 _ rfl
        have y5 := heap_cell HB6.out 5 _ rfl
        have y6 := heap_cell HB6.out 6 _ rfl
        have f0 := heap_frozen HB6.out 0
        have f1 := heap_frozen HB6.out 1
        have f2 := heap_frozen HB6.out 2
        have f3 := heap_frozen HB6.out 3
        have f4 := heap_frozen HB6.out 4
        have f5 := heap_frozen HB6.out 5
        have f6 := heap_frozen HB6.out 6
        have ly := (Array.getElem?_eq_some_iff.1 HB6.out).1
        go_simp
        have e5 := row7_set HB6.out (.int .u8 y.kind) (.int .i64 y.low) (.int .i64 y.high) (.bool y.branded) (.string y.brand) (.string y.opaq) (.int .i64 0)
        have e6 := row7_other (b := b6) (c := b5) hne65 HB5.out (.int .u8 y.kind) (.int .i64 y.low) (.int .i64 y.high) (.bool y.branded) (.string y.brand) (.string y.opaq) (.int .i64 0)
        have hxx := (((((((HX.out).setCell (p := ⟨b6, 0, none⟩) HG6.out (.int .u8 y.kind)).setCell (p := ⟨b6, 1, none⟩) HG6.out (.int .i64 y.low)).setCell (p := ⟨b6, 2, none⟩) HG6.out (.int .i64 y.high)).setCell (p := ⟨b6, 3, none⟩) HG6.out (.bool y.branded)).setCell (p := ⟨b6, 4, none⟩) HG6.out (.string y.brand)).setCell (p := ⟨b6, 5, none⟩) HG6.out (.string y.opaq)).setCell (p := ⟨b6, 6, none⟩) HG6.out (.int .i64 0)
        clear y0 f0 y1 f1 y2 f2 y3 f3 y4 f4 y5 f5 y6 f6 ly
        generalize (((((((u41536).setCell ⟨b6, 0, none⟩ (.int .u8 y.kind)).setCell ⟨b6, 1, none⟩ (.int .i64 y.low)).setCell ⟨b6, 2, none⟩ (.int .i64 y.high)).setCell ⟨b6, 3, none⟩ (.bool y.branded)).setCell ⟨b6, 4, none⟩ (.string y.brand)).setCell ⟨b6, 5, none⟩ (.string y.opaq)).setCell ⟨b6, 6, none⟩ (.int .i64 0) = u415367 at *
        replace HB6 := Lib.hid e5
        replace HB5 := Lib.hid e6
        replace HX := Lib.hid hxx
        clear e5 e6 hxx
        refine hK.out _ _ ?_ (fun hHeld => ?_)
        ·(try dsimp only)
         exact HS.out _ HX.out
        clear hK K
        (try simp only [Act.put, List.setIfInBounds_toArray, List.set_cons_zero, List.set_cons_succ])
        refine wpAnyH_done (by kernel_rfl) ?_ _
        go_wp2_with fail
        go_meet
        exact ⟨HX, b5, b6, rfl, rfl, HB5, HB6, HG5, HG6, hne56⟩
       exact AllReadyH.nil
      exact AllReadyH.nil
     exact AllReadyH.nil
    exact AllReadyH.nil
   refine AllReadyH.cons rfl (fun K hK => ?_) ?_
   ·go_simp
    have hz := heap_alloc_self u4 (.cells #[.int .u8 0, .int .i64 0, .int .i64 0, .bool false, .string ⟨#[]⟩, .string ⟨#[]⟩, .int .i64 0] 109)
    have hge := HX.out.size
    have hxx := (Ext.refl u4).alloc (.cells #[.int .u8 0, .int .i64 0, .int .i64 0, .bool false, .string ⟨#[]⟩, .string ⟨#[]⟩, .int .i64 0] 109)
    have hlt := (Array.getElem?_eq_some_iff.1 HB5.out).1
    replace HB5 := Lib.hid (hxx.heap HB5.out)
    replace HX := Lib.hid (HX.out.trans hxx)
    obtain ⟨b6, hb6⟩ : ∃ b, b = u4.heap.size := ⟨_, rfl⟩
    rw [← hb6] at hz hge hlt ⊢
    clear hb6
    generalize u4.alloc (.cells #[.int .u8 0, .int .i64 0, .int .i64 0, .bool false, .string ⟨#[]⟩, .string ⟨#[]⟩, .int .i64 0] 109) = u45 at *
    have HB6 := Lib.hid hz
    have HG6 := Lib.hid hge
    have hne56 : b5 ≠ b6 := by omega
    have hne65 : b6 ≠ b5 := by omega
    clear hz hge hxx hlt
    refine hK.out _ _ ?_ (fun hHeld => ?_)
    ·(try dsimp only)
     exact HS.out _ HX.out
    clear hK K
    (try simp only [Act.put, List.setIfInBounds_toArray, List.set_cons_zero, List.set_cons_succ])
    refine wpAnyH_ready (rs := [1]) (by kernel_rfl) (by simp) ?_
    refine AllReadyH.cons rfl (fun K hK => ?_) ?_
    ·go_simp
     go_at_call 78
     refine (Hpx.out _).mono ?_
     rintro e u451 ⟨rfl, hxx⟩
     replace HB5 := Lib.hid (hxx.heap HB5.out)
     replace HB6 := Lib.hid (hxx.heap HB6.out)
     replace HX := Lib.hid (HX.out.trans hxx)
     clear hxx
     refine hK.out _ _ ?_ (fun hHeld => ?_)
     ·(try dsimp only)
      exact HS.out _ HX.out
     clear hK K
     (try simp only [Act.put, List.setIfInBounds_toArray, List.set_cons_zero, List.set_cons_succ])
     refine wpAnyH_ready (rs := [3]) (by kernel_rfl) (by simp) ?_
     refine AllReadyH.cons rfl (fun K hK => ?_) ?_
     ·go_simp
      go_at_call 78
      refine (Hpy.out _).mono ?_
      rintro e u4513 ⟨rfl, hxx⟩
      replace HB5 := Lib.hid (hxx.heap HB5.out)
      replace HB6 := Lib.hid (hxx.heap HB6.out)
      replace HX := Lib.hid (HX.out.trans hxx)
      clear hxx
      refine hK.out _ _ ?_ (fun hHeld => ?_)
      ·(try dsimp only)
       exact HS.out _ HX.out
      clear hK K
      (try simp only [Act.put, List.setIfInBounds_toArray, List.set_cons_zero, List.set_cons_succ])
      refine wpAnyH_ready (rs := [6]) (by kernel_rfl) (by simp) ?_
      refine AllReadyH.cons rfl (fun K hK => ?_) ?_
      ·have y0 := heap_cell HB5.out 0 _ rfl
       have y1 := heap_cell HB5.out 1 _ rfl
       have y2 := heap_cell HB5.out 2 _ rfl
       have y3 := heap_cell HB5.out 3 _ rfl
       have y4 := heap_cell HB5.out 4 _ rfl
       have y5 := heap_cell HB5.out 5 _ rfl
       have y6 := heap_cell HB5.out 6 _ rfl
       have f0 := heap_frozen HB5.out 0
       have f1 := heap_frozen HB5.out 1
       have f2 := heap_frozen HB5.out 2
       have f3 := heap_frozen HB5.out 3
       have f4 := heap_frozen HB5.out 4
       have f5 := heap_frozen HB5.out 5
       have f6 := heap_frozen HB5.out 6
       have ly := (Array.getElem?_eq_some_iff.1 HB5.out).1
       go_simp
       have e5 := row7_set HB5.out (.int .u8 x.kind) (.int .i64 x.low) (.int .i64 x.high) (.bool x.branded) (.string x.brand) (.string x.opaq) (.int .i64 0)
       have e6 := row7_other (b := b5) (c := b6) hne56 HB6.out (.int .u8 x.kind) (.int .i64 x.low) (.int .i64 x.high) (.bool x.branded) (.string x.brand) (.string x.opaq) (.int .i64 0)
       have hxx := (((((((HX.out).setCell (p := ⟨b5, 0, none⟩) HG5.out (.int .u8 x.kind)).setCell (p := ⟨b5, 1, none⟩) HG5.out (.int .i64 x.low)).setCell (p := ⟨b5, 2, none⟩) HG5.out (.int .i64 x.high)).setCell (p := ⟨b5, 3, none⟩) HG5.out (.bool x.branded)).setCell (p := ⟨b5, 4, none⟩) HG5.out (.string x.brand)).setCell (p := ⟨b5, 5, none⟩) HG5.out (.string x.opaq)).setCell (p := ⟨b5, 6, none⟩) HG5.out (.int .i64 0)
       clear y0 f0 y1 f1 y2 f2 y3 f3 y4 f4 y5 f5 y6 f6 ly
       generalize (((((((u4513).setCell ⟨b5, 0, none⟩ (.int .u8 x.kind)).setCell ⟨b5, 1, none⟩ (.int .i64 x.low)).setCell ⟨b5, 2, none⟩ (.int .i64 x.high)).setCell ⟨b5, 3, none⟩ (.bool x.branded)).setCell ⟨b5, 4, none⟩ (.string x.brand)).setCell ⟨b5, 5, none⟩ (.string x.opaq)).setCell ⟨b5, 6, none⟩ (.int .i64 0) = u45136 at *
       replace HB5 := Lib.hid e5
       replace HB6 := Lib.hid e6
       replace HX := Lib.hid hxx
       clear e5 e6 hxx
       refine hK.out _ _ ?_ (fun hHeld => ?_)
       ·(try dsimp only)
        exact HS.out _ HX.out
       clear hK K
       (try simp only [Act.put, List.setIfInBounds_toArray, List.set_cons_zero, List.set_cons_succ])
       refine wpAnyH_ready (rs := [7]) (by kernel_rfl) (by simp) ?_
       refine AllReadyH.cons rfl (fun K hK => ?_) ?_
       ·have y0 := heap_cell HB6.out 0 _ rfl
        have y1 := heap_cell HB6.out 1 _ rfl
        have y2 := heap_cell HB6.out 2 _ rfl
        have y3 := heap_cell HB6.out 3 _ rfl
        have y4 := heap_cell HB6.out 4 _ rfl
        have y5 := heap_cell HB6.out 5 _ rfl
        have y6 := heap_cell HB6.out 6 _ rfl
        have f0 := heap_frozen HB6.out 0
        have f1 := heap_frozen HB6.out 1
        have f2 := heap_frozen HB6.out 2
        have f3 := heap_frozen HB6.out 3
        have f4 := heap_frozen HB6.out 4
        have f5 := heap_frozen HB6.out 5
        have f6 := heap_frozen HB6.out 6
        have ly := (Array.getElem?_eq_some_iff.1 HB6.out).1
        go_simp
        have e5 := row7_set HB6.out (.int .u8 y.kind) (.int .i64 y.low) (.int .i64 y.high) (.bool y.branded) (.string y.brand) (.string y.opaq) (.int .i64 0)
        have e6 := row7_other (b := b6) (c := b5) hne65 HB5.out (.int .u8 y.kind) (.int .i64 y.low) (.int .i64 y.high) (.bool y.branded) (.string y.brand) (.string y.opaq) (.int .i64 0)
        have hxx := (((((((HX.out).setCell (p := ⟨b6, 0, none⟩) HG6.out (.int .u8 y.kind)).setCell (p := ⟨b6, 1, none⟩) HG6.out (.int .i64 y.low)).setCell (p := ⟨b6, 2, none⟩) HG6.out (.int .i64 y.high)).setCell (p := ⟨b6, 3, none⟩) HG6.out (.bool y.branded)).setCell (p := ⟨b6, 4, none⟩) HG6.out (.string y.brand)).setCell (p := ⟨b6, 5, none⟩) HG6.out (.string y.opaq)).setCell (p := ⟨b6, 6, none⟩) HG6.out (.int .i64 0)
        clear y0 f0 y1 f1 y2 f2 y3 f3 y4 f4 y5 f5 y6 f6 ly
        generalize (((((((u45136).setCell ⟨b6, 0, none⟩ (.int .u8 y.kind)).setCell ⟨b6, 1, none⟩ (.int .i64 y.low)).setCell ⟨b6, 2, none⟩ (.int .i64 y.high)).setCell ⟨b6, 3, none⟩ (.bool y.branded)).setCell ⟨b6, 4, none⟩ (.string y.brand)).setCell ⟨b6, 5, none⟩ (.string y.opaq)).setCell ⟨b6, 6, none⟩ (.int .i64 0) = u451367 at *
        replace HB6 := Lib.hid e5
        replace HB5 := Lib.hid e6
        replace HX := Lib.hid hxx
        clear e5 e6 hxx
        refine hK.out _ _ ?_ (fun hHeld => ?_)
        ·(try dsimp only)
         exact HS.out _ HX.out
        clear hK K
        (try simp only [Act.put, List.setIfInBounds_toArray, List.set_cons_zero, List.set_cons_succ])
        refine wpAnyH_done (by kernel_rfl) ?_ _
        go_wp2_with fail
        go_meet
        exact ⟨HX, b5, b6, rfl, rfl, HB5, HB6, HG5, HG6, hne56⟩
       exact AllReadyH.nil
      exact AllReadyH.nil
     exact AllReadyH.nil
    exact AllReadyH.nil
   exact AllReadyH.nil
  refine AllReadyH.cons rfl (fun K hK => ?_) ?_
  ·go_simp
   have hz := heap_alloc_self u0 (.cells #[.int .u8 0, .int .i64 0, .int .i64 0, .bool false, .string ⟨#[]⟩, .string ⟨#[]⟩, .int .i64 0] 109)
   have hge := HX.out.size
   have hxx := (Ext.refl u0).alloc (.cells #[.int .u8 0, .int .i64 0, .int .i64 0, .bool false, .string ⟨#[]⟩, .string ⟨#[]⟩, .int .i64 0] 109)
   replace HX := Lib.hid (HX.out.trans hxx)
   obtain ⟨b6, hb6⟩ : ∃ b, b = u0.heap.size := ⟨_, rfl⟩
   rw [← hb6] at hz hge ⊢
   clear hb6
   generalize u0.alloc (.cells #[.int .u8 0, .int .i64 0, .int .i64 0, .bool false, .string ⟨#[]⟩, .string ⟨#[]⟩, .int .i64 0] 109) = u5 at *
   have HB6 := Lib.hid hz
   have HG6 := Lib.hid hge
   clear hz hge hxx
   refine hK.out _ _ ?_ (fun hHeld => ?_)
   ·(try dsimp only)
    exact HS.out _ HX.out
   clear hK K
   (try simp only [Act.put, List.setIfInBounds_toArray, List.set_cons_zero, List.set_cons_succ])
   refine wpAnyH_ready (rs := [1, 4]) (by kernel_rfl) (by simp) ?_
   refine AllReadyH.cons rfl (fun K hK => ?_) ?_
   ·go_simp
    go_at_call 78
    refine (Hpx.out _).mono ?_
    rintro e u51 ⟨rfl, hxx⟩
    replace HB6 := Lib.hid (hxx.heap HB6.out)
    replace HX := Lib.hid (HX.out.trans hxx)
    clear hxx
    refine hK.out _ _ ?_ (fun hHeld => ?_)
    ·(try dsimp only)
     exact HS.out _ HX.out
    clear hK K
    (try simp only [Act.put, List.setIfInBounds_toArray, List.set_cons_zero, List.set_cons_succ])
    refine wpAnyH_ready (rs := [3, 4]) (by kernel_rfl) (by simp) ?_
    refine AllReadyH.cons rfl (fun K hK => ?_) ?_
    ·go_simp
     go_at_call 78
     refine (Hpy.out _).mono ?_
     rintro e u513 ⟨rfl, hxx⟩
     replace HB6 := Lib.hid (hxx.heap HB6.out)
     replace HX := Lib.hid (HX.out.trans hxx)
     clear hxx
     refine hK.out _ _ ?_ (fun hHeld => ?_)
     ·(try dsimp only)
      exact HS.out _ HX.out
     clear hK K
     (try simp only [Act.put, List.setIfInBounds_toArray, List.set_cons_zero, List.set_cons_succ])
     refine wpAnyH_ready (rs := [4]) (by kernel_rfl) (by simp) ?_
     refine AllReadyH.cons rfl (fun K hK => ?_) ?_
     ·go_simp
      have hz := heap_alloc_self u513 (.cells #[.int .u8 0, .int .i64 0, .int .i64 0, .bool false, .string ⟨#[]⟩, .string ⟨#[]⟩, .int .i64 0] 109)
      have hge := HX.out.size
      have hxx := (Ext.refl u513).alloc (.cells #[.int .u8 0, .int .i64 0, .int .i64 0, .bool false, .string ⟨#[]⟩, .string ⟨#[]⟩, .int .i64 0] 109)
      have hlt := (Array.getElem?_eq_some_iff.1 HB6.out).1
      replace HB6 := Lib.hid (hxx.heap HB6.out)
      replace HX := Lib.hid (HX.out.trans hxx)
      obtain ⟨b5, hb5⟩ : ∃ b, b = u513.heap.size := ⟨_, rfl⟩
      rw [← hb5] at hz hge hlt ⊢
      clear hb5
      generalize u513.alloc (.cells #[.int .u8 0, .int .i64 0, .int .i64 0, .bool false, .string ⟨#[]⟩, .string ⟨#[]⟩, .int .i64 0] 109) = u5134 at *
      have HB5 := Lib.hid hz
      have HG5 := Lib.hid hge
      have hne56 : b5 ≠ b6 := by omega
      have hne65 : b6 ≠ b5 := by omega
      clear hz hge hxx hlt
      refine hK.out _ _ ?_ (fun hHeld => ?_)
      ·(try dsimp only)
       exact HS.out _ HX.out
      clear hK K
      (try simp only [Act.put, List.setIfInBounds_toArray, List.set_cons_zero, List.set_cons_succ])
      refine wpAnyH_ready (rs := [6]) (by kernel_rfl) (by simp) ?_
      refine AllReadyH.cons rfl (fun K hK => ?_) ?_
      ·have y0 := heap_cell HB5.out 0 _ rfl
       have y1 := heap_cell HB5.out 1 _ rfl
       have y2 := heap_cell HB5.out 2 _ rfl
       have y3 := heap_cell HB5.out 3 _ rfl
       have y4 := heap_cell HB5.out 4 _ rfl
       have y5 := heap_cell HB5.out 5 _ rfl
       have y6 := heap_cell HB5.out 6 _ rfl
       have f0 := heap_frozen HB5.out 0
       have f1 := heap_frozen HB5.out 1
       have f2 := heap_frozen HB5.out 2
       have f3 := heap_frozen HB5.out 3
       have f4 := heap_frozen HB5.out 4
       have f5 := heap_frozen HB5.out 5
       have f6 := heap_frozen HB5.out 6
       have ly := (Array.getElem?_eq_some_iff.1 HB5.out).1
       go_simp
       have e5 := row7_set HB5.out (.int .u8 x.kind) (.int .i64 x.low) (.int .i64 x.high) (.bool x.branded) (.string x.brand) (.string x.opaq) (.int .i64 0)
       have e6 := row7_other (b := b5) (c := b6) hne56 HB6.out (.int .u8 x.kind) (.int .i64 x.low) (.int .i64 x.high) (.bool x.branded) (.string x.brand) (.string x.opaq) (.int .i64 0)
       have hxx := (((((((HX.out).setCell (p := ⟨b5, 0, none⟩) HG5.out (.int .u8 x.kind)).setCell (p := ⟨b5, 1, none⟩) HG5.out (.int .i64 x.low)).setCell (p := ⟨b5, 2, none⟩) HG5.out (.int .i64 x.high)).setCell (p := ⟨b5, 3, none⟩) HG5.out (.bool x.branded)).setCell (p := ⟨b5, 4, none⟩) HG5.out (.string x.brand)).setCell (p := ⟨b5, 5, none⟩) HG5.out (.string x.opaq)).setCell (p := ⟨b5, 6, none⟩) HG5.out (.int .i64 0)
       clear y0 f0 y1 f1 y2 f2 y3 f3 y4 f4 y5 f5 y6 f6 ly
       generalize (((((((u5134).setCell ⟨b5, 0, none⟩ (.int .u8 x.kind)).setCell ⟨b5, 1, none⟩ (.int .i64 x.low)).setCell ⟨b5, 2, none⟩ (.int .i64 x.high)).setCell ⟨b5, 3, none⟩ (.bool x.branded)).setCell ⟨b5, 4, none⟩ (.string x.brand)).setCell ⟨b5, 5, none⟩ (.string x.opaq)).setCell ⟨b5, 6, none⟩ (.int .i64 0) = u51346 at *
       replace HB5 := Lib.hid e5
       replace HB6 := Lib.hid e6
       replace HX := Lib.hid hxx
       clear e5 e6 hxx
       refine hK.out _ _ ?_ (fun hHeld => ?_)
       ·(try dsimp only)
        exact HS.out _ HX.out
       clear hK K
       (try simp only [Act.put, List.setIfInBounds_toArray, List.set_cons_zero, List.set_cons_succ])
       refine wpAnyH_ready (rs := [7]) (by kernel_rfl) (by simp) ?_
       refine AllReadyH.cons rfl (fun K hK => ?_) ?_
       ·have y0 := heap_cell HB6.out 0 _ rfl
        have y1 := heap_cell HB6.out 1 _ rfl
        have y2 := heap_cell HB6.out 2 _ rfl
        have y3 := heap_cell HB6.out 3 _ rfl
        have y4 := heap_cell HB6.out 4 _ rfl
        have y5 := heap_cell HB6.out 5 _ rfl
        have y6 := heap_cell HB6.out 6 _ rfl
        have f0 := heap_frozen HB6.out 0
        have f1 := heap_frozen HB6.out 1
        have f2 := heap_frozen HB6.out 2
        have f3 := heap_frozen HB6.out 3
        have f4 := heap_frozen HB6.out 4
        have f5 := heap_frozen HB6.out 5
        have f6 := heap_frozen HB6.out 6
        have ly := (Array.getElem?_eq_some_iff.1 HB6.out).1
        go_simp
        have e5 := row7_set HB6.out (.int .u8 y.kind) (.int .i64 y.low) (.int .i64 y.high) (.bool y.branded) (.string y.brand) (.string y.opaq) (.int .i64 0)
        have e6 := row7_other (b := b6) (c := b5) hne65 HB5.out (.int .u8 y.kind) (.int .i64 y.low) (.int .i64 y.high) (.bool y.branded) (.string y.brand) (.string y.opaq) (.int .i64 0)
        have hxx := (((((((HX.out).setCell (p := ⟨b6, 0, none⟩) HG6.out (.int .u8 y.kind)).setCell (p := ⟨b6, 1, none⟩) HG6.out (.int .i64 y.low)).setCell (p := ⟨b6, 2, none⟩) HG6.out (.int .i64 y.high)).setCell (p := ⟨b6, 3, none⟩) HG6.out (.bool y.branded)).setCell (p := ⟨b6, 4, none⟩) HG6.out (.string y.brand)).setCell (p := ⟨b6, 5, none⟩) HG6.out (.string y.opaq)).setCell (p := ⟨b6, 6, none⟩) HG6.out (.int .i64 0)
        clear y0 f0 y1 f1 y2 f2 y3 f3 y4 f4 y5 f5 y6 f6 ly
        generalize (((((((u51346).setCell ⟨b6, 0, none⟩ (.int .u8 y.kind)).setCell ⟨b6, 1, none⟩ (.int .i64 y.low)).setCell ⟨b6, 2, none⟩ (.int .i64 y.high)).setCell ⟨b6, 3, none⟩ (.bool y.branded)).setCell ⟨b6, 4, none⟩ (.string y.brand)).setCell ⟨b6, 5, none⟩ (.string y.opaq)).setCell ⟨b6, 6, none⟩ (.int .i64 0) = u513467 at *
        replace HB6 := Lib.hid e5
        replace HB5 := Lib.hid e6
        replace HX := Lib.hid hxx
        clear e5 e6 hxx
        refine hK.out _ _ ?_ (fun hHeld => ?_)
        ·(try dsimp only)
         exact HS.out _ HX.out
        clear hK K
        (try simp only [Act.put, List.setIfInBounds_toArray, List.set_cons_zero, List.set_cons_succ])
        refine wpAnyH_done (by kernel_rfl) ?_ _
        go_wp2_with fail
        go_meet
        exact ⟨HX, b5, b6, rfl, rfl, HB5, HB6, HG5, HG6, hne56⟩
       exact AllReadyH.nil
      exact AllReadyH.nil
     exact AllReadyH.nil
    refine AllReadyH.cons rfl (fun K hK => ?_) ?_
    ·go_simp
     have hz := heap_alloc_self u51 (.cells #[.int .u8 0, .int .i64 0, .int .i64 0, .bool false, .string ⟨#[]⟩, .string ⟨#[]⟩, .int .i64 0] 109)
     have hge := HX.out.size
     have hxx := (Ext.refl u51).alloc (.cells #[.int .u8 0, .int .i64 0, .int .i64 0, .bool false, .string ⟨#[]⟩, .string ⟨#[]⟩, .int .i64 0] 109)
     have hlt := (Array.getElem?_eq_some_iff.1 HB6.out).1
     replace HB6 := Lib.hid (hxx.heap HB6.out)
     replace HX := Lib.hid (HX.out.trans hxx)
     obtain ⟨b5, hb5⟩ : ∃ b, b = u51.heap.size := ⟨_, rfl⟩
     rw [← hb5] at hz hge hlt ⊢
     clear hb5
     generalize u51.alloc (.cells #[.int .u8 0, .int .i64 0, .int .i64 0, .bool false, .string ⟨#[]⟩, .string ⟨#[]⟩, .int .i64 0] 109) = u514 at *
     have HB5 := Lib.hid hz
     have HG5 := Lib.hid hge
     have hne56 : b5 ≠ b6 := by omega
     have hne65 : b6 ≠ b5 := by omega
     clear hz hge hxx hlt
     refine hK.out _ _ ?_ (fun hHeld => ?_)
     ·(try dsimp only)
      exact HS.out _ HX.out
     clear hK K
     (try simp only [Act.put, List.setIfInBounds_toArray, List.set_cons_zero, List.set_cons_succ])
     refine wpAnyH_ready (rs := [3]) (by kernel_rfl) (by simp) ?_
     refine AllReadyH.cons rfl (fun K hK => ?_) ?_
     ·go_simp
      go_at_call 78
      refine (Hpy.out _).mono ?_
      rintro e u5143 ⟨rfl, hxx⟩
      replace HB5 := Lib.hid (hxx.heap HB5.out)
      replace HB6 := Lib.hid (hxx.heap HB6.out)
      replace HX := Lib.hid (HX.out.trans hxx)
      clear hxx
      refine hK.out _ _ ?_ (fun hHeld => ?_)
      ·(try dsimp only)
       exact HS.out _ HX.out
      clear hK K
      (try simp only [Act.put, List.setIfInBounds_toArray, List.set_cons_zero, List.set_cons_succ])
      refine wpAnyH_ready (rs := [6]) (by kernel_rfl) (by simp) ?_
      refine AllReadyH.cons rfl (fun K hK => ?_) ?_
      ·have y0 := heap_cell HB5.out 0 _ rfl
       have y1 := heap_cell HB5.out 1 _ rfl
       have y2 := heap_cell HB5.out 2 _ rfl
       have y3 := heap_cell HB5.out 3 _ rfl
       have y4 := heap_cell HB5.out 4 _ rfl
       have y5 := heap_cell HB5.out 5 _ rfl
       have y6 := heap_cell HB5.out 6 _ rfl
       have f0 := heap_frozen HB5.out 0
       have f1 := heap_frozen HB5.out 1
       have f2 := heap_frozen HB5.out 2
       have f3 := heap_frozen HB5.out 3
       have f4 := heap_frozen HB5.out 4
       have f5 := heap_frozen HB5.out 5
       have f6 := heap_frozen HB5.out 6
       have ly := (Array.getElem?_eq_some_iff.1 HB5.out).1
       go_simp
       have e5 := row7_set HB5.out (.int .u8 x.kind) (.int .i64 x.low) (.int .i64 x.high) (.bool x.branded) (.string x.brand) (.string x.opaq) (.int .i64 0)
       have e6 := row7_other (b := b5) (c := b6) hne56 HB6.out (.int .u8 x.kind) (.int .i64 x.low) (.int .i64 x.high) (.bool x.branded) (.string x.brand) (.string x.opaq) (.int .i64 0)
       have hxx := (((((((HX.out).setCell (p := ⟨b5, 0, none⟩) HG5.out (.int .u8 x.kind)).setCell (p := ⟨b5, 1, none⟩) HG5.out (.int .i64 x.low)).setCell (p := ⟨b5, 2, none⟩) HG5.out (.int .i64 x.high)).setCell (p := ⟨b5, 3, none⟩) HG5.out (.bool x.branded)).setCell (p := ⟨b5, 4, none⟩) HG5.out (.string x.brand)).setCell (p := ⟨b5, 5, none⟩) HG5.out (.string x.opaq)).setCell (p := ⟨b5, 6, none⟩) HG5.out (.int .i64 0)
       clear y0 f0 y1 f1 y2 f2 y3 f3 y4 f4 y5 f5 y6 f6 ly
       generalize (((((((u5143).setCell ⟨b5, 0, none⟩ (.int .u8 x.kind)).setCell ⟨b5, 1, none⟩ (.int .i64 x.low)).setCell ⟨b5, 2, none⟩ (.int .i64 x.high)).setCell ⟨b5, 3, none⟩ (.bool x.branded)).setCell ⟨b5, 4, none⟩ (.string x.brand)).setCell ⟨b5, 5, none⟩ (.string x.opaq)).setCell ⟨b5, 6, none⟩ (.int .i64 0) = u51436 at *
       replace HB5 := Lib.hid e5
       replace HB6 := Lib.hid e6
       replace HX := Lib.hid hxx
       clear e5 e6 hxx
       refine hK.out _ _ ?_ (fun hHeld => ?_)
       ·(try dsimp only)
        exact HS.out _ HX.out
       clear hK K
       (try simp only [Act.put, List.setIfInBounds_toArray, List.set_cons_zero, List.set_cons_succ])
       refine wpAnyH_ready (rs := [7]) (by kernel_rfl) (by simp) ?_
       refine AllReadyH.cons rfl (fun K hK => ?_) ?_
       ·have y0 := heap_cell HB6.out 0 _ rfl
        have y1 := heap_cell HB6.out 1 _ rfl
        have y2 := heap_cell HB6.out 2 _ rfl
        have y3 := heap_cell HB6.out 3 _ rfl
        have y4 := heap_cell HB6.out 4 _ rfl
        have y5 := heap_cell HB6.out 5 _ rfl
        have y6 := heap_cell HB6.out 6 _ rfl
        have f0 := heap_frozen HB6.out 0
        have f1 := heap_frozen HB6.out 1
        have f2 := heap_frozen HB6.out 2
        have f3 := heap_frozen HB6.out 3
        have f4 := heap_frozen HB6.out 4
        have f5 := heap_frozen HB6.out 5
        have f6 := heap_frozen HB6.out 6
        have ly := (Array.getElem?_eq_some_iff.1 HB6.out).1
        go_simp
        have e5 := row7_set HB6.out (.int .u8 y.kind) (.int .i64 y.low) (.int .i64 y.high) (.bool y.branded) (.string y.brand) (.string y.opaq) (.int .i64 0)
        have e6 := row7_other (b := b6) (c := b5) hne65 HB5.out (.int .u8 y.kind) (.int .i64 y.low) (.int .i64 y.high) (.bool y.branded) (.string y.brand) (.string y.opaq) (.int .i64 0)
        have hxx := (((((((HX.out).setCell (p := ⟨b6, 0, none⟩) HG6.out (.int .u8 y.kind)).setCell (p := ⟨b6, 1, none⟩) HG6.out (.int .i64 y.low)).setCell (p := ⟨b6, 2, none⟩) HG6.out (.int .i64 y.high)).setCell (p := ⟨b6, 3, none⟩) HG6.out (.bool y.branded)).setCell (p := ⟨b6, 4, none⟩) HG6.out (.string y.brand)).setCell (p := ⟨b6, 5, none⟩) HG6.out (.string y.opaq)).setCell (p := ⟨b6, 6, none⟩) HG6.out (.int .i64 0)
        clear y0 f0 y1 f1 y2 f2 y3 f3 y4 f4 y5 f5 y6 f6 ly
        generalize (((((((u51436).setCell ⟨b6, 0, none⟩ (.int .u8 y.kind)).setCell ⟨b6, 1, none⟩ (.int .i64 y.low)).setCell ⟨b6, 2, none⟩ (.int .i64 y.high)).setCell ⟨b6, 3, none⟩ (.bool y.branded)).setCell ⟨b6, 4, none⟩ (.string y.brand)).setCell ⟨b6, 5, none⟩ (.string y.opaq)).setCell ⟨b6, 6, none⟩ (.int .i64 0) = u514367 at *
        replace HB6 := Lib.hid e5
        replace HB5 := Lib.hid e6
        replace HX := Lib.hid hxx
        clear e5 e6 hxx
        refine hK.out _ _ ?_ (fun hHeld => ?_)
        ·(try dsimp only)
         exact HS.out _ HX.out
        clear hK K
        (try simp only [Act.put, List.setIfInBounds_toArray, List.set_cons_zero, List.set_cons_succ])
        refine wpAnyH_done (by kernel_rfl) ?_ _
        go_wp2_with fail
        go_meet
        exact ⟨HX, b5, b6, rfl, rfl, HB5, HB6, HG5, HG6, hne56⟩
       exact AllReadyH.nil
      exact AllReadyH.nil
     exact AllReadyH.nil
    exact AllReadyH.nil
   refine AllReadyH.cons rfl (fun K hK => ?_) ?_
   ·go_simp
    have hz := heap_alloc_self u5 (.cells #[.int .u8 0, .int .i64 0, .int .i64 0, .bool false, .string ⟨#[]⟩, .string ⟨#[]⟩, .int .i64 0] 109)
    have hge := HX.out.size
    have hxx := (Ext.refl u5).alloc (.cells #[.int .u8 0, .int .i64 0, .int .i64 0, .bool false, .string ⟨#[]⟩, .string ⟨#[]⟩, .int .i64 0] 109)
    have hlt := (Array.getElem?_eq_some_iff.1 HB6.out).1
    replace HB6 := Lib.hid (hxx.heap HB6.out)
    replace HX := Lib.hid (HX.out.trans hxx)
    obtain ⟨b5, hb5⟩ : ∃ b, b = u5.heap.size := ⟨_, rfl⟩
    rw [← hb5] at hz hge hlt ⊢
    clear hb5
    generalize u5.alloc (.cells #[.int .u8 0, .int .i64 0, .int .i64 0, .bool false, .string ⟨#[]⟩, .string ⟨#[]⟩, .int .i64 0] 109) = u54 at *
    have HB5 := Lib.hid hz
    have HG5 := Lib.hid hge
    have hne56 : b5 ≠ b6 := by omega
    have hne65 : b6 ≠ b5 := by omega
    clear hz hge hxx hlt
    refine hK.out _ _ ?_ (fun hHeld => ?_)
    ·(try dsimp only)
     exact HS.out _ HX.out
    clear hK K
    (try simp only [Act.put, List.setIfInBounds_toArray, List.set_cons_zero, List.set_cons_succ])
    refine wpAnyH_ready (rs := [1]) (by kernel_rfl) (by simp) ?_
    refine AllReadyH.cons rfl (fun K hK => ?_) ?_
    ·go_simp
     go_at_call 78
     refine (Hpx.out _).mono ?_
     rintro e u541 ⟨rfl, hxx⟩
     replace HB5 := Lib.hid (hxx.heap HB5.out)
     replace HB6 := Lib.hid (hxx.heap HB6.out)
     replace HX := Lib.hid (HX.out.trans hxx)
     clear hxx
     refine hK.out _ _ ?_ (fun hHeld => ?_)
     ·(try dsimp only)
      exact HS.out _ HX.out
     clear hK K
     (try simp only [Act.put, List.setIfInBounds_toArray, List.set_cons_zero, List.set_cons_succ])
     refine wpAnyH_ready (rs := [3]) (by kernel_rfl) (by simp) ?_
     refine AllReadyH.cons rfl (fun K hK => ?_) ?_
     ·go_simp
      go_at_call 78
      refine (Hpy.out _).mono ?_
      rintro e u5413 ⟨rfl, hxx⟩
      replace HB5 := Lib.hid (hxx.heap HB5.out)
      replace HB6 := Lib.hid (hxx.heap HB6.out)
      replace HX := Lib.hid (HX.out.trans hxx)
      clear hxx
      refine hK.out _ _ ?_ (fun hHeld => ?_)
      ·(try dsimp only)
       exact HS.out _ HX.out
      clear hK K
      (try simp only [Act.put, List.setIfInBounds_toArray, List.set_cons_zero, List.set_cons_succ])
      refine wpAnyH_ready (rs := [6]) (by kernel_rfl) (by simp) ?_
      refine AllReadyH.cons rfl (fun K hK => ?_) ?_
      ·have y0 := heap_cell HB5.out 0 _ rfl
       have y1 := heap_cell HB5.out 1 _ rfl
       have y2 := heap_cell HB5.out 2 _ rfl
       have y3 := heap_cell HB5.out 3 _ rfl
       have y4 := heap_cell HB5.out 4 _ rfl
       have y5 := heap_cell HB5.out 5 _ rfl
       have y6 := heap_cell HB5.out 6 _ rfl
       have f0 := heap_frozen HB5.out 0
       have f1 := heap_frozen HB5.out 1
       have f2 := heap_frozen HB5.out 2
       have f3 := heap_frozen HB5.out 3
       have f4 := heap_frozen HB5.out 4
       have f5 := heap_frozen HB5.out 5
       have f6 := heap_frozen HB5.out 6
       have ly := (Array.getElem?_eq_some_iff.1 HB5.out).1
       go_simp
       have e5 := row7_set HB5.out (.int .u8 x.kind) (.int .i64 x.low) (.int .i64 x.high) (.bool x.branded) (.string x.brand) (.string x.opaq) (.int .i64 0)
       have e6 := row7_other (b := b5) (c := b6) hne56 HB6.out (.int .u8 x.kind) (.int .i64 x.low) (.int .i64 x.high) (.bool x.branded) (.string x.brand) (.string x.opaq) (.int .i64 0)
       have hxx := (((((((HX.out).setCell (p := ⟨b5, 0, none⟩) HG5.out (.int .u8 x.kind)).setCell (p := ⟨b5, 1, none⟩) HG5.out (.int .i64 x.low)).setCell (p := ⟨b5, 2, none⟩) HG5.out (.int .i64 x.high)).setCell (p := ⟨b5, 3, none⟩) HG5.out (.bool x.branded)).setCell (p := ⟨b5, 4, none⟩) HG5.out (.string x.brand)).setCell (p := ⟨b5, 5, none⟩) HG5.out (.string x.opaq)).setCell (p := ⟨b5, 6, none⟩) HG5.out (.int .i64 0)
       clear y0 f0 y1 f1 y2 f2 y3 f3 y4 f4 y5 f5 y6 f6 ly
       generalize (((((((u5413).setCell ⟨b5, 0, none⟩ (.int .u8 x.kind)).setCell ⟨b5, 1, none⟩ (.int .i64 x.low)).setCell ⟨b5, 2, none⟩ (.int .i64 x.high)).setCell ⟨b5, 3, none⟩ (.bool x.branded)).setCell ⟨b5, 4, none⟩ (.string x.brand)).setCell ⟨b5, 5, none⟩ (.string x.opaq)).setCell ⟨b5, 6, none⟩ (.int .i64 0) = u54136 at *
       replace HB5 := Lib.hid e5
       replace HB6 := Lib.hid e6
       replace HX := Lib.hid hxx
       clear e5 e6 hxx
       refine hK.out _ _ ?_ (fun hHeld => ?_)
       ·(try dsimp only)
        exact HS.out _ HX.out
       clear hK K
       (try simp only [Act.put, List.setIfInBounds_toArray, List.set_cons_zero, List.set_cons_succ])
       refine wpAnyH_ready (rs := [7]) (by kernel_rfl) (by simp) ?_
       refine AllReadyH.cons rfl (fun K hK => ?_) ?_
       ·have y0 := heap_cell HB6.out 0 _ rfl
        have y1 := heap_cell HB6.out 1 _ rfl
        have y2 := heap_cell HB6.out 2 _ rfl
        have y3 := heap_cell HB6.out 3 _ rfl
        have y4 := heap_cell HB6.out 4 _ rfl
        have y5 := heap_cell HB6.out 5 _ rfl
        have y6 := heap_cell HB6.out 6 _ rfl
        have f0 := heap_frozen HB6.out 0
        have f1 := heap_frozen HB6.out 1
        have f2 := heap_frozen HB6.out 2
        have f3 := heap_frozen HB6.out 3
        have f4 := heap_frozen HB6.out 4
        have f5 := heap_frozen HB6.out 5
        have f6 := heap_frozen HB6.out 6
        have ly := (Array.getElem?_eq_some_iff.1 HB6.out).1
        go_simp
        have e5 := row7_set HB6.out (.int .u8 y.kind) (.int .i64 y.low) (.int .i64 y.high) (.bool y.branded) (.string y.brand) (.string y.opaq) (.int .i64 0)
        have e6 := row7_other (b := b6) (c := b5) hne65 HB5.out (.int .u8 y.kind) (.int .i64 y.low) (.int .i64 y.high) (.bool y.branded) (.string y.brand) (.string y.opaq) (.int .i64 0)
        have hxx := (((((((HX.out).setCell (p := ⟨b6, 0, none⟩) HG6.out (.int .u8 y.kind)).setCell (p := ⟨b6, 1, none⟩) HG6.out (.int .i64 y.low)).setCell (p := ⟨b6, 2, none⟩) HG6.out (.int .i64 y.high)).setCell (p := ⟨b6, 3, none⟩) HG6.out (.bool y.branded)).setCell (p := ⟨b6, 4, none⟩) HG6.out (.string y.brand)).setCell (p := ⟨b6, 5, none⟩) HG6.out (.string y.opaq)).setCell (p := ⟨b6, 6, none⟩) HG6.out (.int .i64 0)
        clear y0 f0 y1 f1 y2 f2 y3 f3 y4 f4 y5 f5 y6 f6 ly
        generalize (((((((u54136).setCell ⟨b6, 0, none⟩ (.int .u8 y.kind)).setCell ⟨b6, 1, none⟩ (.int .i64 y.low)).setCell ⟨b6, 2, none⟩ (.int .i64 y.high)).setCell ⟨b6, 3, none⟩ (.bool y.branded)).setCell ⟨b6, 4, none⟩ (.string y.brand)).setCell ⟨b6, 5, none⟩ (.string y.opaq)).setCell ⟨b6, 6, none⟩ (.int .i64 0) = u541367 at *
        replace HB6 := Lib.hid e5
        replace HB5 := Lib.hid e6
        replace HX := Lib.hid hxx
        clear e5 e6 hxx
        refine hK.out _ _ ?_ (fun hHeld => ?_)
        ·(try dsimp only)
         exact HS.out _ HX.out
        clear hK K
        (try simp only [Act.put, List.setIfInBounds_toArray, List.set_cons_zero, List.set_cons_succ])
        refine wpAnyH_done (by kernel_rfl) ?_ _
        go_wp2_with fail
        go_meet
        exact ⟨HX, b5, b6, rfl, rfl, HB5, HB6, HG5, HG6, hne56⟩
       exact AllReadyH.nil
      exact AllReadyH.nil
     exact AllReadyH.nil
    exact AllReadyH.nil
   exact AllReadyH.nil
  exact AllReadyH.nil
 case rest =>
  clear HX
  obtain ⟨HX, b5, b6, rfl, rfl, HB5, HB6, HG5, HG6, hne56⟩ := hcut
  have hne65 : b6 ≠ b5 := fun e => hne56 e.symm
  go_wp2_with fail
  replace HX := Lib.hid HX.out.drew
  replace HB5 := Lib.hid (show wc.drew.heap[b5]? = some (.cells #[.int .u8 x.kind, .int .i64 x.low, .int .i64 x.high, .bool x.branded, .string x.brand, .string x.opaq, .int .i64 0] 109) from HB5.out)
  replace HB6 := Lib.hid (show wc.drew.heap[b6]? = some (.cells #[.int .u8 y.kind, .int .i64 y.low, .int .i64 y.high, .bool y.branded, .string y.brand, .string y.opaq, .int .i64 0] 109) from HB6.out)
  refine wp_region_held_drew (S := (fun w' => w'.cell? ⟨b2, 0, none⟩ = some (.int .u8 x.kind) ∧ w'.cell? ⟨b2, 1, none⟩ = some (.int .i64 x.low) ∧ w'.cell? ⟨b2, 2, none⟩ = some (.int .i64 x.high) ∧ w'.cell? ⟨b2, 3, none⟩ = some (.bool x.branded) ∧ w'.cell? ⟨b2, 4, none⟩ = some (.string x.brand) ∧ w'.cell? ⟨b2, 5, none⟩ = some (.string x.opaq) ∧ w'.cell? ⟨b2, 6, none⟩ = some (.int .i64 x.super) ∧ w'.cell? ⟨b2, 7, none⟩ = some (.slice A1 x.parts.length c1) ∧ w'.cell? ⟨b2, 8, none⟩ = some (.slice A2 x.methods.length c2) ∧ w'.cell? ⟨b2, 9, none⟩ = some (.slice A3 x.overs.length c3) ∧ w'.cell? ⟨b3, 0, none⟩ = some (.int .u8 y.kind) ∧ w'.cell? ⟨b3, 1, none⟩ = some (.int .i64 y.low) ∧ w'.cell? ⟨b3, 2, none⟩ = some (.int .i64 y.high) ∧ w'.cell? ⟨b3, 3, none⟩ = some (.bool y.branded) ∧ w'.cell? ⟨b3, 4, none⟩ = some (.string y.brand) ∧ w'.cell? ⟨b3, 5, none⟩ = some (.string y.opaq) ∧ w'.cell? ⟨b3, 6, none⟩ = some (.int .i64 y.super) ∧ w'.cell? ⟨b3, 7, none⟩ = some (.slice B1 y.parts.length p1) ∧ w'.cell? ⟨b3, 8, none⟩ = some (.slice B2 y.methods.length p2) ∧ w'.cell? ⟨b3, 9, none⟩ = some (.slice B3 y.overs.length p3))) (by kernel_rfl) ?_ (fun hHeld => ?_)
  ·(try dsimp only)
   exact HS.out _ HX.out
  generalize wc.drew = v0 at *
  refine wpAnyH_take (i := 0) (v := ?_) rfl (by kernel_rfl) (by kernel_rfl) (by kernel_rfl) (fun _ _ _ h => h) (Or.inl ⟨by rfl, ?_⟩) (by assumption) ?_
  rotate_left
  ·intro w hSw
   (try dsimp only at hSw)
   go_simp
   (first | done | with_reducible rfl | exact rfl)
  (try simp only [Act.put, List.setIfInBounds_toArray, List.set_cons_zero, List.set_cons_succ])
  refine wpAnyH_take (i := 1) (v := ?_) rfl (by kernel_rfl) (by kernel_rfl) (by kernel_rfl) (fun _ _ _ h => h) (Or.inl ⟨by rfl, ?_⟩) (by assumption) ?_
  rotate_left
  ·intro w hSw
   (try dsimp only at hSw)
   go_simp
   (first | done | with_reducible rfl | exact rfl)
  (try simp only [Act.put, List.setIfInBounds_toArray, List.set_cons_zero, List.set_cons_succ])
  refine wpAnyH_take (i := 2) (v := ?_) rfl (by kernel_rfl) (by kernel_rfl) (by kernel_rfl) (fun _ _ _ h => h) (Or.inl ⟨by rfl, ?_⟩) (by assumption) ?_
  rotate_left
  ·intro w hSw
   (try dsimp only at hSw)
   go_simp
   (first | done | with_reducible rfl | exact rfl)
  (try simp only [Act.put, List.setIfInBounds_toArray, List.set_cons_zero, List.set_cons_succ])
  refine wpAnyH_take (i := 3) (v := ?_) rfl (by kernel_rfl) (by kernel_rfl) (by kernel_rfl) (fun _ _ _ h => h) (Or.inl ⟨by rfl, ?_⟩) (by assumption) ?_
  rotate_left
  ·intro w hSw
   (try dsimp only at hSw)
   go_simp
   (first | done | with_reducible rfl | exact rfl)
  (try simp only [Act.put, List.setIfInBounds_toArray, List.set_cons_zero, List.set_cons_succ])
  refine wpAnyH_take (i := 4) (v := ?_) rfl (by kernel_rfl) (by kernel_rfl) (by kernel_rfl) (fun _ _ _ h => h) (Or.inl ⟨by rfl, ?_⟩) (by assumption) ?_
  rotate_left
  ·intro w hSw
   (try dsimp only at hSw)
   go_simp
   (first | done | with_reducible rfl | exact rfl)
  (try simp only [Act.put, List.setIfInBounds_toArray, List.set_cons_zero, List.set_cons_succ])
  refine wpAnyH_ready (rs := [5]) (by kernel_rfl) (by simp) ?_
  refine AllReadyH.cons rfl (fun K hK => ?_) ?_
  ·have y6 := heap_cell HB5.out 6 _ rfl
   have f6 := heap_frozen HB5.out 6
   have ly := (Array.getElem?_eq_some_iff.1 HB5.out).1
   go_simp
   have e5 := heap_set HB5.out 6 (.int .i64 x.super)
   simp only [List.setIfInBounds_toArray, List.set_cons_zero, List.set_cons_succ] at e5
   have e6 := (Below.heap_setCell v0 (⟨b5, 6, none⟩ : Addr) (.int .i64 x.super) b6 hne65).trans HB6.out
   have hxx := (HX.out).setCell (p := ⟨b5, 6, none⟩) HG5.out (.int .i64 x.super)
   clear y6 f6 ly
   generalize v0.setCell ⟨b5, 6, none⟩ (.int .i64 x.super) = v5 at *
   replace HB5 := Lib.hid e5
   replace HB6 := Lib.hid e6
   replace HX := Lib.hid hxx
   clear e5 e6 hxx
   refine hK.out _ _ ?_ (fun hHeld => ?_)
   ·(try dsimp only)
    exact HS.out _ HX.out
   clear hK K
   (try simp only [Act.put, List.setIfInBounds_toArray, List.set_cons_zero, List.set_cons_succ])
   refine wpAnyH_take (i := 6) (v := ?_) rfl (by kernel_rfl) (by kernel_rfl) (by kernel_rfl) (fun _ _ _ h => h) (Or.inl ⟨by rfl, ?_⟩) (by assumption) ?_
   rotate_left
   ·intro w hSw
    (try dsimp only at hSw)
    go_simp
    (first | done | with_reducible rfl | exact rfl)
   (try simp only [Act.put, List.setIfInBounds_toArray, List.set_cons_zero, List.set_cons_succ])
   refine wpAnyH_ready (rs := [7]) (by kernel_rfl) (by simp) ?_
   refine AllReadyH.cons rfl (fun K hK => ?_) ?_
   ·have y6 := heap_cell HB6.out 6 _ rfl
    have f6 := heap_frozen HB6.out 6
    have ly := (Array.getElem?_eq_some_iff.1 HB6.out).1
    go_simp
    have e5 := heap_set HB6.out 6 (.int .i64 y.super)
    simp only [List.setIfInBounds_toArray, List.set_cons_zero, List.set_cons_succ] at e5
    have e6 := (Below.heap_setCell v5 (⟨b6, 6, none⟩ : Addr) (.int .i64 y.super) b5 hne56).trans HB5.out
    have hxx := (HX.out).setCell (p := ⟨b6, 6, none⟩) HG6.out (.int .i64 y.super)
    clear y6 f6 ly
    generalize v5.setCell ⟨b6, 6, none⟩ (.int .i64 y.super) = v7 at *
    replace HB6 := Lib.hid e5
    replace HB5 := Lib.hid e6
    replace HX := Lib.hid hxx
    clear e5 e6 hxx
    refine hK.out _ _ ?_ (fun hHeld => ?_)
    ·(try dsimp only)
     exact HS.out _ HX.out
    clear hK K
    (try simp only [Act.put, List.setIfInBounds_toArray, List.set_cons_zero, List.set_cons_succ])
    refine wpAnyH_done (by kernel_rfl) ?_ _
    obtain ⟨d0, d1, d2, d3, d4, d5, d6, d7, d8, d9, f0, f1, f2, f3, f4, f5, f6, f7, f8, f9⟩ := HS.out _ HX.out
    have m0 := heap_cell HB5.out 0 _ rfl
    have m1 := heap_cell HB5.out 1 _ rfl
    have m2 := heap_cell HB5.out 2 _ rfl
    have m3 := heap_cell HB5.out 3 _ rfl
    have m4 := heap_cell HB5.out 4 _ rfl
    have m5 := heap_cell HB5.out 5 _ rfl
    have m6 := heap_cell HB5.out 6 _ rfl
    have n0 := heap_cell HB6.out 0 _ rfl
    have n1 := heap_cell HB6.out 1 _ rfl
    have n2 := heap_cell HB6.out 2 _ rfl
    have n3 := heap_cell HB6.out 3 _ rfl
    have n4 := heap_cell HB6.out 4 _ rfl
    have n5 := heap_cell HB6.out 5 _ rfl
    have n6 := heap_cell HB6.out 6 _ rfl
    have lb2 := cell_lt d0
    have lb3 := cell_lt f0
    have g109 := fun x y xs ys w => guard109 .eql x y xs ys w
    have heq := Heq.out
    cases q1
    ·go_wp2_with fail
     go_ret
     exact ⟨rfl, HXw.out.trans HX.out⟩
    ·skip
     go_wp2_with fail
     refine (Hparts.out _ (HXw.out.trans HX.out)).mono ?_
     rintro e w5 ⟨rfl, hxx⟩
     replace HX := Lib.hid (HX.out.trans hxx)
     clear hxx d0 d1 d2 d3 d4 d5 d6 d7 d8 d9 f0 f1 f2 f3 f4 f5 f6 f7 f8 f9 lb2 lb3
     obtain ⟨d0, d1, d2, d3, d4, d5, d6, d7, d8, d9, f0, f1, f2, f3, f4, f5, f6, f7, f8, f9⟩ := HS.out _ HX.out
     have lb2 := cell_lt d0
     have lb3 := cell_lt f0
     clear m0 m1 m2 m3 m4 m5 m6 n0 n1 n2 n3 n4 n5 n6 g109 heq
     cases q2
     ·go_wp2_with fail
      go_ret
      exact ⟨rfl, HXw.out.trans HX.out⟩
     ·skip
      go_wp2_with fail
      refine (Hmeths.out _ (HXw.out.trans HX.out)).mono ?_
      rintro e w6 ⟨rfl, hxx⟩
      replace HX := Lib.hid (HX.out.trans hxx)
      clear hxx d0 d1 d2 d3 d4 d5 d6 d7 d8 d9 f0 f1 f2 f3 f4 f5 f6 f7 f8 f9 lb2 lb3
      obtain ⟨d0, d1, d2, d3, d4, d5, d6, d7, d8, d9, f0, f1, f2, f3, f4, f5, f6, f7, f8, f9⟩ := HS.out _ HX.out
      have lb2 := cell_lt d0
      have lb3 := cell_lt f0
      cases q3
      ·go_wp2_with fail
       go_ret
       exact ⟨rfl, HXw.out.trans HX.out⟩
      ·skip
       go_wp2_with fail
       refine (Hovers.out _ (HXw.out.trans HX.out)).mono ?_
       rintro e w7 ⟨rfl, hxx⟩
       replace HX := Lib.hid (HX.out.trans hxx)
       clear hxx d0 d1 d2 d3 d4 d5 d6 d7 d8 d9 f0 f1 f2 f3 f4 f5 f6 f7 f8 f9 lb2 lb3
       obtain ⟨d0, d1, d2, d3, d4, d5, d6, d7, d8, d9, f0, f1, f2, f3, f4, f5, f6, f7, f8, f9⟩ := HS.out _ HX.out
       have lb2 := cell_lt d0
       have lb3 := cell_lt f0
       cases q4
       all_goals
        go_wp2_with fail
        go_ret
        exact ⟨rfl, HXw.out.trans HX.out⟩
   exact AllReadyH.nil
  exact AllReadyH.nil
end Go.Proofs.YtldnjnnhfeobdaaGreatDoor
/- Contract: types.Same. Conditions: tidy graphs. -/
namespace Go.Proofs.YtldnjnnhfeobdaaGreatDoor
open Go.RowKit Go.Shelf
set_option maxRecDepth 100000 in
theorem pred77 (w : World) (xs ys : List Ty) (hx : ∀ t ∈ xs, TySmall t) (hy : ∀ t ∈ ys, TySmall t) : Pred2 tyE w 77 #[] xs ys tySame :=
 ⟨enters_of Tryz.func77 (by kernel_rfl) rfl, by
  intro x mx y my w' A B hxt hA hB
  obtain ⟨cs, ⟨vp, vm, vo, rfl, hp, hm, ho⟩, rfl⟩ := hA
  obtain ⟨ds, ⟨up, um, uo, rfl, gp, gm, go⟩, rfl⟩ := hB
  have h := same1_any w' x y vp vm vo up um uo (hx x mx) (hy y my) ⟨hp, hm, ho⟩ ⟨gp, gm, go⟩
  unfold tyV at h
  simpa only [pack, Array.append_empty] using h⟩
set_option maxRecDepth 100000 in
set_option maxHeartbeats 4000000 in
theorem same_any (w : World) (u v : Value) (g h : Graph) (hg : Sl tyE w u g) (hh : Sl tyE w v h) (hT : Tidy g) (hT' : Tidy h) :
  Calls Tryz.prog 36 #[u, v] w (Ret w (.bool (sameGr g h))) := by
 have he := equalFunc_ty 77 #[] w u v g h tySame hg hh hT.len hT'.len (pred77 w g h (fun t ht => (hT.ty t ht).1) (fun t ht => (hT'.ty t ht).1))
 obtain ⟨A, ca, ea⟩ := hg.len
 obtain ⟨B, cb, eb⟩ := hh.len
 subst ea eb
 change Calls _ _ _ _ (Ret w (.bool (sameGr g h))) at he
 have He := Lib.hid he
 clear he hg hh hT hT'
 go_enter Tryz.func36, Tryz.ntmps36
 go_wp2_with fail
 refine He.out.mono ?_
 rintro e w1 ⟨rfl, hx1⟩
 go_wp2_with fail
 go_ret
 exact ⟨rfl, hx1⟩
end Go.Proofs.YtldnjnnhfeobdaaGreatDoor
