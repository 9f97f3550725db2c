/- Parts of the proof, joined: Contract: a type in new memory with other references. Conditions: lengths below 2^20; Contract: Merge. Conditions: lengths below 2^20; Contract: Merge. Conditions: lengths below 2^20; The law's own example: what the plain functions say of it. No program; Contracts: record, lists, of the law. No condition; Contract: alive, of the law. Condition: the tables of the library are laid; Types that are the same: no way tells them, their texts are equal; others: the way that is found tells them, and it is a least one. No program; Contract of the law: equal lists of numbers. Conditions: lengths below 2^20; Contract of the reference: the references of a type. Conditions: a fine type; Contracts of the reference: names, symbols, brands. Conditions: lengths below 2^20; Contracts of the reference: brands, parts, what may be above. Conditions: lengths below 2^20. -/
import Derived.Test.YtldnjnnhfeobdaaGreatDoorB9
import Derived.Test.YtldnjnnhfeobdaaGreatDoorB7
import Derived.Test.YtldnjnnhfeobdaaGreatDoorB8
import Derived.Test.YtldnjnnhfeobdaaGreatDoorB4
import Derived.Test.YtldnjnnhfeobdaaGreatDoorB3
namespace Go.Proofs.YtldnjnnhfeobdaaGreatDoor
set_option linter.all false
set_option linter.unusedSimpArgs false
set_option linter.unusedVariables false
open Go.RowKit Go.Shelf

theorem map124 (w : World) (bf g : Nat) (cb : Array Value) (f : Int → Int) (ok : Int → Prop) (xs : List Part) (hc : w.cell? ⟨bf, 0, none⟩ = some (.func (.func g) #[] cb)) (hT : ToP w g cb f ok) (hx : ∀ p ∈ xs, ok p.type) :
    MapP partE partE w 124 #[.pointer (some ⟨bf, 0, none⟩)] xs (turnP f) :=
  ⟨enters_of Tryz.func124 (by kernel_rfl) rfl, by
    rintro x hxm w' A hxt ⟨_, rfl, rfl⟩
    exact moved1_any w' bf g cb f ok x (hxt.cell hc) (hT.later hxt) (hx x hxm)⟩
theorem map126 (w : World) (bf g : Nat) (cb : Array Value) (f : Int → Int) (ok : Int → Prop) (xs : List Method) (hc : w.cell? ⟨bf, 0, none⟩ = some (.func (.func g) #[] cb)) (hT : ToP w g cb f ok) (hs : ∀ m ∈ xs, MethodSmall m)
    (hx : ∀ m ∈ xs, (∀ a ∈ m.args, ok a) ∧ (0 ≤ m.result → ok m.result)) :
    MapP methodE methodE w 126 #[.pointer (some ⟨bf, 0, none⟩)] xs (turnM f) :=
  ⟨enters_of Tryz.func126 (by kernel_rfl) rfl, by
    rintro x hxm w' A hxt ⟨cs, ⟨va, vr, rfl, ha, hr⟩, rfl⟩
    exact moved2_any w' bf g cb f ok x va vr (hxt.cell hc) (hT.later hxt) ha hr (hs x hxm).2.2.1 (hs x hxm).2.2.2.1 (hx x hxm).1 (hx x hxm).2⟩
/-- while a type is turned: the box of it, that of the function, that of the result -/
structure MSt (w : World) (g : Nat) (cb : Array Value) (t : Ty) (vp vm vo : Value) (wr : World) : Prop where
  ext : Ext w wr
  box : TyBox wr w.heap.size t vp vm vo
  fbox : wr.heap[w.heap.size + 1]? = some (.cells #[.func (.func g) #[] cb] 103 (0, 0))
  zbox : TyBox wr (w.heap.size + 2) ty0 (.slice none 0 0) (.slice none 0 0) (.slice none 0 0)
section
variable {w : World} {g : Nat} {cb : Array Value} {t : Ty} {vp vm vo : Value} {wr wr' : World}
theorem MSt.later (h : MSt w g cb t vp vm vo wr) (hx : Ext wr wr') : MSt w g cb t vp vm vo wr' := ⟨h.ext.trans hx, h.box.ext hx, hx.heap h.fbox, h.zbox.ext hx⟩
theorem MSt.set (h : MSt w g cb t vp vm vo wr) (i : Nat) (v : Value) {t' : Ty} {vp' vm' vo' : Value} (hb : TyBox (wr.setCell ⟨w.heap.size, i, none⟩ v) w.heap.size t' vp' vm' vo') : MSt w g cb t' vp' vm' vo' (wr.setCell ⟨w.heap.size, i, none⟩ v) :=
  ⟨h.ext.setCell (Nat.le_refl _) _, hb, (Below.heap_setCell _ _ _ _ (by simp)).trans h.fbox, by unfold TyBox; rw [Below.heap_setCell _ _ _ _ (by simp)]; exact h.zbox⟩
theorem MSt.set6 (h : MSt w g cb t vp vm vo wr) (n : Int) : MSt w g cb { t with super := n } vp vm vo (wr.setCell ⟨w.heap.size, 6, none⟩ (.int .i64 n)) := h.set 6 _ (heap_set h.box 6 _)
theorem MSt.set7 (h : MSt w g cb t vp vm vo wr) (v : Value) : MSt w g cb t v vm vo (wr.setCell ⟨w.heap.size, 7, none⟩ v) := h.set 7 _ (heap_set h.box 7 _)
theorem MSt.set8 (h : MSt w g cb t vp vm vo wr) (v : Value) : MSt w g cb t vp v vo (wr.setCell ⟨w.heap.size, 8, none⟩ v) := h.set 8 _ (heap_set h.box 8 _)
theorem MSt.set9 (h : MSt w g cb t vp vm vo wr) (v : Value) : MSt w g cb t vp vm v (wr.setCell ⟨w.heap.size, 9, none⟩ v) := h.set 9 _ (heap_set h.box 9 _)
theorem MSt.fcell (h : MSt w g cb t vp vm vo wr) : wr.cell? ⟨w.heap.size + 1, 0, none⟩ = some (.func (.func g) #[] cb) := heap_cell h.fbox 0 _ rfl
end
theorem row10_set {w : World} {b : Nat} {t : TypeId} {fr : Nat × Nat} {a0 a1 a2 a3 a4 a5 a6 a7 a8 a9 : Value} (h : w.heap[b]? = some (.cells #[a0, a1, a2, a3, a4, a5, a6, a7, a8, a9] t fr)) (v0 v1 v2 v3 v4 v5 v6 v7 v8 v9 : Value) :
    ((((((((((w.setCell ⟨b, 0, none⟩ v0).setCell ⟨b, 1, none⟩ v1).setCell ⟨b, 2, none⟩ v2).setCell ⟨b, 3, none⟩ v3).setCell ⟨b, 4, none⟩ v4).setCell ⟨b, 5, none⟩ v5).setCell ⟨b, 6, none⟩ v6).setCell ⟨b, 7, none⟩ v7).setCell ⟨b, 8, none⟩ v8).setCell ⟨b, 9, none⟩ v9).heap[b]? = some (.cells #[v0, v1, v2, v3, v4, v5, v6, v7, v8, v9] t fr) := by
  have h0 := heap_set h 0 v0
  simp only [List.setIfInBounds_toArray, List.set_cons_zero, List.set_cons_succ] at h0
  have h1 := heap_set h0 1 v1
  simp only [List.setIfInBounds_toArray, List.set_cons_zero, List.set_cons_succ] at h1
  have h2 := heap_set h1 2 v2
  simp only [List.setIfInBounds_toArray, List.set_cons_zero, List.set_cons_succ] at h2
  have h3 := heap_set h2 3 v3
  simp only [List.setIfInBounds_toArray, List.set_cons_zero, List.set_cons_succ] at h3
  have h4 := heap_set h3 4 v4
  simp only [List.setIfInBounds_toArray, List.set_cons_zero, List.set_cons_succ] at h4
  have h5 := heap_set h4 5 v5
  simp only [List.setIfInBounds_toArray, List.set_cons_zero, List.set_cons_succ] at h5
  have h6 := heap_set h5 6 v6
  simp only [List.setIfInBounds_toArray, List.set_cons_zero, List.set_cons_succ] at h6
  have h7 := heap_set h6 7 v7
  simp only [List.setIfInBounds_toArray, List.set_cons_zero, List.set_cons_succ] at h7
  have h8 := heap_set h7 8 v8
  simp only [List.setIfInBounds_toArray, List.set_cons_zero, List.set_cons_succ] at h8
  have h9 := heap_set h8 9 v9
  simp only [List.setIfInBounds_toArray, List.set_cons_zero, List.set_cons_succ] at h9
  exact h9
theorem SlF.set {α : Type} {E : Elt α} {n : Nat} {w : World} {v : Value} {xs : List α} (h : SlF (fun b => n ≤ b) E w v xs) {b : Nat} (hb : b < n) (i : Nat) (u : Value) : SlF (fun b => n ≤ b) E (w.setCell ⟨b, i, none⟩ u) v xs :=
  h.mono (fun c hc _ => Below.heap_setCell _ _ _ _ (by simp; omega)) (fun _ h _ => h)

set_option maxRecDepth 100000 in
set_option maxHeartbeats 8000000 in
theorem moved_any (w : World) (g : Nat) (cb : Array Value) (f : Int → Int) (ok : Int → Prop) (t : Ty) (vp vm vo : Value) (hof : TyOf w t vp vm vo) (hs : TySmall t) (hT : ToP w g cb f ok) (hok : ∀ r ∈ refsL t, ok r) :
    Calls Tryz.prog 72 #[tyV t vp vm vo, .func (.func g) #[] cb] w (RetP w (Res tyE w (turnT f t))) := by
  have eg : ∀ args w, (callFunc g args).run Tryz.prog w = .ok (.enter g args) w := hT.ent
  have hkd := fun w' : World => hasSuper_any t.kind w'
  have hsup := fun (w' : World) (h : Ext w w') (h0 : hasSuperB t.kind = true) => hT.run t.super (hok _ (by unfold refsL refsS; rw [h0]; simp)) w' h
  have hpa := fun (w' : World) (h : Ext w w') (hc : w'.cell? ⟨w.heap.size + 1, 0, none⟩ = some (.func (.func g) #[] cb)) => turned_part_part 124 #[.pointer (some ⟨w.heap.size + 1, 0, none⟩)] w' vp t.parts (turnP f) (hof.parts.mono h) hs.parts (map124 w' _ g cb f ok t.parts hc (hT.later h) (fun p hp => hok _ (by unfold refsL; simp only [List.mem_append]; exact .inr (.inl (List.mem_map_of_mem hp)))))
  have hme := fun (w' : World) (h : Ext w w') (hc : w'.cell? ⟨w.heap.size + 1, 0, none⟩ = some (.func (.func g) #[] cb)) => turned_method_method 126 #[.pointer (some ⟨w.heap.size + 1, 0, none⟩)] w' vm t.methods (turnM f) (hof.methods.mono h) hs.methods (map126 w' _ g cb f ok t.methods hc (hT.later h) hs.method (fun m hm => ⟨fun a ha => hok _ (by unfold refsL; simp only [List.mem_append]; exact .inr (.inr (List.mem_flatMap.2 ⟨m, hm, by unfold refsM; simp [ha]⟩))), fun h0 => hok _ (by unfold refsL; simp only [List.mem_append]; exact .inr (.inr (List.mem_flatMap.2 ⟨m, hm, by unfold refsM; rw [if_pos h0]; simp⟩)))⟩))
  have hov := fun (w' : World) (h : Ext w w') => clone_over w' vo t.overs (hof.overs.mono h) hs.overs
  obtain ⟨Ap, cp, ep⟩ := hof.parts.len
  obtain ⟨Am, cm, em⟩ := hof.methods.len
  obtain ⟨Ao, co, eo⟩ := hof.overs.len
  subst ep em eo
  have Hkd := Lib.hid hkd
  have Hsup := Lib.hid hsup
  have Hpa := Lib.hid hpa
  have Hme := Lib.hid hme
  have Hov := Lib.hid hov
  clear hkd hsup hpa hme hov hT hof hok hs
  have hst : MSt w g cb t (.slice Ap t.parts.length cp) (.slice Am t.methods.length cm) (.slice Ao t.overs.length co) (((w.alloc (.cells #[.int .u8 t.kind, .int .i64 t.low, .int .i64 t.high, .bool t.branded, .string t.brand, .string t.opaq, .int .i64 t.super, .slice Ap t.parts.length cp, .slice Am t.methods.length cm, .slice Ao t.overs.length co] 42)).alloc (.cells #[.func (.func g) #[] cb] 103)).alloc (.cells #[.int .u8 0, .int .i64 0, .int .i64 0, .bool false, .string ⟨#[]⟩, .string ⟨#[]⟩, .int .i64 0, .slice none 0 0, .slice none 0 0, .slice none 0 0] 42)) := by
    refine ⟨(((Ext.refl w).alloc _).alloc _).alloc _, ?_, ?_, ?_⟩
    · exact ((Below.heap_alloc _ _ _ (by simp; omega)).trans (Below.heap_alloc _ _ _ (by simp))).trans (heap_alloc_self w _)
    · have h := heap_alloc_self (w.alloc (.cells #[.int .u8 t.kind, .int .i64 t.low, .int .i64 t.high, .bool t.branded, .string t.brand, .string t.opaq, .int .i64 t.super, .slice Ap t.parts.length cp, .slice Am t.methods.length cm, .slice Ao t.overs.length co] 42)) (.cells #[.func (.func g) #[] cb] 103)
      rw [World.size_alloc] at h
      exact (Below.heap_alloc _ _ _ (by simp)).trans h
    · have h := heap_alloc_self ((w.alloc (.cells #[.int .u8 t.kind, .int .i64 t.low, .int .i64 t.high, .bool t.branded, .string t.brand, .string t.opaq, .int .i64 t.super, .slice Ap t.parts.length cp, .slice Am t.methods.length cm, .slice Ao t.overs.length co] 42)).alloc (.cells #[.func (.func g) #[] cb] 103)) (.cells #[.int .u8 0, .int .i64 0, .int .i64 0, .bool false, .string ⟨#[]⟩, .string ⟨#[]⟩, .int .i64 0, .slice none 0 0, .slice none 0 0, .slice none 0 0] 42)
      rw [World.size_alloc, World.size_alloc] at h
      exact h
  have Hst := Lib.hid hst
  clear hst
  unfold tyV
  cases hs0 : hasSuperB t.kind
  · skip
    have Hs0 := Lib.hid hs0
    clear hs0
    have x0 := heap_cell Hst.out.box 0 _ rfl
    have l0 := Hst.out.box.lt
    go_enter Tryz.func72, Tryz.ntmps72
    go_wp2_with fail
    refine (Hkd.out _).mono ?_
    rintro e w1 ⟨rfl, hw1⟩
    rw [Hs0.out]
    subst hw1
    clear x0 l0
    generalize ((w.alloc (.cells #[.int .u8 t.kind, .int .i64 t.low, .int .i64 t.high, .bool t.branded, .string t.brand, .string t.opaq, .int .i64 t.super, .slice Ap t.parts.length cp, .slice Am t.methods.length cm, .slice Ao t.overs.length co] 42)).alloc (.cells #[.func (.func g) #[] cb] 103)).alloc (.cells #[.int .u8 0, .int .i64 0, .int .i64 0, .bool false, .string ⟨#[]⟩, .string ⟨#[]⟩, .int .i64 0, .slice none 0 0, .slice none 0 0, .slice none 0 0] 42) = W1 at Hst ⊢
    have b0 := Hst.out.box
    have cf := Hst.out.fcell
    have lf := cell_lt cf
    have x7 := heap_cell b0 7 _ rfl
    have lx := Hst.out.box.lt
    clear b0
    go_wp2_with fail
    clear cf lf lx x7
    refine (Hpa.out _ Hst.out.ext Hst.out.fcell).mono ?_
    rintro e w3 ⟨v3, rfl, hv3, hx3⟩
    obtain ⟨A3, c3, e3⟩ := hv3.any.len
    rw [List.length_map] at e3
    subst e3
    have Hv3 := Lib.hid (hv3.mono (G := fun b => w.heap.size + 3 ≤ b) (fun _ _ _ => rfl) (fun b hb _ => by have h5 := Hst.out.zbox.lt; unfold New at hb; omega))
    replace Hst := Lib.hid (Hst.out.later hx3)
    clear hv3 hx3
    have b0 := Hst.out.box
    have cf := Hst.out.fcell
    have lf := cell_lt cf
    have x7 := heap_cell b0 7 _ rfl
    have x8 := heap_cell b0 8 _ rfl
    have z7 := heap_frozen b0 7
    have lx := Hst.out.box.lt
    clear b0
    have Hst2 := Lib.hid (Hst.out.set7 (.slice A3 t.parts.length c3))
    have x82 := heap_cell Hst2.out.box 8 _ rfl
    have cf2 := Hst2.out.fcell
    have lf2 := cell_lt cf2
    go_wp2_with fail
    clear cf lf lx x7 x8 z7
    clear cf2 lf2 x82
    replace Hst := Hst2
    replace Hv3 := Lib.hid (Hv3.out.set (show w.heap.size < w.heap.size + 3 by omega) 7 (.slice A3 t.parts.length c3))
    generalize w3.setCell ⟨w.heap.size, 7, none⟩ (.slice A3 t.parts.length c3) = W3 at Hst Hv3 ⊢
    refine (Hme.out _ Hst.out.ext Hst.out.fcell).mono ?_
    rintro e w4 ⟨v4, rfl, hv4, hx4⟩
    obtain ⟨A4, c4, e4⟩ := hv4.any.len
    rw [List.length_map] at e4
    subst e4
    have Hv4 := Lib.hid (hv4.mono (G := fun b => w.heap.size + 3 ≤ b) (fun _ _ _ => rfl) (fun b hb _ => by have h5 := Hst.out.zbox.lt; unfold New at hb; omega))
    replace Hst := Lib.hid (Hst.out.later hx4)
    replace Hv3 := Lib.hid (Hv3.out.ext hx4)
    clear hv4 hx4
    have b0 := Hst.out.box
    have cf := Hst.out.fcell
    have lf := cell_lt cf
    have x8 := heap_cell b0 8 _ rfl
    have x9 := heap_cell b0 9 _ rfl
    have z8 := heap_frozen b0 8
    have lx := Hst.out.box.lt
    clear b0
    have Hst2 := Lib.hid (Hst.out.set8 (.slice A4 t.methods.length c4))
    have x92 := heap_cell Hst2.out.box 9 _ rfl
    go_wp2_with fail
    clear cf lf lx x8 x9 z8
    clear x92
    replace Hst := Hst2
    replace Hv3 := Lib.hid (Hv3.out.set (show w.heap.size < w.heap.size + 3 by omega) 8 (.slice A4 t.methods.length c4))
    replace Hv4 := Lib.hid (Hv4.out.set (show w.heap.size < w.heap.size + 3 by omega) 8 (.slice A4 t.methods.length c4))
    generalize w4.setCell ⟨w.heap.size, 8, none⟩ (.slice A4 t.methods.length c4) = W4 at Hst Hv3 Hv4 ⊢
    refine (Hov.out _ Hst.out.ext).mono ?_
    rintro e w5 ⟨v5, rfl, hv5, hx5⟩
    obtain ⟨A5, c5, rfl⟩ := hv5.any.len
    have Hv5 := Lib.hid (hv5.mono (G := fun b => w.heap.size + 3 ≤ b) (fun _ _ _ => rfl) (fun b hb _ => by have h5 := Hst.out.zbox.lt; unfold New at hb; omega))
    replace Hst := Lib.hid (Hst.out.later hx5)
    replace Hv3 := Lib.hid (Hv3.out.ext hx5)
    replace Hv4 := Lib.hid (Hv4.out.ext hx5)
    clear hv5 hx5
    have b0 := Hst.out.box
    have x9 := heap_cell b0 9 _ rfl
    have z9 := heap_frozen b0 9
    have lx := Hst.out.box.lt
    clear b0
    have Hst2 := Lib.hid (Hst.out.set9 (.slice A5 t.overs.length c5))
    have b2 := Hst2.out.box
    have q0 := heap_cell b2 0 _ rfl
    have q1 := heap_cell b2 1 _ rfl
    have q2 := heap_cell b2 2 _ rfl
    have q3 := heap_cell b2 3 _ rfl
    have q4 := heap_cell b2 4 _ rfl
    have q5 := heap_cell b2 5 _ rfl
    have q6 := heap_cell b2 6 _ rfl
    have q7 := heap_cell b2 7 _ rfl
    have q8 := heap_cell b2 8 _ rfl
    have q9 := heap_cell b2 9 _ rfl
    have y := Hst2.out.zbox
    have y0 := heap_cell y 0 _ rfl
    have y1 := heap_cell y 1 _ rfl
    have y2 := heap_cell y 2 _ rfl
    have y3 := heap_cell y 3 _ rfl
    have y4 := heap_cell y 4 _ rfl
    have y5 := heap_cell y 5 _ rfl
    have y6 := heap_cell y 6 _ rfl
    have y7 := heap_cell y 7 _ rfl
    have y8 := heap_cell y 8 _ rfl
    have y9 := heap_cell y 9 _ rfl
    have f0 := heap_frozen y 0
    have f1 := heap_frozen y 1
    have f2 := heap_frozen y 2
    have f3 := heap_frozen y 3
    have f4 := heap_frozen y 4
    have f5 := heap_frozen y 5
    have f6 := heap_frozen y 6
    have f7 := heap_frozen y 7
    have f8 := heap_frozen y 8
    have f9 := heap_frozen y 9
    have ly := Hst2.out.zbox.lt
    have lq := Hst2.out.box.lt
    clear b2 y
    go_wp2_with fail
    have e5 := row10_set Hst2.out.zbox (.int .u8 t.kind) (.int .i64 t.low) (.int .i64 t.high) (.bool t.branded) (.string t.brand) (.string t.opaq) (.int .i64 t.super) (.slice A3 t.parts.length c3) (.slice A4 t.methods.length c4) (.slice A5 t.overs.length c5)
    have d0 := heap_cell e5 0 _ rfl
    have d1 := heap_cell e5 1 _ rfl
    have d2 := heap_cell e5 2 _ rfl
    have d3 := heap_cell e5 3 _ rfl
    have d4 := heap_cell e5 4 _ rfl
    have d5 := heap_cell e5 5 _ rfl
    have d6 := heap_cell e5 6 _ rfl
    have d7 := heap_cell e5 7 _ rfl
    have d8 := heap_cell e5 8 _ rfl
    have d9 := heap_cell e5 9 _ rfl
    have hm : turnT f t = ⟨t.kind, t.low, t.high, t.branded, t.brand, t.opaq, t.super, t.parts.map (turnP f), t.methods.map (turnM f), t.overs⟩ := by unfold turnT; rw [Hs0.out]; rfl
    rw [hm]
    refine bodyPost_ret (v := .agg #[.int .u8 t.kind, .int .i64 t.low, .int .i64 t.high, .bool t.branded, .string t.brand, .string t.opaq, .int .i64 t.super, .slice A3 t.parts.length c3, .slice A4 t.methods.length c4, .slice A5 t.overs.length c5]) ?_ rfl ?_
    · simp [results, Tryz.results72, go_sem, d0, d1, d2, d3, d4, d5, d6, d7, d8, d9]
    · refine ⟨_, rfl, ⟨_, ⟨_, _, _, rfl, ?_, ?_, ?_⟩, rfl⟩, ?_⟩
      · refine (Hv3.out.set (show w.heap.size < w.heap.size + 3 by omega) 9 (.slice A5 t.overs.length c5)).mono (fun b hb _ => ?_) (fun b hb _ => (by unfold New; omega))
        rw [Below.heap_setCell _ _ _ _ (by simp; omega), Below.heap_setCell _ _ _ _ (by simp; omega), Below.heap_setCell _ _ _ _ (by simp; omega), Below.heap_setCell _ _ _ _ (by simp; omega), Below.heap_setCell _ _ _ _ (by simp; omega), Below.heap_setCell _ _ _ _ (by simp; omega), Below.heap_setCell _ _ _ _ (by simp; omega), Below.heap_setCell _ _ _ _ (by simp; omega), Below.heap_setCell _ _ _ _ (by simp; omega), Below.heap_setCell _ _ _ _ (by simp; omega)]
      · refine (Hv4.out.set (show w.heap.size < w.heap.size + 3 by omega) 9 (.slice A5 t.overs.length c5)).mono (fun b hb _ => ?_) (fun b hb _ => (by unfold New; omega))
        rw [Below.heap_setCell _ _ _ _ (by simp; omega), Below.heap_setCell _ _ _ _ (by simp; omega), Below.heap_setCell _ _ _ _ (by simp; omega), Below.heap_setCell _ _ _ _ (by simp; omega), Below.heap_setCell _ _ _ _ (by simp; omega), Below.heap_setCell _ _ _ _ (by simp; omega), Below.heap_setCell _ _ _ _ (by simp; omega), Below.heap_setCell _ _ _ _ (by simp; omega), Below.heap_setCell _ _ _ _ (by simp; omega), Below.heap_setCell _ _ _ _ (by simp; omega)]
      · refine (Hv5.out.set (show w.heap.size < w.heap.size + 3 by omega) 9 (.slice A5 t.overs.length c5)).mono (fun b hb _ => ?_) (fun b hb _ => (by unfold New; omega))
        rw [Below.heap_setCell _ _ _ _ (by simp; omega), Below.heap_setCell _ _ _ _ (by simp; omega), Below.heap_setCell _ _ _ _ (by simp; omega), Below.heap_setCell _ _ _ _ (by simp; omega), Below.heap_setCell _ _ _ _ (by simp; omega), Below.heap_setCell _ _ _ _ (by simp; omega), Below.heap_setCell _ _ _ _ (by simp; omega), Below.heap_setCell _ _ _ _ (by simp; omega), Below.heap_setCell _ _ _ _ (by simp; omega), Below.heap_setCell _ _ _ _ (by simp; omega)]
      · exact ((((((((((Hst2.out.ext).setCell (by simp; omega) _).setCell (by simp; omega) _).setCell (by simp; omega) _).setCell (by simp; omega) _).setCell (by simp; omega) _).setCell (by simp; omega) _).setCell (by simp; omega) _).setCell (by simp; omega) _).setCell (by simp; omega) _).setCell (by simp; omega) _
  · skip
    have Hs0 := Lib.hid hs0
    clear hs0
    have x0 := heap_cell Hst.out.box 0 _ rfl
    have l0 := Hst.out.box.lt
    go_enter Tryz.func72, Tryz.ntmps72
    go_wp2_with fail
    refine (Hkd.out _).mono ?_
    rintro e w1 ⟨rfl, hw1⟩
    rw [Hs0.out]
    subst hw1
    clear x0 l0
    generalize ((w.alloc (.cells #[.int .u8 t.kind, .int .i64 t.low, .int .i64 t.high, .bool t.branded, .string t.brand, .string t.opaq, .int .i64 t.super, .slice Ap t.parts.length cp, .slice Am t.methods.length cm, .slice Ao t.overs.length co] 42)).alloc (.cells #[.func (.func g) #[] cb] 103)).alloc (.cells #[.int .u8 0, .int .i64 0, .int .i64 0, .bool false, .string ⟨#[]⟩, .string ⟨#[]⟩, .int .i64 0, .slice none 0 0, .slice none 0 0, .slice none 0 0] 42) = W1 at Hst ⊢
    have b0 := Hst.out.box
    have cf := Hst.out.fcell
    have lf := cell_lt cf
    have x6 := heap_cell b0 6 _ rfl
    have lx := Hst.out.box.lt
    clear b0
    go_wp2_with fail
    refine (Hsup.out _ Hst.out.ext Hs0.out).mono ?_
    rintro e w2 ⟨rfl, hx2⟩
    clear cf lf lx x6
    replace Hst := Lib.hid (Hst.out.later hx2)
    clear hx2
    have b0 := Hst.out.box
    have cf := Hst.out.fcell
    have lf := cell_lt cf
    have x6 := heap_cell b0 6 _ rfl
    have x7 := heap_cell b0 7 _ rfl
    have z6 := heap_frozen b0 6
    have lx := Hst.out.box.lt
    clear b0
    have Hst2 := Lib.hid (Hst.out.set6 (f t.super))
    have cf2 := Hst2.out.fcell
    have x72 := heap_cell Hst2.out.box 7 _ rfl
    have lf2 := cell_lt cf2
    go_wp2_with fail
    clear cf lf lx x6 x7 z6
    clear cf2 x72 lf2
    replace Hst := Hst2
    generalize w2.setCell ⟨w.heap.size, 6, none⟩ (.int .i64 (f t.super)) = W2 at Hst ⊢
    refine (Hpa.out _ Hst.out.ext Hst.out.fcell).mono ?_
    rintro e w3 ⟨v3, rfl, hv3, hx3⟩
    obtain ⟨A3, c3, e3⟩ := hv3.any.len
    rw [List.length_map] at e3
    subst e3
    have Hv3 := Lib.hid (hv3.mono (G := fun b => w.heap.size + 3 ≤ b) (fun _ _ _ => rfl) (fun b hb _ => by have h5 := Hst.out.zbox.lt; unfold New at hb; omega))
    replace Hst := Lib.hid (Hst.out.later hx3)
    clear hv3 hx3
    have b0 := Hst.out.box
    have cf := Hst.out.fcell
    have lf := cell_lt cf
    have x7 := heap_cell b0 7 _ rfl
    have x8 := heap_cell b0 8 _ rfl
    have z7 := heap_frozen b0 7
    have lx := Hst.out.box.lt
    clear b0
    have Hst2 := Lib.hid (Hst.out.set7 (.slice A3 t.parts.length c3))
    have x82 := heap_cell Hst2.out.box 8 _ rfl
    have cf2 := Hst2.out.fcell
    have lf2 := cell_lt cf2
    go_wp2_with fail
    clear cf lf lx x7 x8 z7
    clear cf2 lf2 x82
    replace Hst := Hst2
    replace Hv3 := Lib.hid (Hv3.out.set (show w.heap.size < w.heap.size + 3 by omega) 7 (.slice A3 t.parts.length c3))
    generalize w3.setCell ⟨w.heap.size, 7, none⟩ (.slice A3 t.parts.length c3) = W3 at Hst Hv3 ⊢
    refine (Hme.out _ Hst.out.ext Hst.out.fcell).mono ?_
    rintro e w4 ⟨v4, rfl, hv4, hx4⟩
    obtain ⟨A4, c4, e4⟩ := hv4.any.len
    rw [List.length_map] at e4
    subst e4
    have Hv4 := Lib.hid (hv4.mono (G := fun b => w.heap.size + 3 ≤ b) (fun _ _ _ => rfl) (fun b hb _ => by have h5 := Hst.out.zbox.lt; unfold New at hb; omega))
    replace Hst := Lib.hid (Hst.out.later hx4)
    replace Hv3 := Lib.hid (Hv3.out.ext hx4)
    clear hv4 hx4
    have b0 := Hst.out.box
    have cf := Hst.out.fcell
    have lf := cell_lt cf
    have x8 := heap_cell b0 8 _ rfl
    have x9 := heap_cell b0 9 _ rfl
    have z8 := heap_frozen b0 8
    have lx := Hst.out.box.lt
    clear b0
    have Hst2 := Lib.hid (Hst.out.set8 (.slice A4 t.methods.length c4))
    have x92 := heap_cell Hst2.out.box 9 _ rfl
    go_wp2_with fail
    clear cf lf lx x8 x9 z8
    clear x92
    replace Hst := Hst2
    replace Hv3 := Lib.hid (Hv3.out.set (show w.heap.size < w.heap.size + 3 by omega) 8 (.slice A4 t.methods.length c4))
    replace Hv4 := Lib.hid (Hv4.out.set (show w.heap.size < w.heap.size + 3 by omega) 8 (.slice A4 t.methods.length c4))
    generalize w4.setCell ⟨w.heap.size, 8, none⟩ (.slice A4 t.methods.length c4) = W4 at Hst Hv3 Hv4 ⊢
    refine (Hov.out _ Hst.out.ext).mono ?_
    rintro e w5 ⟨v5, rfl, hv5, hx5⟩
    obtain ⟨A5, c5, rfl⟩ := hv5.any.len
    have Hv5 := Lib.hid (hv5.mono (G := fun b => w.heap.size + 3 ≤ b) (fun _ _ _ => rfl) (fun b hb _ => by have h5 := Hst.out.zbox.lt; unfold New at hb; omega))
    replace Hst := Lib.hid (Hst.out.later hx5)
    replace Hv3 := Lib.hid (Hv3.out.ext hx5)
    replace Hv4 := Lib.hid (Hv4.out.ext hx5)
    clear hv5 hx5
    have b0 := Hst.out.box
    have x9 := heap_cell b0 9 _ rfl
    have z9 := heap_frozen b0 9
    have lx := Hst.out.box.lt
    clear b0
    have Hst2 := Lib.hid (Hst.out.set9 (.slice A5 t.overs.length c5))
    have b2 := Hst2.out.box
    have q0 := heap_cell b2 0 _ rfl
    have q1 := heap_cell b2 1 _ rfl
    have q2 := heap_cell b2 2 _ rfl
    have q3 := heap_cell b2 3 _ rfl
    have q4 := heap_cell b2 4 _ rfl
    have q5 := heap_cell b2 5 _ rfl
    have q6 := heap_cell b2 6 _ rfl
    have q7 := heap_cell b2 7 _ rfl
    have q8 := heap_cell b2 8 _ rfl
    have q9 := heap_cell b2 9 _ rfl
    have y := Hst2.out.zbox
    have y0 := heap_cell y 0 _ rfl
    have y1 := heap_cell y 1 _ rfl
    have y2 := heap_cell y 2 _ rfl
    have y3 := heap_cell y 3 _ rfl
    have y4 := heap_cell y 4 _ rfl
    have y5 := heap_cell y 5 _ rfl
    have y6 := heap_cell y 6 _ rfl
    have y7 := heap_cell y 7 _ rfl
    have y8 := heap_cell y 8 _ rfl
    have y9 := heap_cell y 9 _ rfl
    have f0 := heap_frozen y 0
    have f1 := heap_frozen y 1
    have f2 := heap_frozen y 2
    have f3 := heap_frozen y 3
    have f4 := heap_frozen y 4
    have f5 := heap_frozen y 5
    have f6 := heap_frozen y 6
    have f7 := heap_frozen y 7
    have f8 := heap_frozen y 8
    have f9 := heap_frozen y 9
    have ly := Hst2.out.zbox.lt
    have lq := Hst2.out.box.lt
    clear b2 y
    go_wp2_with fail
    have e5 := row10_set Hst2.out.zbox (.int .u8 t.kind) (.int .i64 t.low) (.int .i64 t.high) (.bool t.branded) (.string t.brand) (.string t.opaq) (.int .i64 (f t.super)) (.slice A3 t.parts.length c3) (.slice A4 t.methods.length c4) (.slice A5 t.overs.length c5)
    have d0 := heap_cell e5 0 _ rfl
    have d1 := heap_cell e5 1 _ rfl
    have d2 := heap_cell e5 2 _ rfl
    have d3 := heap_cell e5 3 _ rfl
    have d4 := heap_cell e5 4 _ rfl
    have d5 := heap_cell e5 5 _ rfl
    have d6 := heap_cell e5 6 _ rfl
    have d7 := heap_cell e5 7 _ rfl
    have d8 := heap_cell e5 8 _ rfl
    have d9 := heap_cell e5 9 _ rfl
    have hm : turnT f t = ⟨t.kind, t.low, t.high, t.branded, t.brand, t.opaq, f t.super, t.parts.map (turnP f), t.methods.map (turnM f), t.overs⟩ := by unfold turnT; rw [Hs0.out]; rfl
    rw [hm]
    refine bodyPost_ret (v := .agg #[.int .u8 t.kind, .int .i64 t.low, .int .i64 t.high, .bool t.branded, .string t.brand, .string t.opaq, .int .i64 (f t.super), .slice A3 t.parts.length c3, .slice A4 t.methods.length c4, .slice A5 t.overs.length c5]) ?_ rfl ?_
    · simp [results, Tryz.results72, go_sem, d0, d1, d2, d3, d4, d5, d6, d7, d8, d9]
    · refine ⟨_, rfl, ⟨_, ⟨_, _, _, rfl, ?_, ?_, ?_⟩, rfl⟩, ?_⟩
      · refine (Hv3.out.set (show w.heap.size < w.heap.size + 3 by omega) 9 (.slice A5 t.overs.length c5)).mono (fun b hb _ => ?_) (fun b hb _ => (by unfold New; omega))
        rw [Below.heap_setCell _ _ _ _ (by simp; omega), Below.heap_setCell _ _ _ _ (by simp; omega), Below.heap_setCell _ _ _ _ (by simp; omega), Below.heap_setCell _ _ _ _ (by simp; omega), Below.heap_setCell _ _ _ _ (by simp; omega), Below.heap_setCell _ _ _ _ (by simp; omega), Below.heap_setCell _ _ _ _ (by simp; omega), Below.heap_setCell _ _ _ _ (by simp; omega), Below.heap_setCell _ _ _ _ (by simp; omega), Below.heap_setCell _ _ _ _ (by simp; omega)]
      · refine (Hv4.out.set (show w.heap.size < w.heap.size + 3 by omega) 9 (.slice A5 t.overs.length c5)).mono (fun b hb _ => ?_) (fun b hb _ => (by unfold New; omega))
        rw [Below.heap_setCell _ _ _ _ (by simp; omega), Below.heap_setCell _ _ _ _ (by simp; omega), Below.heap_setCell _ _ _ _ (by simp; omega), Below.heap_setCell _ _ _ _ (by simp; omega), Below.heap_setCell _ _ _ _ (by simp; omega), Below.heap_setCell _ _ _ _ (by simp; omega), Below.heap_setCell _ _ _ _ (by simp; omega), Below.heap_setCell _ _ _ _ (by simp; omega), Below.heap_setCell _ _ _ _ (by simp; omega), Below.heap_setCell _ _ _ _ (by simp; omega)]
      · refine (Hv5.out.set (show w.heap.size < w.heap.size + 3 by omega) 9 (.slice A5 t.overs.length c5)).mono (fun b hb _ => ?_) (fun b hb _ => (by unfold New; omega))
        rw [Below.heap_setCell _ _ _ _ (by simp; omega), Below.heap_setCell _ _ _ _ (by simp; omega), Below.heap_setCell _ _ _ _ (by simp; omega), Below.heap_setCell _ _ _ _ (by simp; omega), Below.heap_setCell _ _ _ _ (by simp; omega), Below.heap_setCell _ _ _ _ (by simp; omega), Below.heap_setCell _ _ _ _ (by simp; omega), Below.heap_setCell _ _ _ _ (by simp; omega), Below.heap_setCell _ _ _ _ (by simp; omega), Below.heap_setCell _ _ _ _ (by simp; omega)]
      · exact ((((((((((Hst2.out.ext).setCell (by simp; omega) _).setCell (by simp; omega) _).setCell (by simp; omega) _).setCell (by simp; omega) _).setCell (by simp; omega) _).setCell (by simp; omega) _).setCell (by simp; omega) _).setCell (by simp; omega) _).setCell (by simp; omega) _).setCell (by simp; omega) _
end Go.Proofs.YtldnjnnhfeobdaaGreatDoor
/- Contract: Merge. Conditions: lengths below 2^20. -/
namespace Go.Proofs.YtldnjnnhfeobdaaGreatDoor
set_option linter.all false
set_option linter.unusedSimpArgs false
set_option linter.unusedVariables false
open Go.RowKit Go.Shelf

/-- how many stand for themselves -/
def repsN (cs : List Nat) (k : Nat) : Nat := (List.range k).countP fun i => cs.getD i 0 == i
def placeL (cs : List Nat) (n k : Nat) : List Nat := (List.range n).map fun i => if i < k ∧ cs.getD i 0 = i then repsN cs i else 0
def toF (cs pl : List Nat) (x : Int) : Int := (pl.getD (cs.getD x.toNat 0) 0 : Nat)
def mergeL (g : Graph) (cs pl : List Nat) (k : Nat) : List Ty := ((List.range k).filter fun i => cs.getD i 0 == i).map fun i => turnT (toF cs pl) (getT g i)
def mergeG (g : Graph) : Graph := if errG g [] = 0 then mergeL g (classesG g) (placeL (classesG g) g.length g.length) g.length else []
def mergeTo (g : Graph) : List Int := if errG g [] = 0 then (classesG g).map (fun c => ((placeL (classesG g) g.length g.length).getD c 0 : Int)) else []
theorem repsN_succ (cs : List Nat) (k : Nat) : repsN cs (k + 1) = repsN cs k + if cs.getD k 0 = k then 1 else 0 := by
  unfold repsN
  rw [List.range_succ, List.countP_append]
  by_cases h : cs.getD k 0 = k <;> simp [h, List.countP_cons]
theorem repsN_le (cs : List Nat) (k : Nat) : repsN cs k ≤ k := by
  have := List.countP_le_length (p := fun i => cs.getD i 0 == i) (l := List.range k)
  unfold repsN
  simpa using this
theorem placeL_length (cs : List Nat) (n k : Nat) : (placeL cs n k).length = n := by simp [placeL]
theorem placeL_zero (cs : List Nat) (n : Nat) : placeL cs n 0 = List.replicate n 0 := by
  refine List.ext_getElem (by simp [placeL]) fun i h1 h2 => ?_
  simp [placeL]
theorem placeL_yes {cs : List Nat} {n k : Nat} (hk : k < n) (h : cs.getD k 0 = k) : (placeL cs n k).set k (repsN cs k) = placeL cs n (k + 1) := by
  refine List.ext_getElem (by simp [placeL]) fun i h1 h2 => ?_
  rw [List.getElem_set]
  simp only [placeL, List.getElem_map, List.getElem_range]
  by_cases e : k = i
  · subst e; rw [if_pos rfl, if_pos ⟨by omega, h⟩]
  · rw [if_neg e]
    by_cases h3 : i < k ∧ cs.getD i 0 = i
    · rw [if_pos h3, if_pos ⟨by omega, h3.2⟩]
    · rw [if_neg h3, if_neg (fun h4 => h3 ⟨by omega, h4.2⟩)]
theorem placeL_no {cs : List Nat} {n k : Nat} (h : cs.getD k 0 ≠ k) : placeL cs n (k + 1) = placeL cs n k := by
  refine List.ext_getElem (by simp [placeL]) fun i h1 h2 => ?_
  simp only [placeL, List.getElem_map, List.getElem_range]
  by_cases h3 : i < k ∧ cs.getD i 0 = i
  · rw [if_pos h3, if_pos ⟨by omega, h3.2⟩]
  · rw [if_neg h3, if_neg (fun h4 => h3 ⟨by have : i ≠ k := fun e => h (e ▸ h4.2); omega, h4.2⟩)]
theorem mergeL_succ (g : Graph) (cs pl : List Nat) (k : Nat) : mergeL g cs pl (k + 1) = mergeL g cs pl k ++ if cs.getD k 0 = k then [turnT (toF cs pl) (getT g k)] else [] := by
  unfold mergeL
  rw [List.range_succ, List.filter_append, List.map_append]
  congr 1
  simp only [List.filter_cons, List.filter_nil]
  by_cases h : cs.getD k 0 = k
  · rw [if_pos h, if_pos (beq_iff_eq.2 h)]; rfl
  · rw [if_neg h, if_neg (fun h' => h (beq_iff_eq.1 h'))]; rfl
theorem mergeL_le (g : Graph) (cs pl : List Nat) (k : Nat) : (mergeL g cs pl k).length ≤ k := by
  unfold mergeL
  rw [List.length_map]
  have := List.length_filter_le (fun i => cs.getD i 0 == i) (List.range k)
  simpa using this

/-! ### what holds while the graph is merged -/
structure GSt (w : World) (b7 b8 Bp : Nat) (Ac : Option Addr) (cc n : Nat) (cs pl : List Nat) (wr : World) : Prop where
  ext : Ext w wr
  cbox : Boxed wr b7 24 (.slice Ac n cc)
  pbox : Boxed wr b8 24 (.slice (some ⟨Bp, 0, none⟩) n n)
  row : IntRow wr Bp pl
  cls : SlF (fun b => b < Bp) intE wr (.slice Ac n cc) (cs.map fun (n : Nat) => (n : Int))
  len : cs.length = n ∧ pl.length = n
  nb : w.heap.size ≤ Bp ∧ b7 < Bp ∧ Bp < b8
section
variable {w wr wr' : World} {b7 b8 Bp : Nat} {Ac : Option Addr} {cc n : Nat} {cs pl : List Nat}
theorem GSt.later (h : GSt w b7 b8 Bp Ac cc n cs pl wr) (hx : Ext wr wr') : GSt w b7 b8 Bp Ac cc n cs pl wr' :=
  ⟨h.ext.trans hx, Boxed.ext h.cbox hx, Boxed.ext h.pbox hx, h.row.ext hx, h.cls.ext hx, h.len, h.nb⟩
theorem GSt.set (h : GSt w b7 b8 Bp Ac cc n cs pl wr) (i v : Nat) : GSt w b7 b8 Bp Ac cc n cs (pl.set i v) (wr.setCell ⟨Bp, i, none⟩ (.int .i64 (v : Int))) :=
  ⟨h.ext.setCell h.nb.1 _, Boxed.other' h.cbox _ (by have := h.nb.2.1; omega), Boxed.other' h.pbox _ (by have := h.nb.2.2; omega), h.row.set i v,
   h.cls.mono (fun b hb _ => Below.heap_setCell _ _ _ _ (by simp; omega)) (fun _ h _ => h), ⟨h.len.1, by simp [h.len.2]⟩, h.nb⟩
theorem GSt.class (h : GSt w b7 b8 Bp Ac cc n cs pl wr) (i : Nat) (hi : i < n) : ∃ b off, Ac = some ⟨b, off, none⟩ ∧ wr.cell? ⟨b, off + i, none⟩ = some (.int .i64 (cs.getD i 0 : Nat)) := by
  obtain ⟨A, c, e, hc⟩ := Sl.nat h.cls.any
  simp only [Value.slice.injEq] at e
  obtain ⟨rfl, _, _⟩ := e
  exact hc i (by rw [h.len.1]; exact hi)
end
set_option maxRecDepth 100000 in
theorem merge1_any (w0 w : World) (b7 b8 Bp : Nat) (Ac : Option Addr) (cc n i : Nat) (cs pl : List Nat) (h : GSt w0 b7 b8 Bp Ac cc n cs pl w) (hi : i < n) (hn : n ≤ 1048576) (hc : ∀ k, k < n → cs.getD k 0 < n) :
    Calls Tryz.prog 71 #[.int .i64 i, .pointer (some ⟨b8, 0, none⟩), .pointer (some ⟨b7, 0, none⟩)] w (Ret w (.int .i64 (toF cs pl i))) := by
  have c7 := h.cbox.cell
  have c8 := h.pbox.cell
  obtain ⟨b, off, rfl, c1⟩ := h.class i hi
  have hci := hc i hi
  have c2 := h.row.cell (cs.getD i 0) (by rw [h.len.2]; exact hci)
  unfold toF
  rw [Int.toNat_natCast]
  generalize cs.getD i 0 = c at *
  have l7 := cell_lt c7
  have l8 := cell_lt c8
  have l1 := cell_lt c1
  have l2 := cell_lt c2
  have i0 : (0 : Int) ≤ (i : Int) := by omega
  have i1 : (i : Int) < (n : Int) := by omega
  have i2 : (0 : Int) ≤ (c : Int) := by omega
  have i3 : (c : Int) < (n : Int) := by omega
  clear h hc
  go_enter Tryz.func71, Tryz.ntmps71
  go_wp2_with fail
  go_quiet (fail)
  go_wp2_with fail
  go_ret
  exact ⟨rfl, (Ext.refl w).drewN _⟩
set_option maxRecDepth 100000 in
theorem merge2_any (w0 w : World) (b7 b8 Bp : Nat) (Ac : Option Addr) (cc n i : Nat) (cs pl : List Nat) (h : GSt w0 b7 b8 Bp Ac cc n cs pl w) (hi : i < n) (hn : n ≤ 1048576) :
    Calls Tryz.prog 74 #[.int .i64 i, .pointer (some ⟨b8, 0, none⟩)] w (Ret w (.int .i64 (pl.getD i 0 : Nat))) := by
  have c8 := h.pbox.cell
  have c2 := h.row.cell i (by rw [h.len.2]; exact hi)
  have l8 := cell_lt c8
  have l2 := cell_lt c2
  have i0 : (0 : Int) ≤ (i : Int) := by omega
  have i1 : (i : Int) < (n : Int) := by omega
  clear h
  go_enter Tryz.func74, Tryz.ntmps74
  go_wp2_with fail
  go_ret
  exact ⟨rfl, Ext.refl w⟩
theorem top71 {w0 w : World} {b7 b8 Bp : Nat} {Ac : Option Addr} {cc n : Nat} {cs pl : List Nat} (h : GSt w0 b7 b8 Bp Ac cc n cs pl w) (hn : n ≤ 1048576) (hc : ∀ k, k < n → cs.getD k 0 < n) :
    ToP w 71 #[.pointer (some ⟨b8, 0, none⟩), .pointer (some ⟨b7, 0, none⟩)] (toF cs pl) (fun i => 0 ≤ i ∧ i < n) :=
  ⟨enters_of Tryz.func71 (by kernel_rfl) rfl, fun i hi w' hx => by
    obtain ⟨j, rfl⟩ := Int.eq_ofNat_of_zero_le hi.1
    exact merge1_any w0 w' b7 b8 Bp Ac cc n j cs pl (h.later hx) (by omega) hn hc⟩
theorem map74 {w0 w : World} {b7 b8 Bp : Nat} {Ac : Option Addr} {cc n : Nat} {cs pl : List Nat} (h : GSt w0 b7 b8 Bp Ac cc n cs pl w) (hn : n ≤ 1048576) (xs : List Int) (hx : ∀ x ∈ xs, 0 ≤ x ∧ x < n) :
    MapP intE intE w 74 #[.pointer (some ⟨b8, 0, none⟩)] xs (fun x => (pl.getD x.toNat 0 : Nat)) :=
  ⟨enters_of Tryz.func74 (by kernel_rfl) rfl, by
    rintro x hm w' A hxt ⟨_, rfl, rfl⟩
    obtain ⟨j, rfl⟩ := Int.eq_ofNat_of_zero_le (hx x hm).1
    exact res_int (merge2_any w0 w' b7 b8 Bp Ac cc n j cs pl (h.later hxt) (by have := (hx _ hm).2; omega) hn)⟩
end Go.Proofs.YtldnjnnhfeobdaaGreatDoor
/- Contract: Merge. Conditions: lengths below 2^20. -/
namespace Go.Proofs.YtldnjnnhfeobdaaGreatDoor
set_option linter.all false
set_option linter.unusedSimpArgs false
set_option linter.unusedVariables false
open Go.RowKit Go.Shelf

def MergePost (w : World) (g : Graph) (e : Ending) (w' : World) : Prop :=
  ∃ v1 v2, e = .returned (.tuple #[v1, v2, .int .i64 (errG g [])]) ∧ Sl tyE w' v1 (mergeG g) ∧ Sl intE w' v2 (mergeTo g) ∧ Ext w w'
theorem slice23 : SliceOf Tryz.prog 23 42 10 144 := .mk' Tryz.underlying23 (by kernel_rfl)
theorem clsN_lt {g : Graph} (h : WF g) : ∀ k, k < g.length → (classesG g).getD k 0 < g.length := fun k hk => by
  have := (classesN_facts h.abs).1.le k hk
  show (classesN (agN g) (refsN g) g.length).getD k 0 < g.length
  omega
set_option maxRecDepth 100000 in
set_option maxHeartbeats 16000000 in
theorem merge_any (w : World) (gv : Value) (g : Graph) (hg : Sl tyE w gv g) (hT : Tidy g) (hG : Glob w) :
    Calls Tryz.prog 31 #[gv] w (MergePost w g) := by
  have hop := opened_any w gv (.slice none 0 0) g [] hg hT hG (Sl.nil _ _) (by simp)
  have hcl := fun (hW : WF g) (w' : World) (hx : Ext w w') => classes_any w' gv g (hg.mono hx) hT hW
  have hn := hT.len
  have hmk := fun w' => make_zeros w' g.length hn
  have hty := hT.ty
  have hg' := hg
  obtain ⟨A, cap, rfl, hs⟩ := hg.ty
  unfold MergePost mergeG mergeTo
  by_cases h0 : errG g [] = 0
  · rw [if_pos h0, if_pos h0]
    rw [h0] at hop ⊢
    have hW := (errG_zero h0).1
    have hcl := hcl hW
    have hcs := clsN_lt hW
    have hcl2 := classesG_length g hW
    have hfr := fun i (hi : i < g.length) => (hW.fine (getT_mem hi)).refs
    generalize classesG g = cs at *
    have Hop := Lib.hid hop
    have Hcl := Lib.hid hcl
    have Hcs := Lib.hid hcs
    have Hl := Lib.hid hcl2
    have Hs := Lib.hid hs
    have Hfr := Lib.hid hfr
    have Hty := Lib.hid hty
    have Hg := Lib.hid hg'
    clear hop hcl hcs hcl2 hs hg hg' hT hG h0 hW hfr hty
    go_enter Tryz.func31, Tryz.ntmps31
    go_wp2_with fail
    refine Hop.out.mono ?_
    rintro e w1 ⟨rfl, hx1⟩
    have Hx1 := Lib.hid (hx1.alloc (.cells #[.slice A g.length cap] 77))
    have hbx := heap_cell (heap_alloc_self w1 (.cells #[.slice A g.length cap] 77)) 0 _ rfl
    clear hx1
    go_wp2_with fail
    refine (Hcl.out _ Hx1.out).mono ?_
    rintro e w2 ⟨v2, rfl, hv2, hx2⟩
    obtain ⟨Ac, cc, e2⟩ := hv2.any.len
    rw [List.length_map, Hl.out] at e2
    subst e2
    have hst : GSt w w2.heap.size (w2.heap.size + 1 + 1) (w2.heap.size + 1) Ac cc g.length cs (placeL cs g.length 0) (((w2.alloc (.cells #[.slice Ac g.length cc] 24)).alloc (zeros g.length)).alloc (.cells #[.slice (some ⟨w2.heap.size + 1, 0, none⟩) g.length g.length] 24)) := by
      have e1 := heap_alloc_self w2 (.cells #[.slice Ac g.length cc] 24)
      have e2 := heap_alloc_self (w2.alloc (.cells #[.slice Ac g.length cc] 24)) (zeros g.length)
      have e3 := heap_alloc_self ((w2.alloc (.cells #[.slice Ac g.length cc] 24)).alloc (zeros g.length)) (.cells #[.slice (some ⟨w2.heap.size + 1, 0, none⟩) g.length g.length] 24)
      simp only [World.size_alloc] at e2 e3
      have hx := Hx1.out.trans hx2
      have hsz := hx.size
      refine ⟨((hx.alloc _).alloc _).alloc _, Boxed.ext (Boxed.ext e1 ((Ext.refl _).alloc _)) ((Ext.refl _).alloc _), e3, ?_, ?_, ⟨Hl.out, placeL_length _ _ _⟩, by omega, by omega, by omega⟩
      · rw [placeL_zero]; exact IntRow.ext e2 ((Ext.refl _).alloc _)
      · have h := hv2.mono (G := fun b => b < w2.heap.size + 1) (fun _ _ _ => rfl) (fun b _ hlt => by omega)
        exact ((h.ext ((Ext.refl _).alloc _)).ext ((Ext.refl _).alloc _)).ext ((Ext.refl _).alloc _)
    have Hst := Lib.hid hst
    clear hst hv2 hx2 hbx Hx1
    go_wp2_with fail
    generalize ((w2.alloc (.cells #[.slice Ac g.length cc] 24)).alloc (zeros g.length)).alloc (.cells #[.slice (some ⟨w2.heap.size + 1, 0, none⟩) g.length g.length] 24) = w3 at Hst ⊢
    generalize w2.heap.size = b7 at Hst ⊢
    go_loopw [9, 31] (fun nn u wr => ∃ k : Nat, k ≤ g.length ∧ u = .int .i64 k ∧ nn = .int .i64 (repsN cs k : Nat) ∧ Hid (GSt w b7 (b7 + 1 + 1) (b7 + 1) Ac cc g.length cs (placeL cs g.length k) wr)) (fun _ u _ => g.length - (intOf u).toNat)
    case atStart => exact ⟨0, by omega, rfl, rfl, Hst⟩
    case round =>
      clear Hst
      obtain ⟨k, hk, rfl, rfl, Hst⟩ := hrel
      have c8 := Hst.out.pbox.cell
      have c7 := Hst.out.cbox.cell
      have l8 := cell_lt c8
      have l7 := cell_lt c7
      have hrk := repsN_le cs k
      by_cases hlt : k < g.length
      · obtain ⟨b, off, rfl, c1⟩ := Hst.out.class k hlt
        have l1 := cell_lt c1
        have cr := Hst.out.row.cell k (by rw [placeL_length]; exact hlt)
        have fr := Hst.out.row.frozen k
        have lr := cell_lt cr
        have i0 : (0 : Int) ≤ (k : Int) := by omega
        have i1 : (k : Int) < (g.length : Int) := by omega
        by_cases he : cs.getD k 0 = k
        · have hset := placeL_yes hlt he
          have hsuc := repsN_succ cs k
          rw [if_pos he] at hsuc
          rw [he] at c1
          have Hset := Lib.hid hset
          have Hsuc := Lib.hid hsuc
          clear hset hsuc he
          go_wp2_with fail
          go_roundw
          case rel => exact ⟨k + 1, by omega, by go_num, by rw [Hsuc.out]; go_num, by rw [← Hset.out]; exact Lib.hid (Hst.out.set k (repsN cs k))⟩
          case measure => simp [intOf]; omega
        · have hno := placeL_no (n := g.length) he
          have hsuc := repsN_succ cs k
          rw [if_neg he, Nat.add_zero] at hsuc
          have hne : (((cs.getD k 0 : Nat) : Int) == (k : Int)) = false := by rw [beq_eq_false_iff_ne]; omega
          have Hno := Lib.hid hno
          have Hsuc := Lib.hid hsuc
          generalize cs.getD k 0 = c at *
          clear hno hsuc he
          go_wp2_with fail
          go_roundw
          case rel => exact ⟨k + 1, by omega, by go_num, by rw [Hsuc.out]; rfl, by rw [Hno.out]; exact Hst⟩
          case measure => simp [intOf]; omega
      · have hkn : k = g.length := by omega
        subst hkn
        have hmt : ∀ (w' : World) (hx : Ext wr w') (b : Nat) (off : Nat) (j : Nat) (hj : j < g.length) (vp vm vo : Value) (hof : TyOf w' (getT g j) vp vm vo),
            Calls Tryz.prog 72 #[tyV (getT g j) vp vm vo, .func (.func 71) #[] #[.pointer (some ⟨b7 + 1 + 1, 0, none⟩), .pointer (some ⟨b7, 0, none⟩)]] w' (RetP w' (Res tyE w' (turnT (toF cs (placeL cs g.length g.length)) (getT g j)))) := fun w' hx b off j hj vp vm vo hof =>
          moved_any w' 71 _ _ _ (getT g j) vp vm vo hof (Hty.out _ (getT_mem hj)).1 (top71 (Hst.out.later hx) hn Hcs.out) (fun r hr => Hfr.out j hj r hr)
        have hlast : ∀ (w' : World) (hx : Ext wr w'), Calls Tryz.prog 73 #[.slice Ac g.length cc, .func (.func 74) #[] #[.pointer (some ⟨b7 + 1 + 1, 0, none⟩)]] w' (RetP w' (fun w'' u => SlF (New w') intE w'' u ((cs.map fun (n : Nat) => (n : Int)).map (fun x => ((placeL cs g.length g.length).getD x.toNat 0 : Nat))))) := fun w' hx =>
          turned_int_int 74 _ w' _ _ _ ((Hst.out.later hx).cls.any) (by rw [List.length_map, Hl.out]; exact hn) (map74 (Hst.out.later hx) hn _ (fun x hx => by
            obtain ⟨c, hc, rfl⟩ := List.mem_map.1 hx
            obtain ⟨i, hi, rfl⟩ := List.mem_iff_getElem.1 hc
            have := Hcs.out i (by rw [← Hl.out]; exact hi)
            rw [List.getD_eq_getElem?_getD, List.getElem?_eq_getElem hi] at this
            simp at this
            omega))
        have Hmt := Lib.hid hmt
        have Hlast := Lib.hid hlast
        clear hmt hlast c7 c8 l7 l8 hk hrk hlt
        go_wp2_with fail
        obtain ⟨wo, rfl⟩ : ∃ wo : World, wo = wr := ⟨_, rfl⟩
        generalize hpl : placeL cs g.length g.length = pl at *
        have Hpl := Lib.hid hpl
        clear hpl
        go_loopw [13, 49] (fun o u wr => ∃ k : Nat, k ≤ g.length ∧ u = .int .i64 k ∧ Hid (Ext wo wr) ∧ Hid (Own (New w) tyE wr wo.heap.size 42 o (mergeL g cs pl k))) (fun _ u _ => g.length - (intOf u).toNat)
        case atStart => exact ⟨0, by omega, rfl, Lib.hid (Ext.refl _), Lib.hid (Own.nil _ _ _ _ _)⟩
        case round =>
          obtain ⟨k, hk, rfl, Hx, Hown⟩ := hrel
          have Hst2 := Lib.hid (Hst.out.later Hx.out)
          have hsz0 := Hst2.out.ext.size
          have c8 := Hst2.out.pbox.cell
          have c7 := Hst2.out.cbox.cell
          have l8 := cell_lt c8
          have l7 := cell_lt c7
          have hmk := mergeL_le g cs pl k
          by_cases hlt : k < g.length
          · obtain ⟨b, off, vp, vm, vo, rfl, hat, hof⟩ := Hs.out k hlt
            rw [← getT_lt hlt] at hat hof
            obtain ⟨A1, c1, e1⟩ := hof.parts.len
            obtain ⟨A2, c2, e2⟩ := hof.methods.len
            obtain ⟨A3, c3, e3⟩ := hof.overs.len
            subst e1 e2 e3
            have Hof := Lib.hid hof
            obtain ⟨d0, d1, d2, d3, d4, d5, d6, d7, d8, d9⟩ := hat.mono Hst2.out.ext
            have ld := cell_lt d0
            obtain ⟨bc, oc, rfl, cc1⟩ := Hst2.out.class k hlt
            have lc := cell_lt cc1
            have i0 : (0 : Int) ≤ (k : Int) := by omega
            have i1 : (k : Int) < (g.length : Int) := by omega
            clear hof hat
            by_cases he : cs.getD k 0 = k
            · have hsuc := mergeL_succ g cs pl k
              rw [if_pos he] at hsuc
              rw [he] at cc1
              have Hsuc := Lib.hid hsuc
              have hmv := fun (w' : World) (hx : Ext wr w') => Hmt.out w' (Hx.out.trans hx) b off k hlt _ _ _ (Hof.out.mono (Hst2.out.ext.trans hx))
              unfold tyV at hmv
              have Hmv := Lib.hid hmv
              clear hsuc he hmv
              generalize getT g k = t at *
              go_wp2_with fail
              refine (Hmv.out _ ((Ext.refl wr).alloc _)).mono ?_
              rintro e w5 ⟨v5, rfl, ⟨cs5, hrel, rfl⟩, hx5⟩
              have hx6 := ((Ext.refl wr).alloc (.cells #[.int .u8 t.kind, .int .i64 t.low, .int .i64 t.high, .bool t.branded, .string t.brand, .string t.opaq, .int .i64 t.super, .slice A1 t.parts.length c1, .slice A2 t.methods.length c2, .slice A3 t.overs.length c3] 42)).trans hx5
              have hown1 := Hown.out.kept hx6
              have Hlt : ∀ k, u13.ownBlock = some k → k < wr.heap.size := fun k hk => (Hown.out.lt k hk).2
              have Hrel : Hid (tyE.rel (fun b => New w b ∧ some b ≠ u13.ownBlock) w5 (turnT (toF cs pl) t) cs5) := tyE.mono _ _ _ _ _ _ (fun _ _ _ => rfl) (fun b hb _ => ⟨by unfold New at hb ⊢; simp at hb; omega, fun e => by have h1 := Hlt b e.symm; have h2 : _ ≤ b := hb; (try simp at h2); omega⟩) hrel
              obtain ⟨_, _, _, rfl, ⟨_, _, rfl, _⟩, ⟨_, _, rfl, _⟩, ⟨_, _, rfl, _⟩⟩ := hrel
              have Hown1 := Lib.hid hown1
              have Hx6 := Lib.hid hx6
              have hsz := (Hx.out.trans hx6).size
              clear hown1 Hown hx5 hx6 Hlt d0 d1 d2 d3 d4 d5 d6 d7 d8 d9 ld cc1 lc c7 c8 l7 l8
              simp only [pack]
              go_wp2_with (at_builtin; refine own_append tyE wo.heap.size rfl _ _ 23 42 144 rfl slice23 _ _ (turnT (toF cs pl) t) _ rfl rfl Hown1.out Hrel.out ?c1 ?c2 ?c3 ?_)
              case c1 => exact hsz
              case c2 => omega
              case c3 => decide
              intro v2 w6 hown2 hg2
              rw [← Hsuc.out] at hown2
              have hx7 : Ext wo w6 := Below.grown (Hx.out.trans Hx6.out) hg2 (Hx.out.trans Hx6.out).size (fun k hk => (Hown1.out.lt k hk).1)
              have Hx7 := Lib.hid hx7
              have Hown2 := Lib.hid hown2
              clear hg2 Hown1 Hx6 Hrel hown2 hx7
              go_wp2_with fail
              go_roundw
              case rel => exact ⟨k + 1, by omega, by go_num, Hx7, Hown2⟩
              case measure => simp [intOf]; omega
            · have hsuc := mergeL_succ g cs pl k
              rw [if_neg he, List.append_nil] at hsuc
              have hne : (((cs.getD k 0 : Nat) : Int) == (k : Int)) = false := by rw [beq_eq_false_iff_ne]; omega
              have Hsuc := Lib.hid hsuc
              generalize cs.getD k 0 = c at *
              clear hsuc he
              generalize getT g k = t at *
              go_wp2_with fail
              go_roundw
              case rel => exact ⟨k + 1, by omega, by go_num, Lib.hid (Hx.out.alloc _), by rw [Hsuc.out]; exact Lib.hid (Hown.out.kept ((Ext.refl wr).alloc _))⟩
              case measure => simp [intOf]; omega
          · have hkn : k = g.length := by omega
            subst hkn
            have hsl := Hown.out.sl (fun b hb => by have h := Hst.out.ext.size; show w.heap.size ≤ b; omega)
            have Hsl := Lib.hid hsl
            clear hsl hlt
            go_wp2_with fail
            refine (Hlast.out _ Hx.out).mono ?_
            rintro e w5 ⟨v5, rfl, hv5, hx5⟩
            have Hv5 := Lib.hid hv5
            have Hx5 := Lib.hid (Hst2.out.ext.trans hx5)
            have Hsl5 := Lib.hid (Hsl.out.any.mono hx5)
            clear hv5 hx5 c7 c8 l7 l8
            go_wp2_with fail
            go_ret3
            refine ⟨u13, v5, rfl, by rw [Hpl.out]; exact Hsl5.out, ?_, Hx5.out⟩
            rw [Hpl.out]
            have h := Hv5.out.any
            rw [List.map_map] at h
            exact h
  · rw [if_neg h0, if_neg h0]
    have hne : (errG g [] != 0) = true := by simpa using h0
    generalize errG g [] = er at hop hne ⊢
    have Hop := Lib.hid hop
    clear hop hcl hg hg' hs hT hG h0 hmk hty
    go_enter Tryz.func31, Tryz.ntmps31
    go_wp2_with fail
    refine Hop.out.mono ?_
    rintro e w1 ⟨rfl, hx1⟩
    go_wp2_with fail
    go_ret3
    exact ⟨_, _, rfl, Sl.nil _ _, Sl.nil _ _, hx1.alloc _⟩
end Go.Proofs.YtldnjnnhfeobdaaGreatDoor
/- The law's own example: what the plain functions say of it. No program. -/
namespace Go.Proofs.YtldnjnnhfeobdaaGreatDoor
set_option linter.all false
set_option linter.unusedSimpArgs false
set_option linter.unusedVariables false
open Go.RowKit Go.Shelf

def headS : ByteArray := ⟨#[104, 101, 97, 100]⟩
def tailS : ByteArray := ⟨#[116, 97, 105, 108]⟩
def emptyS : ByteArray := ⟨#[]⟩
def recT (a b : Int) : Ty := ⟨10, 0, 0, false, emptyS, emptyS, 0, [⟨headS, a⟩, ⟨tailS, b⟩], [], []⟩
def listsG : Graph := [⟨1, 0, 0, false, emptyS, emptyS, 0, [], [], []⟩, recT 0 1, recT 0 3, recT 0 2, ⟨9, 0, 0, false, emptyS, emptyS, 0, [⟨emptyS, 1⟩], [], []⟩, ⟨3, 0, 9, false, emptyS, emptyS, 0, [], [], []⟩, recT 5 6]
theorem lists_check : checkG listsG = (0, 0) := by decide +kernel
theorem lists_classes : classesG listsG = [0, 1, 1, 1, 4, 5, 6] := by decide +kernel
theorem lists_way : wayN (agN listsG) (refsN listsG) 7 1 6 = some [0] := by decide +kernel
theorem lists_err (ats : List Int) (h : ats.any (outB 7) = false) : errG listsG ats = 0 := by
  unfold errG
  rw [lists_check]
  simp [listsG] at h ⊢
  exact h
theorem lists_equal : equalG listsG 1 2 = true := by
  unfold equalG sameG
  rw [lists_err _ (by decide), lists_classes]
  decide
theorem lists_differ : equalG listsG 1 6 = false := by
  unfold equalG sameG
  rw [lists_err _ (by decide), lists_classes]
  decide
theorem lists_apart : apartG listsG 1 6 = some [0] := by
  unfold apartG
  rw [lists_err _ (by decide), if_pos rfl]
  exact lists_way
theorem lists_told : checkApartG listsG 1 6 [1, 0] = true := by
  unfold checkApartG
  rw [lists_err _ (by decide), if_pos rfl]
  decide +kernel
theorem lists_merge : (mergeG listsG).length = 5 := by
  unfold mergeG
  rw [lists_err _ (by decide), if_pos rfl, lists_classes]
  decide +kernel
theorem lists_to : mergeTo listsG = [0, 1, 1, 1, 2, 3, 4] := by
  unfold mergeTo
  rw [lists_err _ (by decide), if_pos rfl, lists_classes]
  decide +kernel
theorem lists_text : (textG listsG 3).toArray = #[49, 48, 32, 45, 32, 104, 101, 97, 100, 58, 49, 32, 116, 97, 105, 108, 58, 48, 10, 49, 10] := by decide +kernel
theorem lists_text0 : (textG listsG 0).toArray = #[49, 10] := by decide +kernel
theorem empty_digest : digestB ⟨#[]⟩ = ⟨#[84, 48, 48, 48, 48, 48, 48, 48, 48, 48, 52, 53, 72]⟩ := by decide +kernel
end Go.Proofs.YtldnjnnhfeobdaaGreatDoor
/- Contracts: record, lists, of the law. No condition. -/
namespace Go.Proofs.YtldnjnnhfeobdaaGreatDoor
set_option linter.all false
set_option linter.unusedSimpArgs false
set_option linter.unusedVariables false
open Go.RowKit Go.Shelf

theorem lit_sl {α : Type} {E : Elt α} {F : Nat → Prop} (W : World) (t : TypeId) (xs : List α) (rows : List (List Value)) (n : Nat) (hl : rows.length = xs.length) (hn : n = xs.length) (hF : F W.heap.size)
    (hr : ∀ (i : Nat) (x : α) (r : List Value), xs[i]? = some x → rows[i]? = some r → E.rel F W x r) : SlF F E (W.alloc (.cells rows.flatten.toArray t)) (.slice (some ⟨W.heap.size, 0, none⟩) n n) xs := by
  subst hn
  have hk : ∀ r ∈ rows, r.length = E.k := by
    intro r hm
    obtain ⟨i, hi, rfl⟩ := List.mem_iff_getElem.1 hm
    exact E.len _ _ _ _ (hr i (xs[i]'(by omega)) rows[i] (List.getElem?_eq_getElem (by omega)) (List.getElem?_eq_getElem hi))
  refine ⟨_, _, rfl, fun i x hi => ?_⟩
  have hlt : i < xs.length := (List.getElem?_eq_some_iff.1 hi).1
  have hrow : rows[i]? = some (rows[i]'(by omega)) := List.getElem?_eq_getElem (by omega)
  refine ⟨W.heap.size, 0, rows[i]'(by omega), rfl, ⟨hF, Nat.le_refl _⟩, Elt.ext (hr i x _ hi hrow) ((Ext.refl W).alloc _), fun j u hj => ?_⟩
  rw [World.cell?_alloc_new]
  have := flatten_get rows hk i j _ u hrow hj
  simpa using this

set_option maxRecDepth 100000 in
set_option maxHeartbeats 4000000 in
theorem record_any (w : World) (a b : Int) : Calls Tryz.prog 101 #[.int .i64 a, .int .i64 b] w (RetP w (Res tyE w (recT a b))) := by
  go_enter Tryz.func101, Tryz.ntmps101
  go_wp2_with fail
  have e := Ext.heap ((Ext.refl (w.alloc (.cells #[.int .u8 10, .int .i64 0, .int .i64 0, .bool false, .string ⟨#[]⟩, .string ⟨#[]⟩, .int .i64 0, .slice (some ⟨w.heap.size + 1, 0, none⟩) 2 2, .slice none 0 0, .slice none 0 0] 42))).alloc (.cells #[.string ⟨#[104, 101, 97, 100]⟩, .int .i64 a, .string ⟨#[116, 97, 105, 108]⟩, .int .i64 b] 95)) (heap_alloc_self w (.cells #[.int .u8 10, .int .i64 0, .int .i64 0, .bool false, .string ⟨#[]⟩, .string ⟨#[]⟩, .int .i64 0, .slice (some ⟨w.heap.size + 1, 0, none⟩) 2 2, .slice none 0 0, .slice none 0 0] 42))
  have d0 := heap_cell e 0 _ rfl
  have d1 := heap_cell e 1 _ rfl
  have d2 := heap_cell e 2 _ rfl
  have d3 := heap_cell e 3 _ rfl
  have d4 := heap_cell e 4 _ rfl
  have d5 := heap_cell e 5 _ rfl
  have d6 := heap_cell e 6 _ rfl
  have d7 := heap_cell e 7 _ rfl
  have d8 := heap_cell e 8 _ rfl
  have d9 := heap_cell e 9 _ rfl
  refine bodyPost_ret (v := .agg #[.int .u8 10, .int .i64 0, .int .i64 0, .bool false, .string ⟨#[]⟩, .string ⟨#[]⟩, .int .i64 0, .slice (some ⟨w.heap.size + 1, 0, none⟩) 2 2, .slice none 0 0, .slice none 0 0]) ?_ rfl ?_
  · simp [results, Tryz.results101, go_sem, d0, d1, d2, d3, d4, d5, d6, d7, d8, d9]
  · refine ⟨_, rfl, ⟨_, ⟨_, _, _, rfl, ?_, SlF.nil _ _ _, SlF.nil _ _ _⟩, rfl⟩, ((Ext.refl w).alloc _).alloc _⟩
    have h := lit_sl (F := New w) (E := partE) (w.alloc (.cells #[.int .u8 10, .int .i64 0, .int .i64 0, .bool false, .string ⟨#[]⟩, .string ⟨#[]⟩, .int .i64 0, .slice (some ⟨w.heap.size + 1, 0, none⟩) 2 2, .slice none 0 0, .slice none 0 0] 42)) 95 [⟨headS, a⟩, ⟨tailS, b⟩] [[.string headS, .int .i64 a], [.string tailS, .int .i64 b]] 2 rfl rfl (by unfold New; simp) (fun i x r h1 h2 => by
      match i with
      | 0 => simp at h1 h2; subst h1 h2; rfl
      | 1 => simp at h1 h2; subst h1 h2; rfl
      | i + 2 => simp at h1)
    rw [World.size_alloc] at h
    exact h
set_option maxRecDepth 100000 in
set_option maxHeartbeats 4000000 in
theorem lists_any (w : World) : Calls Tryz.prog 53 #[] w (RetP w (fun w' v => SlF (New w) tyE w' v listsG)) := by
  have hr := record_any
  have Hr := Lib.hid hr
  clear hr
  go_enter Tryz.func53, Tryz.ntmps53
  go_wp2_with fail
  refine (Hr.out _ _ _).mono ?_
  rintro e w1 ⟨_, rfl, ⟨_, ⟨p1, m1', o1, rfl, h1p, h1m, h1o⟩, rfl⟩, hx1⟩
  simp only [pack]
  go_wp2_with fail
  refine (Hr.out _ _ _).mono ?_
  rintro e w2 ⟨_, rfl, ⟨_, ⟨p2, m2', o2, rfl, h2p, h2m, h2o⟩, rfl⟩, hx2⟩
  simp only [pack]
  go_wp2_with fail
  refine (Hr.out _ _ _).mono ?_
  rintro e w3 ⟨_, rfl, ⟨_, ⟨p3, m3', o3, rfl, h3p, h3m, h3o⟩, rfl⟩, hx3⟩
  simp only [pack]
  go_wp2_with fail
  refine (Hr.out _ _ _).mono ?_
  rintro e w4 ⟨_, rfl, ⟨_, ⟨p4, m4', o4, rfl, h4p, h4m, h4o⟩, rfl⟩, hx4⟩
  simp only [pack]
  go_wp2_with fail
  have hx := (hx1.trans (hx2.trans hx3)).alloc (.cells #[.string ⟨#[]⟩, .int .i64 1] 95)
  have hs1 := hx1.size
  have hs2 := hx2.size
  have hs3 := hx3.size
  have hs4 := hx4.size
  rw [World.size_alloc] at hs4
  have m1 : ∀ {α : Type} {E : Elt α} {v : Value} {xs : List α}, SlF (New w) E w1 v xs → SlF (New w) E w4 v xs := fun h => h.ext ((hx2.trans hx3).trans (((Ext.refl _).alloc _).trans hx4))
  have m2 : ∀ {α : Type} {E : Elt α} {v : Value} {xs : List α}, SlF (New w1) E w2 v xs → SlF (New w) E w4 v xs := fun h => (h.mono (fun _ _ _ => rfl) (fun b hb _ => by unfold New at hb ⊢; omega)).ext (hx3.trans (((Ext.refl _).alloc _).trans hx4))
  have m3 : ∀ {α : Type} {E : Elt α} {v : Value} {xs : List α}, SlF (New w2) E w3 v xs → SlF (New w) E w4 v xs := fun h => (h.mono (fun _ _ _ => rfl) (fun b hb _ => by unfold New at hb ⊢; omega)).ext (((Ext.refl _).alloc _).trans hx4)
  have m4 : ∀ {α : Type} {E : Elt α} {v : Value} {xs : List α}, SlF (New (w3.alloc (.cells #[.string ⟨#[]⟩, .int .i64 1] 95))) E w4 v xs → SlF (New w) E w4 v xs := fun h => h.mono (fun _ _ _ => rfl) (fun b hb _ => by unfold New at hb ⊢; rw [World.size_alloc] at hb; omega)
  have hp : SlF (New w) partE w4 (.slice (some ⟨w3.heap.size, 0, none⟩) 1 1) [(⟨emptyS, 1⟩ : Part)] := SlF.ext (lit_sl (α := Part) (E := partE) (F := New w) w3 95 [(⟨emptyS, 1⟩ : Part)] [[.string emptyS, .int .i64 1]] 1 rfl rfl (by unfold New; omega) (fun i x r h1 h2 => by
      match i with
      | 0 => simp at h1 h2; subst h1 h2; rfl
      | i + 1 => simp at h1)) hx4
  go_ret
  refine ⟨_, rfl, lit_sl (F := New w) w4 42 listsG [[.int .u8 1, .int .i64 0, .int .i64 0, .bool false, .string ⟨#[]⟩, .string ⟨#[]⟩, .int .i64 0, .slice none 0 0, .slice none 0 0, .slice none 0 0], [.int .u8 10, .int .i64 0, .int .i64 0, .bool false, .string ⟨#[]⟩, .string ⟨#[]⟩, .int .i64 0, p1, m1', o1], [.int .u8 10, .int .i64 0, .int .i64 0, .bool false, .string ⟨#[]⟩, .string ⟨#[]⟩, .int .i64 0, p2, m2', o2], [.int .u8 10, .int .i64 0, .int .i64 0, .bool false, .string ⟨#[]⟩, .string ⟨#[]⟩, .int .i64 0, p3, m3', o3], [.int .u8 9, .int .i64 0, .int .i64 0, .bool false, .string ⟨#[]⟩, .string ⟨#[]⟩, .int .i64 0, .slice (some ⟨w3.heap.size, 0, none⟩) 1 1, .slice none 0 0, .slice none 0 0], [.int .u8 3, .int .i64 0, .int .i64 9, .bool false, .string ⟨#[]⟩, .string ⟨#[]⟩, .int .i64 0, .slice none 0 0, .slice none 0 0, .slice none 0 0], [.int .u8 10, .int .i64 0, .int .i64 0, .bool false, .string ⟨#[]⟩, .string ⟨#[]⟩, .int .i64 0, p4, m4', o4]] 7 rfl rfl (by unfold New; omega) ?_, ?_⟩
  · intro i x r h1 h2
    match i with
    | 0 => simp [listsG] at h1 h2; subst h1 h2; exact ⟨_, _, _, rfl, SlF.nil _ _ _, SlF.nil _ _ _, SlF.nil _ _ _⟩
    | 1 => simp [listsG] at h1 h2; subst h1 h2; exact ⟨_, _, _, rfl, m1 h1p, m1 h1m, m1 h1o⟩
    | 2 => simp [listsG] at h1 h2; subst h1 h2; exact ⟨_, _, _, rfl, m2 h2p, m2 h2m, m2 h2o⟩
    | 3 => simp [listsG] at h1 h2; subst h1 h2; exact ⟨_, _, _, rfl, m3 h3p, m3 h3m, m3 h3o⟩
    | 4 => simp [listsG] at h1 h2; subst h1 h2; exact ⟨_, _, _, rfl, hp, SlF.nil _ _ _, SlF.nil _ _ _⟩
    | 5 => simp [listsG] at h1 h2; subst h1 h2; exact ⟨_, _, _, rfl, SlF.nil _ _ _, SlF.nil _ _ _, SlF.nil _ _ _⟩
    | 6 => simp [listsG] at h1 h2; subst h1 h2; exact ⟨_, _, _, rfl, m4 h4p, m4 h4m, m4 h4o⟩
    | i + 7 => simp [listsG] at h1
  · exact (hx.trans hx4).alloc _
end Go.Proofs.YtldnjnnhfeobdaaGreatDoor
/- Contract: alive, of the law. Condition: the tables of the library are laid. -/
namespace Go.Proofs.YtldnjnnhfeobdaaGreatDoor
set_option linter.all false
set_option linter.unusedSimpArgs false
set_option linter.unusedVariables false
open Go.RowKit Go.Shelf

theorem lists_tidy : Tidy listsG := by
  refine ⟨by decide, ?_⟩
  intro t ht
  simp only [listsG, List.mem_cons, List.not_mem_nil, or_false] at ht
  rcases ht with rfl | rfl | rfl | rfl | rfl | rfl | rfl <;>
    exact ⟨⟨by decide, by decide, by decide, by simp only [recT, List.forall_mem_cons, List.not_mem_nil, false_imp_iff, implies_true, and_true]; first | done | decide, by decide, by simp [recT], by decide, by simp [recT]⟩, by decide, by decide⟩
theorem lists_errs : errG listsG [1, 2] = 0 ∧ errG listsG [1, 6] = 0 ∧ errG listsG [] = 0 ∧ errG listsG [3] = 0 ∧ errG listsG [0] = 0 := by
  refine ⟨?_, ?_, ?_, ?_, ?_⟩ <;> exact lists_err _ (by decide)
theorem lists_textS : textS listsG 3 = ⟨#[49, 48, 32, 45, 32, 104, 101, 97, 100, 58, 49, 32, 116, 97, 105, 108, 58, 48, 10, 49, 10]⟩ := by
  unfold textS
  rw [lists_errs.2.2.2.1, if_pos rfl]
  exact congrArg ByteArray.mk lists_text
theorem lists_textS0 : textS listsG 0 = ⟨#[49, 10]⟩ := by
  unfold textS
  rw [lists_errs.2.2.2.2, if_pos rfl]
  exact congrArg ByteArray.mk lists_text0
theorem lists_apartP {w w' : World} {e : Ending} : ApartPost w (apartG listsG 1 6) (errG listsG [1, 6]) e w' → ∃ A c b off, e = .returned (.tuple #[.slice A 1 c, .bool true, .int .i64 0]) ∧ A = some ⟨b, off, none⟩ ∧ w'.cell? ⟨b, off, none⟩ = some (.int .i64 0) ∧ Ext w w' := by
  rw [lists_apart, lists_errs.2.1]
  rintro ⟨v, rfl, hv, hx⟩
  obtain ⟨A, c, rfl, hs⟩ := Sl.nat hv
  obtain ⟨b, off, rfl, hc⟩ := hs 0 (by simp)
  exact ⟨_, c, b, off, rfl, rfl, hc, hx⟩
theorem lists_mergeP {w w' : World} {e : Ending} : MergePost w listsG e w' → ∃ A c B k b off, e = .returned (.tuple #[.slice A 5 c, .slice B 7 k, .int .i64 0]) ∧ B = some ⟨b, off, none⟩ ∧ w'.cell? ⟨b, off + 3, none⟩ = some (.int .i64 1) ∧ Ext w w' := by
  rintro ⟨v1, v2, rfl, h1, h2, hx⟩
  obtain ⟨A, c, rfl⟩ := h1.len
  rw [lists_to] at h2
  obtain ⟨B, k, rfl, hs⟩ := h2.int
  obtain ⟨b, off, rfl, hc⟩ := hs 3 (by decide)
  rw [lists_merge, lists_errs.2.2.1]
  exact ⟨A, c, _, k, b, off, rfl, rfl, hc, hx⟩

set_option maxRecDepth 100000 in
set_option maxHeartbeats 16000000 in
theorem alive_any (w : World) (hG : Glob w) : Calls Tryz.prog 14 #[] w (Ret w (.bool true)) := by
  have hl := lists_any
  have he := fun (w' : World) (v : Value) (hx : Ext w w') (hv : Sl tyE w' v listsG) => equal_any w' v listsG 1 2 hv lists_tidy (hG.mono hx)
  have hd := fun (w' : World) (v : Value) (hx : Ext w w') (hv : Sl tyE w' v listsG) => equal_any w' v listsG 1 6 hv lists_tidy (hG.mono hx)
  have ha := fun (w' : World) (v : Value) (hx : Ext w w') (hv : Sl tyE w' v listsG) => (apart_any w' v listsG 1 6 hv lists_tidy (hG.mono hx)).mono fun e w'' h => lists_apartP h
  have hc := fun (w' : World) (v u : Value) (hx : Ext w w') (hv : Sl tyE w' v listsG) (hu : Sl intE w' u [1, 0]) => checkApart_any w' v u listsG 1 6 [1, 0] hv lists_tidy (hG.mono hx) hu (by decide)
  have hm := fun (w' : World) (v : Value) (hx : Ext w w') (hv : Sl tyE w' v listsG) => (merge_any w' v listsG hv lists_tidy (hG.mono hx)).mono fun e w'' h => lists_mergeP h
  have ht := fun (w' : World) (v : Value) (hx : Ext w w') (hv : Sl tyE w' v listsG) => Text_any w' v listsG 3 hv lists_tidy (hG.mono hx)
  have hp := fun (w' : World) (v : Value) (hx : Ext w w') (hv : Sl tyE w' v listsG) => Print_any w' v listsG 0 hv lists_tidy (hG.mono hx) (by rw [lists_textS0]; decide)
  have hg1 := fun (w' : World) => digest_any ⟨#[49, 10]⟩ w' (by decide)
  have hg2 := fun (w' : World) => digest_any ⟨#[]⟩ w' (by decide)
  simp only [lists_errs.1, lists_equal] at he
  simp only [lists_errs.2.1, lists_differ] at hd
  simp only [lists_errs.2.1, lists_told] at hc
  simp only [lists_errs.2.2.2.1, lists_textS] at ht
  simp only [lists_errs.2.2.2.2, lists_textS0, if_true] at hp
  simp only [empty_digest] at hg2
  generalize digestB ⟨#[49, 10]⟩ = dg at *
  have Hl := Lib.hid hl
  have He := Lib.hid he
  have Hd := Lib.hid hd
  have Ha := Lib.hid ha
  have Hc := Lib.hid hc
  have Hm := Lib.hid hm
  have Ht := Lib.hid ht
  have Hp := Lib.hid hp
  have Hg1 := Lib.hid hg1
  have Hg2 := Lib.hid hg2
  clear hl he hd ha hc hm ht hp hg1 hg2 hG
  go_enter Tryz.func14, Tryz.ntmps14
  go_wp2_with fail
  refine (Hl.out _).mono ?_
  rintro e w1 ⟨v, rfl, hv, hx⟩
  obtain ⟨A, cap, rfl⟩ := hv.any.len
  have Hv := Lib.hid hv.any
  have Hx := Lib.hid hx
  clear hv hx
  go_wp2_with fail
  refine (He.out _ _ Hx.out Hv.out).mono ?_
  rintro e w2 ⟨rfl, hx⟩
  replace Hv := Lib.hid (Hv.out.mono hx)
  replace Hx := Lib.hid (Hx.out.trans hx)
  clear hx
  go_wp2_with fail
  refine (Hd.out _ _ Hx.out Hv.out).mono ?_
  rintro e w3 ⟨rfl, hx⟩
  replace Hv := Lib.hid (Hv.out.mono hx)
  replace Hx := Lib.hid (Hx.out.trans hx)
  clear hx
  go_wp2_with fail
  refine (Ha.out _ _ Hx.out Hv.out).mono ?_
  rintro e w4 ⟨Aa, ca, ba, oa, rfl, rfl, cell1, hx⟩
  replace Hv := Lib.hid (Hv.out.mono hx)
  replace Hx := Lib.hid (Hx.out.trans hx)
  clear hx
  have hx := (Ext.refl w4).alloc (.cells #[.int .i64 1, .int .i64 0] 3)
  have Hw := Lib.hid (lit_ints w4 [1, 0] 2 rfl)
  replace Hv := Lib.hid (Hv.out.mono hx)
  replace Hx := Lib.hid (Hx.out.trans hx)
  replace cell1 := hx.cell cell1
  clear hx
  go_wp2_with fail
  refine (Hc.out _ _ _ Hx.out Hv.out Hw.out).mono ?_
  rintro e w5 ⟨rfl, hx⟩
  replace Hv := Lib.hid (Hv.out.mono hx)
  replace Hx := Lib.hid (Hx.out.trans hx)
  replace cell1 := hx.cell cell1
  clear hx
  go_wp2_with fail
  refine (Hm.out _ _ Hx.out Hv.out).mono ?_
  rintro e w6 ⟨Am, cm, Bm, km, bm, om, rfl, rfl, cell2, hx⟩
  replace Hv := Lib.hid (Hv.out.mono hx)
  replace Hx := Lib.hid (Hx.out.trans hx)
  replace cell1 := hx.cell cell1
  clear hx
  go_wp2_with fail
  refine (Ht.out _ _ Hx.out Hv.out).mono ?_
  rintro e w7 ⟨rfl, hx⟩
  replace Hv := Lib.hid (Hv.out.mono hx)
  replace Hx := Lib.hid (Hx.out.trans hx)
  replace cell1 := hx.cell cell1
  replace cell2 := hx.cell cell2
  clear hx
  go_wp2_with fail
  refine (Hp.out _ _ Hx.out Hv.out).mono ?_
  rintro e w8 ⟨rfl, hx⟩
  replace Hv := Lib.hid (Hv.out.mono hx)
  replace Hx := Lib.hid (Hx.out.trans hx)
  replace cell1 := hx.cell cell1
  replace cell2 := hx.cell cell2
  clear hx
  go_wp2_with fail
  refine (Hg1.out _).mono ?_
  rintro e w9 ⟨rfl, hx⟩
  replace Hx := Lib.hid (Hx.out.trans hx)
  clear hx cell1 cell2
  go_wp2_with fail
  refine (Hg2.out _).mono ?_
  rintro e w10 ⟨rfl, hx⟩
  replace Hx := Lib.hid (Hx.out.trans hx)
  clear hx
  go_wp2_with fail
  go_ret
  exact ⟨rfl, Hx.out⟩
end Go.Proofs.YtldnjnnhfeobdaaGreatDoor
/- Types that are the same: no way tells them, their texts are equal; others: the way that is found tells them, and it is a least one. No program. -/
namespace Go.Proofs.YtldnjnnhfeobdaaGreatDoor
set_option linter.all false
set_option linter.unusedSimpArgs false
set_option linter.unusedVariables false
open Go.RowKit Go.Shelf

theorem tellsI_cast (g : Graph) : ∀ (w : List Nat) (i j : Nat), tellsI g i j (w.map fun (n : Nat) => (n : Int)) = tellsN (agN g) (refsN g) i j w
  | [], i, j => rfl
  | k :: w, i, j => by
    rw [List.map_cons]
    unfold tellsI tellsN
    rw [Int.toNat_natCast, tellsI_cast g w]
    have : hasB (refsN g i).length (k : Int) = decide (k < (refsN g i).length) := by
      unfold hasB inB; rw [Bool.eq_iff_iff]; simp; omega
    rw [this]
theorem tellsI_nat {g : Graph} : ∀ {w : List Int} {i j : Nat}, tellsI g i j w = true → w = (w.map Int.toNat).map fun (n : Nat) => (n : Int)
  | [], i, j, _ => rfl
  | k :: w, i, j, h => by
    unfold tellsI at h
    simp only [Bool.and_eq_true] at h
    have hk : 0 ≤ k := by have := h.2.1; unfold hasB inB at this; simp at this; omega
    have ih := tellsI_nat h.2.2
    rw [List.map_cons, List.map_cons, ← ih]
    congr 1
    omega
theorem same_facts {g : Graph} (hW : WF g) {i j : Nat} (hi : i < g.length) (hj : j < g.length) (h : sameG g i j = true) :
    wayN (agN g) (refsN g) g.length i j = none ∧ textG g i = textG g j ∧ ∀ w : List Int, tellsI g i j w = false := by
  have hs : clsG g i = clsG g j := by simpa [sameG, clsG] using h
  have hno : ∀ w : List Int, tellsI g i j w = false := by
    intro w
    cases ht : tellsI g i j w with
    | false => rfl
    | true =>
      rw [tellsI_nat ht, tellsI_cast, sameN_no_way hW.abs _ _ _ hi hj hs] at ht
      exact absurd ht (by simp)
  refine ⟨?_, text_same hW hi hj hs, hno⟩
  have hf := wayN_found hW.abs hi hj
  cases hw : wayN (agN g) (refsN g) g.length i j with
  | none => rfl
  | some u =>
    rw [hw] at hf
    have h1 := hf.1
    rw [← tellsI_cast, hno] at h1
    exact absurd h1 (by simp)
theorem differ_facts {g : Graph} (hW : WF g) {i j : Nat} (hi : i < g.length) (hj : j < g.length) (h : sameG g i j = false) :
    ∃ u, wayN (agN g) (refsN g) g.length i j = some u ∧ textG g i ≠ textG g j ∧ tellsI g i j (u.map fun (n : Nat) => (n : Int)) = true ∧ ∀ w : List Int, tellsI g i j w = true → u.length ≤ w.length := by
  have hs : ¬ clsG g i = clsG g j := by simpa [sameG, clsG] using h
  have hf := wayN_found hW.abs hi hj
  cases hw : wayN (agN g) (refsN g) g.length i j with
  | none =>
    rw [hw] at hf
    exact absurd (no_way_sameN hW.abs hi hj hf) hs
  | some u =>
    rw [hw] at hf
    refine ⟨u, rfl, fun e => hs (same_of_text hW hi hj e), by rw [tellsI_cast]; exact hf.1, fun w ht => ?_⟩
    rw [tellsI_nat ht, tellsI_cast] at ht
    have := hf.2 _ ht
    simpa using this
theorem apartN_len {n : Nat} {ag : Nat → Nat → Bool} {rf : Nat → List Nat} {a b : Nat} (G : AbsGraph n ag rf) (hn : n ≤ 400) : ∀ f dn s o, Inv n ag rf a b dn s o → WInv dn s o → ∀ u, apartN ag rf f s o = some u → u.length ≤ 160000 := by
  intro f
  induction f with
  | zero => intro dn s o _ _ u h; simp [apartN] at h
  | succ f ih =>
    intro dn s o I W u h
    cases o with
    | nil => simp [apartN] at h
    | cons x o =>
      unfold apartN at h
      cases hx : ag x.1.1 x.1.2 with
      | false =>
        rw [hx] at h
        simp at h
        subst h
        exact (W.bound I hn).2 x (by simp)
      | true =>
        rw [hx] at h
        simp only [if_true] at h
        exact ih _ _ _ (I.step G hx) (W.step _) u h
theorem wayN_len {g : Graph} (hW : WF g) {i j : Nat} (hi : i < g.length) (hj : j < g.length) {u : List Nat} (h : wayN (agN g) (refsN g) g.length i j = some u) : u.length ≤ 160000 :=
  apartN_len hW.abs hW.len _ _ _ _ (Inv.init hi hj) (WInv.init i j) u h
theorem err_parts {g : Graph} {a b : Int} (h : errG g [a, b] = 0) : errG g [a] = 0 ∧ errG g [b] = 0 := by
  unfold errG at h ⊢
  split at h
  · rename_i hc
    rw [if_pos hc, if_pos hc]
    simp only [List.any_cons, List.any_nil, Bool.or_false] at h ⊢
    cases h1 : outB g.length a <;> cases h2 : outB g.length b <;> simp [h1, h2] at h ⊢
  · simp at h
end Go.Proofs.YtldnjnnhfeobdaaGreatDoor
/- Contract of the law: equal lists of numbers. Conditions: lengths below 2^20. -/
namespace Go.Proofs.YtldnjnnhfeobdaaGreatDoor
set_option linter.all false
set_option linter.unusedSimpArgs false
set_option linter.unusedVariables false
open Go.RowKit Go.Shelf

set_option maxRecDepth 100000 in
set_option maxHeartbeats 4000000 in
theorem sameInts_any (w : World) (u v : Value) (xs ys : List Int) (hu : Sl intE w u xs) (hv : Sl intE w v ys) (hx : xs.length ≤ 1048576) (hy : ys.length ≤ 1048576) :
    Calls Tryz.prog 19 #[u, v] w (Ret w (.bool (decide (xs = ys)))) := by
  obtain ⟨A, ca, rfl, ha⟩ := hu.int
  obtain ⟨B, cb, rfl, hb⟩ := hv.int
  have Ha := Lib.hid ha
  have Hb := Lib.hid hb
  clear ha hb hu hv
  by_cases hl : xs.length = ys.length
  · have hl' : ((xs.length : Int) == (ys.length : Int)) = true := by simp; omega
    have hln : ((xs.length : Int) != (ys.length : Int)) = false := by simp; omega
    obtain ⟨wo, rfl⟩ : ∃ wo : World, wo = w := ⟨_, rfl⟩
    go_enter Tryz.func19, Tryz.ntmps19
    go_wp2_with fail
    go_loopw [5] (fun u wr => ∃ k : Nat, k ≤ xs.length ∧ u = .int .i64 k ∧ Hid (Ext wo wr) ∧ Hid (∀ j (hj : j < xs.length), j < k → xs[j] = ys[j]'(by omega))) (fun u _ => xs.length - (intOf u).toNat)
    case atStart => exact ⟨0, by omega, rfl, Lib.hid (Ext.refl _), Lib.hid (fun j _ h => by omega)⟩
    case round =>
      obtain ⟨k, hk, rfl, Hx, Hno⟩ := hrel
      by_cases hlt : k < xs.length
      · obtain ⟨b1, o1, rfl, c1⟩ := Ha.out k hlt
        obtain ⟨b2, o2, rfl, c2⟩ := Hb.out k (by omega)
        replace c1 := Hx.out.cell c1
        replace c2 := Hx.out.cell c2
        have l1 := cell_lt c1
        have l2 := cell_lt c2
        have i0 : (0 : Int) ≤ (k : Int) := by omega
        have i1 : (k : Int) < (xs.length : Int) := by omega
        have i2 : (k : Int) < (ys.length : Int) := by omega
        by_cases he : xs[k] = ys[k]'(by omega)
        · have hnext := fun j (hj : j < xs.length) (hjk : j < k + 1) => if e : j = k then (by subst e; exact he : xs[j] = ys[j]'(by omega)) else Hno.out j hj (by omega)
          have Hn := Lib.hid hnext
          rw [← he] at c2
          clear hnext he
          go_wp2_with fail
          go_quiet (fail)
          go_wp2_with fail
          go_roundw
          case rel => exact ⟨k + 1, by omega, by go_num, Lib.hid (Hx.out.drewN _), Hn⟩
          case measure => simp [intOf]; omega
        · have hne : (xs[k] != ys[k]'(by omega)) = true := by simpa using he
          have hf : decide (xs = ys) = false := decide_eq_false (fun e => he (by subst e; rfl))
          have Hf := Lib.hid hf
          generalize xs[k] = x at *
          generalize ys[k]'(by omega) = y at *
          clear hf he
          go_wp2_with fail
          go_quiet (fail)
          go_wp2_with fail
          go_ret
          rw [Hf.out]
          exact ⟨rfl, Hx.out.drewN _⟩
      · have i1 : ¬ (k : Int) < (xs.length : Int) := by omega
        have hf : decide (xs = ys) = true := decide_eq_true (List.ext_getElem hl (fun j h1 h2 => Hno.out j h1 (by omega)))
        have Hf := Lib.hid hf
        clear hf
        go_wp2_with fail
        go_ret
        rw [Hf.out]
        exact ⟨rfl, Hx.out⟩
  · have hln : ((xs.length : Int) != (ys.length : Int)) = true := by simp; omega
    have hf : decide (xs = ys) = false := decide_eq_false (fun e => hl (by rw [e]))
    rw [hf]
    go_enter Tryz.func19, Tryz.ntmps19
    go_wp2_with fail
    go_ret
    exact ⟨rfl, Ext.refl _⟩
end Go.Proofs.YtldnjnnhfeobdaaGreatDoor
/- Contract of the reference: the references of a type. Conditions: a fine type. -/
namespace Go.Proofs.YtldnjnnhfeobdaaGreatDoor
set_option linter.all false
set_option linter.unusedSimpArgs false
set_option linter.unusedVariables false
open Go.RowKit Go.Shelf

theorem sl_none {α : Type} {E : Elt α} {w : World} {n c : Nat} {xs : List α} (h : Sl E w (.slice none n c) xs) : xs = [] := by
  obtain ⟨A, cap, e, h⟩ := h
  cases xs with
  | nil => rfl
  | cons x xs =>
    obtain ⟨b, off, _, hA, _⟩ := h 0 x rfl
    injection e with e1
    rw [hA] at e1
    cases e1
theorem run_append_nothing {P : Program} {w : World} {base size : Nat} {t ty e : TypeId} {i : TypeInfo} (ht : P.underlying t = some (.slice e)) (hi : P.info? e = some i) {v : Value} {n : Nat} {xs : List Value} (h : w.ownsRow base e size v n xs) (c : Nat) :
    (Builtin.append_ #[t, t] ty #[v, .slice none 0 c]).run P w = .ok v w := by
  rcases h.2 with ⟨rfl, rfl⟩ | ⟨g, cap, cur, rfl, _, _, hnc, _⟩
  · simp [Builtin.append_, run_underlying ht, sizeOf, typeInfo, hi, Builtin.lenOf, Builtin.firstCells]
  · simp [Builtin.append_, run_underlying ht, sizeOf, typeInfo, hi, Builtin.lenOf, Builtin.firstCells, hnc, storeCells]
section
variable {P : Program} {ops : Array Oper} {rest : List Oper} {o : Oper} {a : Act} {Q : Exit → Act → World → Prop}
/-- append of all elements of a slice, nil or not -/
theorem own_append_any {α : Type} {F : Nat → Prop} (E : Elt α) (hflat : FlatE E) {W : World} (base : Nat) (hgd : o.guard = none) (s x : Operand) (t e : TypeId) (bytes : Nat)
    (ho : o.op = .call { callee := .builtin .append, args := #[s, x], argTypes := #[t, t] }) (hI : SliceOf P t e E.k bytes)
    (v u : Value) (xs ys : List α) (hs : a.eval s = v) (hx : a.eval x = u)
    (HO : Own F E W base e v xs) (hy : Sl E W u ys) (hbase : base ≤ W.heap.size) (hl : (xs.length + ys.length) * bytes ≤ 140737488355328) (hb0 : 0 < bytes)
    (h : ∀ v1 w1, Own F E w1 base e v1 (xs ++ ys) → W.grownBy w1 v.ownBlock → wpList P ops Q rest (a.put o.dst v1) w1) :
    wpList P ops Q (o :: rest) a W := by
  obtain ⟨A, c, rfl⟩ := hy.len
  cases A with
  | some ad => exact own_append_all E hflat base hgd s x t e bytes ho hI v xs ys ad _ c hs hx HO hy hbase hl hb0 h
  | none =>
    have hnil := sl_none hy
    subst hnil
    have h1 : wpList P ops Q rest (a.put o.dst v) W := h v W (by rw [List.append_nil]; exact HO) (World.grownBy.refl W _)
    obtain ⟨i, z, hi, _⟩ := hI.info
    obtain ⟨rows, _, hown, _⟩ := HO
    refine wpList_plain hgd fun K hK => ?_
    have hrun := run_append_nothing (P := P) (t := t) (ty := o.type) hI.under hi hown c
    unfold Oper.wp
    have hx' : a.eval x = .slice none 0 c := hx
    simp [execOp, ho, resolve, invoke, builtin, hs, hx', hrun, Result.andThen]
    exact hK _ _ h1
end
theorem refsM_le {m : Method} (h : m.args.length ≤ 6) : (refsM m).length ≤ 7 := by
  unfold refsM
  split <;> simp <;> omega
theorem refsM_take_le {l : List Method} (h : ∀ m ∈ l, m.args.length ≤ 6) (h8 : l.length ≤ 8) (k : Nat) : ((l.take k).flatMap refsM).length ≤ 56 := by
  have h1 := flatMap_le refsM 7 (l.take k) (fun m hm => refsM_le (h m (List.mem_of_mem_take hm)))
  have h2 : (l.take k).length ≤ 8 := by rw [List.length_take]; omega
  have := Nat.mul_le_mul_right 7 h2
  omega
set_option maxRecDepth 100000 in
set_option maxHeartbeats 16000000 in
theorem rrefs_any (w : World) (n : Nat) (t : Ty) (vp vm vo : Value) (hof : TyOf w t vp vm vo) (hf : Fine n t) :
    Calls Tryz.prog 40 #[tyV t vp vm vo] w (RetP w (ResSl intE w (refsL t))) := by
  obtain ⟨A1, c1, e1, hp⟩ := hof.parts.part
  obtain ⟨A2, c2, e2, hm⟩ := hof.methods.method
  obtain ⟨A3, c3, e3⟩ := hof.overs.len
  subst e1 e2 e3
  have Hp := Lib.hid hp
  have Hm := Lib.hid hm
  have hpl := hf.parts
  have hml := hf.methods
  have Hargs := Lib.hid hf.args
  have hrs : (refsS t).length ≤ 1 := by unfold refsS; split <;> simp
  clear hof hp hm hf
  unfold tyV
  go_enter Tryz.func40, Tryz.ntmps40
  have hx0 := (Ext.refl w).alloc (.cells #[.int .u8 t.kind, .int .i64 t.low, .int .i64 t.high, .bool t.branded, .string t.brand, .string t.opaq, .int .i64 t.super, .slice A1 t.parts.length c1, .slice A2 t.methods.length c2, .slice A3 t.overs.length c3] 42)
  have hbx := heap_alloc_self w (.cells #[.int .u8 t.kind, .int .i64 t.low, .int .i64 t.high, .bool t.branded, .string t.brand, .string t.opaq, .int .i64 t.super, .slice A1 t.parts.length c1, .slice A2 t.methods.length c2, .slice A3 t.overs.length c3] 42)
  have Hc0 := Lib.hid (heap_cell hbx 0 _ rfl)
  have Hc6 := Lib.hid (heap_cell hbx 6 _ rfl)
  have Hc7 := Lib.hid (heap_cell hbx 7 _ rfl)
  have Hc8 := Lib.hid (heap_cell hbx 8 _ rfl)
  have Hx0 := Lib.hid hx0
  clear hx0 hbx
  go_upto_region 2 with fail
  generalize (w.alloc (.cells #[.int .u8 t.kind, .int .i64 t.low, .int .i64 t.high, .bool t.branded, .string t.brand, .string t.opaq, .int .i64 t.super, .slice A1 t.parts.length c1, .slice A2 t.methods.length c2, .slice A3 t.overs.length c3] 42)) = w1 at *
  generalize w.heap.size = b1 at *
  go_cut [13] (fun s wx => s = .bool (hasSuperB t.kind) ∧ wx = w1)
  case first =>
    have d0 := Hc0.out
    have l0 := cell_lt d0
    by_cases h12 : t.kind = 12
    · have q : (t.kind == 12) = true := by simpa using h12
      have hs : hasSuperB t.kind = true := by unfold hasSuperB; simp [h12]
      have Hs := Lib.hid hs
      clear hs h12
      go_wp2_with fail
      go_meet
      rw [Hs.out]
      exact ⟨rfl, rfl⟩
    · have q : (t.kind == 12) = false := by rw [beq_eq_false_iff_ne]; exact h12
      by_cases h13 : t.kind = 13
      · have q' : (t.kind == 13) = true := by simpa using h13
        have hs : hasSuperB t.kind = true := by unfold hasSuperB; simp [h13]
        have Hs := Lib.hid hs
        clear hs h12 h13
        go_wp2_with fail
        go_meet
        rw [Hs.out]
        exact ⟨rfl, rfl⟩
      · have q' : (t.kind == 13) = false := by rw [beq_eq_false_iff_ne]; exact h13
        have hs : hasSuperB t.kind = false := by unfold hasSuperB; simp [h12, h13]
        have Hs := Lib.hid hs
        clear hs h12 h13
        go_wp2_with fail
        go_meet
        rw [Hs.out]
        exact ⟨rfl, rfl⟩
  case rest =>
    obtain ⟨rfl, rfl⟩ := hcut
    obtain ⟨w1, rfl⟩ : ∃ w1 : World, w1 = wc := ⟨_, rfl⟩
    go_upto_if 13 with fail
    go_cut [3] (fun o wx => Hid (Ext w1 wx) ∧ Hid (Own (New w1) intE wx w1.heap.size 3 o (refsS t)))
    case first =>
      have d6 := Hc6.out
      have l6 := cell_lt d6
      cases hs : hasSuperB t.kind with
      | true =>
        have hre : refsS t = [] ++ [t.super] := by unfold refsS; rw [hs]; rfl
        have Hre := Lib.hid hre
        clear hre hs
        go_wp2_with (at_builtin; refine own_append (F := New w1) intE w1.heap.size rfl _ _ 24 3 8 rfl slice24 _ [] t.super [.int .i64 t.super] rfl rfl (Own.nil _ _ _ _ _) rfl ?c1 ?c2 ?c3 ?_)
        case c1 => exact Nat.le_refl _
        case c2 => simp
        case c3 => decide
        intro v2 w2 hown2 hg2
        have hx2 : Ext w1 w2 := Below.grown (Ext.refl _) hg2 (Nat.le_refl _) (fun k hk => by cases hk)
        go_wp2_with fail
        go_meet
        rw [Hre.out]
        exact ⟨Lib.hid hx2, Lib.hid hown2⟩
      | false =>
        have hre : refsS t = [] := by unfold refsS; rw [hs]; rfl
        have Hre := Lib.hid hre
        clear hre hs
        go_wp2_with fail
        go_meet
        rw [Hre.out]
        exact ⟨Lib.hid (Ext.refl _), Lib.hid (Own.nil _ _ _ _ _)⟩
    case rest =>
      obtain ⟨Hxa, Howna⟩ := hcut
      go_wp2_with fail
      go_loopw [3, 4] (fun o u wr => ∃ k : Nat, k ≤ t.parts.length ∧ u = .int .i64 k ∧ Hid (Ext w1 wr) ∧ Hid (Own (New w1) intE wr w1.heap.size 3 o (refsS t ++ (t.parts.map Part.type).take k))) (fun _ u _ => t.parts.length - (intOf u).toNat)
      case atStart => exact ⟨0, by omega, rfl, Hxa, by simpa using Howna⟩
      case round =>
        clear Hxa Howna
        obtain ⟨k, hk, rfl, Hx, Hown⟩ := hrel
        have c7 := Hx.out.cell Hc7.out
        have l7 := cell_lt c7
        by_cases hlt : k < t.parts.length
        · obtain ⟨b, off, rfl, p0, p1⟩ := Hp.out k hlt
          replace p1 := (Hx0.out.trans Hx.out).cell p1
          have lp := cell_lt p1
          have i0 : (0 : Int) ≤ (k : Int) := by omega
          have i1 : (k : Int) < (t.parts.length : Int) := by omega
          have hsn := take_map_snoc Part.type t.parts k hlt
          have Hsn := Lib.hid hsn
          have Hsz := Lib.hid Hx.out.size
          clear p0 hsn
          go_wp2_with (at_builtin; refine own_append intE w1.heap.size rfl _ _ 24 3 8 rfl slice24 _ _ t.parts[k].type [.int .i64 t.parts[k].type] rfl rfl Hown.out rfl ?c1 ?c2 ?c3 ?_)
          case c1 => exact Hsz.out
          case c2 => simp; omega
          case c3 => decide
          intro v2 w2 hown2 hg2
          have hx2 : Ext w1 w2 := Below.grown Hx.out hg2 Hsz.out (fun k hk => (Hown.out.lt k hk).1)
          rw [← Hsn.out] at hown2
          have Hown2 := Lib.hid hown2
          have Hx2 := Lib.hid hx2
          clear hown2 hg2 hx2
          go_wp2_with fail
          go_roundw
          case rel => exact ⟨k + 1, by omega, by go_num, Hx2, Hown2⟩
          case measure => simp [intOf]; omega
        · have hkn : k = t.parts.length := by omega
          subst hkn
          rw [List.take_of_length_le (by simp)] at Hown
          clear hk hlt
          go_wp2_with fail
          go_loopw [3, 5] (fun o u wr => ∃ k : Nat, k ≤ t.methods.length ∧ u = .int .i64 k ∧ Hid (Ext w1 wr) ∧ Hid (Own (New w1) intE wr w1.heap.size 3 o (refsS t ++ t.parts.map Part.type ++ (t.methods.take k).flatMap refsM))) (fun _ u _ => t.methods.length - (intOf u).toNat)
          case atStart => exact ⟨0, by omega, rfl, Hx, by simpa using Hown⟩
          case round =>
            clear Hown Hx c7 l7
            obtain ⟨k, hk, rfl, Hx, Hown⟩ := hrel
            have c8 := Hx.out.cell Hc8.out
            have l8 := cell_lt c8
            by_cases hlt : k < t.methods.length
            · obtain ⟨b, off, va, vr, rfl, ha, hr, m0, m1, m2, m3, m4⟩ := Hm.out k hlt
              have hma := Hargs.out _ (List.getElem_mem hlt)
              have hfl := flat_take_one refsM t.methods k hlt
              have hle := refsM_take_le Hargs.out hml k
              generalize t.methods[k] = m at *
              obtain ⟨Aa, ca, ea⟩ := ha.len
              subst ea
              have M2 := Lib.hid (Hx0.out.cell m2)
              replace m1 := (Hx0.out.trans Hx.out).cell m1
              replace ha := ha.mono (Hx0.out.trans Hx.out)
              have lm := cell_lt m1
              have i0 : (0 : Int) ≤ (k : Int) := by omega
              have i1 : (k : Int) < (t.methods.length : Int) := by omega
              have hpl1 : (refsS t ++ t.parts.map Part.type).length ≤ 9 := by simp; omega
              have Ha := Lib.hid ha
              have Hfl := Lib.hid hfl
              have Hsz := Lib.hid Hx.out.size
              clear ha hr hfl m0 m3 m4 m2
              obtain ⟨wo, rfl⟩ : ∃ wo : World, wo = wr := ⟨_, rfl⟩
              go_upto_region 11 with fail
              go_cut [3] (fun o wx => Hid (Ext w1 wx) ∧ Hid (Own (New w1) intE wx w1.heap.size 3 o (refsS t ++ t.parts.map Part.type ++ (t.methods.take k).flatMap refsM ++ m.args)))
              case first =>
                go_wp2_with (at_builtin; refine own_append_any (F := New w1) intE flat_int w1.heap.size rfl _ _ 24 3 8 rfl slice24 _ _ _ m.args rfl rfl Hown.out Ha.out ?c1 ?c2 ?c3 ?_)
                case c1 => exact Hsz.out
                case c2 => simp only [List.length_append] at hpl1 hle ⊢; omega
                case c3 => decide
                intro v2 w2 hown2 hg2
                have hx2 : Ext w1 w2 := Below.grown Hx.out hg2 Hsz.out (fun k hk => (Hown.out.lt k hk).1)
                have Hx2 := Lib.hid hx2
                have Hown2 := Lib.hid hown2
                clear hx2 hown2 hg2
                go_wp2_with fail
                go_meet
                exact ⟨Hx2, by simpa [Hid] using Hown2⟩
              case rest =>
                clear Hown Hx c8 l8 m1 lm
                obtain ⟨Hx, Hown⟩ := hcut
                have c8 := Hx.out.cell Hc8.out
                have l8 := cell_lt c8
                have m2 := Hx.out.cell M2.out
                have lm := cell_lt m2
                by_cases hres : 0 ≤ m.result
                · have hre : refsM m = m.args ++ [m.result] := by unfold refsM; rw [if_pos hres]
                  have Hre := Lib.hid hre
                  clear hre
                  go_wp2_with (at_builtin; refine own_append (F := New w1) intE w1.heap.size rfl (.tmp 59) (.tmp 67) 24 3 8 rfl slice24 _ _ m.result [.int .i64 m.result] rfl rfl Hown.out rfl ?c1 ?c2 ?c3 ?_)
                  case c1 => exact Hx.out.size
                  case c2 => simp only [List.length_append] at hpl1 hle ⊢; omega
                  case c3 => decide
                  intro v2 w2 hown2 hg2
                  have hx2 : Ext w1 w2 := Below.grown Hx.out hg2 Hx.out.size (fun k hk => (Hown.out.lt k hk).1)
                  have Hx2 := Lib.hid hx2
                  have Hown2 : Hid (Own (New w1) intE w2 w1.heap.size 3 v2 (refsS t ++ t.parts.map Part.type ++ (t.methods.take (k + 1)).flatMap refsM)) := by
                    rw [Hfl.out, Hre.out]; simpa [Hid] using hown2
                  clear hx2 hown2 hg2
                  go_wp2_with fail
                  go_roundw
                  case rel => exact ⟨k + 1, by omega, by go_num, Hx2, Hown2⟩
                  case measure => simp [intOf]; omega
                · have hre : refsM m = m.args := by unfold refsM; rw [if_neg hres, List.append_nil]
                  have e : refsS t ++ t.parts.map Part.type ++ (t.methods.take k).flatMap refsM ++ m.args = refsS t ++ t.parts.map Part.type ++ (t.methods.take (k + 1)).flatMap refsM := by
                    rw [Hfl.out, hre]; simp
                  have hown2 := Hown.out
                  rw [e] at hown2
                  have Hown2 := Lib.hid hown2
                  clear e hown2
                  clear hre
                  go_wp2_with fail
                  go_roundw
                  case rel => exact ⟨k + 1, by omega, by go_num, Hx, Hown2⟩
                  case measure => simp [intOf]; omega
            · have hkn : k = t.methods.length := by omega
              subst hkn
              rw [List.take_length] at Hown
              clear hk hlt
              have hsz := Hx0.out.size
              go_wp2_with fail
              go_ret
              refine ⟨_, rfl, ?_, Hx0.out.trans Hx.out⟩
              have he : refsL t = refsS t ++ t.parts.map Part.type ++ t.methods.flatMap refsM := by
                unfold refsL
                rw [List.append_assoc]
              rw [he]
              exact (Hown.out.sl (fun b hb => hb)).mono (fun _ _ _ => rfl) (fun b hb _ => by unfold New at hb ⊢; omega)
end Go.Proofs.YtldnjnnhfeobdaaGreatDoor
/- Contracts of the reference: names, symbols, brands. Conditions: lengths below 2^20. -/
namespace Go.Proofs.YtldnjnnhfeobdaaGreatDoor
set_option linter.all false
set_option linter.unusedSimpArgs false
set_option linter.unusedVariables false
open Go.RowKit Go.Shelf

theorem name_bad {s : ByteArray} {k : Nat} (hk : k < s.size) (h : notNameB (s[k].toNat : Int) = true) : isNameB s = false := by
  unfold isNameB isNameL
  have : (byts s).any notNameB = true := List.any_eq_true.2 ⟨(s[k].toNat : Int), by rw [← byts_get s k hk]; exact List.getElem_mem _, h⟩
  rw [this]; simp
theorem name_good {s : ByteArray} (h1 : 1 ≤ s.size) (h2 : s.size ≤ 12) (hh : isLetterB (s[0].toNat : Int) = true) (h : ∀ j (hj : j < s.size), notNameB (s[j].toNat : Int) = false) : isNameB s = true := by
  unfold isNameB isNameL
  rw [byts_head s (by omega), hh, byts_length]
  have hr : inB ((s.size : Nat) : Int) 1 12 = true := by unfold inB; simp; omega
  have : (byts s).any notNameB = false := by
    rw [List.any_eq_false]
    intro x hx
    obtain ⟨i, hi, rfl⟩ := List.mem_iff_getElem.1 hx
    rw [byts_length] at hi
    rw [byts_get s i hi, h i hi]
    simp
  rw [hr, this]; rfl
set_option maxRecDepth 100000 in
set_option maxHeartbeats 4000000 in
theorem rname_any (s : ByteArray) (w : World) (hs : s.size ≤ 1048576) : Calls Tryz.prog 28 #[.string s] w fun e w' => e = .returned (.bool (isNameB s)) ∧ w' = w := by
  by_cases h1 : 1 ≤ s.size
  · by_cases h2 : s.size ≤ 12
    · have p1 : ¬ (s.size : Int) < 1 := by omega
      have p2 : ¬ (12 : Int) < (s.size : Int) := by omega
      cases hh : isLetterB (s[0].toNat : Int) with
      | false =>
        have hb : isNameB s = false := by unfold isNameB isNameL; rw [byts_head s (by omega), hh]; simp
        have Hh := Lib.hid hh
        clear hh
        rw [hb]
        go_enter Tryz.func28, Tryz.ntmps28
        go_wp2_with fail
        refine (letter_any _ _).mono ?_
        rintro e w' ⟨rfl, rfl⟩
        rw [Hh.out]
        go_wp2_with fail
        go_ret
        exact ⟨rfl, rfl⟩
      | true =>
        have Hh := Lib.hid hh
        clear hh
        go_enter Tryz.func28, Tryz.ntmps28
        go_wp2_with fail
        refine (letter_any _ _).mono ?_
        rintro e w' ⟨rfl, rfl⟩
        rw [Hh.out]
        go_wp2_with fail
        go_loopw [3] (fun u wr => ∃ k : Nat, k ≤ s.size ∧ u = .int .i64 k ∧ wr = w ∧ Hid (∀ j (hj : j < s.size), j < k → notNameB (s[j].toNat : Int) = false)) (fun u _ => s.size - (intOf u).toNat)
        case atStart => exact ⟨0, by omega, rfl, rfl, Lib.hid (fun j _ h => by omega)⟩
        case round =>
          obtain ⟨k, hk, rfl, rfl, Hno⟩ := hrel
          by_cases hlt : k < s.size
          · have i0 : (0 : Int) ≤ (k : Int) := by omega
            have i1 : (k : Int) < (s.size : Int) := by omega
            cases hl : isLetterB (s[k].toNat : Int) with
            | true =>
              have Hl := Lib.hid hl
              clear hl
              go_wp2_with fail
              refine (letter_any _ _).mono ?_
              rintro e w' ⟨rfl, rfl⟩
              rw [Hl.out]
              go_wp2_with fail
              go_roundw
              case rel => exact ⟨k + 1, by omega, by go_num, trivial, Lib.hid (fun j hj hjk => if e : j = k then by subst e; unfold notNameB; rw [Hl.out]; rfl else Hno.out j hj (by omega))⟩
              case measure => simp [intOf]; omega
            | false =>
              cases hd : isDigitB (s[k].toNat : Int) with
              | true =>
                have Hl := Lib.hid hl
                have Hd := Lib.hid hd
                clear hl hd
                go_wp2_with fail
                refine (letter_any _ _).mono ?_
                rintro e w' ⟨rfl, rfl⟩
                rw [Hl.out]
                go_wp2_with fail
                refine (digit_any _ _).mono ?_
                rintro e w' ⟨rfl, rfl⟩
                rw [Hd.out]
                go_wp2_with fail
                go_roundw
                case rel => exact ⟨k + 1, by omega, by go_num, trivial, Lib.hid (fun j hj hjk => if e : j = k then by subst e; unfold notNameB; rw [Hl.out, Hd.out]; rfl else Hno.out j hj (by omega))⟩
                case measure => simp [intOf]; omega
              | false =>
                have hb : isNameB s = false := name_bad hlt (by unfold notNameB; rw [hl, hd]; rfl)
                have Hl := Lib.hid hl
                have Hd := Lib.hid hd
                have Hb := Lib.hid hb
                clear hl hd hb
                go_wp2_with fail
                refine (letter_any _ _).mono ?_
                rintro e w' ⟨rfl, rfl⟩
                rw [Hl.out]
                go_wp2_with fail
                refine (digit_any _ _).mono ?_
                rintro e w' ⟨rfl, rfl⟩
                rw [Hd.out]
                go_wp2_with fail
                go_ret
                rw [Hb.out]
                exact ⟨rfl, rfl⟩
          · have hb : isNameB s = true := name_good h1 h2 Hh.out (fun j hj => Hno.out j hj (by omega))
            have i1 : ¬ (k : Int) < (s.size : Int) := by omega
            have Hb := Lib.hid hb
            clear hb
            go_wp2_with fail
            go_ret
            rw [Hb.out]
            exact ⟨rfl, rfl⟩
    · have p1 : ¬ (s.size : Int) < 1 := by omega
      have p2 : (12 : Int) < (s.size : Int) := by omega
      have hb : isNameB s = false := by
        unfold isNameB isNameL
        have hr : inB ((byts s).length : Int) 1 12 = false := by rw [byts_length]; unfold inB; simp; omega
        rw [hr]; rfl
      rw [hb]
      go_enter Tryz.func28, Tryz.ntmps28
      go_wp2_with fail
      go_ret
      exact ⟨rfl, rfl⟩
  · have p1 : (s.size : Int) < 1 := by omega
    have hb : isNameB s = false := by
      unfold isNameB isNameL
      have hr : inB ((byts s).length : Int) 1 12 = false := by rw [byts_length]; unfold inB; simp; omega
      rw [hr]; rfl
    rw [hb]
    go_enter Tryz.func28, Tryz.ntmps28
    go_wp2_with fail
    go_ret
    exact ⟨rfl, rfl⟩
theorem dot_uniq : ∀ {a a' b b' : List UInt8}, a ++ 46 :: b = a' ++ 46 :: b' → (46 : UInt8) ∉ a → (46 : UInt8) ∉ a' → a = a' ∧ b = b'
  | [], [], _, _, h, _, _ => by simp at h; exact ⟨rfl, h⟩
  | [], x :: a', _, _, h, _, h2 => by simp at h; exact absurd h.1 (fun e => h2 (by simp [e]))
  | x :: a, [], _, _, h, h1, _ => by simp at h; exact absurd h.1 (fun e => h1 (by simp [e]))
  | x :: a, y :: a', b, b', h, h1, h2 => by
    simp at h
    obtain ⟨e1, e2⟩ := dot_uniq h.2 (fun hm => h1 (by simp [hm])) (fun hm => h2 (by simp [hm]))
    exact ⟨by rw [h.1, e1], e2⟩
theorem symbol_dot {s : ByteArray} {a b : List UInt8} (h : s.data.toList = a ++ 46 :: b) (hn : (46 : UInt8) ∉ a) : isSymbolB s = (isNameB ⟨a.toArray⟩ && isNameB ⟨b.toArray⟩) := by
  rcases index_dot s.data.toList with ⟨_, h5⟩ | ⟨a', b', h4, h5, h6⟩
  · exact absurd (by rw [h]; simp) h5
  · obtain ⟨rfl, rfl⟩ := dot_uniq (h.symm.trans h4) hn h5
    have e : Lib.cut s.data.toList [46] = (a, b, true) := by
      unfold Lib.cut
      rw [h6, if_pos (by omega), h4]
      simp
    unfold isSymbolB cutB
    rw [e]; rfl
theorem symbol_none {s : ByteArray} (h : (46 : UInt8) ∉ s.data.toList) : isSymbolB s = false := by
  rcases index_dot s.data.toList with ⟨h4, _⟩ | ⟨a', b', h4, h5, h6⟩
  · unfold isSymbolB cutB Lib.cut
    rw [h4, if_neg (by decide)]
    rfl
  · exact absurd (by rw [h4]; simp) h
theorem byte_at (s : ByteArray) (j : Nat) (hj : j < s.size) : s.data.toList[j]'(by rw [toList_length]; exact hj) = s[j] := by simp; rfl
theorem symbol_at {s : ByteArray} {k : Nat} (hk : k < s.size) (h : (s[k].toNat : Int) = 46) (hno : ∀ j (hj : j < s.size), j < k → (s[j].toNat : Int) ≠ 46) :
    isSymbolB s = (isNameB (s.extract 0 k) && isNameB (s.extract (k + 1) s.size)) := by
  have hlen := toList_length s
  have e46 : s[k] = 46 := by
    apply UInt8.toNat_inj.1
    have : s[k].toNat = 46 := by omega
    rw [this]; rfl
  have hsplit : s.data.toList = s.data.toList.take k ++ 46 :: s.data.toList.drop (k + 1) := by
    have h1 := List.take_append_drop k s.data.toList
    rw [List.drop_eq_getElem_cons (by rw [hlen]; exact hk), byte_at s k hk, e46] at h1
    exact h1.symm
  have hn : (46 : UInt8) ∉ s.data.toList.take k := by
    intro hm
    obtain ⟨j, hj, e⟩ := List.mem_iff_getElem.1 hm
    rw [List.length_take] at hj
    rw [List.getElem_take, byte_at s j (by omega)] at e
    exact hno j (by omega) (by omega) (by rw [e]; rfl)
  rw [symbol_dot hsplit hn]
  have e1 : (⟨(s.data.toList.take k).toArray⟩ : ByteArray) = s.extract 0 k := by
    apply ByteArray.ext
    apply Array.toList_inj.1
    simp [ByteArray.data_extract, List.extract]
  have e2 : (⟨(s.data.toList.drop (k + 1)).toArray⟩ : ByteArray) = s.extract (k + 1) s.size := by
    apply ByteArray.ext
    apply Array.toList_inj.1
    simp [ByteArray.data_extract, List.extract]
    rw [List.take_of_length_le]
    rw [List.length_drop, hlen]
    omega
  rw [e1, e2]
set_option maxRecDepth 100000 in
set_option maxHeartbeats 4000000 in
theorem rsymbol_any (s : ByteArray) (w : World) (hs : s.size ≤ 1048576) : Calls Tryz.prog 30 #[.string s] w fun e w' => e = .returned (.bool (isSymbolB s)) ∧ w' = w := by
  go_enter Tryz.func30, Tryz.ntmps30
  go_wp2_with fail
  go_loopw [3] (fun u wr => ∃ k : Nat, k ≤ s.size ∧ u = .int .i64 k ∧ wr = w ∧ Hid (∀ j (hj : j < s.size), j < k → (s[j].toNat : Int) ≠ 46)) (fun u _ => s.size - (intOf u).toNat)
  case atStart => exact ⟨0, by omega, rfl, rfl, Lib.hid (fun j _ h => by omega)⟩
  case round =>
    obtain ⟨k, hk, rfl, rfl, Hno⟩ := hrel
    by_cases hlt : k < s.size
    · have i0 : (0 : Int) ≤ (k : Int) := by omega
      have i1 : (k : Int) < (s.size : Int) := by omega
      by_cases hd : (s[k].toNat : Int) = 46
      · have hd' : ((s[k].toNat : Int) == 46) = true := by simpa using hd
        go_wp2_with fail
        have hsym := symbol_at hlt hd (fun j hj hjk => Hno.out j hj hjk)
        refine (rname_any _ _ (by simp; omega)).mono ?_
        rintro e w' ⟨rfl, rfl⟩
        cases h1 : isNameB (s.extract 0 k) with
        | false =>
          rw [h1, Bool.false_and] at hsym
          have Hs := Lib.hid hsym
          clear hsym h1
          go_wp2_with fail
          go_ret
          rw [Hs.out]
          exact ⟨rfl, rfl⟩
        | true =>
          rw [h1, Bool.true_and] at hsym
          have Hs := Lib.hid hsym
          clear hsym h1
          go_wp2_with fail
          refine (rname_any _ _ (by simp; omega)).mono ?_
          rintro e w' ⟨rfl, rfl⟩
          rw [← Hs.out]
          go_wp2_with fail
          go_ret
          exact ⟨rfl, rfl⟩
      · have hd' : ((s[k].toNat : Int) == 46) = false := by rw [beq_eq_false_iff_ne]; exact hd
        have Hd := Lib.hid hd
        clear hd
        go_wp2_with fail
        go_roundw
        case rel => exact ⟨k + 1, by omega, by go_num, trivial, Lib.hid (fun j hj hjk => if e : j = k then by subst e; exact Hd.out else Hno.out j hj (by omega))⟩
        case measure => simp [intOf]; omega
    · have i1 : ¬ (k : Int) < (s.size : Int) := by omega
      have hb : isSymbolB s = false := symbol_none (fun hm => by
        obtain ⟨j, hj, e⟩ := List.mem_iff_getElem.1 hm
        have hjs : j < s.size := by rw [toList_length] at hj; exact hj
        rw [byte_at s j hjs] at e
        exact Hno.out j hjs (by omega) (by rw [e]; rfl))
      have Hb := Lib.hid hb
      clear hb
      go_wp2_with fail
      go_ret
      rw [Hb.out]
      exact ⟨rfl, rfl⟩
end Go.Proofs.YtldnjnnhfeobdaaGreatDoor
/- Contracts of the reference: brands, parts, what may be above. Conditions: lengths below 2^20. -/
namespace Go.Proofs.YtldnjnnhfeobdaaGreatDoor
set_option linter.all false
set_option linter.unusedSimpArgs false
set_option linter.unusedVariables false
open Go.RowKit Go.Shelf

theorem brand_bad {s : ByteArray} {k : Nat} (hk : k < s.size) (h : (s[k].toNat : Int) < 32 ∨ (s[k].toNat : Int) > 126 ∨ (s[k].toNat : Int) = 34) : isBrandB s = false := by
  unfold isBrandB
  have : ((byts s).any fun n => decide (n < 32 ∨ n > 126 ∨ n = 34)) = true := List.any_eq_true.2 ⟨(s[k].toNat : Int), by rw [← byts_get s k hk]; exact List.getElem_mem _, by simpa using h⟩
  rw [this]; simp
theorem brand_good {s : ByteArray} (h : ∀ j (hj : j < s.size), ¬ ((s[j].toNat : Int) < 32 ∨ (s[j].toNat : Int) > 126 ∨ (s[j].toNat : Int) = 34)) : isBrandB s = decide (s.size ≤ 20) := by
  unfold isBrandB
  have : ((byts s).any fun n => decide (n < 32 ∨ n > 126 ∨ n = 34)) = false := by
    rw [List.any_eq_false]
    intro x hx
    obtain ⟨i, hi, rfl⟩ := List.mem_iff_getElem.1 hx
    rw [byts_length] at hi
    rw [byts_get s i hi]
    simpa using h i hi
  rw [this]; simp
set_option maxRecDepth 100000 in
set_option maxHeartbeats 4000000 in
theorem rbrand_any (s : ByteArray) (w : World) (hs : s.size ≤ 1048576) : Calls Tryz.prog 117 #[.string s] w fun e w' => e = .returned (.bool (isBrandB s)) ∧ w' = w := by
  go_enter Tryz.func117, Tryz.ntmps117
  go_wp2_with fail
  go_loopw [3] (fun u wr => ∃ k : Nat, k ≤ s.size ∧ u = .int .i64 k ∧ wr = w ∧ Hid (∀ j (hj : j < s.size), j < k → ¬ ((s[j].toNat : Int) < 32 ∨ (s[j].toNat : Int) > 126 ∨ (s[j].toNat : Int) = 34))) (fun u _ => s.size - (intOf u).toNat)
  case atStart => exact ⟨0, by omega, rfl, rfl, Lib.hid (fun j _ h => by omega)⟩
  case round =>
    obtain ⟨k, hk, rfl, rfl, Hno⟩ := hrel
    by_cases hlt : k < s.size
    · have i0 : (0 : Int) ≤ (k : Int) := by omega
      have i1 : (k : Int) < (s.size : Int) := by omega
      have hbad := brand_bad hlt
      have hnext := fun (h : ¬ ((s[k].toNat : Int) < 32 ∨ (s[k].toNat : Int) > 126 ∨ (s[k].toNat : Int) = 34)) j (hj : j < s.size) (hjk : j < k + 1) => if e : j = k then by subst e; exact h else Hno.out j hj (by omega)
      have Hbad := Lib.hid hbad
      have Hnext := Lib.hid hnext
      clear hbad hnext
      by_cases h1 : (s[k].toNat : Int) < 32
      · have Hb := Lib.hid (Hbad.out (.inl h1))
        go_wp2_with fail
        go_ret
        rw [Hb.out]
        exact ⟨rfl, rfl⟩
      · by_cases h2 : (126 : Int) < (s[k].toNat : Int)
        · have Hb := Lib.hid (Hbad.out (.inr (.inl h2)))
          go_wp2_with fail
          go_ret
          rw [Hb.out]
          exact ⟨rfl, rfl⟩
        · by_cases h3 : (s[k].toNat : Int) = 34
          · have h3' : ((s[k].toNat : Int) == 34) = true := by simpa using h3
            have Hb := Lib.hid (Hbad.out (.inr (.inr h3)))
            clear h3
            go_wp2_with fail
            go_ret
            rw [Hb.out]
            exact ⟨rfl, rfl⟩
          · have h3' : ((s[k].toNat : Int) == 34) = false := by rw [beq_eq_false_iff_ne]; exact h3
            have hn := Hnext.out (by omega)
            have Hn := Lib.hid hn
            clear hn h3
            go_wp2_with fail
            go_roundw
            case rel => exact ⟨k + 1, by omega, by go_num, trivial, Hn⟩
            case measure => simp [intOf]; omega
    · have i1 : ¬ (k : Int) < (s.size : Int) := by omega
      have hb : isBrandB s = decide (s.size ≤ 20) := brand_good (fun j hj => Hno.out j hj (by omega))
      have Hb := Lib.hid hb
      clear hb
      by_cases h20 : s.size ≤ 20
      · have q : (s.size : Int) ≤ 20 := by omega
        have hb : isBrandB s = true := by rw [Hb.out, decide_eq_true h20]
        have Hb2 := Lib.hid hb
        clear hb
        go_wp2_with fail
        go_ret
        rw [Hb2.out]
        exact ⟨rfl, rfl⟩
      · have q : ¬ (s.size : Int) ≤ 20 := by omega
        have hb : isBrandB s = false := by rw [Hb.out, decide_eq_false h20]
        have Hb2 := Lib.hid hb
        clear hb
        go_wp2_with fail
        go_ret
        rw [Hb2.out]
        exact ⟨rfl, rfl⟩
end Go.Proofs.YtldnjnnhfeobdaaGreatDoor
