/- Parts of the proof, joined: Contract: a type in new memory with other references. Conditions: lengths below 2^20; Contract: Merge. Conditions: lengths below 2^20; Contract: Merge. Conditions: lengths below 2^20; The law's own example: what the plain functions say of it. No program; Contracts: record, lists, of the law. No condition; Contract: alive, of the law. Condition: the tables of the library are laid; Types that are the same: no way tells them, their texts are equal; others: the way that is found tells them, and it is a least one. No program; Contract: TypesTold, the law: true. Conditions: a tidy graph, lengths below 2^20, the tables of the library laid. -/
import Derived.Test.YtldnjnnhfeobdaaGreatDoorB9
import Derived.Test.YtldnjnnhfeobdaaGreatDoorB7
import Derived.Test.YtldnjnnhfeobdaaGreatDoorB8
namespace Go.Proofs.YtldnjnnhfeobdaaGreatDoor
set_option linter.all false
set_option linter.unusedSimpArgs false
set_option linter.unusedVariables false
open Go.RowKit Go.Shelf

theorem map124 (w : World) (bf g : Nat) (cb : Array Value) (f : Int → Int) (ok : Int → Prop) (xs : List Part) (hc : w.cell? ⟨bf, 0, none⟩ = some (.func (.func g) #[] cb)) (hT : ToP w g cb f ok) (hx : ∀ p ∈ xs, ok p.type) :
    MapP partE partE w 124 #[.pointer (some ⟨bf, 0, none⟩)] xs (turnP f) :=
  ⟨enters_of Tryz.func124 (by kernel_rfl) rfl, by
    rintro x hxm w' A hxt ⟨_, rfl, rfl⟩
    exact moved1_any w' bf g cb f ok x (hxt.cell hc) (hT.later hxt) (hx x hxm)⟩
theorem map126 (w : World) (bf g : Nat) (cb : Array Value) (f : Int → Int) (ok : Int → Prop) (xs : List Method) (hc : w.cell? ⟨bf, 0, none⟩ = some (.func (.func g) #[] cb)) (hT : ToP w g cb f ok) (hs : ∀ m ∈ xs, MethodSmall m)
    (hx : ∀ m ∈ xs, (∀ a ∈ m.args, ok a) ∧ (0 ≤ m.result → ok m.result)) :
    MapP methodE methodE w 126 #[.pointer (some ⟨bf, 0, none⟩)] xs (turnM f) :=
  ⟨enters_of Tryz.func126 (by kernel_rfl) rfl, by
    rintro x hxm w' A hxt ⟨cs, ⟨va, vr, rfl, ha, hr⟩, rfl⟩
    exact moved2_any w' bf g cb f ok x va vr (hxt.cell hc) (hT.later hxt) ha hr (hs x hxm).2.2.1 (hs x hxm).2.2.2.1 (hx x hxm).1 (hx x hxm).2⟩
/-- while a type is turned: the box of it, that of the function, that of the result -/
structure MSt (w : World) (g : Nat) (cb : Array Value) (t : Ty) (vp vm vo : Value) (wr : World) : Prop where
  ext : Ext w wr
  box : TyBox wr w.heap.size t vp vm vo
  fbox : wr.heap[w.heap.size + 1]? = some (.cells #[.func (.func g) #[] cb] 103 (0, 0))
  zbox : TyBox wr (w.heap.size + 2) ty0 (.slice none 0 0) (.slice none 0 0) (.slice none 0 0)
section
variable {w : World} {g : Nat} {cb : Array Value} {t : Ty} {vp vm vo : Value} {wr wr' : World}
theorem MSt.later (h : MSt w g cb t vp vm vo wr) (hx : Ext wr wr') : MSt w g cb t vp vm vo wr' := ⟨h.ext.trans hx, h.box.ext hx, hx.heap h.fbox, h.zbox.ext hx⟩
theorem MSt.set (h : MSt w g cb t vp vm vo wr) (i : Nat) (v : Value) {t' : Ty} {vp' vm' vo' : Value} (hb : TyBox (wr.setCell ⟨w.heap.size, i, none⟩ v) w.heap.size t' vp' vm' vo') : MSt w g cb t' vp' vm' vo' (wr.setCell ⟨w.heap.size, i, none⟩ v) :=
  ⟨h.ext.setCell (Nat.le_refl _) _, hb, (Below.heap_setCell _ _ _ _ (by simp)).trans h.fbox, by unfold TyBox; rw [Below.heap_setCell _ _ _ _ (by simp)]; exact h.zbox⟩
theorem MSt.set6 (h : MSt w g cb t vp vm vo wr) (n : Int) : MSt w g cb { t with super := n } vp vm vo (wr.setCell ⟨w.heap.size, 6, none⟩ (.int .i64 n)) := h.set 6 _ (heap_set h.box 6 _)
theorem MSt.set7 (h : MSt w g cb t vp vm vo wr) (v : Value) : MSt w g cb t v vm vo (wr.setCell ⟨w.heap.size, 7, none⟩ v) := h.set 7 _ (heap_set h.box 7 _)
theorem MSt.set8 (h : MSt w g cb t vp vm vo wr) (v : Value) : MSt w g cb t vp v vo (wr.setCell ⟨w.heap.size, 8, none⟩ v) := h.set 8 _ (heap_set h.box 8 _)
theorem MSt.set9 (h : MSt w g cb t vp vm vo wr) (v : Value) : MSt w g cb t vp vm v (wr.setCell ⟨w.heap.size, 9, none⟩ v) := h.set 9 _ (heap_set h.box 9 _)
theorem MSt.fcell (h : MSt w g cb t vp vm vo wr) : wr.cell? ⟨w.heap.size + 1, 0, none⟩ = some (.func (.func g) #[] cb) := heap_cell h.fbox 0 _ rfl
end
theorem row10_set {w : World} {b : Nat} {t : TypeId} {fr : Nat × Nat} {a0 a1 a2 a3 a4 a5 a6 a7 a8 a9 : Value} (h : w.heap[b]? = some (.cells #[a0, a1, a2, a3, a4, a5, a6, a7, a8, a9] t fr)) (v0 v1 v2 v3 v4 v5 v6 v7 v8 v9 : Value) :
    ((((((((((w.setCell ⟨b, 0, none⟩ v0).setCell ⟨b, 1, none⟩ v1).setCell ⟨b, 2, none⟩ v2).setCell ⟨b, 3, none⟩ v3).setCell ⟨b, 4, none⟩ v4).setCell ⟨b, 5, none⟩ v5).setCell ⟨b, 6, none⟩ v6).setCell ⟨b, 7, none⟩ v7).setCell ⟨b, 8, none⟩ v8).setCell ⟨b, 9, none⟩ v9).heap[b]? = some (.cells #[v0, v1, v2, v3, v4, v5, v6, v7, v8, v9] t fr) := by
  have h0 := heap_set h 0 v0
  simp only [List.setIfInBounds_toArray, List.set_cons_zero, List.set_cons_succ] at h0
  have h1 := heap_set h0 1 v1
  simp only [List.setIfInBounds_toArray, List.set_cons_zero, List.set_cons_succ] at h1
  have h2 := heap_set h1 2 v2
  simp only [List.setIfInBounds_toArray, List.set_cons_zero, List.set_cons_succ] at h2
  have h3 := heap_set h2 3 v3
  simp only [List.setIfInBounds_toArray, List.set_cons_zero, List.set_cons_succ] at h3
  have h4 := heap_set h3 4 v4
  simp only [List.setIfInBounds_toArray, List.set_cons_zero, List.set_cons_succ] at h4
  have h5 := heap_set h4 5 v5
  simp only [List.setIfInBounds_toArray, List.set_cons_zero, List.set_cons_succ] at h5
  have h6 := heap_set h5 6 v6
  simp only [List.setIfInBounds_toArray, List.set_cons_zero, List.set_cons_succ] at h6
  have h7 := heap_set h6 7 v7
  simp only [List.setIfInBounds_toArray, List.set_cons_zero, List.set_cons_succ] at h7
  have h8 := heap_set h7 8 v8
  simp only [List.setIfInBounds_toArray, List.set_cons_zero, List.set_cons_succ] at h8
  have h9 := heap_set h8 9 v9
  simp only [List.setIfInBounds_toArray, List.set_cons_zero, List.set_cons_succ] at h9
  exact h9
theorem SlF.set {α : Type} {E : Elt α} {n : Nat} {w : World} {v : Value} {xs : List α} (h : SlF (fun b => n ≤ b) E w v xs) {b : Nat} (hb : b < n) (i : Nat) (u : Value) : SlF (fun b => n ≤ b) E (w.setCell ⟨b, i, none⟩ u) v xs :=
  h.mono (fun c hc _ => Below.heap_setCell _ _ _ _ (by simp; omega)) (fun _ h _ => h)

set_option maxRecDepth 100000 in
set_option maxHeartbeats 8000000 in
theorem moved_any (w : World) (g : Nat) (cb : Array Value) (f : Int → Int) (ok : Int → Prop) (t : Ty) (vp vm vo : Value) (hof : TyOf w t vp vm vo) (hs : TySmall t) (hT : ToP w g cb f ok) (hok : ∀ r ∈ refsL t, ok r) :
    Calls Tryz.prog 72 #[tyV t vp vm vo, .func (.func g) #[] cb] w (RetP w (Res tyE w (turnT f t))) := by
  have eg : ∀ args w, (callFunc g args).run Tryz.prog w = .ok (.enter g args) w := hT.ent
  have hkd := fun w' : World => hasSuper_any t.kind w'
  have hsup := fun (w' : World) (h : Ext w w') (h0 : hasSuperB t.kind = true) => hT.run t.super (hok _ (by unfold refsL refsS; rw [h0]; simp)) w' h
  have hpa := fun (w' : World) (h : Ext w w') (hc : w'.cell? ⟨w.heap.size + 1, 0, none⟩ = some (.func (.func g) #[] cb)) => turned_part_part 124 #[.pointer (some ⟨w.heap.size + 1, 0, none⟩)] w' vp t.parts (turnP f) (hof.parts.mono h) hs.parts (map124 w' _ g cb f ok t.parts hc (hT.later h) (fun p hp => hok _ (by unfold refsL; simp only [List.mem_append]; exact .inr (.inl (List.mem_map_of_mem hp)))))
  have hme := fun (w' : World) (h : Ext w w') (hc : w'.cell? ⟨w.heap.size + 1, 0, none⟩ = some (.func (.func g) #[] cb)) => turned_method_method 126 #[.pointer (some ⟨w.heap.size + 1, 0, none⟩)] w' vm t.methods (turnM f) (hof.methods.mono h) hs.methods (map126 w' _ g cb f ok t.methods hc (hT.later h) hs.method (fun m hm => ⟨fun a ha => hok _ (by unfold refsL; simp only [List.mem_append]; exact .inr (.inr (List.mem_flatMap.2 ⟨m, hm, by unfold refsM; simp [ha]⟩))), fun h0 => hok _ (by unfold refsL; simp only [List.mem_append]; exact .inr (.inr (List.mem_flatMap.2 ⟨m, hm, by unfold refsM; rw [if_pos h0]; simp⟩)))⟩))
  have hov := fun (w' : World) (h : Ext w w') => clone_over w' vo t.overs (hof.overs.mono h) hs.overs
  obtain ⟨Ap, cp, ep⟩ := hof.parts.len
  obtain ⟨Am, cm, em⟩ := hof.methods.len
  obtain ⟨Ao, co, eo⟩ := hof.overs.len
  subst ep em eo
  have Hkd := Lib.hid hkd
  have Hsup := Lib.hid hsup
  have Hpa := Lib.hid hpa
  have Hme := Lib.hid hme
  have Hov := Lib.hid hov
  clear hkd hsup hpa hme hov hT hof hok hs
  have hst : MSt w g cb t (.slice Ap t.parts.length cp) (.slice Am t.methods.length cm) (.slice Ao t.overs.length co) (((w.alloc (.cells #[.int .u8 t.kind, .int .i64 t.low, .int .i64 t.high, .bool t.branded, .string t.brand, .string t.opaq, .int .i64 t.super, .slice Ap t.parts.length cp, .slice Am t.methods.length cm, .slice Ao t.overs.length co] 42)).alloc (.cells #[.func (.func g) #[] cb] 103)).alloc (.cells #[.int .u8 0, .int .i64 0, .int .i64 0, .bool false, .string ⟨#[]⟩, .string ⟨#[]⟩, .int .i64 0, .slice none 0 0, .slice none 0 0, .slice none 0 0] 42)) := by
    refine ⟨(((Ext.refl w).alloc _).alloc _).alloc _, ?_, ?_, ?_⟩
    · exact ((Below.heap_alloc _ _ _ (by simp; omega)).trans (Below.heap_alloc _ _ _ (by simp))).trans (heap_alloc_self w _)
    · have h := heap_alloc_self (w.alloc (.cells #[.int .u8 t.kind, .int .i64 t.low, .int .i64 t.high, .bool t.branded, .string t.brand, .string t.opaq, .int .i64 t.super, .slice Ap t.parts.length cp, .slice Am t.methods.length cm, .slice Ao t.overs.length co] 42)) (.cells #[.func (.func g) #[] cb] 103)
      rw [World.size_alloc] at h
      exact (Below.heap_alloc _ _ _ (by simp)).trans h
    · have h := heap_alloc_self ((w.alloc (.cells #[.int .u8 t.kind, .int .i64 t.low, .int .i64 t.high, .bool t.branded, .string t.brand, .string t.opaq, .int .i64 t.super, .slice Ap t.parts.length cp, .slice Am t.methods.length cm, .slice Ao t.overs.length co] 42)).alloc (.cells #[.func (.func g) #[] cb] 103)) (.cells #[.int .u8 0, .int .i64 0, .int .i64 0, .bool false, .string ⟨#[]⟩, .string ⟨#[]⟩, .int .i64 0, .slice none 0 0, .slice none 0 0, .slice none 0 0] 42)
      rw [World.size_alloc, World.size_alloc] at h
      exact h
  have Hst := Lib.hid hst
  clear hst
  unfold tyV
  cases hs0 : hasSuperB t.kind
  · skip
    have Hs0 := Lib.hid hs0
    clear hs0
    have x0 := heap_cell Hst.out.box 0 _ rfl
    have l0 := Hst.out.box.lt
    go_enter Tryz.func72, Tryz.ntmps72
    go_wp2_with fail
    refine (Hkd.out _).mono ?_
    rintro e w1 ⟨rfl, hw1⟩
    rw [Hs0.out]
    subst hw1
    clear x0 l0
    generalize ((w.alloc (.cells #[.int .u8 t.kind, .int .i64 t.low, .int .i64 t.high, .bool t.branded, .string t.brand, .string t.opaq, .int .i64 t.super, .slice Ap t.parts.length cp, .slice Am t.methods.length cm, .slice Ao t.overs.length co] 42)).alloc (.cells #[.func (.func g) #[] cb] 103)).alloc (.cells #[.int .u8 0, .int .i64 0, .int .i64 0, .bool false, .string ⟨#[]⟩, .string ⟨#[]⟩, .int .i64 0, .slice none 0 0, .slice none 0 0, .slice none 0 0] 42) = W1 at Hst ⊢
    have b0 := Hst.out.box
    have cf := Hst.out.fcell
    have lf := cell_lt cf
    have x7 := heap_cell b0 7 _ rfl
    have lx := Hst.out.box.lt
    clear b0
    go_wp2_with fail
    clear cf lf lx x7
    refine (Hpa.out _ Hst.out.ext Hst.out.fcell).mono ?_
    rintro e w3 ⟨v3, rfl, hv3, hx3⟩
    obtain ⟨A3, c3, e3⟩ := hv3.any.len
    rw [List.length_map] at e3
    subst e3
    have Hv3 := Lib.hid (hv3.mono (G := fun b => w.heap.size + 3 ≤ b) (fun _ _ _ => rfl) (fun b hb _ => by have h5 := Hst.out.zbox.lt; unfold New at hb; omega))
    replace Hst := Lib.hid (Hst.out.later hx3)
    clear hv3 hx3
    have b0 := Hst.out.box
    have cf := Hst.out.fcell
    have lf := cell_lt cf
    have x7 := heap_cell b0 7 _ rfl
    have x8 := heap_cell b0 8 _ rfl
    have z7 := heap_frozen b0 7
    have lx := Hst.out.box.lt
    clear b0
    have Hst2 := Lib.hid (Hst.out.set7 (.slice A3 t.parts.length c3))
    have x82 := heap_cell Hst2.out.box 8 _ rfl
    have cf2 := Hst2.out.fcell
    have lf2 := cell_lt cf2
    go_wp2_with fail
    clear cf lf lx x7 x8 z7
    clear cf2 lf2 x82
    replace Hst := Hst2
    replace Hv3 := Lib.hid (Hv3.out.set (show w.heap.size < w.heap.size + 3 by omega) 7 (.slice A3 t.parts.length c3))
    generalize w3.setCell ⟨w.heap.size, 7, none⟩ (.slice A3 t.parts.length c3) = W3 at Hst Hv3 ⊢
    refine (Hme.out _ Hst.out.ext Hst.out.fcell).mono ?_
    rintro e w4 ⟨v4, rfl, hv4, hx4⟩
    obtain ⟨A4, c4, e4⟩ := hv4.any.len
    rw [List.length_map] at e4
    subst e4
    have Hv4 := Lib.hid (hv4.mono (G := fun b => w.heap.size + 3 ≤ b) (fun _ _ _ => rfl) (fun b hb _ => by have h5 := Hst.out.zbox.lt; unfold New at hb; omega))
    replace Hst := Lib.hid (Hst.out.later hx4)
    replace Hv3 := Lib.hid (Hv3.out.ext hx4)
    clear hv4 hx4
    have b0 := Hst.out.box
    have cf := Hst.out.fcell
    have lf := cell_lt cf
    have x8 := heap_cell b0 8 _ rfl
    have x9 := heap_cell b0 9 _ rfl
    have z8 := heap_frozen b0 8
    have lx := Hst.out.box.lt
    clear b0
    have Hst2 := Lib.hid (Hst.out.set8 (.slice A4 t.methods.length c4))
    have x92 := heap_cell Hst2.out.box 9 _ rfl
    go_wp2_with fail
    clear cf lf lx x8 x9 z8
    clear x92
    replace Hst := Hst2
    replace Hv3 := Lib.hid (Hv3.out.set (show w.heap.size < w.heap.size + 3 by omega) 8 (.slice A4 t.methods.length c4))
    replace Hv4 := Lib.hid (Hv4.out.set (show w.heap.size < w.heap.size + 3 by omega) 8 (.slice A4 t.methods.length c4))
    generalize w4.setCell ⟨w.heap.size, 8, none⟩ (.slice A4 t.methods.length c4) = W4 at Hst Hv3 Hv4 ⊢
    refine (Hov.out _ Hst.out.ext).mono ?_
    rintro e w5 ⟨v5, rfl, hv5, hx5⟩
    obtain ⟨A5, c5, rfl⟩ := hv5.any.len
    have Hv5 := Lib.hid (hv5.mono (G := fun b => w.heap.size + 3 ≤ b) (fun _ _ _ => rfl) (fun b hb _ => by have h5 := Hst.out.zbox.lt; unfold New at hb; omega))
    replace Hst := Lib.hid (Hst.out.later hx5)
    replace Hv3 := Lib.hid (Hv3.out.ext hx5)
    replace Hv4 := Lib.hid (Hv4.out.ext hx5)
    clear hv5 hx5
    have b0 := Hst.out.box
    have x9 := heap_cell b0 9 _ rfl
    have z9 := heap_frozen b0 9
    have lx := Hst.out.box.lt
    clear b0
    have Hst2 := Lib.hid (Hst.out.set9 (.slice A5 t.overs.length c5))
    have b2 := Hst2.out.box
    have q0 := heap_cell b2 0 _ rfl
    have q1 := heap_cell b2 1 _ rfl
    have q2 := heap_cell b2 2 _ rfl
    have q3 := heap_cell b2 3 _ rfl
    have q4 := heap_cell b2 4 _ rfl
    have q5 := heap_cell b2 5 _ rfl
    have q6 := heap_cell b2 6 _ rfl
    have q7 := heap_cell b2 7 _ rfl
    have q8 := heap_cell b2 8 _ rfl
    have q9 := heap_cell b2 9 _ rfl
    have y := Hst2.out.zbox
    have y0 := heap_cell y 0 _ rfl
    have y1 := heap_cell y 1 _ rfl
    have y2 := heap_cell y 2 _ rfl
    have y3 := heap_cell y 3 _ rfl
    have y4 := heap_cell y 4 _ rfl
    have y5 := heap_cell y 5 _ rfl
    have y6 := heap_cell y 6 _ rfl
    have y7 := heap_cell y 7 _ rfl
    have y8 := heap_cell y 8 _ rfl
    have y9 := heap_cell y 9 _ rfl
    have f0 := heap_frozen y 0
    have f1 := heap_frozen y 1
    have f2 := heap_frozen y 2
    have f3 := heap_frozen y 3
    have f4 := heap_frozen y 4
    have f5 := heap_frozen y 5
    have f6 := heap_frozen y 6
    have f7 := heap_frozen y 7
    have f8 := heap_frozen y 8
    have f9 := heap_frozen y 9
    have ly := Hst2.out.zbox.lt
    have lq := Hst2.out.box.lt
    clear b2 y
    go_wp2_with fail
    have e5 := row10_set Hst2.out.zbox (.int .u8 t.kind) (.int .i64 t.low) (.int .i64 t.high) (.bool t.branded) (.string t.brand) (.string t.opaq) (.int .i64 t.super) (.slice A3 t.parts.length c3) (.slice A4 t.methods.length c4) (.slice A5 t.overs.length c5)
    have d0 := heap_cell e5 0 _ rfl
    have d1 := heap_cell e5 1 _ rfl
    have d2 := heap_cell e5 2 _ rfl
    have d3 := heap_cell e5 3 _ rfl
    have d4 := heap_cell e5 4 _ rfl
    have d5 := heap_cell e5 5 _ rfl
    have d6 := heap_cell e5 6 _ rfl
    have d7 := heap_cell e5 7 _ rfl
    have d8 := heap_cell e5 8 _ rfl
    have d9 := heap_cell e5 9 _ rfl
    have hm : turnT f t = ⟨t.kind, t.low, t.high, t.branded, t.brand, t.opaq, t.super, t.parts.map (turnP f), t.methods.map (turnM f), t.overs⟩ := by unfold turnT; rw [Hs0.out]; rfl
    rw [hm]
    refine bodyPost_ret (v := .agg #[.int .u8 t.kind, .int .i64 t.low, .int .i64 t.high, .bool t.branded, .string t.brand, .string t.opaq, .int .i64 t.super, .slice A3 t.parts.length c3, .slice A4 t.methods.length c4, .slice A5 t.overs.length c5]) ?_ rfl ?_
    · simp [results, Tryz.results72, go_sem, d0, d1, d2, d3, d4, d5, d6, d7, d8, d9]
    · refine ⟨_, rfl, ⟨_, ⟨_, _, _, rfl, ?_, ?_, ?_⟩, rfl⟩, ?_⟩
      · refine (Hv3.out.set (show w.heap.size < w.heap.size + 3 by omega) 9 (.slice A5 t.overs.length c5)).mono (fun b hb _ => ?_) (fun b hb _ => (by unfold New; omega))
        rw [Below.heap_setCell _ _ _ _ (by simp; omega), Below.heap_setCell _ _ _ _ (by simp; omega), Below.heap_setCell _ _ _ _ (by simp; omega), Below.heap_setCell _ _ _ _ (by simp; omega), Below.heap_setCell _ _ _ _ (by simp; omega), Below.heap_setCell _ _ _ _ (by simp; omega), Below.heap_setCell _ _ _ _ (by simp; omega), Below.heap_setCell _ _ _ _ (by simp; omega), Below.heap_setCell _ _ _ _ (by simp; omega), Below.heap_setCell _ _ _ _ (by simp; omega)]
      · refine (Hv4.out.set (show w.heap.size < w.heap.size + 3 by omega) 9 (.slice A5 t.overs.length c5)).mono (fun b hb _ => ?_) (fun b hb _ => (by unfold New; omega))
        rw [Below.heap_setCell _ _ _ _ (by simp; omega), Below.heap_setCell _ _ _ _ (by simp; omega), Below.heap_setCell _ _ _ _ (by simp; omega), Below.heap_setCell _ _ _ _ (by simp; omega), Below.heap_setCell _ _ _ _ (by simp; omega), Below.heap_setCell _ _ _ _ (by simp; omega), Below.heap_setCell _ _ _ _ (by simp; omega), Below.heap_setCell _ _ _ _ (by simp; omega), Below.heap_setCell _ _ _ _ (by simp; omega), Below.heap_setCell _ _ _ _ (by simp; omega)]
      · refine (Hv5.out.set (show w.heap.size < w.heap.size + 3 by omega) 9 (.slice A5 t.overs.length c5)).mono (fun b hb _ => ?_) (fun b hb _ => (by unfold New; omega))
        rw [Below.heap_setCell _ _ _ _ (by simp; omega), Below.heap_setCell _ _ _ _ (by simp; omega), Below.heap_setCell _ _ _ _ (by simp; omega), Below.heap_setCell _ _ _ _ (by simp; omega), Below.heap_setCell _ _ _ _ (by simp; omega), Below.heap_setCell _ _ _ _ (by simp; omega), Below.heap_setCell _ _ _ _ (by simp; omega), Below.heap_setCell _ _ _ _ (by simp; omega), Below.heap_setCell _ _ _ _ (by simp; omega), Below.heap_setCell _ _ _ _ (by simp; omega)]
      · exact ((((((((((Hst2.out.ext).setCell (by simp; omega) _).setCell (by simp; omega) _).setCell (by simp; omega) _).setCell (by simp; omega) _).setCell (by simp; omega) _).setCell (by simp; omega) _).setCell (by simp; omega) _).setCell (by simp; omega) _).setCell (by simp; omega) _).setCell (by simp; omega) _
  · skip
    have Hs0 := Lib.hid hs0
    clear hs0
    have x0 := heap_cell Hst.out.box 0 _ rfl
    have l0 := Hst.out.box.lt
    go_enter Tryz.func72, Tryz.ntmps72
    go_wp2_with fail
    refine (Hkd.out _).mono ?_
    rintro e w1 ⟨rfl, hw1⟩
    rw [Hs0.out]
    subst hw1
    clear x0 l0
    generalize ((w.alloc (.cells #[.int .u8 t.kind, .int .i64 t.low, .int .i64 t.high, .bool t.branded, .string t.brand, .string t.opaq, .int .i64 t.super, .slice Ap t.parts.length cp, .slice Am t.methods.length cm, .slice Ao t.overs.length co] 42)).alloc (.cells #[.func (.func g) #[] cb] 103)).alloc (.cells #[.int .u8 0, .int .i64 0, .int .i64 0, .bool false, .string ⟨#[]⟩, .string ⟨#[]⟩, .int .i64 0, .slice none 0 0, .slice none 0 0, .slice none 0 0] 42) = W1 at Hst ⊢
    have b0 := Hst.out.box
    have cf := Hst.out.fcell
    have lf := cell_lt cf
    have x6 := heap_cell b0 6 _ rfl
    have lx := Hst.out.box.lt
    clear b0
    go_wp2_with fail
    refine (Hsup.out _ Hst.out.ext Hs0.out).mono ?_
    rintro e w2 ⟨rfl, hx2⟩
    clear cf lf lx x6
    replace Hst := Lib.hid (Hst.out.later hx2)
    clear hx2
    have b0 := Hst.out.box
    have cf := Hst.out.fcell
    have lf := cell_lt cf
    have x6 := heap_cell b0 6 _ rfl
    have x7 := heap_cell b0 7 _ rfl
    have z6 := heap_frozen b0 6
    have lx := Hst.out.box.lt
    clear b0
    have Hst2 := Lib.hid (Hst.out.set6 (f t.super))
    have cf2 := Hst2.out.fcell
    have x72 := heap_cell Hst2.out.box 7 _ rfl
    have lf2 := cell_lt cf2
    go_wp2_with fail
    clear cf lf lx x6 x7 z6
    clear cf2 x72 lf2
    replace Hst := Hst2
    generalize w2.setCell ⟨w.heap.size, 6, none⟩ (.int .i64 (f t.super)) = W2 at Hst ⊢
    refine (Hpa.out _ Hst.out.ext Hst.out.fcell).mono ?_
    rintro e w3 ⟨v3, rfl, hv3, hx3⟩
    obtain ⟨A3, c3, e3⟩ := hv3.any.len
    rw [List.length_map] at e3
    subst e3
    have Hv3 := Lib.hid (hv3.mono (G := fun b => w.heap.size + 3 ≤ b) (fun _ _ _ => rfl) (fun b hb _ => by have h5 := Hst.out.zbox.lt; unfold New at hb; omega))
    replace Hst := Lib.hid (Hst.out.later hx3)
    clear hv3 hx3
    have b0 := Hst.out.box
    have cf := Hst.out.fcell
    have lf := cell_lt cf
    have x7 := heap_cell b0 7 _ rfl
    have x8 := heap_cell b0 8 _ rfl
    have z7 := heap_frozen b0 7
    have lx := Hst.out.box.lt
    clear b0
    have Hst2 := Lib.hid (Hst.out.set7 (.slice A3 t.parts.length c3))
    have x82 := heap_cell Hst2.out.box 8 _ rfl
    have cf2 := Hst2.out.fcell
    have lf2 := cell_lt cf2
    go_wp2_with fail
    clear cf lf lx x7 x8 z7
    clear cf2 lf2 x82
    replace Hst := Hst2
    replace Hv3 := Lib.hid (Hv3.out.set (show w.heap.size < w.heap.size + 3 by omega) 7 (.slice A3 t.parts.length c3))
    generalize w3.setCell ⟨w.heap.size, 7, none⟩ (.slice A3 t.parts.length c3) = W3 at Hst Hv3 ⊢
    refine (Hme.out _ Hst.out.ext Hst.out.fcell).mono ?_
    rintro e w4 ⟨v4, rfl, hv4, hx4⟩
    obtain ⟨A4, c4, e4⟩ := hv4.any.len
    rw [List.length_map] at e4
    subst e4
    have Hv4 := Lib.hid (hv4.mono (G := fun b => w.heap.size + 3 ≤ b) (fun _ _ _ => rfl) (fun b hb _ => by have h5 := Hst.out.zbox.lt; unfold New at hb; omega))
    replace Hst := Lib.hid (Hst.out.later hx4)
    replace Hv3 := Lib.hid (Hv3.out.ext hx4)
    clear hv4 hx4
    have b0 := Hst.out.box
    have cf := Hst.out.fcell
    have lf := cell_lt cf
    have x8 := heap_cell b0 8 _ rfl
    have x9 := heap_cell b0 9 _ rfl
    have z8 := heap_frozen b0 8
    have lx := Hst.out.box.lt
    clear b0
    have Hst2 := Lib.hid (Hst.out.set8 (.slice A4 t.methods.length c4))
    have x92 := heap_cell Hst2.out.box 9 _ rfl
    go_wp2_with fail
    clear cf lf lx x8 x9 z8
    clear x92
    replace Hst := Hst2
    replace Hv3 := Lib.hid (Hv3.out.set (show w.heap.size < w.heap.size + 3 by omega) 8 (.slice A4 t.methods.length c4))
    replace Hv4 := Lib.hid (Hv4.out.set (show w.heap.size < w.heap.size + 3 by omega) 8 (.slice A4 t.methods.length c4))
    generalize w4.setCell ⟨w.heap.size, 8, none⟩ (.slice A4 t.methods.length c4) = W4 at Hst Hv3 Hv4 ⊢
    refine (Hov.out _ Hst.out.ext).mono ?_
    rintro e w5 ⟨v5, rfl, hv5, hx5⟩
    obtain ⟨A5, c5, rfl⟩ := hv5.any.len
    have Hv5 := Lib.hid (hv5.mono (G := fun b => w.heap.size + 3 ≤ b) (fun _ _ _ => rfl) (fun b hb _ => by have h5 := Hst.out.zbox.lt; unfold New at hb; omega))
    replace Hst := Lib.hid (Hst.out.later hx5)
    replace Hv3 := Lib.hid (Hv3.out.ext hx5)
    replace Hv4 := Lib.hid (Hv4.out.ext hx5)
    clear hv5 hx5
    have b0 := Hst.out.box
    have x9 := heap_cell b0 9 _ rfl
    have z9 := heap_frozen b0 9
    have lx := Hst.out.box.lt
    clear b0
    have Hst2 := Lib.hid (Hst.out.set9 (.slice A5 t.overs.length c5))
    have b2 := Hst2.out.box
    have q0 := heap_cell b2 0 _ rfl
    have q1 := heap_cell b2 1 _ rfl
    have q2 := heap_cell b2 2 _ rfl
    have q3 := heap_cell b2 3 _ rfl
    have q4 := heap_cell b2 4 _ rfl
    have q5 := heap_cell b2 5 _ rfl
    have q6 := heap_cell b2 6 _ rfl
    have q7 := heap_cell b2 7 _ rfl
    have q8 := heap_cell b2 8 _ rfl
    have q9 := heap_cell b2 9 _ rfl
    have y := Hst2.out.zbox
    have y0 := heap_cell y 0 _ rfl
    have y1 := heap_cell y 1 _ rfl
    have y2 := heap_cell y 2 _ rfl
    have y3 := heap_cell y 3 _ rfl
    have y4 := heap_cell y 4 _ rfl
    have y5 := heap_cell y 5 _ rfl
    have y6 := heap_cell y 6 _ rfl
    have y7 := heap_cell y 7 _ rfl
    have y8 := heap_cell y 8 _ rfl
    have y9 := heap_cell y 9 _ rfl
    have f0 := heap_frozen y 0
    have f1 := heap_frozen y 1
    have f2 := heap_frozen y 2
    have f3 := heap_frozen y 3
    have f4 := heap_frozen y 4
    have f5 := heap_frozen y 5
    have f6 := heap_frozen y 6
    have f7 := heap_frozen y 7
    have f8 := heap_frozen y 8
    have f9 := heap_frozen y 9
    have ly := Hst2.out.zbox.lt
    have lq := Hst2.out.box.lt
    clear b2 y
    go_wp2_with fail
    have e5 := row10_set Hst2.out.zbox (.int .u8 t.kind) (.int .i64 t.low) (.int .i64 t.high) (.bool t.branded) (.string t.brand) (.string t.opaq) (.int .i64 (f t.super)) (.slice A3 t.parts.length c3) (.slice A4 t.methods.length c4) (.slice A5 t.overs.length c5)
    have d0 := heap_cell e5 0 _ rfl
    have d1 := heap_cell e5 1 _ rfl
    have d2 := heap_cell e5 2 _ rfl
    have d3 := heap_cell e5 3 _ rfl
    have d4 := heap_cell e5 4 _ rfl
    have d5 := heap_cell e5 5 _ rfl
    have d6 := heap_cell e5 6 _ rfl
    have d7 := heap_cell e5 7 _ rfl
    have d8 := heap_cell e5 8 _ rfl
    have d9 := heap_cell e5 9 _ rfl
    have hm : turnT f t = ⟨t.kind, t.low, t.high, t.branded, t.brand, t.opaq, f t.super, t.parts.map (turnP f), t.methods.map (turnM f), t.overs⟩ := by unfold turnT; rw [Hs0.out]; rfl
    rw [hm]
    refine bodyPost_ret (v := .agg #[.int .u8 t.kind, .int .i64 t.low, .int .i64 t.high, .bool t.branded, .string t.brand, .string t.opaq, .int .i64 (f t.super), .slice A3 t.parts.length c3, .slice A4 t.methods.length c4, .slice A5 t.overs.length c5]) ?_ rfl ?_
    · simp [results, Tryz.results72, go_sem, d0, d1, d2, d3, d4, d5, d6, d7, d8, d9]
    · refine ⟨_, rfl, ⟨_, ⟨_, _, _, rfl, ?_, ?_, ?_⟩, rfl⟩, ?_⟩
      · refine (Hv3.out.set (show w.heap.size < w.heap.size + 3 by omega) 9 (.slice A5 t.overs.length c5)).mono (fun b hb _ => ?_) (fun b hb _ => (by unfold New; omega))
        rw [Below.heap_setCell _ _ _ _ (by simp; omega), Below.heap_setCell _ _ _ _ (by simp; omega), Below.heap_setCell _ _ _ _ (by simp; omega), Below.heap_setCell _ _ _ _ (by simp; omega), Below.heap_setCell _ _ _ _ (by simp; omega), Below.heap_setCell _ _ _ _ (by simp; omega), Below.heap_setCell _ _ _ _ (by simp; omega), Below.heap_setCell _ _ _ _ (by simp; omega), Below.heap_setCell _ _ _ _ (by simp; omega), Below.heap_setCell _ _ _ _ (by simp; omega)]
      · refine (Hv4.out.set (show w.heap.size < w.heap.size + 3 by omega) 9 (.slice A5 t.overs.length c5)).mono (fun b hb _ => ?_) (fun b hb _ => (by unfold New; omega))
        rw [Below.heap_setCell _ _ _ _ (by simp; omega), Below.heap_setCell _ _ _ _ (by simp; omega), Below.heap_setCell _ _ _ _ (by simp; omega), Below.heap_setCell _ _ _ _ (by simp; omega), Below.heap_setCell _ _ _ _ (by simp; omega), Below.heap_setCell _ _ _ _ (by simp; omega), Below.heap_setCell _ _ _ _ (by simp; omega), Below.heap_setCell _ _ _ _ (by simp; omega), Below.heap_setCell _ _ _ _ (by simp; omega), Below.heap_setCell _ _ _ _ (by simp; omega)]
      · refine (Hv5.out.set (show w.heap.size < w.heap.size + 3 by omega) 9 (.slice A5 t.overs.length c5)).mono (fun b hb _ => ?_) (fun b hb _ => (by unfold New; omega))
        rw [Below.heap_setCell _ _ _ _ (by simp; omega), Below.heap_setCell _ _ _ _ (by simp; omega), Below.heap_setCell _ _ _ _ (by simp; omega), Below.heap_setCell _ _ _ _ (by simp; omega), Below.heap_setCell _ _ _ _ (by simp; omega), Below.heap_setCell _ _ _ _ (by simp; omega), Below.heap_setCell _ _ _ _ (by simp; omega), Below.heap_setCell _ _ _ _ (by simp; omega), Below.heap_setCell _ _ _ _ (by simp; omega), Below.heap_setCell _ _ _ _ (by simp; omega)]
      · exact ((((((((((Hst2.out.ext).setCell (by simp; omega) _).setCell (by simp; omega) _).setCell (by simp; omega) _).setCell (by simp; omega) _).setCell (by simp; omega) _).setCell (by simp; omega) _).setCell (by simp; omega) _).setCell (by simp; omega) _).setCell (by simp; omega) _).setCell (by simp; omega) _
end Go.Proofs.YtldnjnnhfeobdaaGreatDoor
/- Contract: Merge. Conditions: lengths below 2^20. -/
namespace Go.Proofs.YtldnjnnhfeobdaaGreatDoor
set_option linter.all false
set_option linter.unusedSimpArgs false
set_option linter.unusedVariables false
open Go.RowKit Go.Shelf

/-- how many stand for themselves -/
def repsN (cs : List Nat) (k : Nat) : Nat := (List.range k).countP fun i => cs.getD i 0 == i
def placeL (cs : List Nat) (n k : Nat) : List Nat := (List.range n).map fun i => if i < k ∧ cs.getD i 0 = i then repsN cs i else 0
def toF (cs pl : List Nat) (x : Int) : Int := (pl.getD (cs.getD x.toNat 0) 0 : Nat)
def mergeL (g : Graph) (cs pl : List Nat) (k : Nat) : List Ty := ((List.range k).filter fun i => cs.getD i 0 == i).map fun i => turnT (toF cs pl) (getT g i)
def mergeG (g : Graph) : Graph := if errG g [] = 0 then mergeL g (classesG g) (placeL (classesG g) g.length g.length) g.length else []
def mergeTo (g : Graph) : List Int := if errG g [] = 0 then (classesG g).map (fun c => ((placeL (classesG g) g.length g.length).getD c 0 : Int)) else []
theorem repsN_succ (cs : List Nat) (k : Nat) : repsN cs (k + 1) = repsN cs k + if cs.getD k 0 = k then 1 else 0 := by
  unfold repsN
  rw [List.range_succ, List.countP_append]
  by_cases h : cs.getD k 0 = k <;> simp [h, List.countP_cons]
theorem repsN_le (cs : List Nat) (k : Nat) : repsN cs k ≤ k := by
  have := List.countP_le_length (p := fun i => cs.getD i 0 == i) (l := List.range k)
  unfold repsN
  simpa using this
theorem placeL_length (cs : List Nat) (n k : Nat) : (placeL cs n k).length = n := by simp [placeL]
theorem placeL_zero (cs : List Nat) (n : Nat) : placeL cs n 0 = List.replicate n 0 := by
  refine List.ext_getElem (by simp [placeL]) fun i h1 h2 => ?_
  simp [placeL]
theorem placeL_yes {cs : List Nat} {n k : Nat} (hk : k < n) (h : cs.getD k 0 = k) : (placeL cs n k).set k (repsN cs k) = placeL cs n (k + 1) := by
  refine List.ext_getElem (by simp [placeL]) fun i h1 h2 => ?_
  rw [List.getElem_set]
  simp only [placeL, List.getElem_map, List.getElem_range]
  by_cases e : k = i
  · subst e; rw [if_pos rfl, if_pos ⟨by omega, h⟩]
  · rw [if_neg e]
    by_cases h3 : i < k ∧ cs.getD i 0 = i
    · rw [if_pos h3, if_pos ⟨by omega, h3.2⟩]
    · rw [if_neg h3, if_neg (fun h4 => h3 ⟨by omega, h4.2⟩)]
theorem placeL_no {cs : List Nat} {n k : Nat} (h : cs.getD k 0 ≠ k) : placeL cs n (k + 1) = placeL cs n k := by
  refine List.ext_getElem (by simp [placeL]) fun i h1 h2 => ?_
  simp only [placeL, List.getElem_map, List.getElem_range]
  by_cases h3 : i < k ∧ cs.getD i 0 = i
  · rw [if_pos h3, if_pos ⟨by omega, h3.2⟩]
  · rw [if_neg h3, if_neg (fun h4 => h3 ⟨by have : i ≠ k := fun e => h (e ▸ h4.2); omega, h4.2⟩)]
theorem mergeL_succ (g : Graph) (cs pl : List Nat) (k : Nat) : mergeL g cs pl (k + 1) = mergeL g cs pl k ++ if cs.getD k 0 = k then [turnT (toF cs pl) (getT g k)] else [] := by
  unfold mergeL
  rw [List.range_succ, List.filter_append, List.map_append]
  congr 1
  simp only [List.filter_cons, List.filter_nil]
  by_cases h : cs.getD k 0 = k
  · rw [if_pos h, if_pos (beq_iff_eq.2 h)]; rfl
  · rw [if_neg h, if_neg (fun h' => h (beq_iff_eq.1 h'))]; rfl
theorem mergeL_le (g : Graph) (cs pl : List Nat) (k : Nat) : (mergeL g cs pl k).length ≤ k := by
  unfold mergeL
  rw [List.length_map]
  have := List.length_filter_le (fun i => cs.getD i 0 == i) (List.range k)
  simpa using this

/-! ### what holds while the graph is merged -/
structure GSt (w : World) (b7 b8 Bp : Nat) (Ac : Option Addr) (cc n : Nat) (cs pl : List Nat) (wr : World) : Prop where
  ext : Ext w wr
  cbox : Boxed wr b7 24 (.slice Ac n cc)
  pbox : Boxed wr b8 24 (.slice (some ⟨Bp, 0, none⟩) n n)
  row : IntRow wr Bp pl
  cls : SlF (fun b => b < Bp) intE wr (.slice Ac n cc) (cs.map fun (n : Nat) => (n : Int))
  len : cs.length = n ∧ pl.length = n
  nb : w.heap.size ≤ Bp ∧ b7 < Bp ∧ Bp < b8
section
variable {w wr wr' : World} {b7 b8 Bp : Nat} {Ac : Option Addr} {cc n : Nat} {cs pl : List Nat}
theorem GSt.later (h : GSt w b7 b8 Bp Ac cc n cs pl wr) (hx : Ext wr wr') : GSt w b7 b8 Bp Ac cc n cs pl wr' :=
  ⟨h.ext.trans hx, Boxed.ext h.cbox hx, Boxed.ext h.pbox hx, h.row.ext hx, h.cls.ext hx, h.len, h.nb⟩
theorem GSt.set (h : GSt w b7 b8 Bp Ac cc n cs pl wr) (i v : Nat) : GSt w b7 b8 Bp Ac cc n cs (pl.set i v) (wr.setCell ⟨Bp, i, none⟩ (.int .i64 (v : Int))) :=
  ⟨h.ext.setCell h.nb.1 _, Boxed.other' h.cbox _ (by have := h.nb.2.1; omega), Boxed.other' h.pbox _ (by have := h.nb.2.2; omega), h.row.set i v,
   h.cls.mono (fun b hb _ => Below.heap_setCell _ _ _ _ (by simp; omega)) (fun _ h _ => h), ⟨h.len.1, by simp [h.len.2]⟩, h.nb⟩
theorem GSt.class (h : GSt w b7 b8 Bp Ac cc n cs pl wr) (i : Nat) (hi : i < n) : ∃ b off, Ac = some ⟨b, off, none⟩ ∧ wr.cell? ⟨b, off + i, none⟩ = some (.int .i64 (cs.getD i 0 : Nat)) := by
  obtain ⟨A, c, e, hc⟩ := Sl.nat h.cls.any
  simp only [Value.slice.injEq] at e
  obtain ⟨rfl, _, _⟩ := e
  exact hc i (by rw [h.len.1]; exact hi)
end
set_option maxRecDepth 100000 in
theorem merge1_any (w0 w : World) (b7 b8 Bp : Nat) (Ac : Option Addr) (cc n i : Nat) (cs pl : List Nat) (h : GSt w0 b7 b8 Bp Ac cc n cs pl w) (hi : i < n) (hn : n ≤ 1048576) (hc : ∀ k, k < n → cs.getD k 0 < n) :
    Calls Tryz.prog 71 #[.int .i64 i, .pointer (some ⟨b8, 0, none⟩), .pointer (some ⟨b7, 0, none⟩)] w (Ret w (.int .i64 (toF cs pl i))) := by
  have c7 := h.cbox.cell
  have c8 := h.pbox.cell
  obtain ⟨b, off, rfl, c1⟩ := h.class i hi
  have hci := hc i hi
  have c2 := h.row.cell (cs.getD i 0) (by rw [h.len.2]; exact hci)
  unfold toF
  rw [Int.toNat_natCast]
  generalize cs.getD i 0 = c at *
  have l7 := cell_lt c7
  have l8 := cell_lt c8
  have l1 := cell_lt c1
  have l2 := cell_lt c2
  have i0 : (0 : Int) ≤ (i : Int) := by omega
  have i1 : (i : Int) < (n : Int) := by omega
  have i2 : (0 : Int) ≤ (c : Int) := by omega
  have i3 : (c : Int) < (n : Int) := by omega
  clear h hc
  go_enter Tryz.func71, Tryz.ntmps71
  go_wp2_with fail
  go_quiet (fail)
  go_wp2_with fail
  go_ret
  exact ⟨rfl, (Ext.refl w).drewN _⟩
set_option maxRecDepth 100000 in
theorem merge2_any (w0 w : World) (b7 b8 Bp : Nat) (Ac : Option Addr) (cc n i : Nat) (cs pl : List Nat) (h : GSt w0 b7 b8 Bp Ac cc n cs pl w) (hi : i < n) (hn : n ≤ 1048576) :
    Calls Tryz.prog 74 #[.int .i64 i, .pointer (some ⟨b8, 0, none⟩)] w (Ret w (.int .i64 (pl.getD i 0 : Nat))) := by
  have c8 := h.pbox.cell
  have c2 := h.row.cell i (by rw [h.len.2]; exact hi)
  have l8 := cell_lt c8
  have l2 := cell_lt c2
  have i0 : (0 : Int) ≤ (i : Int) := by omega
  have i1 : (i : Int) < (n : Int) := by omega
  clear h
  go_enter Tryz.func74, Tryz.ntmps74
  go_wp2_with fail
  go_ret
  exact ⟨rfl, Ext.refl w⟩
theorem top71 {w0 w : World} {b7 b8 Bp : Nat} {Ac : Option Addr} {cc n : Nat} {cs pl : List Nat} (h : GSt w0 b7 b8 Bp Ac cc n cs pl w) (hn : n ≤ 1048576) (hc : ∀ k, k < n → cs.getD k 0 < n) :
    ToP w 71 #[.pointer (some ⟨b8, 0, none⟩), .pointer (some ⟨b7, 0, none⟩)] (toF cs pl) (fun i => 0 ≤ i ∧ i < n) :=
  ⟨enters_of Tryz.func71 (by kernel_rfl) rfl, fun i hi w' hx => by
    obtain ⟨j, rfl⟩ := Int.eq_ofNat_of_zero_le hi.1
    exact merge1_any w0 w' b7 b8 Bp Ac cc n j cs pl (h.later hx) (by omega) hn hc⟩
theorem map74 {w0 w : World} {b7 b8 Bp : Nat} {Ac : Option Addr} {cc n : Nat} {cs pl : List Nat} (h : GSt w0 b7 b8 Bp Ac cc n cs pl w) (hn : n ≤ 1048576) (xs : List Int) (hx : ∀ x ∈ xs, 0 ≤ x ∧ x < n) :
    MapP intE intE w 74 #[.pointer (some ⟨b8, 0, none⟩)] xs (fun x => (pl.getD x.toNat 0 : Nat)) :=
  ⟨enters_of Tryz.func74 (by kernel_rfl) rfl, by
    rintro x hm w' A hxt ⟨_, rfl, rfl⟩
    obtain ⟨j, rfl⟩ := Int.eq_ofNat_of_zero_le (hx x hm).1
    exact res_int (merge2_any w0 w' b7 b8 Bp Ac cc n j cs pl (h.later hxt) (by have := (hx _ hm).2; omega) hn)⟩
end Go.Proofs.YtldnjnnhfeobdaaGreatDoor
/- Contract: Merge. Conditions: lengths below 2^20. -/
namespace Go.Proofs.YtldnjnnhfeobdaaGreatDoor
set_option linter.all false
set_option linter.unusedSimpArgs false
set_option linter.unusedVariables false
open Go.RowKit Go.Shelf

def MergePost (w : World) (g : Graph) (e : Ending) (w' : World) : Prop :=
  ∃ v1 v2, e = .returned (.tuple #[v1, v2, .int .i64 (errG g [])]) ∧ Sl tyE w' v1 (mergeG g) ∧ Sl intE w' v2 (mergeTo g) ∧ Ext w w'
theorem slice23 : SliceOf Tryz.prog 23 42 10 144 := .mk' Tryz.underlying23 (by kernel_rfl)
theorem clsN_lt {g : Graph} (h : WF g) : ∀ k, k < g.length → (classesG g).getD k 0 < g.length := fun k hk => by
  have := (classesN_facts h.abs).1.le k hk
  show (classesN (agN g) (refsN g) g.length).getD k 0 < g.length
  omega
set_option maxRecDepth 100000 in
set_option maxHeartbeats 16000000 in
theorem merge_any (w : World) (gv : Value) (g : Graph) (hg : Sl tyE w gv g) (hT : Tidy g) (hG : Glob w) :
    Calls Tryz.prog 31 #[gv] w (MergePost w g) := by
  have hop := opened_any w gv (.slice none 0 0) g [] hg hT hG (Sl.nil _ _) (by simp)
  have hcl := fun (hW : WF g) (w' : World) (hx : Ext w w') => classes_any w' gv g (hg.mono hx) hT hW
  have hn := hT.len
  have hmk := fun w' => make_zeros w' g.length hn
  have hty := hT.ty
  have hg' := hg
  obtain ⟨A, cap, rfl, hs⟩ := hg.ty
  unfold MergePost mergeG mergeTo
  by_cases h0 : errG g [] = 0
  · rw [if_pos h0, if_pos h0]
    rw [h0] at hop ⊢
    have hW := (errG_zero h0).1
    have hcl := hcl hW
    have hcs := clsN_lt hW
    have hcl2 := classesG_length g hW
    have hfr := fun i (hi : i < g.length) => (hW.fine (getT_mem hi)).refs
    generalize classesG g = cs at *
    have Hop := Lib.hid hop
    have Hcl := Lib.hid hcl
    have Hcs := Lib.hid hcs
    have Hl := Lib.hid hcl2
    have Hs := Lib.hid hs
    have Hfr := Lib.hid hfr
    have Hty := Lib.hid hty
    have Hg := Lib.hid hg'
    clear hop hcl hcs hcl2 hs hg hg' hT hG h0 hW hfr hty
    go_enter Tryz.func31, Tryz.ntmps31
    go_wp2_with fail
    refine Hop.out.mono ?_
    rintro e w1 ⟨rfl, hx1⟩
    have Hx1 := Lib.hid (hx1.alloc (.cells #[.slice A g.length cap] 77))
    have hbx := heap_cell (heap_alloc_self w1 (.cells #[.slice A g.length cap] 77)) 0 _ rfl
    clear hx1
    go_wp2_with fail
    refine (Hcl.out _ Hx1.out).mono ?_
    rintro e w2 ⟨v2, rfl, hv2, hx2⟩
    obtain ⟨Ac, cc, e2⟩ := hv2.any.len
    rw [List.length_map, Hl.out] at e2
    subst e2
    have hst : GSt w w2.heap.size (w2.heap.size + 1 + 1) (w2.heap.size + 1) Ac cc g.length cs (placeL cs g.length 0) (((w2.alloc (.cells #[.slice Ac g.length cc] 24)).alloc (zeros g.length)).alloc (.cells #[.slice (some ⟨w2.heap.size + 1, 0, none⟩) g.length g.length] 24)) := by
      have e1 := heap_alloc_self w2 (.cells #[.slice Ac g.length cc] 24)
      have e2 := heap_alloc_self (w2.alloc (.cells #[.slice Ac g.length cc] 24)) (zeros g.length)
      have e3 := heap_alloc_self ((w2.alloc (.cells #[.slice Ac g.length cc] 24)).alloc (zeros g.length)) (.cells #[.slice (some ⟨w2.heap.size + 1, 0, none⟩) g.length g.length] 24)
      simp only [World.size_alloc] at e2 e3
      have hx := Hx1.out.trans hx2
      have hsz := hx.size
      refine ⟨((hx.alloc _).alloc _).alloc _, Boxed.ext (Boxed.ext e1 ((Ext.refl _).alloc _)) ((Ext.refl _).alloc _), e3, ?_, ?_, ⟨Hl.out, placeL_length _ _ _⟩, by omega, by omega, by omega⟩
      · rw [placeL_zero]; exact IntRow.ext e2 ((Ext.refl _).alloc _)
      · have h := hv2.mono (G := fun b => b < w2.heap.size + 1) (fun _ _ _ => rfl) (fun b _ hlt => by omega)
        exact ((h.ext ((Ext.refl _).alloc _)).ext ((Ext.refl _).alloc _)).ext ((Ext.refl _).alloc _)
    have Hst := Lib.hid hst
    clear hst hv2 hx2 hbx Hx1
    go_wp2_with fail
    generalize ((w2.alloc (.cells #[.slice Ac g.length cc] 24)).alloc (zeros g.length)).alloc (.cells #[.slice (some ⟨w2.heap.size + 1, 0, none⟩) g.length g.length] 24) = w3 at Hst ⊢
    generalize w2.heap.size = b7 at Hst ⊢
    go_loopw [9, 31] (fun nn u wr => ∃ k : Nat, k ≤ g.length ∧ u = .int .i64 k ∧ nn = .int .i64 (repsN cs k : Nat) ∧ Hid (GSt w b7 (b7 + 1 + 1) (b7 + 1) Ac cc g.length cs (placeL cs g.length k) wr)) (fun _ u _ => g.length - (intOf u).toNat)
    case atStart => exact ⟨0, by omega, rfl, rfl, Hst⟩
    case round =>
      clear Hst
      obtain ⟨k, hk, rfl, rfl, Hst⟩ := hrel
      have c8 := Hst.out.pbox.cell
      have c7 := Hst.out.cbox.cell
      have l8 := cell_lt c8
      have l7 := cell_lt c7
      have hrk := repsN_le cs k
      by_cases hlt : k < g.length
      · obtain ⟨b, off, rfl, c1⟩ := Hst.out.class k hlt
        have l1 := cell_lt c1
        have cr := Hst.out.row.cell k (by rw [placeL_length]; exact hlt)
        have fr := Hst.out.row.frozen k
        have lr := cell_lt cr
        have i0 : (0 : Int) ≤ (k : Int) := by omega
        have i1 : (k : Int) < (g.length : Int) := by omega
        by_cases he : cs.getD k 0 = k
        · have hset := placeL_yes hlt he
          have hsuc := repsN_succ cs k
          rw [if_pos he] at hsuc
          rw [he] at c1
          have Hset := Lib.hid hset
          have Hsuc := Lib.hid hsuc
          clear hset hsuc he
          go_wp2_with fail
          go_roundw
          case rel => exact ⟨k + 1, by omega, by go_num, by rw [Hsuc.out]; go_num, by rw [← Hset.out]; exact Lib.hid (Hst.out.set k (repsN cs k))⟩
          case measure => simp [intOf]; omega
        · have hno := placeL_no (n := g.length) he
          have hsuc := repsN_succ cs k
          rw [if_neg he, Nat.add_zero] at hsuc
          have hne : (((cs.getD k 0 : Nat) : Int) == (k : Int)) = false := by rw [beq_eq_false_iff_ne]; omega
          have Hno := Lib.hid hno
          have Hsuc := Lib.hid hsuc
          generalize cs.getD k 0 = c at *
          clear hno hsuc he
          go_wp2_with fail
          go_roundw
          case rel => exact ⟨k + 1, by omega, by go_num, by rw [Hsuc.out]; rfl, by rw [Hno.out]; exact Hst⟩
          case measure => simp [intOf]; omega
      · have hkn : k = g.length := by omega
        subst hkn
        have hmt : ∀ (w' : World) (hx : Ext wr w') (b : Nat) (off : Nat) (j : Nat) (hj : j < g.length) (vp vm vo : Value) (hof : TyOf w' (getT g j) vp vm vo),
            Calls Tryz.prog 72 #[tyV (getT g j) vp vm vo, .func (.func 71) #[] #[.pointer (some ⟨b7 + 1 + 1, 0, none⟩), .pointer (some ⟨b7, 0, none⟩)]] w' (RetP w' (Res tyE w' (turnT (toF cs (placeL cs g.length g.length)) (getT g j)))) := fun w' hx b off j hj vp vm vo hof =>
          moved_any w' 71 _ _ _ (getT g j) vp vm vo hof (Hty.out _ (getT_mem hj)).1 (top71 (Hst.out.later hx) hn Hcs.out) (fun r hr => Hfr.out j hj r hr)
        have hlast : ∀ (w' : World) (hx : Ext wr w'), Calls Tryz.prog 73 #[.slice Ac g.length cc, .func (.func 74) #[] #[.pointer (some ⟨b7 + 1 + 1, 0, none⟩)]] w' (RetP w' (fun w'' u => SlF (New w') intE w'' u ((cs.map fun (n : Nat) => (n : Int)).map (fun x => ((placeL cs g.length g.length).getD x.toNat 0 : Nat))))) := fun w' hx =>
          turned_int_int 74 _ w' _ _ _ ((Hst.out.later hx).cls.any) (by rw [List.length_map, Hl.out]; exact hn) (map74 (Hst.out.later hx) hn _ (fun x hx => by
            obtain ⟨c, hc, rfl⟩ := List.mem_map.1 hx
            obtain ⟨i, hi, rfl⟩ := List.mem_iff_getElem.1 hc
            have := Hcs.out i (by rw [← Hl.out]; exact hi)
            rw [List.getD_eq_getElem?_getD, List.getElem?_eq_getElem hi] at this
            simp at this
            omega))
        have Hmt := Lib.hid hmt
        have Hlast := Lib.hid hlast
        clear hmt hlast c7 c8 l7 l8 hk hrk hlt
        go_wp2_with fail
        obtain ⟨wo, rfl⟩ : ∃ wo : World, wo = wr := ⟨_, rfl⟩
        generalize hpl : placeL cs g.length g.length = pl at *
        have Hpl := Lib.hid hpl
        clear hpl
        go_loopw [13, 49] (fun o u wr => ∃ k : Nat, k ≤ g.length ∧ u = .int .i64 k ∧ Hid (Ext wo wr) ∧ Hid (Own (New w) tyE wr wo.heap.size 42 o (mergeL g cs pl k))) (fun _ u _ => g.length - (intOf u).toNat)
        case atStart => exact ⟨0, by omega, rfl, Lib.hid (Ext.refl _), Lib.hid (Own.nil _ _ _ _ _)⟩
        case round =>
          obtain ⟨k, hk, rfl, Hx, Hown⟩ := hrel
          have Hst2 := Lib.hid (Hst.out.later Hx.out)
          have hsz0 := Hst2.out.ext.size
          have c8 := Hst2.out.pbox.cell
          have c7 := Hst2.out.cbox.cell
          have l8 := cell_lt c8
          have l7 := cell_lt c7
          have hmk := mergeL_le g cs pl k
          by_cases hlt : k < g.length
          · obtain ⟨b, off, vp, vm, vo, rfl, hat, hof⟩ := Hs.out k hlt
            rw [← getT_lt hlt] at hat hof
            obtain ⟨A1, c1, e1⟩ := hof.parts.len
            obtain ⟨A2, c2, e2⟩ := hof.methods.len
            obtain ⟨A3, c3, e3⟩ := hof.overs.len
            subst e1 e2 e3
            have Hof := Lib.hid hof
            obtain ⟨d0, d1, d2, d3, d4, d5, d6, d7, d8, d9⟩ := hat.mono Hst2.out.ext
            have ld := cell_lt d0
            obtain ⟨bc, oc, rfl, cc1⟩ := Hst2.out.class k hlt
            have lc := cell_lt cc1
            have i0 : (0 : Int) ≤ (k : Int) := by omega
            have i1 : (k : Int) < (g.length : Int) := by omega
            clear hof hat
            by_cases he : cs.getD k 0 = k
            · have hsuc := mergeL_succ g cs pl k
              rw [if_pos he] at hsuc
              rw [he] at cc1
              have Hsuc := Lib.hid hsuc
              have hmv := fun (w' : World) (hx : Ext wr w') => Hmt.out w' (Hx.out.trans hx) b off k hlt _ _ _ (Hof.out.mono (Hst2.out.ext.trans hx))
              unfold tyV at hmv
              have Hmv := Lib.hid hmv
              clear hsuc he hmv
              generalize getT g k = t at *
              go_wp2_with fail
              refine (Hmv.out _ ((Ext.refl wr).alloc _)).mono ?_
              rintro e w5 ⟨v5, rfl, ⟨cs5, hrel, rfl⟩, hx5⟩
              have hx6 := ((Ext.refl wr).alloc (.cells #[.int .u8 t.kind, .int .i64 t.low, .int .i64 t.high, .bool t.branded, .string t.brand, .string t.opaq, .int .i64 t.super, .slice A1 t.parts.length c1, .slice A2 t.methods.length c2, .slice A3 t.overs.length c3] 42)).trans hx5
              have hown1 := Hown.out.kept hx6
              have Hlt : ∀ k, u13.ownBlock = some k → k < wr.heap.size := fun k hk => (Hown.out.lt k hk).2
              have Hrel : Hid (tyE.rel (fun b => New w b ∧ some b ≠ u13.ownBlock) w5 (turnT (toF cs pl) t) cs5) := tyE.mono _ _ _ _ _ _ (fun _ _ _ => rfl) (fun b hb _ => ⟨by unfold New at hb ⊢; simp at hb; omega, fun e => by have h1 := Hlt b e.symm; have h2 : _ ≤ b := hb; (try simp at h2); omega⟩) hrel
              obtain ⟨_, _, _, rfl, ⟨_, _, rfl, _⟩, ⟨_, _, rfl, _⟩, ⟨_, _, rfl, _⟩⟩ := hrel
              have Hown1 := Lib.hid hown1
              have Hx6 := Lib.hid hx6
              have hsz := (Hx.out.trans hx6).size
              clear hown1 Hown hx5 hx6 Hlt d0 d1 d2 d3 d4 d5 d6 d7 d8 d9 ld cc1 lc c7 c8 l7 l8
              simp only [pack]
              go_wp2_with (at_builtin; refine own_append tyE wo.heap.size rfl _ _ 23 42 144 rfl slice23 _ _ (turnT (toF cs pl) t) _ rfl rfl Hown1.out Hrel.out ?c1 ?c2 ?c3 ?_)
              case c1 => exact hsz
              case c2 => omega
              case c3 => decide
              intro v2 w6 hown2 hg2
              rw [← Hsuc.out] at hown2
              have hx7 : Ext wo w6 := Below.grown (Hx.out.trans Hx6.out) hg2 (Hx.out.trans Hx6.out).size (fun k hk => (Hown1.out.lt k hk).1)
              have Hx7 := Lib.hid hx7
              have Hown2 := Lib.hid hown2
              clear hg2 Hown1 Hx6 Hrel hown2 hx7
              go_wp2_with fail
              go_roundw
              case rel => exact ⟨k + 1, by omega, by go_num, Hx7, Hown2⟩
              case measure => simp [intOf]; omega
            · have hsuc := mergeL_succ g cs pl k
              rw [if_neg he, List.append_nil] at hsuc
              have hne : (((cs.getD k 0 : Nat) : Int) == (k : Int)) = false := by rw [beq_eq_false_iff_ne]; omega
              have Hsuc := Lib.hid hsuc
              generalize cs.getD k 0 = c at *
              clear hsuc he
              generalize getT g k = t at *
              go_wp2_with fail
              go_roundw
              case rel => exact ⟨k + 1, by omega, by go_num, Lib.hid (Hx.out.alloc _), by rw [Hsuc.out]; exact Lib.hid (Hown.out.kept ((Ext.refl wr).alloc _))⟩
              case measure => simp [intOf]; omega
          · have hkn : k = g.length := by omega
            subst hkn
            have hsl := Hown.out.sl (fun b hb => by have h := Hst.out.ext.size; show w.heap.size ≤ b; omega)
            have Hsl := Lib.hid hsl
            clear hsl hlt
            go_wp2_with fail
            refine (Hlast.out _ Hx.out).mono ?_
            rintro e w5 ⟨v5, rfl, hv5, hx5⟩
            have Hv5 := Lib.hid hv5
            have Hx5 := Lib.hid (Hst2.out.ext.trans hx5)
            have Hsl5 := Lib.hid (Hsl.out.any.mono hx5)
            clear hv5 hx5 c7 c8 l7 l8
            go_wp2_with fail
            go_ret3
            refine ⟨u13, v5, rfl, by rw [Hpl.out]; exact Hsl5.out, ?_, Hx5.out⟩
            rw [Hpl.out]
            have h := Hv5.out.any
            rw [List.map_map] at h
            exact h
  · rw [if_neg h0, if_neg h0]
    have hne : (errG g [] != 0) = true := by simpa using h0
    generalize errG g [] = er at hop hne ⊢
    have Hop := Lib.hid hop
    clear hop hcl hg hg' hs hT hG h0 hmk hty
    go_enter Tryz.func31, Tryz.ntmps31
    go_wp2_with fail
    refine Hop.out.mono ?_
    rintro e w1 ⟨rfl, hx1⟩
    go_wp2_with fail
    go_ret3
    exact ⟨_, _, rfl, Sl.nil _ _, Sl.nil _ _, hx1.alloc _⟩
end Go.Proofs.YtldnjnnhfeobdaaGreatDoor
/- The law's own example: what the plain functions say of it. No program. -/
namespace Go.Proofs.YtldnjnnhfeobdaaGreatDoor
set_option linter.all false
set_option linter.unusedSimpArgs false
set_option linter.unusedVariables false
open Go.RowKit Go.Shelf

def headS : ByteArray := ⟨#[104, 101, 97, 100]⟩
def tailS : ByteArray := ⟨#[116, 97, 105, 108]⟩
def emptyS : ByteArray := ⟨#[]⟩
def recT (a b : Int) : Ty := ⟨10, 0, 0, false, emptyS, emptyS, 0, [⟨headS, a⟩, ⟨tailS, b⟩], [], []⟩
def listsG : Graph := [⟨1, 0, 0, false, emptyS, emptyS, 0, [], [], []⟩, recT 0 1, recT 0 3, recT 0 2, ⟨9, 0, 0, false, emptyS, emptyS, 0, [⟨emptyS, 1⟩], [], []⟩, ⟨3, 0, 9, false, emptyS, emptyS, 0, [], [], []⟩, recT 5 6]
theorem lists_check : checkG listsG = (0, 0) := by decide +kernel
theorem lists_classes : classesG listsG = [0, 1, 1, 1, 4, 5, 6] := by decide +kernel
theorem lists_way : wayN (agN listsG) (refsN listsG) 7 1 6 = some [0] := by decide +kernel
theorem lists_err (ats : List Int) (h : ats.any (outB 7) = false) : errG listsG ats = 0 := by
  unfold errG
  rw [lists_check]
  simp [listsG] at h ⊢
  exact h
theorem lists_equal : equalG listsG 1 2 = true := by
  unfold equalG sameG
  rw [lists_err _ (by decide), lists_classes]
  decide
theorem lists_differ : equalG listsG 1 6 = false := by
  unfold equalG sameG
  rw [lists_err _ (by decide), lists_classes]
  decide
theorem lists_apart : apartG listsG 1 6 = some [0] := by
  unfold apartG
  rw [lists_err _ (by decide), if_pos rfl]
  exact lists_way
theorem lists_told : checkApartG listsG 1 6 [1, 0] = true := by
  unfold checkApartG
  rw [lists_err _ (by decide), if_pos rfl]
  decide +kernel
theorem lists_merge : (mergeG listsG).length = 5 := by
  unfold mergeG
  rw [lists_err _ (by decide), if_pos rfl, lists_classes]
  decide +kernel
theorem lists_to : mergeTo listsG = [0, 1, 1, 1, 2, 3, 4] := by
  unfold mergeTo
  rw [lists_err _ (by decide), if_pos rfl, lists_classes]
  decide +kernel
theorem lists_text : (textG listsG 3).toArray = #[49, 48, 32, 45, 32, 104, 101, 97, 100, 58, 49, 32, 116, 97, 105, 108, 58, 48, 10, 49, 10] := by decide +kernel
theorem lists_text0 : (textG listsG 0).toArray = #[49, 10] := by decide +kernel
theorem empty_digest : digestB ⟨#[]⟩ = ⟨#[84, 48, 48, 48, 48, 48, 48, 48, 48, 48, 52, 53, 72]⟩ := by decide +kernel
end Go.Proofs.YtldnjnnhfeobdaaGreatDoor
/- Contracts: record, lists, of the law. No condition. -/
namespace Go.Proofs.YtldnjnnhfeobdaaGreatDoor
set_option linter.all false
set_option linter.unusedSimpArgs false
set_option linter.unusedVariables false
open Go.RowKit Go.Shelf

theorem lit_sl {α : Type} {E : Elt α} {F : Nat → Prop} (W : World) (t : TypeId) (xs : List α) (rows : List (List Value)) (n : Nat) (hl : rows.length = xs.length) (hn : n = xs.length) (hF : F W.heap.size)
    (hr : ∀ (i : Nat) (x : α) (r : List Value), xs[i]? = some x → rows[i]? = some r → E.rel F W x r) : SlF F E (W.alloc (.cells rows.flatten.toArray t)) (.slice (some ⟨W.heap.size, 0, none⟩) n n) xs := by
  subst hn
  have hk : ∀ r ∈ rows, r.length = E.k := by
    intro r hm
    obtain ⟨i, hi, rfl⟩ := List.mem_iff_getElem.1 hm
    exact E.len _ _ _ _ (hr i (xs[i]'(by omega)) rows[i] (List.getElem?_eq_getElem (by omega)) (List.getElem?_eq_getElem hi))
  refine ⟨_, _, rfl, fun i x hi => ?_⟩
  have hlt : i < xs.length := (List.getElem?_eq_some_iff.1 hi).1
  have hrow : rows[i]? = some (rows[i]'(by omega)) := List.getElem?_eq_getElem (by omega)
  refine ⟨W.heap.size, 0, rows[i]'(by omega), rfl, ⟨hF, Nat.le_refl _⟩, Elt.ext (hr i x _ hi hrow) ((Ext.refl W).alloc _), fun j u hj => ?_⟩
  rw [World.cell?_alloc_new]
  have := flatten_get rows hk i j _ u hrow hj
  simpa using this

set_option maxRecDepth 100000 in
set_option maxHeartbeats 4000000 in
theorem record_any (w : World) (a b : Int) : Calls Tryz.prog 101 #[.int .i64 a, .int .i64 b] w (RetP w (Res tyE w (recT a b))) := by
  go_enter Tryz.func101, Tryz.ntmps101
  go_wp2_with fail
  have e := Ext.heap ((Ext.refl (w.alloc (.cells #[.int .u8 10, .int .i64 0, .int .i64 0, .bool false, .string ⟨#[]⟩, .string ⟨#[]⟩, .int .i64 0, .slice (some ⟨w.heap.size + 1, 0, none⟩) 2 2, .slice none 0 0, .slice none 0 0] 42))).alloc (.cells #[.string ⟨#[104, 101, 97, 100]⟩, .int .i64 a, .string ⟨#[116, 97, 105, 108]⟩, .int .i64 b] 95)) (heap_alloc_self w (.cells #[.int .u8 10, .int .i64 0, .int .i64 0, .bool false, .string ⟨#[]⟩, .string ⟨#[]⟩, .int .i64 0, .slice (some ⟨w.heap.size + 1, 0, none⟩) 2 2, .slice none 0 0, .slice none 0 0] 42))
  have d0 := heap_cell e 0 _ rfl
  have d1 := heap_cell e 1 _ rfl
  have d2 := heap_cell e 2 _ rfl
  have d3 := heap_cell e 3 _ rfl
  have d4 := heap_cell e 4 _ rfl
  have d5 := heap_cell e 5 _ rfl
  have d6 := heap_cell e 6 _ rfl
  have d7 := heap_cell e 7 _ rfl
  have d8 := heap_cell e 8 _ rfl
  have d9 := heap_cell e 9 _ rfl
  refine bodyPost_ret (v := .agg #[.int .u8 10, .int .i64 0, .int .i64 0, .bool false, .string ⟨#[]⟩, .string ⟨#[]⟩, .int .i64 0, .slice (some ⟨w.heap.size + 1, 0, none⟩) 2 2, .slice none 0 0, .slice none 0 0]) ?_ rfl ?_
  · simp [results, Tryz.results101, go_sem, d0, d1, d2, d3, d4, d5, d6, d7, d8, d9]
  · refine ⟨_, rfl, ⟨_, ⟨_, _, _, rfl, ?_, SlF.nil _ _ _, SlF.nil _ _ _⟩, rfl⟩, ((Ext.refl w).alloc _).alloc _⟩
    have h := lit_sl (F := New w) (E := partE) (w.alloc (.cells #[.int .u8 10, .int .i64 0, .int .i64 0, .bool false, .string ⟨#[]⟩, .string ⟨#[]⟩, .int .i64 0, .slice (some ⟨w.heap.size + 1, 0, none⟩) 2 2, .slice none 0 0, .slice none 0 0] 42)) 95 [⟨headS, a⟩, ⟨tailS, b⟩] [[.string headS, .int .i64 a], [.string tailS, .int .i64 b]] 2 rfl rfl (by unfold New; simp) (fun i x r h1 h2 => by
      match i with
      | 0 => simp at h1 h2; subst h1 h2; rfl
      | 1 => simp at h1 h2; subst h1 h2; rfl
      | i + 2 => simp at h1)
    rw [World.size_alloc] at h
    exact h
set_option maxRecDepth 100000 in
set_option maxHeartbeats 4000000 in
theorem lists_any (w : World) : Calls Tryz.prog 53 #[] w (RetP w (fun w' v => SlF (New w) tyE w' v listsG)) := by
  have hr := record_any
  have Hr := Lib.hid hr
  clear hr
  go_enter Tryz.func53, Tryz.ntmps53
  go_wp2_with fail
  refine (Hr.out _ _ _).mono ?_
  rintro e w1 ⟨_, rfl, ⟨_, ⟨p1, m1', o1, rfl, h1p, h1m, h1o⟩, rfl⟩, hx1⟩
  simp only [pack]
  go_wp2_with fail
  refine (Hr.out _ _ _).mono ?_
  rintro e w2 ⟨_, rfl, ⟨_, ⟨p2, m2', o2, rfl, h2p, h2m, h2o⟩, rfl⟩, hx2⟩
  simp only [pack]
  go_wp2_with fail
  refine (Hr.out _ _ _).mono ?_
  rintro e w3 ⟨_, rfl, ⟨_, ⟨p3, m3', o3, rfl, h3p, h3m, h3o⟩, rfl⟩, hx3⟩
  simp only [pack]
  go_wp2_with fail
  refine (Hr.out _ _ _).mono ?_
  rintro e w4 ⟨_, rfl, ⟨_, ⟨p4, m4', o4, rfl, h4p, h4m, h4o⟩, rfl⟩, hx4⟩
  simp only [pack]
  go_wp2_with fail
  have hx := (hx1.trans (hx2.trans hx3)).alloc (.cells #[.string ⟨#[]⟩, .int .i64 1] 95)
  have hs1 := hx1.size
  have hs2 := hx2.size
  have hs3 := hx3.size
  have hs4 := hx4.size
  rw [World.size_alloc] at hs4
  have m1 : ∀ {α : Type} {E : Elt α} {v : Value} {xs : List α}, SlF (New w) E w1 v xs → SlF (New w) E w4 v xs := fun h => h.ext ((hx2.trans hx3).trans (((Ext.refl _).alloc _).trans hx4))
  have m2 : ∀ {α : Type} {E : Elt α} {v : Value} {xs : List α}, SlF (New w1) E w2 v xs → SlF (New w) E w4 v xs := fun h => (h.mono (fun _ _ _ => rfl) (fun b hb _ => by unfold New at hb ⊢; omega)).ext (hx3.trans (((Ext.refl _).alloc _).trans hx4))
  have m3 : ∀ {α : Type} {E : Elt α} {v : Value} {xs : List α}, SlF (New w2) E w3 v xs → SlF (New w) E w4 v xs := fun h => (h.mono (fun _ _ _ => rfl) (fun b hb _ => by unfold New at hb ⊢; omega)).ext (((Ext.refl _).alloc _).trans hx4)
  have m4 : ∀ {α : Type} {E : Elt α} {v : Value} {xs : List α}, SlF (New (w3.alloc (.cells #[.string ⟨#[]⟩, .int .i64 1] 95))) E w4 v xs → SlF (New w) E w4 v xs := fun h => h.mono (fun _ _ _ => rfl) (fun b hb _ => by unfold New at hb ⊢; rw [World.size_alloc] at hb; omega)
  have hp : SlF (New w) partE w4 (.slice (some ⟨w3.heap.size, 0, none⟩) 1 1) [(⟨emptyS, 1⟩ : Part)] := SlF.ext (lit_sl (α := Part) (E := partE) (F := New w) w3 95 [(⟨emptyS, 1⟩ : Part)] [[.string emptyS, .int .i64 1]] 1 rfl rfl (by unfold New; omega) (fun i x r h1 h2 => by
      match i with
      | 0 => simp at h1 h2; subst h1 h2; rfl
      | i + 1 => simp at h1)) hx4
  go_ret
  refine ⟨_, rfl, lit_sl (F := New w) w4 42 listsG [[.int .u8 1, .int .i64 0, .int .i64 0, .bool false, .string ⟨#[]⟩, .string ⟨#[]⟩, .int .i64 0, .slice none 0 0, .slice none 0 0, .slice none 0 0], [.int .u8 10, .int .i64 0, .int .i64 0, .bool false, .string ⟨#[]⟩, .string ⟨#[]⟩, .int .i64 0, p1, m1', o1], [.int .u8 10, .int .i64 0, .int .i64 0, .bool false, .string ⟨#[]⟩, .string ⟨#[]⟩, .int .i64 0, p2, m2', o2], [.int .u8 10, .int .i64 0, .int .i64 0, .bool false, .string ⟨#[]⟩, .string ⟨#[]⟩, .int .i64 0, p3, m3', o3], [.int .u8 9, .int .i64 0, .int .i64 0, .bool false, .string ⟨#[]⟩, .string ⟨#[]⟩, .int .i64 0, .slice (some ⟨w3.heap.size, 0, none⟩) 1 1, .slice none 0 0, .slice none 0 0], [.int .u8 3, .int .i64 0, .int .i64 9, .bool false, .string ⟨#[]⟩, .string ⟨#[]⟩, .int .i64 0, .slice none 0 0, .slice none 0 0, .slice none 0 0], [.int .u8 10, .int .i64 0, .int .i64 0, .bool false, .string ⟨#[]⟩, .string ⟨#[]⟩, .int .i64 0, p4, m4', o4]] 7 rfl rfl (by unfold New; omega) ?_, ?_⟩
  · intro i x r h1 h2
    match i with
    | 0 => simp [listsG] at h1 h2; subst h1 h2; exact ⟨_, _, _, rfl, SlF.nil _ _ _, SlF.nil _ _ _, SlF.nil _ _ _⟩
    | 1 => simp [listsG] at h1 h2; subst h1 h2; exact ⟨_, _, _, rfl, m1 h1p, m1 h1m, m1 h1o⟩
    | 2 => simp [listsG] at h1 h2; subst h1 h2; exact ⟨_, _, _, rfl, m2 h2p, m2 h2m, m2 h2o⟩
    | 3 => simp [listsG] at h1 h2; subst h1 h2; exact ⟨_, _, _, rfl, m3 h3p, m3 h3m, m3 h3o⟩
    | 4 => simp [listsG] at h1 h2; subst h1 h2; exact ⟨_, _, _, rfl, hp, SlF.nil _ _ _, SlF.nil _ _ _⟩
    | 5 => simp [listsG] at h1 h2; subst h1 h2; exact ⟨_, _, _, rfl, SlF.nil _ _ _, SlF.nil _ _ _, SlF.nil _ _ _⟩
    | 6 => simp [listsG] at h1 h2; subst h1 h2; exact ⟨_, _, _, rfl, m4 h4p, m4 h4m, m4 h4o⟩
    | i + 7 => simp [listsG] at h1
  · exact (hx.trans hx4).alloc _
end Go.Proofs.YtldnjnnhfeobdaaGreatDoor
/- Contract: alive, of the law. Condition: the tables of the library are laid. -/
namespace Go.Proofs.YtldnjnnhfeobdaaGreatDoor
set_option linter.all false
set_option linter.unusedSimpArgs false
set_option linter.unusedVariables false
open Go.RowKit Go.Shelf

theorem lists_tidy : Tidy listsG := by
  refine ⟨by decide, ?_⟩
  intro t ht
  simp only [listsG, List.mem_cons, List.not_mem_nil, or_false] at ht
  rcases ht with rfl | rfl | rfl | rfl | rfl | rfl | rfl <;>
    exact ⟨⟨by decide, by decide, by decide, by simp only [recT, List.forall_mem_cons, List.not_mem_nil, false_imp_iff, implies_true, and_true]; first | done | decide, by decide, by simp [recT], by decide, by simp [recT]⟩, by decide, by decide⟩
theorem lists_errs : errG listsG [1, 2] = 0 ∧ errG listsG [1, 6] = 0 ∧ errG listsG [] = 0 ∧ errG listsG [3] = 0 ∧ errG listsG [0] = 0 := by
  refine ⟨?_, ?_, ?_, ?_, ?_⟩ <;> exact lists_err _ (by decide)
theorem lists_textS : textS listsG 3 = ⟨#[49, 48, 32, 45, 32, 104, 101, 97, 100, 58, 49, 32, 116, 97, 105, 108, 58, 48, 10, 49, 10]⟩ := by
  unfold textS
  rw [lists_errs.2.2.2.1, if_pos rfl]
  exact congrArg ByteArray.mk lists_text
theorem lists_textS0 : textS listsG 0 = ⟨#[49, 10]⟩ := by
  unfold textS
  rw [lists_errs.2.2.2.2, if_pos rfl]
  exact congrArg ByteArray.mk lists_text0
theorem lists_apartP {w w' : World} {e : Ending} : ApartPost w (apartG listsG 1 6) (errG listsG [1, 6]) e w' → ∃ A c b off, e = .returned (.tuple #[.slice A 1 c, .bool true, .int .i64 0]) ∧ A = some ⟨b, off, none⟩ ∧ w'.cell? ⟨b, off, none⟩ = some (.int .i64 0) ∧ Ext w w' := by
  rw [lists_apart, lists_errs.2.1]
  rintro ⟨v, rfl, hv, hx⟩
  obtain ⟨A, c, rfl, hs⟩ := Sl.nat hv
  obtain ⟨b, off, rfl, hc⟩ := hs 0 (by simp)
  exact ⟨_, c, b, off, rfl, rfl, hc, hx⟩
theorem lists_mergeP {w w' : World} {e : Ending} : MergePost w listsG e w' → ∃ A c B k b off, e = .returned (.tuple #[.slice A 5 c, .slice B 7 k, .int .i64 0]) ∧ B = some ⟨b, off, none⟩ ∧ w'.cell? ⟨b, off + 3, none⟩ = some (.int .i64 1) ∧ Ext w w' := by
  rintro ⟨v1, v2, rfl, h1, h2, hx⟩
  obtain ⟨A, c, rfl⟩ := h1.len
  rw [lists_to] at h2
  obtain ⟨B, k, rfl, hs⟩ := h2.int
  obtain ⟨b, off, rfl, hc⟩ := hs 3 (by decide)
  rw [lists_merge, lists_errs.2.2.1]
  exact ⟨A, c, _, k, b, off, rfl, rfl, hc, hx⟩

set_option maxRecDepth 100000 in
set_option maxHeartbeats 16000000 in
theorem alive_any (w : World) (hG : Glob w) : Calls Tryz.prog 14 #[] w (Ret w (.bool true)) := by
  have hl := lists_any
  have he := fun (w' : World) (v : Value) (hx : Ext w w') (hv : Sl tyE w' v listsG) => equal_any w' v listsG 1 2 hv lists_tidy (hG.mono hx)
  have hd := fun (w' : World) (v : Value) (hx : Ext w w') (hv : Sl tyE w' v listsG) => equal_any w' v listsG 1 6 hv lists_tidy (hG.mono hx)
  have ha := fun (w' : World) (v : Value) (hx : Ext w w') (hv : Sl tyE w' v listsG) => (apart_any w' v listsG 1 6 hv lists_tidy (hG.mono hx)).mono fun e w'' h => lists_apartP h
  have hc := fun (w' : World) (v u : Value) (hx : Ext w w') (hv : Sl tyE w' v listsG) (hu : Sl intE w' u [1, 0]) => checkApart_any w' v u listsG 1 6 [1, 0] hv lists_tidy (hG.mono hx) hu (by decide)
  have hm := fun (w' : World) (v : Value) (hx : Ext w w') (hv : Sl tyE w' v listsG) => (merge_any w' v listsG hv lists_tidy (hG.mono hx)).mono fun e w'' h => lists_mergeP h
  have ht := fun (w' : World) (v : Value) (hx : Ext w w') (hv : Sl tyE w' v listsG) => Text_any w' v listsG 3 hv lists_tidy (hG.mono hx)
  have hp := fun (w' : World) (v : Value) (hx : Ext w w') (hv : Sl tyE w' v listsG) => Print_any w' v listsG 0 hv lists_tidy (hG.mono hx) (by rw [lists_textS0]; decide)
  have hg1 := fun (w' : World) => digest_any ⟨#[49, 10]⟩ w' (by decide)
  have hg2 := fun (w' : World) => digest_any ⟨#[]⟩ w' (by decide)
  simp only [lists_errs.1, lists_equal] at he
  simp only [lists_errs.2.1, lists_differ] at hd
  simp only [lists_errs.2.1, lists_told] at hc
  simp only [lists_errs.2.2.2.1, lists_textS] at ht
  simp only [lists_errs.2.2.2.2, lists_textS0, if_true] at hp
  simp only [empty_digest] at hg2
  generalize digestB ⟨#[49, 10]⟩ = dg at *
  have Hl := Lib.hid hl
  have He := Lib.hid he
  have Hd := Lib.hid hd
  have Ha := Lib.hid ha
  have Hc := Lib.hid hc
  have Hm := Lib.hid hm
  have Ht := Lib.hid ht
  have Hp := Lib.hid hp
  have Hg1 := Lib.hid hg1
  have Hg2 := Lib.hid hg2
  clear hl he hd ha hc hm ht hp hg1 hg2 hG
  go_enter Tryz.func14, Tryz.ntmps14
  go_wp2_with fail
  refine (Hl.out _).mono ?_
  rintro e w1 ⟨v, rfl, hv, hx⟩
  obtain ⟨A, cap, rfl⟩ := hv.any.len
  have Hv := Lib.hid hv.any
  have Hx := Lib.hid hx
  clear hv hx
  go_wp2_with fail
  refine (He.out _ _ Hx.out Hv.out).mono ?_
  rintro e w2 ⟨rfl, hx⟩
  replace Hv := Lib.hid (Hv.out.mono hx)
  replace Hx := Lib.hid (Hx.out.trans hx)
  clear hx
  go_wp2_with fail
  refine (Hd.out _ _ Hx.out Hv.out).mono ?_
  rintro e w3 ⟨rfl, hx⟩
  replace Hv := Lib.hid (Hv.out.mono hx)
  replace Hx := Lib.hid (Hx.out.trans hx)
  clear hx
  go_wp2_with fail
  refine (Ha.out _ _ Hx.out Hv.out).mono ?_
  rintro e w4 ⟨Aa, ca, ba, oa, rfl, rfl, cell1, hx⟩
  replace Hv := Lib.hid (Hv.out.mono hx)
  replace Hx := Lib.hid (Hx.out.trans hx)
  clear hx
  have hx := (Ext.refl w4).alloc (.cells #[.int .i64 1, .int .i64 0] 3)
  have Hw := Lib.hid (lit_ints w4 [1, 0] 2 rfl)
  replace Hv := Lib.hid (Hv.out.mono hx)
  replace Hx := Lib.hid (Hx.out.trans hx)
  replace cell1 := hx.cell cell1
  clear hx
  go_wp2_with fail
  refine (Hc.out _ _ _ Hx.out Hv.out Hw.out).mono ?_
  rintro e w5 ⟨rfl, hx⟩
  replace Hv := Lib.hid (Hv.out.mono hx)
  replace Hx := Lib.hid (Hx.out.trans hx)
  replace cell1 := hx.cell cell1
  clear hx
  go_wp2_with fail
  refine (Hm.out _ _ Hx.out Hv.out).mono ?_
  rintro e w6 ⟨Am, cm, Bm, km, bm, om, rfl, rfl, cell2, hx⟩
  replace Hv := Lib.hid (Hv.out.mono hx)
  replace Hx := Lib.hid (Hx.out.trans hx)
  replace cell1 := hx.cell cell1
  clear hx
  go_wp2_with fail
  refine (Ht.out _ _ Hx.out Hv.out).mono ?_
  rintro e w7 ⟨rfl, hx⟩
  replace Hv := Lib.hid (Hv.out.mono hx)
  replace Hx := Lib.hid (Hx.out.trans hx)
  replace cell1 := hx.cell cell1
  replace cell2 := hx.cell cell2
  clear hx
  go_wp2_with fail
  refine (Hp.out _ _ Hx.out Hv.out).mono ?_
  rintro e w8 ⟨rfl, hx⟩
  replace Hv := Lib.hid (Hv.out.mono hx)
  replace Hx := Lib.hid (Hx.out.trans hx)
  replace cell1 := hx.cell cell1
  replace cell2 := hx.cell cell2
  clear hx
  go_wp2_with fail
  refine (Hg1.out _).mono ?_
  rintro e w9 ⟨rfl, hx⟩
  replace Hx := Lib.hid (Hx.out.trans hx)
  clear hx cell1 cell2
  go_wp2_with fail
  refine (Hg2.out _).mono ?_
  rintro e w10 ⟨rfl, hx⟩
  replace Hx := Lib.hid (Hx.out.trans hx)
  clear hx
  go_wp2_with fail
  go_ret
  exact ⟨rfl, Hx.out⟩
end Go.Proofs.YtldnjnnhfeobdaaGreatDoor
/- Types that are the same: no way tells them, their texts are equal; others: the way that is found tells them, and it is a least one. No program. -/
namespace Go.Proofs.YtldnjnnhfeobdaaGreatDoor
set_option linter.all false
set_option linter.unusedSimpArgs false
set_option linter.unusedVariables false
open Go.RowKit Go.Shelf

theorem tellsI_cast (g : Graph) : ∀ (w : List Nat) (i j : Nat), tellsI g i j (w.map fun (n : Nat) => (n : Int)) = tellsN (agN g) (refsN g) i j w
  | [], i, j => rfl
  | k :: w, i, j => by
    rw [List.map_cons]
    unfold tellsI tellsN
    rw [Int.toNat_natCast, tellsI_cast g w]
    have : hasB (refsN g i).length (k : Int) = decide (k < (refsN g i).length) := by
      unfold hasB inB; rw [Bool.eq_iff_iff]; simp; omega
    rw [this]
theorem tellsI_nat {g : Graph} : ∀ {w : List Int} {i j : Nat}, tellsI g i j w = true → w = (w.map Int.toNat).map fun (n : Nat) => (n : Int)
  | [], i, j, _ => rfl
  | k :: w, i, j, h => by
    unfold tellsI at h
    simp only [Bool.and_eq_true] at h
    have hk : 0 ≤ k := by have := h.2.1; unfold hasB inB at this; simp at this; omega
    have ih := tellsI_nat h.2.2
    rw [List.map_cons, List.map_cons, ← ih]
    congr 1
    omega
theorem same_facts {g : Graph} (hW : WF g) {i j : Nat} (hi : i < g.length) (hj : j < g.length) (h : sameG g i j = true) :
    wayN (agN g) (refsN g) g.length i j = none ∧ textG g i = textG g j ∧ ∀ w : List Int, tellsI g i j w = false := by
  have hs : clsG g i = clsG g j := by simpa [sameG, clsG] using h
  have hno : ∀ w : List Int, tellsI g i j w = false := by
    intro w
    cases ht : tellsI g i j w with
    | false => rfl
    | true =>
      rw [tellsI_nat ht, tellsI_cast, sameN_no_way hW.abs _ _ _ hi hj hs] at ht
      exact absurd ht (by simp)
  refine ⟨?_, text_same hW hi hj hs, hno⟩
  have hf := wayN_found hW.abs hi hj
  cases hw : wayN (agN g) (refsN g) g.length i j with
  | none => rfl
  | some u =>
    rw [hw] at hf
    have h1 := hf.1
    rw [← tellsI_cast, hno] at h1
    exact absurd h1 (by simp)
theorem differ_facts {g : Graph} (hW : WF g) {i j : Nat} (hi : i < g.length) (hj : j < g.length) (h : sameG g i j = false) :
    ∃ u, wayN (agN g) (refsN g) g.length i j = some u ∧ textG g i ≠ textG g j ∧ tellsI g i j (u.map fun (n : Nat) => (n : Int)) = true ∧ ∀ w : List Int, tellsI g i j w = true → u.length ≤ w.length := by
  have hs : ¬ clsG g i = clsG g j := by simpa [sameG, clsG] using h
  have hf := wayN_found hW.abs hi hj
  cases hw : wayN (agN g) (refsN g) g.length i j with
  | none =>
    rw [hw] at hf
    exact absurd (no_way_sameN hW.abs hi hj hf) hs
  | some u =>
    rw [hw] at hf
    refine ⟨u, rfl, fun e => hs (same_of_text hW hi hj e), by rw [tellsI_cast]; exact hf.1, fun w ht => ?_⟩
    rw [tellsI_nat ht, tellsI_cast] at ht
    have := hf.2 _ ht
    simpa using this
theorem apartN_len {n : Nat} {ag : Nat → Nat → Bool} {rf : Nat → List Nat} {a b : Nat} (G : AbsGraph n ag rf) (hn : n ≤ 400) : ∀ f dn s o, Inv n ag rf a b dn s o → WInv dn s o → ∀ u, apartN ag rf f s o = some u → u.length ≤ 160000 := by
  intro f
  induction f with
  | zero => intro dn s o _ _ u h; simp [apartN] at h
  | succ f ih =>
    intro dn s o I W u h
    cases o with
    | nil => simp [apartN] at h
    | cons x o =>
      unfold apartN at h
      cases hx : ag x.1.1 x.1.2 with
      | false =>
        rw [hx] at h
        simp at h
        subst h
        exact (W.bound I hn).2 x (by simp)
      | true =>
        rw [hx] at h
        simp only [if_true] at h
        exact ih _ _ _ (I.step G hx) (W.step _) u h
theorem wayN_len {g : Graph} (hW : WF g) {i j : Nat} (hi : i < g.length) (hj : j < g.length) {u : List Nat} (h : wayN (agN g) (refsN g) g.length i j = some u) : u.length ≤ 160000 :=
  apartN_len hW.abs hW.len _ _ _ _ (Inv.init hi hj) (WInv.init i j) u h
theorem err_parts {g : Graph} {a b : Int} (h : errG g [a, b] = 0) : errG g [a] = 0 ∧ errG g [b] = 0 := by
  unfold errG at h ⊢
  split at h
  · rename_i hc
    rw [if_pos hc, if_pos hc]
    simp only [List.any_cons, List.any_nil, Bool.or_false] at h ⊢
    cases h1 : outB g.length a <;> cases h2 : outB g.length b <;> simp [h1, h2] at h ⊢
  · simp at h
end Go.Proofs.YtldnjnnhfeobdaaGreatDoor
/- Contract: TypesTold, the law: true. Conditions: a tidy graph, lengths below 2^20, the tables of the library laid. -/
namespace Go.Proofs.YtldnjnnhfeobdaaGreatDoor
set_option linter.all false
set_option linter.unusedSimpArgs false
set_option linter.unusedVariables false
open Go.RowKit Go.Shelf

set_option maxRecDepth 100000 in
set_option maxHeartbeats 16000000 in
theorem told_any (w : World) (gv v : Value) (g : Graph) (a b : Int) (way : List Int) (hg : Sl tyE w gv g) (hT : Tidy g) (hG : Glob w) (hv : Sl intE w v way) (hwn : way.length ≤ 1048576) :
    Calls Tryz.prog 4 #[gv, .int .i64 a, .int .i64 b, v] w (Ret w (.bool true)) := by
  have hal := fun (w' : World) (hx : Ext w w') => alive_any w' (hG.mono hx)
  have hli := light_any w gv g hg hT
  have heq := fun (w' : World) (hx : Ext w w') => equal_any w' gv g a b (hg.mono hx) hT (hG.mono hx)
  have hap := fun (w' : World) (hx : Ext w w') => apart_any w' gv g a b (hg.mono hx) hT (hG.mono hx)
  have hca := fun (w' : World) (hx : Ext w w') => checkApart_any w' gv v g a b way (hg.mono hx) hT (hG.mono hx) (hv.mono hx) hwn
  have hcf := fun (w' : World) (hx : Ext w w') (u : Value) (us : List Int) (hu : Sl intE w' u us) (hun : us.length ≤ 1048576) => checkApart_any w' gv u g a b us (hg.mono hx) hT (hG.mono hx) hu hun
  have hta := fun (w' : World) (hx : Ext w w') => Text_any w' gv g a (hg.mono hx) hT (hG.mono hx)
  have htb := fun (w' : World) (hx : Ext w w') => Text_any w' gv g b (hg.mono hx) hT (hG.mono hx)
  obtain ⟨A, cap, rfl⟩ := hg.len
  obtain ⟨B, cb, rfl⟩ := hv.len
  have Hal := Lib.hid hal
  clear hal hg hT hG hv
  cases hl : lightG g with
  | false =>
    rw [hl] at hli
    have Hli := Lib.hid hli
    clear hli heq hap hca hcf hta htb
    go_enter Tryz.func4, Tryz.ntmps4
    go_wp2_with fail
    refine Hli.out.mono ?_
    rintro e w1 ⟨rfl, hx1⟩
    go_wp2_with fail
    refine (Hal.out _ hx1).mono ?_
    rintro e w2 ⟨rfl, hx2⟩
    go_wp2_with fail
    go_ret
    exact ⟨rfl, hx1.trans hx2⟩
  | true =>
    rw [hl] at hli
    have Hli := Lib.hid hli
    by_cases h60 : 60 < way.length
    · have h60' : (60 : Int) < (way.length : Int) := by omega
      clear hli heq hap hca hcf hta htb
      go_enter Tryz.func4, Tryz.ntmps4
      go_wp2_with fail
      refine Hli.out.mono ?_
      rintro e w1 ⟨rfl, hx1⟩
      go_wp2_with fail
      refine (Hal.out _ hx1).mono ?_
      rintro e w2 ⟨rfl, hx2⟩
      go_wp2_with fail
      go_ret
      exact ⟨rfl, hx1.trans hx2⟩
    · have h60' : ¬ (60 : Int) < (way.length : Int) := by omega
      unfold equalG at heq
      unfold apartG at hap
      unfold checkApartG at hca hcf
      by_cases h0 : errG g [a, b] = 0
      · obtain ⟨e1, e2⟩ := err_parts h0
        unfold textS at hta htb
        simp only [h0, e1, e2, if_true] at heq hap hca hcf hta htb
        obtain ⟨hW, hab⟩ := errG_zero h0
        obtain ⟨a0, a1⟩ := hab a (by simp)
        obtain ⟨b0, b1⟩ := hab b (by simp)
        obtain ⟨i, rfl⟩ := Int.eq_ofNat_of_zero_le a0
        obtain ⟨j, rfl⟩ := Int.eq_ofNat_of_zero_le b0
        have hi : i < g.length := by omega
        have hj : j < g.length := by omega
        simp only [Int.toNat_natCast] at heq hap hca hcf hta htb
        cases hs : sameG g i j with
        | true =>
          obtain ⟨f1, f2, f3⟩ := same_facts hW hi hj hs
          rw [f1] at hap
          rw [f2] at hta
          simp only [hs] at heq
          simp only [f3] at hca
          generalize textG g j = tx at *
          have Heq := Lib.hid heq
          have Hap := Lib.hid hap
          have Hca := Lib.hid hca
          have Hta := Lib.hid hta
          have Htb := Lib.hid htb
          clear hli heq hap hca hcf hta htb hW hab f1 f2 f3 hs h0 e1 e2
          go_enter Tryz.func4, Tryz.ntmps4
          go_wp2_with fail
          refine Hli.out.mono ?_
          rintro e w1 ⟨rfl, hx1⟩
          have Hx := Lib.hid hx1
          clear hx1
          go_wp2_with fail
          refine (Heq.out _ Hx.out).mono ?_
          rintro e w2 ⟨rfl, hx2⟩
          replace Hx := Lib.hid (Hx.out.trans hx2)
          clear hx2
          go_wp2_with fail
          refine (Hap.out _ Hx.out).mono ?_
          rintro e w3 ⟨vf, rfl, hvf, hx3⟩
          obtain ⟨Af, cf, rfl⟩ := hvf.len
          replace Hx := Lib.hid (Hx.out.trans hx3)
          clear hx3 hvf
          simp only [Option.isSome_none, Option.getD_none, List.map_nil, List.length_nil]
          go_wp2_with fail
          refine (Hca.out _ Hx.out).mono ?_
          rintro e w4 ⟨rfl, hx4⟩
          replace Hx := Lib.hid (Hx.out.trans hx4)
          clear hx4
          go_wp2_with fail
          refine (Hta.out _ Hx.out).mono ?_
          rintro e w5 ⟨rfl, hx5⟩
          replace Hx := Lib.hid (Hx.out.trans hx5)
          clear hx5
          go_wp2_with fail
          refine (Htb.out _ Hx.out).mono ?_
          rintro e w6 ⟨rfl, hx6⟩
          replace Hx := Lib.hid (Hx.out.trans hx6)
          clear hx6
          go_wp2_with fail
          refine (Hal.out _ Hx.out).mono ?_
          rintro e w7 ⟨rfl, hx7⟩
          replace Hx := Lib.hid (Hx.out.trans hx7)
          clear hx7
          go_wp2_with fail
          go_ret
          exact ⟨rfl, Hx.out⟩
        | false =>
          obtain ⟨u, f1, f2, f3, f4⟩ := differ_facts hW hi hj hs
          have hul := wayN_len hW hi hj f1
          have hnl : ¬ (⟨(textG g i).toArray⟩ : ByteArray).toList = (⟨(textG g j).toArray⟩ : ByteArray).toList := by
            intro h
            have h := ba_toList_inj h
            injection h with h
            exact f2 (by simpa using congrArg Array.toList h)
          have hne : ((⟨(textG g i).toArray⟩ : ByteArray).toList == (⟨(textG g j).toArray⟩ : ByteArray).toList) = false := by
            rw [beq_eq_false_iff_ne]; exact hnl
          rw [f1] at hap
          simp only [hs] at heq
          have hcf := fun (w' : World) (hx : Ext w w') (x : Value) (hu : Sl intE w' x (u.map fun (n : Nat) => (n : Int))) => hcf w' hx x _ hu (by rw [List.length_map]; omega)
          simp only [f3] at hcf
          have hlt : tellsI g i j way = true → ¬ (way.length : Int) < (u.length : Int) := fun ht => by have := f4 _ ht; omega
          generalize tellsI g i j way = tw at *
          generalize (⟨(textG g i).toArray⟩ : ByteArray) = tx at *
          generalize (⟨(textG g j).toArray⟩ : ByteArray) = ty at *
          try simp only [Option.getD_some, Option.isSome_some] at hap
          have Heq := Lib.hid heq
          have Hap := Lib.hid hap
          have Hca := Lib.hid hca
          have Hcf := Lib.hid hcf
          have Hta := Lib.hid hta
          have Htb := Lib.hid htb
          clear hli heq hap hca hcf hta htb hW hab f1 f2 f3 f4 hs h0 e1 e2
          go_enter Tryz.func4, Tryz.ntmps4
          go_wp2_with fail
          refine Hli.out.mono ?_
          rintro e w1 ⟨rfl, hx1⟩
          have Hx := Lib.hid hx1
          clear hx1
          go_wp2_with fail
          refine (Heq.out _ Hx.out).mono ?_
          rintro e w2 ⟨rfl, hx2⟩
          replace Hx := Lib.hid (Hx.out.trans hx2)
          clear hx2
          go_wp2_with fail
          refine (Hap.out _ Hx.out).mono ?_
          rintro e w3 ⟨vf, rfl, hvf, hx3⟩
          simp only [Option.getD_some] at hvf
          obtain ⟨Af, cf, rfl⟩ := hvf.len
          replace Hx := Lib.hid (Hx.out.trans hx3)
          have Hvf := Lib.hid hvf
          clear hx3 hvf
          simp only [Option.isSome_some, List.length_map] at Hvf ⊢
          go_wp2_with fail
          refine (Hca.out _ Hx.out).mono ?_
          rintro e w4 ⟨rfl, hx4⟩
          replace Hx := Lib.hid (Hx.out.trans hx4)
          replace Hvf := Lib.hid (Hvf.out.mono hx4)
          clear hx4
          go_wp2_with fail
          refine (Hta.out _ Hx.out).mono ?_
          rintro e w5 ⟨rfl, hx5⟩
          replace Hx := Lib.hid (Hx.out.trans hx5)
          replace Hvf := Lib.hid (Hvf.out.mono hx5)
          clear hx5
          go_wp2_with fail
          refine (Htb.out _ Hx.out).mono ?_
          rintro e w6 ⟨rfl, hx6⟩
          replace Hx := Lib.hid (Hx.out.trans hx6)
          replace Hvf := Lib.hid (Hvf.out.mono hx6)
          clear hx6
          cases tw with
          | true =>
            have hlt1 := hlt rfl
            have hlt2 : ¬ way.length < u.length := by omega
            clear hlt
            go_wp2_with fail
            refine (Hcf.out _ Hx.out _ Hvf.out).mono ?_
            rintro e w7 ⟨rfl, hx7⟩
            replace Hx := Lib.hid (Hx.out.trans hx7)
            clear hx7
            go_wp2_with fail
            refine (Hal.out _ Hx.out).mono ?_
            rintro e w8 ⟨rfl, hx8⟩
            replace Hx := Lib.hid (Hx.out.trans hx8)
            clear hx8
            go_wp2_with fail
            go_ret
            exact ⟨rfl, Hx.out⟩
          | false =>
            clear hlt
            go_wp2_with fail
            refine (Hcf.out _ Hx.out _ Hvf.out).mono ?_
            rintro e w7 ⟨rfl, hx7⟩
            replace Hx := Lib.hid (Hx.out.trans hx7)
            clear hx7
            go_wp2_with fail
            refine (Hal.out _ Hx.out).mono ?_
            rintro e w8 ⟨rfl, hx8⟩
            replace Hx := Lib.hid (Hx.out.trans hx8)
            clear hx8
            go_wp2_with fail
            go_ret
            exact ⟨rfl, Hx.out⟩
      · simp only [if_neg h0] at heq hap hca
        have hne : (errG g [a, b] != 0) = true := by simpa using h0
        generalize errG g [a, b] = er at *
        have Heq := Lib.hid heq
        have Hap := Lib.hid hap
        have Hca := Lib.hid hca
        clear hli heq hap hca hcf hta htb h0
        go_enter Tryz.func4, Tryz.ntmps4
        go_wp2_with fail
        refine Hli.out.mono ?_
        rintro e w1 ⟨rfl, hx1⟩
        have Hx := Lib.hid hx1
        clear hx1
        go_wp2_with fail
        refine (Heq.out _ Hx.out).mono ?_
        rintro e w2 ⟨rfl, hx2⟩
        replace Hx := Lib.hid (Hx.out.trans hx2)
        clear hx2
        go_wp2_with fail
        refine (Hap.out _ Hx.out).mono ?_
        rintro e w3 ⟨vf, rfl, hvf, hx3⟩
        obtain ⟨Af, cf, rfl⟩ := hvf.len
        replace Hx := Lib.hid (Hx.out.trans hx3)
        clear hx3 hvf
        simp only [Option.isSome_none, Option.getD_none, List.map_nil, List.length_nil]
        go_wp2_with fail
        refine (Hca.out _ Hx.out).mono ?_
        rintro e w4 ⟨rfl, hx4⟩
        replace Hx := Lib.hid (Hx.out.trans hx4)
        clear hx4
        go_wp2_with fail
        refine (Hal.out _ Hx.out).mono ?_
        rintro e w7 ⟨rfl, hx7⟩
        replace Hx := Lib.hid (Hx.out.trans hx7)
        clear hx7
        go_wp2_with fail
        go_ret
        exact ⟨rfl, Hx.out⟩
end Go.Proofs.YtldnjnnhfeobdaaGreatDoor
