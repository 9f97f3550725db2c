/- Parts of the proof, joined: Contract: a type in new memory with other references. Conditions: lengths below 2^20; Contract: Merge. Conditions: lengths below 2^20; Contract: Merge. Conditions: lengths below 2^20; The law's own example: what the plain functions say of it. No program; Contracts: record, lists, of the law. No condition; Contract: alive, of the law. Condition: the tables of the library are laid; Contracts of the reference: names, symbols, brands. Conditions: lengths below 2^20; Contracts of the reference: brands, parts, what may be above. Conditions: lengths below 2^20; Contract of the reference: what may be above a type. Conditions: lengths below 2^20; Plain law: what the reference asks of a type is what the program asks; a walk up that comes back does so in as many steps as there are types. No condition. -/
import Derived.Test.YtldnjnnhfeobdaaGreatDoorB9
import Derived.Test.YtldnjnnhfeobdaaGreatDoorB7
import Derived.Test.YtldnjnnhfeobdaaGreatDoorB8
import Derived.Test.YtldnjnnhfeobdaaGreatDoorB4
import Derived.Test.YtldnjnnhfeobdaaGreatDoorB3
namespace Go.Proofs.YtldnjnnhfeobdaaGreatDoor
set_option linter.all false
set_option linter.unusedSimpArgs false
set_option linter.unusedVariables false
open Go.RowKit Go.Shelf

theorem map124 (w : World) (bf g : Nat) (cb : Array Value) (f : Int → Int) (ok : Int → Prop) (xs : List Part) (hc : w.cell? ⟨bf, 0, none⟩ = some (.func (.func g) #[] cb)) (hT : ToP w g cb f ok) (hx : ∀ p ∈ xs, ok p.type) :
    MapP partE partE w 124 #[.pointer (some ⟨bf, 0, none⟩)] xs (turnP f) :=
  ⟨enters_of Tryz.func124 (by kernel_rfl) rfl, by
    rintro x hxm w' A hxt ⟨_, rfl, rfl⟩
    exact moved1_any w' bf g cb f ok x (hxt.cell hc) (hT.later hxt) (hx x hxm)⟩
theorem map126 (w : World) (bf g : Nat) (cb : Array Value) (f : Int → Int) (ok : Int → Prop) (xs : List Method) (hc : w.cell? ⟨bf, 0, none⟩ = some (.func (.func g) #[] cb)) (hT : ToP w g cb f ok) (hs : ∀ m ∈ xs, MethodSmall m)
    (hx : ∀ m ∈ xs, (∀ a ∈ m.args, ok a) ∧ (0 ≤ m.result → ok m.result)) :
    MapP methodE methodE w 126 #[.pointer (some ⟨bf, 0, none⟩)] xs (turnM f) :=
  ⟨enters_of Tryz.func126 (by kernel_rfl) rfl, by
    rintro x hxm w' A hxt ⟨cs, ⟨va, vr, rfl, ha, hr⟩, rfl⟩
    exact moved2_any w' bf g cb f ok x va vr (hxt.cell hc) (hT.later hxt) ha hr (hs x hxm).2.2.1 (hs x hxm).2.2.2.1 (hx x hxm).1 (hx x hxm).2⟩
/-- while a type is turned: the box of it, that of the function, that of the result -/
structure MSt (w : World) (g : Nat) (cb : Array Value) (t : Ty) (vp vm vo : Value) (wr : World) : Prop where
  ext : Ext w wr
  box : TyBox wr w.heap.size t vp vm vo
  fbox : wr.heap[w.heap.size + 1]? = some (.cells #[.func (.func g) #[] cb] 103 (0, 0))
  zbox : TyBox wr (w.heap.size + 2) ty0 (.slice none 0 0) (.slice none 0 0) (.slice none 0 0)
section
variable {w : World} {g : Nat} {cb : Array Value} {t : Ty} {vp vm vo : Value} {wr wr' : World}
theorem MSt.later (h : MSt w g cb t vp vm vo wr) (hx : Ext wr wr') : MSt w g cb t vp vm vo wr' := ⟨h.ext.trans hx, h.box.ext hx, hx.heap h.fbox, h.zbox.ext hx⟩
theorem MSt.set (h : MSt w g cb t vp vm vo wr) (i : Nat) (v : Value) {t' : Ty} {vp' vm' vo' : Value} (hb : TyBox (wr.setCell ⟨w.heap.size, i, none⟩ v) w.heap.size t' vp' vm' vo') : MSt w g cb t' vp' vm' vo' (wr.setCell ⟨w.heap.size, i, none⟩ v) :=
  ⟨h.ext.setCell (Nat.le_refl _) _, hb, (Below.heap_setCell _ _ _ _ (by simp)).trans h.fbox, by unfold TyBox; rw [Below.heap_setCell _ _ _ _ (by simp)]; exact h.zbox⟩
theorem MSt.set6 (h : MSt w g cb t vp vm vo wr) (n : Int) : MSt w g cb { t with super := n } vp vm vo (wr.setCell ⟨w.heap.size, 6, none⟩ (.int .i64 n)) := h.set 6 _ (heap_set h.box 6 _)
theorem MSt.set7 (h : MSt w g cb t vp vm vo wr) (v : Value) : MSt w g cb t v vm vo (wr.setCell ⟨w.heap.size, 7, none⟩ v) := h.set 7 _ (heap_set h.box 7 _)
theorem MSt.set8 (h : MSt w g cb t vp vm vo wr) (v : Value) : MSt w g cb t vp v vo (wr.setCell ⟨w.heap.size, 8, none⟩ v) := h.set 8 _ (heap_set h.box 8 _)
theorem MSt.set9 (h : MSt w g cb t vp vm vo wr) (v : Value) : MSt w g cb t vp vm v (wr.setCell ⟨w.heap.size, 9, none⟩ v) := h.set 9 _ (heap_set h.box 9 _)
theorem MSt.fcell (h : MSt w g cb t vp vm vo wr) : wr.cell? ⟨w.heap.size + 1, 0, none⟩ = some (.func (.func g) #[] cb) := heap_cell h.fbox 0 _ rfl
end
theorem row10_set {w : World} {b : Nat} {t : TypeId} {fr : Nat × Nat} {a0 a1 a2 a3 a4 a5 a6 a7 a8 a9 : Value} (h : w.heap[b]? = some (.cells #[a0, a1, a2, a3, a4, a5, a6, a7, a8, a9] t fr)) (v0 v1 v2 v3 v4 v5 v6 v7 v8 v9 : Value) :
    ((((((((((w.setCell ⟨b, 0, none⟩ v0).setCell ⟨b, 1, none⟩ v1).setCell ⟨b, 2, none⟩ v2).setCell ⟨b, 3, none⟩ v3).setCell ⟨b, 4, none⟩ v4).setCell ⟨b, 5, none⟩ v5).setCell ⟨b, 6, none⟩ v6).setCell ⟨b, 7, none⟩ v7).setCell ⟨b, 8, none⟩ v8).setCell ⟨b, 9, none⟩ v9).heap[b]? = some (.cells #[v0, v1, v2, v3, v4, v5, v6, v7, v8, v9] t fr) := by
  have h0 := heap_set h 0 v0
  simp only [List.setIfInBounds_toArray, List.set_cons_zero, List.set_cons_succ] at h0
  have h1 := heap_set h0 1 v1
  simp only [List.setIfInBounds_toArray, List.set_cons_zero, List.set_cons_succ] at h1
  have h2 := heap_set h1 2 v2
  simp only [List.setIfInBounds_toArray, List.set_cons_zero, List.set_cons_succ] at h2
  have h3 := heap_set h2 3 v3
  simp only [List.setIfInBounds_toArray, List.set_cons_zero, List.set_cons_succ] at h3
  have h4 := heap_set h3 4 v4
  simp only [List.setIfInBounds_toArray, List.set_cons_zero, List.set_cons_succ] at h4
  have h5 := heap_set h4 5 v5
  simp only [List.setIfInBounds_toArray, List.set_cons_zero, List.set_cons_succ] at h5
  have h6 := heap_set h5 6 v6
  simp only [List.setIfInBounds_toArray, List.set_cons_zero, List.set_cons_succ] at h6
  have h7 := heap_set h6 7 v7
  simp only [List.setIfInBounds_toArray, List.set_cons_zero, List.set_cons_succ] at h7
  have h8 := heap_set h7 8 v8
  simp only [List.setIfInBounds_toArray, List.set_cons_zero, List.set_cons_succ] at h8
  have h9 := heap_set h8 9 v9
  simp only [List.setIfInBounds_toArray, List.set_cons_zero, List.set_cons_succ] at h9
  exact h9
theorem SlF.set {α : Type} {E : Elt α} {n : Nat} {w : World} {v : Value} {xs : List α} (h : SlF (fun b => n ≤ b) E w v xs) {b : Nat} (hb : b < n) (i : Nat) (u : Value) : SlF (fun b => n ≤ b) E (w.setCell ⟨b, i, none⟩ u) v xs :=
  h.mono (fun c hc _ => Below.heap_setCell _ _ _ _ (by simp; omega)) (fun _ h _ => h)

set_option maxRecDepth 100000 in
set_option maxHeartbeats 8000000 in
theorem moved_any (w : World) (g : Nat) (cb : Array Value) (f : Int → Int) (ok : Int → Prop) (t : Ty) (vp vm vo : Value) (hof : TyOf w t vp vm vo) (hs : TySmall t) (hT : ToP w g cb f ok) (hok : ∀ r ∈ refsL t, ok r) :
    Calls Tryz.prog 72 #[tyV t vp vm vo, .func (.func g) #[] cb] w (RetP w (Res tyE w (turnT f t))) := by
  have eg : ∀ args w, (callFunc g args).run Tryz.prog w = .ok (.enter g args) w := hT.ent
  have hkd := fun w' : World => hasSuper_any t.kind w'
  have hsup := fun (w' : World) (h : Ext w w') (h0 : hasSuperB t.kind = true) => hT.run t.super (hok _ (by unfold refsL refsS; rw [h0]; simp)) w' h
  have hpa := fun (w' : World) (h : Ext w w') (hc : w'.cell? ⟨w.heap.size + 1, 0, none⟩ = some (.func (.func g) #[] cb)) => turned_part_part 124 #[.pointer (some ⟨w.heap.size + 1, 0, none⟩)] w' vp t.parts (turnP f) (hof.parts.mono h) hs.parts (map124 w' _ g cb f ok t.parts hc (hT.later h) (fun p hp => hok _ (by unfold refsL; simp only [List.mem_append]; exact .inr (.inl (List.mem_map_of_mem hp)))))
  have hme := fun (w' : World) (h : Ext w w') (hc : w'.cell? ⟨w.heap.size + 1, 0, none⟩ = some (.func (.func g) #[] cb)) => turned_method_method 126 #[.pointer (some ⟨w.heap.size + 1, 0, none⟩)] w' vm t.methods (turnM f) (hof.methods.mono h) hs.methods (map126 w' _ g cb f ok t.methods hc (hT.later h) hs.method (fun m hm => ⟨fun a ha => hok _ (by unfold refsL; simp only [List.mem_append]; exact .inr (.inr (List.mem_flatMap.2 ⟨m, hm, by unfold refsM; simp [ha]⟩))), fun h0 => hok _ (by unfold refsL; simp only [List.mem_append]; exact .inr (.inr (List.mem_flatMap.2 ⟨m, hm, by unfold refsM; rw [if_pos h0]; simp⟩)))⟩))
  have hov := fun (w' : World) (h : Ext w w') => clone_over w' vo t.overs (hof.overs.mono h) hs.overs
  obtain ⟨Ap, cp, ep⟩ := hof.parts.len
  obtain ⟨Am, cm, em⟩ := hof.methods.len
  obtain ⟨Ao, co, eo⟩ := hof.overs.len
  subst ep em eo
  have Hkd := Lib.hid hkd
  have Hsup := Lib.hid hsup
  have Hpa := Lib.hid hpa
  have Hme := Lib.hid hme
  have Hov := Lib.hid hov
  clear hkd hsup hpa hme hov hT hof hok hs
  have hst : MSt w g cb t (.slice Ap t.parts.length cp) (.slice Am t.methods.length cm) (.slice Ao t.overs.length co) (((w.alloc (.cells #[.int .u8 t.kind, .int .i64 t.low, .int .i64 t.high, .bool t.branded, .string t.brand, .string t.opaq, .int .i64 t.super, .slice Ap t.parts.length cp, .slice Am t.methods.length cm, .slice Ao t.overs.length co] 42)).alloc (.cells #[.func (.func g) #[] cb] 103)).alloc (.cells #[.int .u8 0, .int .i64 0, .int .i64 0, .bool false, .string ⟨#[]⟩, .string ⟨#[]⟩, .int .i64 0, .slice none 0 0, .slice none 0 0, .slice none 0 0] 42)) := by
    refine ⟨(((Ext.refl w).alloc _).alloc _).alloc _, ?_, ?_, ?_⟩
    · exact ((Below.heap_alloc _ _ _ (by simp; omega)).trans (Below.heap_alloc _ _ _ (by simp))).trans (heap_alloc_self w _)
    · have h := heap_alloc_self (w.alloc (.cells #[.int .u8 t.kind, .int .i64 t.low, .int .i64 t.high, .bool t.branded, .string t.brand, .string t.opaq, .int .i64 t.super, .slice Ap t.parts.length cp, .slice Am t.methods.length cm, .slice Ao t.overs.length co] 42)) (.cells #[.func (.func g) #[] cb] 103)
      rw [World.size_alloc] at h
      exact (Below.heap_alloc _ _ _ (by simp)).trans h
    · have h := heap_alloc_self ((w.alloc (.cells #[.int .u8 t.kind, .int .i64 t.low, .int .i64 t.high, .bool t.branded, .string t.brand, .string t.opaq, .int .i64 t.super, .slice Ap t.parts.length cp, .slice Am t.methods.length cm, .slice Ao t.overs.length co] 42)).alloc (.cells #[.func (.func g) #[] cb] 103)) (.cells #[.int .u8 0, .int .i64 0, .int .i64 0, .bool false, .string ⟨#[]⟩, .string ⟨#[]⟩, .int .i64 0, .slice none 0 0, .slice none 0 0, .slice none 0 0] 42)
      rw [World.size_alloc, World.size_alloc] at h
      exact h
  have Hst := Lib.hid hst
  clear hst
  unfold tyV
  cases hs0 : hasSuperB t.kind
  · skip
    have Hs0 := Lib.hid hs0
    clear hs0
    have x0 := heap_cell Hst.out.box 0 _ rfl
    have l0 := Hst.out.box.lt
    go_enter Tryz.func72, Tryz.ntmps72
    go_wp2_with fail
    refine (Hkd.out _).mono ?_
    rintro e w1 ⟨rfl, hw1⟩
    rw [Hs0.out]
    subst hw1
    clear x0 l0
    generalize ((w.alloc (.cells #[.int .u8 t.kind, .int .i64 t.low, .int .i64 t.high, .bool t.branded, .string t.brand, .string t.opaq, .int .i64 t.super, .slice Ap t.parts.length cp, .slice Am t.methods.length cm, .slice Ao t.overs.length co] 42)).alloc (.cells #[.func (.func g) #[] cb] 103)).alloc (.cells #[.int .u8 0, .int .i64 0, .int .i64 0, .bool false, .string ⟨#[]⟩, .string ⟨#[]⟩, .int .i64 0, .slice none 0 0, .slice none 0 0, .slice none 0 0] 42) = W1 at Hst ⊢
    have b0 := Hst.out.box
    have cf := Hst.out.fcell
    have lf := cell_lt cf
    have x7 := heap_cell b0 7 _ rfl
    have lx := Hst.out.box.lt
    clear b0
    go_wp2_with fail
    clear cf lf lx x7
    refine (Hpa.out _ Hst.out.ext Hst.out.fcell).mono ?_
    rintro e w3 ⟨v3, rfl, hv3, hx3⟩
    obtain ⟨A3, c3, e3⟩ := hv3.any.len
    rw [List.length_map] at e3
    subst e3
    have Hv3 := Lib.hid (hv3.mono (G := fun b => w.heap.size + 3 ≤ b) (fun _ _ _ => rfl) (fun b hb _ => by have h5 := Hst.out.zbox.lt; unfold New at hb; omega))
    replace Hst := Lib.hid (Hst.out.later hx3)
    clear hv3 hx3
    have b0 := Hst.out.box
    have cf := Hst.out.fcell
    have lf := cell_lt cf
    have x7 := heap_cell b0 7 _ rfl
    have x8 := heap_cell b0 8 _ rfl
    have z7 := heap_frozen b0 7
    have lx := Hst.out.box.lt
    clear b0
    have Hst2 := Lib.hid (Hst.out.set7 (.slice A3 t.parts.length c3))
    have x82 := heap_cell Hst2.out.box 8 _ rfl
    have cf2 := Hst2.out.fcell
    have lf2 := cell_lt cf2
    go_wp2_with fail
    clear cf lf lx x7 x8 z7
    clear cf2 lf2 x82
    replace Hst := Hst2
    replace Hv3 := Lib.hid (Hv3.out.set (show w.heap.size < w.heap.size + 3 by omega) 7 (.slice A3 t.parts.length c3))
    generalize w3.setCell ⟨w.heap.size, 7, none⟩ (.slice A3 t.parts.length c3) = W3 at Hst Hv3 ⊢
    refine (Hme.out _ Hst.out.ext Hst.out.fcell).mono ?_
    rintro e w4 ⟨v4, rfl, hv4, hx4⟩
    obtain ⟨A4, c4, e4⟩ := hv4.any.len
    rw [List.length_map] at e4
    subst e4
    have Hv4 := Lib.hid (hv4.mono (G := fun b => w.heap.size + 3 ≤ b) (fun _ _ _ => rfl) (fun b hb _ => by have h5 := Hst.out.zbox.lt; unfold New at hb; omega))
    replace Hst := Lib.hid (Hst.out.later hx4)
    replace Hv3 := Lib.hid (Hv3.out.ext hx4)
    clear hv4 hx4
    have b0 := Hst.out.box
    have cf := Hst.out.fcell
    have lf := cell_lt cf
    have x8 := heap_cell b0 8 _ rfl
    have x9 := heap_cell b0 9 _ rfl
    have z8 := heap_frozen b0 8
    have lx := Hst.out.box.lt
    clear b0
    have Hst2 := Lib.hid (Hst.out.set8 (.slice A4 t.methods.length c4))
    have x92 := heap_cell Hst2.out.box 9 _ rfl
    go_wp2_with fail
    clear cf lf lx x8 x9 z8
    clear x92
    replace Hst := Hst2
    replace Hv3 := Lib.hid (Hv3.out.set (show w.heap.size < w.heap.size + 3 by omega) 8 (.slice A4 t.methods.length c4))
    replace Hv4 := Lib.hid (Hv4.out.set (show w.heap.size < w.heap.size + 3 by omega) 8 (.slice A4 t.methods.length c4))
    generalize w4.setCell ⟨w.heap.size, 8, none⟩ (.slice A4 t.methods.length c4) = W4 at Hst Hv3 Hv4 ⊢
    refine (Hov.out _ Hst.out.ext).mono ?_
    rintro e w5 ⟨v5, rfl, hv5, hx5⟩
    obtain ⟨A5, c5, rfl⟩ := hv5.any.len
    have Hv5 := Lib.hid (hv5.mono (G := fun b => w.heap.size + 3 ≤ b) (fun _ _ _ => rfl) (fun b hb _ => by have h5 := Hst.out.zbox.lt; unfold New at hb; omega))
    replace Hst := Lib.hid (Hst.out.later hx5)
    replace Hv3 := Lib.hid (Hv3.out.ext hx5)
    replace Hv4 := Lib.hid (Hv4.out.ext hx5)
    clear hv5 hx5
    have b0 := Hst.out.box
    have x9 := heap_cell b0 9 _ rfl
    have z9 := heap_frozen b0 9
    have lx := Hst.out.box.lt
    clear b0
    have Hst2 := Lib.hid (Hst.out.set9 (.slice A5 t.overs.length c5))
    have b2 := Hst2.out.box
    have q0 := heap_cell b2 0 _ rfl
    have q1 := heap_cell b2 1 _ rfl
    have q2 := heap_cell b2 2 _ rfl
    have q3 := heap_cell b2 3 _ rfl
    have q4 := heap_cell b2 4 _ rfl
    have q5 := heap_cell b2 5 _ rfl
    have q6 := heap_cell b2 6 _ rfl
    have q7 := heap_cell b2 7 _ rfl
    have q8 := heap_cell b2 8 _ rfl
    have q9 := heap_cell b2 9 _ rfl
    have y := Hst2.out.zbox
    have y0 := heap_cell y 0 _ rfl
    have y1 := heap_cell y 1 _ rfl
    have y2 := heap_cell y 2 _ rfl
    have y3 := heap_cell y 3 _ rfl
    have y4 := heap_cell y 4 _ rfl
    have y5 := heap_cell y 5 _ rfl
    have y6 := heap_cell y 6 _ rfl
    have y7 := heap_cell y 7 _ rfl
    have y8 := heap_cell y 8 _ rfl
    have y9 := heap_cell y 9 _ rfl
    have f0 := heap_frozen y 0
    have f1 := heap_frozen y 1
    have f2 := heap_frozen y 2
    have f3 := heap_frozen y 3
    have f4 := heap_frozen y 4
    have f5 := heap_frozen y 5
    have f6 := heap_frozen y 6
    have f7 := heap_frozen y 7
    have f8 := heap_frozen y 8
    have f9 := heap_frozen y 9
    have ly := Hst2.out.zbox.lt
    have lq := Hst2.out.box.lt
    clear b2 y
    go_wp2_with fail
    have e5 := row10_set Hst2.out.zbox (.int .u8 t.kind) (.int .i64 t.low) (.int .i64 t.high) (.bool t.branded) (.string t.brand) (.string t.opaq) (.int .i64 t.super) (.slice A3 t.parts.length c3) (.slice A4 t.methods.length c4) (.slice A5 t.overs.length c5)
    have d0 := heap_cell e5 0 _ rfl
    have d1 := heap_cell e5 1 _ rfl
    have d2 := heap_cell e5 2 _ rfl
    have d3 := heap_cell e5 3 _ rfl
    have d4 := heap_cell e5 4 _ rfl
    have d5 := heap_cell e5 5 _ rfl
    have d6 := heap_cell e5 6 _ rfl
    have d7 := heap_cell e5 7 _ rfl
    have d8 := heap_cell e5 8 _ rfl
    have d9 := heap_cell e5 9 _ rfl
    have hm : turnT f t = ⟨t.kind, t.low, t.high, t.branded, t.brand, t.opaq, t.super, t.parts.map (turnP f), t.methods.map (turnM f), t.overs⟩ := by unfold turnT; rw [Hs0.out]; rfl
    rw [hm]
    refine bodyPost_ret (v := .agg #[.int .u8 t.kind, .int .i64 t.low, .int .i64 t.high, .bool t.branded, .string t.brand, .string t.opaq, .int .i64 t.super, .slice A3 t.parts.length c3, .slice A4 t.methods.length c4, .slice A5 t.overs.length c5]) ?_ rfl ?_
    · simp [results, Tryz.results72, go_sem, d0, d1, d2, d3, d4, d5, d6, d7, d8, d9]
    · refine ⟨_, rfl, ⟨_, ⟨_, _, _, rfl, ?_, ?_, ?_⟩, rfl⟩, ?_⟩
      · refine (Hv3.out.set (show w.heap.size < w.heap.size + 3 by omega) 9 (.slice A5 t.overs.length c5)).mono (fun b hb _ => ?_) (fun b hb _ => (by unfold New; omega))
        rw [Below.heap_setCell _ _ _ _ (by simp; omega), Below.heap_setCell _ _ _ _ (by simp; omega), Below.heap_setCell _ _ _ _ (by simp; omega), Below.heap_setCell _ _ _ _ (by simp; omega), Below.heap_setCell _ _ _ _ (by simp; omega), Below.heap_setCell _ _ _ _ (by simp; omega), Below.heap_setCell _ _ _ _ (by simp; omega), Below.heap_setCell _ _ _ _ (by simp; omega), Below.heap_setCell _ _ _ _ (by simp; omega), Below.heap_setCell _ _ _ _ (by simp; omega)]
      · refine (Hv4.out.set (show w.heap.size < w.heap.size + 3 by omega) 9 (.slice A5 t.overs.length c5)).mono (fun b hb _ => ?_) (fun b hb _ => (by unfold New; omega))
        rw [Below.heap_setCell _ _ _ _ (by simp; omega), Below.heap_setCell _ _ _ _ (by simp; omega), Below.heap_setCell _ _ _ _ (by simp; omega), Below.heap_setCell _ _ _ _ (by simp; omega), Below.heap_setCell _ _ _ _ (by simp; omega), Below.heap_setCell _ _ _ _ (by simp; omega), Below.heap_setCell _ _ _ _ (by simp; omega), Below.heap_setCell _ _ _ _ (by simp; omega), Below.heap_setCell _ _ _ _ (by simp; omega), Below.heap_setCell _ _ _ _ (by simp; omega)]
      · refine (Hv5.out.set (show w.heap.size < w.heap.size + 3 by omega) 9 (.slice A5 t.overs.length c5)).mono (fun b hb _ => ?_) (fun b hb _ => (by unfold New; omega))
        rw [Below.heap_setCell _ _ _ _ (by simp; omega), Below.heap_setCell _ _ _ _ (by simp; omega), Below.heap_setCell _ _ _ _ (by simp; omega), Below.heap_setCell _ _ _ _ (by simp; omega), Below.heap_setCell _ _ _ _ (by simp; omega), Below.heap_setCell _ _ _ _ (by simp; omega), Below.heap_setCell _ _ _ _ (by simp; omega), Below.heap_setCell _ _ _ _ (by simp; omega), Below.heap_setCell _ _ _ _ (by simp; omega), Below.heap_setCell _ _ _ _ (by simp; omega)]
      · exact ((((((((((Hst2.out.ext).setCell (by simp; omega) _).setCell (by simp; omega) _).setCell (by simp; omega) _).setCell (by simp; omega) _).setCell (by simp; omega) _).setCell (by simp; omega) _).setCell (by simp; omega) _).setCell (by simp; omega) _).setCell (by simp; omega) _).setCell (by simp; omega) _
  · skip
    have Hs0 := Lib.hid hs0
    clear hs0
    have x0 := heap_cell Hst.out.box 0 _ rfl
    have l0 := Hst.out.box.lt
    go_enter Tryz.func72, Tryz.ntmps72
    go_wp2_with fail
    refine (Hkd.out _).mono ?_
    rintro e w1 ⟨rfl, hw1⟩
    rw [Hs0.out]
    subst hw1
    clear x0 l0
    generalize ((w.alloc (.cells #[.int .u8 t.kind, .int .i64 t.low, .int .i64 t.high, .bool t.branded, .string t.brand, .string t.opaq, .int .i64 t.super, .slice Ap t.parts.length cp, .slice Am t.methods.length cm, .slice Ao t.overs.length co] 42)).alloc (.cells #[.func (.func g) #[] cb] 103)).alloc (.cells #[.int .u8 0, .int .i64 0, .int .i64 0, .bool false, .string ⟨#[]⟩, .string ⟨#[]⟩, .int .i64 0, .slice none 0 0, .slice none 0 0, .slice none 0 0] 42) = W1 at Hst ⊢
    have b0 := Hst.out.box
    have cf := Hst.out.fcell
    have lf := cell_lt cf
    have x6 := heap_cell b0 6 _ rfl
    have lx := Hst.out.box.lt
    clear b0
    go_wp2_with fail
    refine (Hsup.out _ Hst.out.ext Hs0.out).mono ?_
    rintro e w2 ⟨rfl, hx2⟩
    clear cf lf lx x6
    replace Hst := Lib.hid (Hst.out.later hx2)
    clear hx2
    have b0 := Hst.out.box
    have cf := Hst.out.fcell
    have lf := cell_lt cf
    have x6 := heap_cell b0 6 _ rfl
    have x7 := heap_cell b0 7 _ rfl
    have z6 := heap_frozen b0 6
    have lx := Hst.out.box.lt
    clear b0
    have Hst2 := Lib.hid (Hst.out.set6 (f t.super))
    have cf2 := Hst2.out.fcell
    have x72 := heap_cell Hst2.out.box 7 _ rfl
    have lf2 := cell_lt cf2
    go_wp2_with fail
    clear cf lf lx x6 x7 z6
    clear cf2 x72 lf2
    replace Hst := Hst2
    generalize w2.setCell ⟨w.heap.size, 6, none⟩ (.int .i64 (f t.super)) = W2 at Hst ⊢
    refine (Hpa.out _ Hst.out.ext Hst.out.fcell).mono ?_
    rintro e w3 ⟨v3, rfl, hv3, hx3⟩
    obtain ⟨A3, c3, e3⟩ := hv3.any.len
    rw [List.length_map] at e3
    subst e3
    have Hv3 := Lib.hid (hv3.mono (G := fun b => w.heap.size + 3 ≤ b) (fun _ _ _ => rfl) (fun b hb _ => by have h5 := Hst.out.zbox.lt; unfold New at hb; omega))
    replace Hst := Lib.hid (Hst.out.later hx3)
    clear hv3 hx3
    have b0 := Hst.out.box
    have cf := Hst.out.fcell
    have lf := cell_lt cf
    have x7 := heap_cell b0 7 _ rfl
    have x8 := heap_cell b0 8 _ rfl
    have z7 := heap_frozen b0 7
    have lx := Hst.out.box.lt
    clear b0
    have Hst2 := Lib.hid (Hst.out.set7 (.slice A3 t.parts.length c3))
    have x82 := heap_cell Hst2.out.box 8 _ rfl
    have cf2 := Hst2.out.fcell
    have lf2 := cell_lt cf2
    go_wp2_with fail
    clear cf lf lx x7 x8 z7
    clear cf2 lf2 x82
    replace Hst := Hst2
    replace Hv3 := Lib.hid (Hv3.out.set (show w.heap.size < w.heap.size + 3 by omega) 7 (.slice A3 t.parts.length c3))
    generalize w3.setCell ⟨w.heap.size, 7, none⟩ (.slice A3 t.parts.length c3) = W3 at Hst Hv3 ⊢
    refine (Hme.out _ Hst.out.ext Hst.out.fcell).mono ?_
    rintro e w4 ⟨v4, rfl, hv4, hx4⟩
    obtain ⟨A4, c4, e4⟩ := hv4.any.len
    rw [List.length_map] at e4
    subst e4
    have Hv4 := Lib.hid (hv4.mono (G := fun b => w.heap.size + 3 ≤ b) (fun _ _ _ => rfl) (fun b hb _ => by have h5 := Hst.out.zbox.lt; unfold New at hb; omega))
    replace Hst := Lib.hid (Hst.out.later hx4)
    replace Hv3 := Lib.hid (Hv3.out.ext hx4)
    clear hv4 hx4
    have b0 := Hst.out.box
    have cf := Hst.out.fcell
    have lf := cell_lt cf
    have x8 := heap_cell b0 8 _ rfl
    have x9 := heap_cell b0 9 _ rfl
    have z8 := heap_frozen b0 8
    have lx := Hst.out.box.lt
    clear b0
    have Hst2 := Lib.hid (Hst.out.set8 (.slice A4 t.methods.length c4))
    have x92 := heap_cell Hst2.out.box 9 _ rfl
    go_wp2_with fail
    clear cf lf lx x8 x9 z8
    clear x92
    replace Hst := Hst2
    replace Hv3 := Lib.hid (Hv3.out.set (show w.heap.size < w.heap.size + 3 by omega) 8 (.slice A4 t.methods.length c4))
    replace Hv4 := Lib.hid (Hv4.out.set (show w.heap.size < w.heap.size + 3 by omega) 8 (.slice A4 t.methods.length c4))
    generalize w4.setCell ⟨w.heap.size, 8, none⟩ (.slice A4 t.methods.length c4) = W4 at Hst Hv3 Hv4 ⊢
    refine (Hov.out _ Hst.out.ext).mono ?_
    rintro e w5 ⟨v5, rfl, hv5, hx5⟩
    obtain ⟨A5, c5, rfl⟩ := hv5.any.len
    have Hv5 := Lib.hid (hv5.mono (G := fun b => w.heap.size + 3 ≤ b) (fun _ _ _ => rfl) (fun b hb _ => by have h5 := Hst.out.zbox.lt; unfold New at hb; omega))
    replace Hst := Lib.hid (Hst.out.later hx5)
    replace Hv3 := Lib.hid (Hv3.out.ext hx5)
    replace Hv4 := Lib.hid (Hv4.out.ext hx5)
    clear hv5 hx5
    have b0 := Hst.out.box
    have x9 := heap_cell b0 9 _ rfl
    have z9 := heap_frozen b0 9
    have lx := Hst.out.box.lt
    clear b0
    have Hst2 := Lib.hid (Hst.out.set9 (.slice A5 t.overs.length c5))
    have b2 := Hst2.out.box
    have q0 := heap_cell b2 0 _ rfl
    have q1 := heap_cell b2 1 _ rfl
    have q2 := heap_cell b2 2 _ rfl
    have q3 := heap_cell b2 3 _ rfl
    have q4 := heap_cell b2 4 _ rfl
    have q5 := heap_cell b2 5 _ rfl
    have q6 := heap_cell b2 6 _ rfl
    have q7 := heap_cell b2 7 _ rfl
    have q8 := heap_cell b2 8 _ rfl
    have q9 := heap_cell b2 9 _ rfl
    have y := Hst2.out.zbox
    have y0 := heap_cell y 0 _ rfl
    have y1 := heap_cell y 1 _ rfl
    have y2 := heap_cell y 2 _ rfl
    have y3 := heap_cell y 3 _ rfl
    have y4 := heap_cell y 4 _ rfl
    have y5 := heap_cell y 5 _ rfl
    have y6 := heap_cell y 6 _ rfl
    have y7 := heap_cell y 7 _ rfl
    have y8 := heap_cell y 8 _ rfl
    have y9 := heap_cell y 9 _ rfl
    have f0 := heap_frozen y 0
    have f1 := heap_frozen y 1
    have f2 := heap_frozen y 2
    have f3 := heap_frozen y 3
    have f4 := heap_frozen y 4
    have f5 := heap_frozen y 5
    have f6 := heap_frozen y 6
    have f7 := heap_frozen y 7
    have f8 := heap_frozen y 8
    have f9 := heap_frozen y 9
    have ly := Hst2.out.zbox.lt
    have lq := Hst2.out.box.lt
    clear b2 y
    go_wp2_with fail
    have e5 := row10_set Hst2.out.zbox (.int .u8 t.kind) (.int .i64 t.low) (.int .i64 t.high) (.bool t.branded) (.string t.brand) (.string t.opaq) (.int .i64 (f t.super)) (.slice A3 t.parts.length c3) (.slice A4 t.methods.length c4) (.slice A5 t.overs.length c5)
    have d0 := heap_cell e5 0 _ rfl
    have d1 := heap_cell e5 1 _ rfl
    have d2 := heap_cell e5 2 _ rfl
    have d3 := heap_cell e5 3 _ rfl
    have d4 := heap_cell e5 4 _ rfl
    have d5 := heap_cell e5 5 _ rfl
    have d6 := heap_cell e5 6 _ rfl
    have d7 := heap_cell e5 7 _ rfl
    have d8 := heap_cell e5 8 _ rfl
    have d9 := heap_cell e5 9 _ rfl
    have hm : turnT f t = ⟨t.kind, t.low, t.high, t.branded, t.brand, t.opaq, f t.super, t.parts.map (turnP f), t.methods.map (turnM f), t.overs⟩ := by unfold turnT; rw [Hs0.out]; rfl
    rw [hm]
    refine bodyPost_ret (v := .agg #[.int .u8 t.kind, .int .i64 t.low, .int .i64 t.high, .bool t.branded, .string t.brand, .string t.opaq, .int .i64 (f t.super), .slice A3 t.parts.length c3, .slice A4 t.methods.length c4, .slice A5 t.overs.length c5]) ?_ rfl ?_
    · simp [results, Tryz.results72, go_sem, d0, d1, d2, d3, d4, d5, d6, d7, d8, d9]
    · refine ⟨_, rfl, ⟨_, ⟨_, _, _, rfl, ?_, ?_, ?_⟩, rfl⟩, ?_⟩
      · refine (Hv3.out.set (show w.heap.size < w.heap.size + 3 by omega) 9 (.slice A5 t.overs.length c5)).mono (fun b hb _ => ?_) (fun b hb _ => (by unfold New; omega))
        rw [Below.heap_setCell _ _ _ _ (by simp; omega), Below.heap_setCell _ _ _ _ (by simp; omega), Below.heap_setCell _ _ _ _ (by simp; omega), Below.heap_setCell _ _ _ _ (by simp; omega), Below.heap_setCell _ _ _ _ (by simp; omega), Below.heap_setCell _ _ _ _ (by simp; omega), Below.heap_setCell _ _ _ _ (by simp; omega), Below.heap_setCell _ _ _ _ (by simp; omega), Below.heap_setCell _ _ _ _ (by simp; omega), Below.heap_setCell _ _ _ _ (by simp; omega)]
      · refine (Hv4.out.set (show w.heap.size < w.heap.size + 3 by omega) 9 (.slice A5 t.overs.length c5)).mono (fun b hb _ => ?_) (fun b hb _ => (by unfold New; omega))
        rw [Below.heap_setCell _ _ _ _ (by simp; omega), Below.heap_setCell _ _ _ _ (by simp; omega), Below.heap_setCell _ _ _ _ (by simp; omega), Below.heap_setCell _ _ _ _ (by simp; omega), Below.heap_setCell _ _ _ _ (by simp; omega), Below.heap_setCell _ _ _ _ (by simp; omega), Below.heap_setCell _ _ _ _ (by simp; omega), Below.heap_setCell _ _ _ _ (by simp; omega), Below.heap_setCell _ _ _ _ (by simp; omega), Below.heap_setCell _ _ _ _ (by simp; omega)]
      · refine (Hv5.out.set (show w.heap.size < w.heap.size + 3 by omega) 9 (.slice A5 t.overs.length c5)).mono (fun b hb _ => ?_) (fun b hb _ => (by unfold New; omega))
        rw [Below.heap_setCell _ _ _ _ (by simp; omega), Below.heap_setCell _ _ _ _ (by simp; omega), Below.heap_setCell _ _ _ _ (by simp; omega), Below.heap_setCell _ _ _ _ (by simp; omega), Below.heap_setCell _ _ _ _ (by simp; omega), Below.heap_setCell _ _ _ _ (by simp; omega), Below.heap_setCell _ _ _ _ (by simp; omega), Below.heap_setCell _ _ _ _ (by simp; omega), Below.heap_setCell _ _ _ _ (by simp; omega), Below.heap_setCell _ _ _ _ (by simp; omega)]
      · exact ((((((((((Hst2.out.ext).setCell (by simp; omega) _).setCell (by simp; omega) _).setCell (by simp; omega) _).setCell (by simp; omega) _).setCell (by simp; omega) _).setCell (by simp; omega) _).setCell (by simp; omega) _).setCell (by simp; omega) _).setCell (by simp; omega) _).setCell (by simp; omega) _
end Go.Proofs.YtldnjnnhfeobdaaGreatDoor
/- Contract: Merge. Conditions: lengths below 2^20. -/
namespace Go.Proofs.YtldnjnnhfeobdaaGreatDoor
set_option linter.all false
set_option linter.unusedSimpArgs false
set_option linter.unusedVariables false
open Go.RowKit Go.Shelf

/-- how many stand for themselves -/
def repsN (cs : List Nat) (k : Nat) : Nat := (List.range k).countP fun i => cs.getD i 0 == i
def placeL (cs : List Nat) (n k : Nat) : List Nat := (List.range n).map fun i => if i < k ∧ cs.getD i 0 = i then repsN cs i else 0
def toF (cs pl : List Nat) (x : Int) : Int := (pl.getD (cs.getD x.toNat 0) 0 : Nat)
def mergeL (g : Graph) (cs pl : List Nat) (k : Nat) : List Ty := ((List.range k).filter fun i => cs.getD i 0 == i).map fun i => turnT (toF cs pl) (getT g i)
def mergeG (g : Graph) : Graph := if errG g [] = 0 then mergeL g (classesG g) (placeL (classesG g) g.length g.length) g.length else []
def mergeTo (g : Graph) : List Int := if errG g [] = 0 then (classesG g).map (fun c => ((placeL (classesG g) g.length g.length).getD c 0 : Int)) else []
theorem repsN_succ (cs : List Nat) (k : Nat) : repsN cs (k + 1) = repsN cs k + if cs.getD k 0 = k then 1 else 0 := by
  unfold repsN
  rw [List.range_succ, List.countP_append]
  by_cases h : cs.getD k 0 = k <;> simp [h, List.countP_cons]
theorem repsN_le (cs : List Nat) (k : Nat) : repsN cs k ≤ k := by
  have := List.countP_le_length (p := fun i => cs.getD i 0 == i) (l := List.range k)
  unfold repsN
  simpa using this
theorem placeL_length (cs : List Nat) (n k : Nat) : (placeL cs n k).length = n := by simp [placeL]
theorem placeL_zero (cs : List Nat) (n : Nat) : placeL cs n 0 = List.replicate n 0 := by
  refine List.ext_getElem (by simp [placeL]) fun i h1 h2 => ?_
  simp [placeL]
theorem placeL_yes {cs : List Nat} {n k : Nat} (hk : k < n) (h : cs.getD k 0 = k) : (placeL cs n k).set k (repsN cs k) = placeL cs n (k + 1) := by
  refine List.ext_getElem (by simp [placeL]) fun i h1 h2 => ?_
  rw [List.getElem_set]
  simp only [placeL, List.getElem_map, List.getElem_range]
  by_cases e : k = i
  · subst e; rw [if_pos rfl, if_pos ⟨by omega, h⟩]
  · rw [if_neg e]
    by_cases h3 : i < k ∧ cs.getD i 0 = i
    · rw [if_pos h3, if_pos ⟨by omega, h3.2⟩]
    · rw [if_neg h3, if_neg (fun h4 => h3 ⟨by omega, h4.2⟩)]
theorem placeL_no {cs : List Nat} {n k : Nat} (h : cs.getD k 0 ≠ k) : placeL cs n (k + 1) = placeL cs n k := by
  refine List.ext_getElem (by simp [placeL]) fun i h1 h2 => ?_
  simp only [placeL, List.getElem_map, List.getElem_range]
  by_cases h3 : i < k ∧ cs.getD i 0 = i
  · rw [if_pos h3, if_pos ⟨by omega, h3.2⟩]
  · rw [if_neg h3, if_neg (fun h4 => h3 ⟨by have : i ≠ k := fun e => h (e ▸ h4.2); omega, h4.2⟩)]
theorem mergeL_succ (g : Graph) (cs pl : List Nat) (k : Nat) : mergeL g cs pl (k + 1) = mergeL g cs pl k ++ if cs.getD k 0 = k then [turnT (toF cs pl) (getT g k)] else [] := by
  unfold mergeL
  rw [List.range_succ, List.filter_append, List.map_append]
  congr 1
  simp only [List.filter_cons, List.filter_nil]
  by_cases h : cs.getD k 0 = k
  · rw [if_pos h, if_pos (beq_iff_eq.2 h)]; rfl
  · rw [if_neg h, if_neg (fun h' => h (beq_iff_eq.1 h'))]; rfl
theorem mergeL_le (g : Graph) (cs pl : List Nat) (k : Nat) : (mergeL g cs pl k).length ≤ k := by
  unfold mergeL
  rw [List.length_map]
  have := List.length_filter_le (fun i => cs.getD i 0 == i) (List.range k)
  simpa using this

/-! ### what holds while the graph is merged -/
structure GSt (w : World) (b7 b8 Bp : Nat) (Ac : Option Addr) (cc n : Nat) (cs pl : List Nat) (wr : World) : Prop where
  ext : Ext w wr
  cbox : Boxed wr b7 24 (.slice Ac n cc)
  pbox : Boxed wr b8 24 (.slice (some ⟨Bp, 0, none⟩) n n)
  row : IntRow wr Bp pl
  cls : SlF (fun b => b < Bp) intE wr (.slice Ac n cc) (cs.map fun (n : Nat) => (n : Int))
  len : cs.length = n ∧ pl.length = n
  nb : w.heap.size ≤ Bp ∧ b7 < Bp ∧ Bp < b8
section
variable {w wr wr' : World} {b7 b8 Bp : Nat} {Ac : Option Addr} {cc n : Nat} {cs pl : List Nat}
theorem GSt.later (h : GSt w b7 b8 Bp Ac cc n cs pl wr) (hx : Ext wr wr') : GSt w b7 b8 Bp Ac cc n cs pl wr' :=
  ⟨h.ext.trans hx, Boxed.ext h.cbox hx, Boxed.ext h.pbox hx, h.row.ext hx, h.cls.ext hx, h.len, h.nb⟩
theorem GSt.set (h : GSt w b7 b8 Bp Ac cc n cs pl wr) (i v : Nat) : GSt w b7 b8 Bp Ac cc n cs (pl.set i v) (wr.setCell ⟨Bp, i, none⟩ (.int .i64 (v : Int))) :=
  ⟨h.ext.setCell h.nb.1 _, Boxed.other' h.cbox _ (by have := h.nb.2.1; omega), Boxed.other' h.pbox _ (by have := h.nb.2.2; omega), h.row.set i v,
   h.cls.mono (fun b hb _ => Below.heap_setCell _ _ _ _ (by simp; omega)) (fun _ h _ => h), ⟨h.len.1, by simp [h.len.2]⟩, h.nb⟩
theorem GSt.class (h : GSt w b7 b8 Bp Ac cc n cs pl wr) (i : Nat) (hi : i < n) : ∃ b off, Ac = some ⟨b, off, none⟩ ∧ wr.cell? ⟨b, off + i, none⟩ = some (.int .i64 (cs.getD i 0 : Nat)) := by
  obtain ⟨A, c, e, hc⟩ := Sl.nat h.cls.any
  simp only [Value.slice.injEq] at e
  obtain ⟨rfl, _, _⟩ := e
  exact hc i (by rw [h.len.1]; exact hi)
end
set_option maxRecDepth 100000 in
theorem merge1_any (w0 w : World) (b7 b8 Bp : Nat) (Ac : Option Addr) (cc n i : Nat) (cs pl : List Nat) (h : GSt w0 b7 b8 Bp Ac cc n cs pl w) (hi : i < n) (hn : n ≤ 1048576) (hc : ∀ k, k < n → cs.getD k 0 < n) :
    Calls Tryz.prog 71 #[.int .i64 i, .pointer (some ⟨b8, 0, none⟩), .pointer (some ⟨b7, 0, none⟩)] w (Ret w (.int .i64 (toF cs pl i))) := by
  have c7 := h.cbox.cell
  have c8 := h.pbox.cell
  obtain ⟨b, off, rfl, c1⟩ := h.class i hi
  have hci := hc i hi
  have c2 := h.row.cell (cs.getD i 0) (by rw [h.len.2]; exact hci)
  unfold toF
  rw [Int.toNat_natCast]
  generalize cs.getD i 0 = c at *
  have l7 := cell_lt c7
  have l8 := cell_lt c8
  have l1 := cell_lt c1
  have l2 := cell_lt c2
  have i0 : (0 : Int) ≤ (i : Int) := by omega
  have i1 : (i : Int) < (n : Int) := by omega
  have i2 : (0 : Int) ≤ (c : Int) := by omega
  have i3 : (c : Int) < (n : Int) := by omega
  clear h hc
  go_enter Tryz.func71, Tryz.ntmps71
  go_wp2_with fail
  go_quiet (fail)
  go_wp2_with fail
  go_ret
  exact ⟨rfl, (Ext.refl w).drewN _⟩
set_option maxRecDepth 100000 in
theorem merge2_any (w0 w : World) (b7 b8 Bp : Nat) (Ac : Option Addr) (cc n i : Nat) (cs pl : List Nat) (h : GSt w0 b7 b8 Bp Ac cc n cs pl w) (hi : i < n) (hn : n ≤ 1048576) :
    Calls Tryz.prog 74 #[.int .i64 i, .pointer (some ⟨b8, 0, none⟩)] w (Ret w (.int .i64 (pl.getD i 0 : Nat))) := by
  have c8 := h.pbox.cell
  have c2 := h.row.cell i (by rw [h.len.2]; exact hi)
  have l8 := cell_lt c8
  have l2 := cell_lt c2
  have i0 : (0 : Int) ≤ (i : Int) := by omega
  have i1 : (i : Int) < (n : Int) := by omega
  clear h
  go_enter Tryz.func74, Tryz.ntmps74
  go_wp2_with fail
  go_ret
  exact ⟨rfl, Ext.refl w⟩
theorem top71 {w0 w : World} {b7 b8 Bp : Nat} {Ac : Option Addr} {cc n : Nat} {cs pl : List Nat} (h : GSt w0 b7 b8 Bp Ac cc n cs pl w) (hn : n ≤ 1048576) (hc : ∀ k, k < n → cs.getD k 0 < n) :
    ToP w 71 #[.pointer (some ⟨b8, 0, none⟩), .pointer (some ⟨b7, 0, none⟩)] (toF cs pl) (fun i => 0 ≤ i ∧ i < n) :=
  ⟨enters_of Tryz.func71 (by kernel_rfl) rfl, fun i hi w' hx => by
    obtain ⟨j, rfl⟩ := Int.eq_ofNat_of_zero_le hi.1
    exact merge1_any w0 w' b7 b8 Bp Ac cc n j cs pl (h.later hx) (by omega) hn hc⟩
theorem map74 {w0 w : World} {b7 b8 Bp : Nat} {Ac : Option Addr} {cc n : Nat} {cs pl : List Nat} (h : GSt w0 b7 b8 Bp Ac cc n cs pl w) (hn : n ≤ 1048576) (xs : List Int) (hx : ∀ x ∈ xs, 0 ≤ x ∧ x < n) :
    MapP intE intE w 74 #[.pointer (some ⟨b8, 0, none⟩)] xs (fun x => (pl.getD x.toNat 0 : Nat)) :=
  ⟨enters_of Tryz.func74 (by kernel_rfl) rfl, by
    rintro x hm w' A hxt ⟨_, rfl, rfl⟩
    obtain ⟨j, rfl⟩ := Int.eq_ofNat_of_zero_le (hx x hm).1
    exact res_int (merge2_any w0 w' b7 b8 Bp Ac cc n j cs pl (h.later hxt) (by have := (hx _ hm).2; omega) hn)⟩
end Go.Proofs.YtldnjnnhfeobdaaGreatDoor
/- Contract: Merge. Conditions: lengths below 2^20. -/
namespace Go.Proofs.YtldnjnnhfeobdaaGreatDoor
set_option linter.all false
set_option linter.unusedSimpArgs false
set_option linter.unusedVariables false
open Go.RowKit Go.Shelf

def MergePost (w : World) (g : Graph) (e : Ending) (w' : World) : Prop :=
  ∃ v1 v2, e = .returned (.tuple #[v1, v2, .int .i64 (errG g [])]) ∧ Sl tyE w' v1 (mergeG g) ∧ Sl intE w' v2 (mergeTo g) ∧ Ext w w'
theorem slice23 : SliceOf Tryz.prog 23 42 10 144 := .mk' Tryz.underlying23 (by kernel_rfl)
theorem clsN_lt {g : Graph} (h : WF g) : ∀ k, k < g.length → (classesG g).getD k 0 < g.length := fun k hk => by
  have := (classesN_facts h.abs).1.le k hk
  show (classesN (agN g) (refsN g) g.length).getD k 0 < g.length
  omega
set_option maxRecDepth 100000 in
set_option maxHeartbeats 16000000 in
theorem merge_any (w : World) (gv : Value) (g : Graph) (hg : Sl tyE w gv g) (hT : Tidy g) (hG : Glob w) :
    Calls Tryz.prog 31 #[gv] w (MergePost w g) := by
  have hop := opened_any w gv (.slice none 0 0) g [] hg hT hG (Sl.nil _ _) (by simp)
  have hcl := fun (hW : WF g) (w' : World) (hx : Ext w w') => classes_any w' gv g (hg.mono hx) hT hW
  have hn := hT.len
  have hmk := fun w' => make_zeros w' g.length hn
  have hty := hT.ty
  have hg' := hg
  obtain ⟨A, cap, rfl, hs⟩ := hg.ty
  unfold MergePost mergeG mergeTo
  by_cases h0 : errG g [] = 0
  · rw [if_pos h0, if_pos h0]
    rw [h0] at hop ⊢
    have hW := (errG_zero h0).1
    have hcl := hcl hW
    have hcs := clsN_lt hW
    have hcl2 := classesG_length g hW
    have hfr := fun i (hi : i < g.length) => (hW.fine (getT_mem hi)).refs
    generalize classesG g = cs at *
    have Hop := Lib.hid hop
    have Hcl := Lib.hid hcl
    have Hcs := Lib.hid hcs
    have Hl := Lib.hid hcl2
    have Hs := Lib.hid hs
    have Hfr := Lib.hid hfr
    have Hty := Lib.hid hty
    have Hg := Lib.hid hg'
    clear hop hcl hcs hcl2 hs hg hg' hT hG h0 hW hfr hty
    go_enter Tryz.func31, Tryz.ntmps31
    go_wp2_with fail
    refine Hop.out.mono ?_
    rintro e w1 ⟨rfl, hx1⟩
    have Hx1 := Lib.hid (hx1.alloc (.cells #[.slice A g.length cap] 77))
    have hbx := heap_cell (heap_alloc_self w1 (.cells #[.slice A g.length cap] 77)) 0 _ rfl
    clear hx1
    go_wp2_with fail
    refine (Hcl.out _ Hx1.out).mono ?_
    rintro e w2 ⟨v2, rfl, hv2, hx2⟩
    obtain ⟨Ac, cc, e2⟩ := hv2.any.len
    rw [List.length_map, Hl.out] at e2
    subst e2
    have hst : GSt w w2.heap.size (w2.heap.size + 1 + 1) (w2.heap.size + 1) Ac cc g.length cs (placeL cs g.length 0) (((w2.alloc (.cells #[.slice Ac g.length cc] 24)).alloc (zeros g.length)).alloc (.cells #[.slice (some ⟨w2.heap.size + 1, 0, none⟩) g.length g.length] 24)) := by
      have e1 := heap_alloc_self w2 (.cells #[.slice Ac g.length cc] 24)
      have e2 := heap_alloc_self (w2.alloc (.cells #[.slice Ac g.length cc] 24)) (zeros g.length)
      have e3 := heap_alloc_self ((w2.alloc (.cells #[.slice Ac g.length cc] 24)).alloc (zeros g.length)) (.cells #[.slice (some ⟨w2.heap.size + 1, 0, none⟩) g.length g.length] 24)
      simp only [World.size_alloc] at e2 e3
      have hx := Hx1.out.trans hx2
      have hsz := hx.size
      refine ⟨((hx.alloc _).alloc _).alloc _, Boxed.ext (Boxed.ext e1 ((Ext.refl _).alloc _)) ((Ext.refl _).alloc _), e3, ?_, ?_, ⟨Hl.out, placeL_length _ _ _⟩, by omega, by omega, by omega⟩
      · rw [placeL_zero]; exact IntRow.ext e2 ((Ext.refl _).alloc _)
      · have h := hv2.mono (G := fun b => b < w2.heap.size + 1) (fun _ _ _ => rfl) (fun b _ hlt => by omega)
        exact ((h.ext ((Ext.refl _).alloc _)).ext ((Ext.refl _).alloc _)).ext ((Ext.refl _).alloc _)
    have Hst := Lib.hid hst
    clear hst hv2 hx2 hbx Hx1
    go_wp2_with fail
    generalize ((w2.alloc (.cells #[.slice Ac g.length cc] 24)).alloc (zeros g.length)).alloc (.cells #[.slice (some ⟨w2.heap.size + 1, 0, none⟩) g.length g.length] 24) = w3 at Hst ⊢
    generalize w2.heap.size = b7 at Hst ⊢
    go_loopw [9, 31] (fun nn u wr => ∃ k : Nat, k ≤ g.length ∧ u = .int .i64 k ∧ nn = .int .i64 (repsN cs k : Nat) ∧ Hid (GSt w b7 (b7 + 1 + 1) (b7 + 1) Ac cc g.length cs (placeL cs g.length k) wr)) (fun _ u _ => g.length - (intOf u).toNat)
    case atStart => exact ⟨0, by omega, rfl, rfl, Hst⟩
    case round =>
      clear Hst
      obtain ⟨k, hk, rfl, rfl, Hst⟩ := hrel
      have c8 := Hst.out.pbox.cell
      have c7 := Hst.out.cbox.cell
      have l8 := cell_lt c8
      have l7 := cell_lt c7
      have hrk := repsN_le cs k
      by_cases hlt : k < g.length
      · obtain ⟨b, off, rfl, c1⟩ := Hst.out.class k hlt
        have l1 := cell_lt c1
        have cr := Hst.out.row.cell k (by rw [placeL_length]; exact hlt)
        have fr := Hst.out.row.frozen k
        have lr := cell_lt cr
        have i0 : (0 : Int) ≤ (k : Int) := by omega
        have i1 : (k : Int) < (g.length : Int) := by omega
        by_cases he : cs.getD k 0 = k
        · have hset := placeL_yes hlt he
          have hsuc := repsN_succ cs k
          rw [if_pos he] at hsuc
          rw [he] at c1
          have Hset := Lib.hid hset
          have Hsuc := Lib.hid hsuc
          clear hset hsuc he
          go_wp2_with fail
          go_roundw
          case rel => exact ⟨k + 1, by omega, by go_num, by rw [Hsuc.out]; go_num, by rw [← Hset.out]; exact Lib.hid (Hst.out.set k (repsN cs k))⟩
          case measure => simp [intOf]; omega
        · have hno := placeL_no (n := g.length) he
          have hsuc := repsN_succ cs k
          rw [if_neg he, Nat.add_zero] at hsuc
          have hne : (((cs.getD k 0 : Nat) : Int) == (k : Int)) = false := by rw [beq_eq_false_iff_ne]; omega
          have Hno := Lib.hid hno
          have Hsuc := Lib.hid hsuc
          generalize cs.getD k 0 = c at *
          clear hno hsuc he
          go_wp2_with fail
          go_roundw
          case rel => exact ⟨k + 1, by omega, by go_num, by rw [Hsuc.out]; rfl, by rw [Hno.out]; exact Hst⟩
          case measure => simp [intOf]; omega
      · have hkn : k = g.length := by omega
        subst hkn
        have hmt : ∀ (w' : World) (hx : Ext wr w') (b : Nat) (off : Nat) (j : Nat) (hj : j < g.length) (vp vm vo : Value) (hof : TyOf w' (getT g j) vp vm vo),
            Calls Tryz.prog 72 #[tyV (getT g j) vp vm vo, .func (.func 71) #[] #[.pointer (some ⟨b7 + 1 + 1, 0, none⟩), .pointer (some ⟨b7, 0, none⟩)]] w' (RetP w' (Res tyE w' (turnT (toF cs (placeL cs g.length g.length)) (getT g j)))) := fun w' hx b off j hj vp vm vo hof =>
          moved_any w' 71 _ _ _ (getT g j) vp vm vo hof (Hty.out _ (getT_mem hj)).1 (top71 (Hst.out.later hx) hn Hcs.out) (fun r hr => Hfr.out j hj r hr)
        have hlast : ∀ (w' : World) (hx : Ext wr w'), Calls Tryz.prog 73 #[.slice Ac g.length cc, .func (.func 74) #[] #[.pointer (some ⟨b7 + 1 + 1, 0, none⟩)]] w' (RetP w' (fun w'' u => SlF (New w') intE w'' u ((cs.map fun (n : Nat) => (n : Int)).map (fun x => ((placeL cs g.length g.length).getD x.toNat 0 : Nat))))) := fun w' hx =>
          turned_int_int 74 _ w' _ _ _ ((Hst.out.later hx).cls.any) (by rw [List.length_map, Hl.out]; exact hn) (map74 (Hst.out.later hx) hn _ (fun x hx => by
            obtain ⟨c, hc, rfl⟩ := List.mem_map.1 hx
            obtain ⟨i, hi, rfl⟩ := List.mem_iff_getElem.1 hc
            have := Hcs.out i (by rw [← Hl.out]; exact hi)
            rw [List.getD_eq_getElem?_getD, List.getElem?_eq_getElem hi] at this
            simp at this
            omega))
        have Hmt := Lib.hid hmt
        have Hlast := Lib.hid hlast
        clear hmt hlast c7 c8 l7 l8 hk hrk hlt
        go_wp2_with fail
        obtain ⟨wo, rfl⟩ : ∃ wo : World, wo = wr := ⟨_, rfl⟩
        generalize hpl : placeL cs g.length g.length = pl at *
        have Hpl := Lib.hid hpl
        clear hpl
        go_loopw [13, 49] (fun o u wr => ∃ k : Nat, k ≤ g.length ∧ u = .int .i64 k ∧ Hid (Ext wo wr) ∧ Hid (Own (New w) tyE wr wo.heap.size 42 o (mergeL g cs pl k))) (fun _ u _ => g.length - (intOf u).toNat)
        case atStart => exact ⟨0, by omega, rfl, Lib.hid (Ext.refl _), Lib.hid (Own.nil _ _ _ _ _)⟩
        case round =>
          obtain ⟨k, hk, rfl, Hx, Hown⟩ := hrel
          have Hst2 := Lib.hid (Hst.out.later Hx.out)
          have hsz0 := Hst2.out.ext.size
          have c8 := Hst2.out.pbox.cell
          have c7 := Hst2.out.cbox.cell
          have l8 := cell_lt c8
          have l7 := cell_lt c7
          have hmk := mergeL_le g cs pl k
          by_cases hlt : k < g.length
          · obtain ⟨b, off, vp, vm, vo, rfl, hat, hof⟩ := Hs.out k hlt
            rw [← getT_lt hlt] at hat hof
            obtain ⟨A1, c1, e1⟩ := hof.parts.len
            obtain ⟨A2, c2, e2⟩ := hof.methods.len
            obtain ⟨A3, c3, e3⟩ := hof.overs.len
            subst e1 e2 e3
            have Hof := Lib.hid hof
            obtain ⟨d0, d1, d2, d3, d4, d5, d6, d7, d8, d9⟩ := hat.mono Hst2.out.ext
            have ld := cell_lt d0
            obtain ⟨bc, oc, rfl, cc1⟩ := Hst2.out.class k hlt
            have lc := cell_lt cc1
            have i0 : (0 : Int) ≤ (k : Int) := by omega
            have i1 : (k : Int) < (g.length : Int) := by omega
            clear hof hat
            by_cases he : cs.getD k 0 = k
            · have hsuc := mergeL_succ g cs pl k
              rw [if_pos he] at hsuc
              rw [he] at cc1
              have Hsuc := Lib.hid hsuc
              have hmv := fun (w' : World) (hx : Ext wr w') => Hmt.out w' (Hx.out.trans hx) b off k hlt _ _ _ (Hof.out.mono (Hst2.out.ext.trans hx))
              unfold tyV at hmv
              have Hmv := Lib.hid hmv
              clear hsuc he hmv
              generalize getT g k = t at *
              go_wp2_with fail
              refine (Hmv.out _ ((Ext.refl wr).alloc _)).mono ?_
              rintro e w5 ⟨v5, rfl, ⟨cs5, hrel, rfl⟩, hx5⟩
              have hx6 := ((Ext.refl wr).alloc (.cells #[.int .u8 t.kind, .int .i64 t.low, .int .i64 t.high, .bool t.branded, .string t.brand, .string t.opaq, .int .i64 t.super, .slice A1 t.parts.length c1, .slice A2 t.methods.length c2, .slice A3 t.overs.length c3] 42)).trans hx5
              have hown1 := Hown.out.kept hx6
              have Hlt : ∀ k, u13.ownBlock = some k → k < wr.heap.size := fun k hk => (Hown.out.lt k hk).2
              have Hrel : Hid (tyE.rel (fun b => New w b ∧ some b ≠ u13.ownBlock) w5 (turnT (toF cs pl) t) cs5) := tyE.mono _ _ _ _ _ _ (fun _ _ _ => rfl) (fun b hb _ => ⟨by unfold New at hb ⊢; simp at hb; omega, fun e => by have h1 := Hlt b e.symm; have h2 : _ ≤ b := hb; (try simp at h2); omega⟩) hrel
              obtain ⟨_, _, _, rfl, ⟨_, _, rfl, _⟩, ⟨_, _, rfl, _⟩, ⟨_, _, rfl, _⟩⟩ := hrel
              have Hown1 := Lib.hid hown1
              have Hx6 := Lib.hid hx6
              have hsz := (Hx.out.trans hx6).size
              clear hown1 Hown hx5 hx6 Hlt d0 d1 d2 d3 d4 d5 d6 d7 d8 d9 ld cc1 lc c7 c8 l7 l8
              simp only [pack]
              go_wp2_with (at_builtin; refine own_append tyE wo.heap.size rfl _ _ 23 42 144 rfl slice23 _ _ (turnT (toF cs pl) t) _ rfl rfl Hown1.out Hrel.out ?c1 ?c2 ?c3 ?_)
              case c1 => exact hsz
              case c2 => omega
              case c3 => decide
              intro v2 w6 hown2 hg2
              rw [← Hsuc.out] at hown2
              have hx7 : Ext wo w6 := Below.grown (Hx.out.trans Hx6.out) hg2 (Hx.out.trans Hx6.out).size (fun k hk => (Hown1.out.lt k hk).1)
              have Hx7 := Lib.hid hx7
              have Hown2 := Lib.hid hown2
              clear hg2 Hown1 Hx6 Hrel hown2 hx7
              go_wp2_with fail
              go_roundw
              case rel => exact ⟨k + 1, by omega, by go_num, Hx7, Hown2⟩
              case measure => simp [intOf]; omega
            · have hsuc := mergeL_succ g cs pl k
              rw [if_neg he, List.append_nil] at hsuc
              have hne : (((cs.getD k 0 : Nat) : Int) == (k : Int)) = false := by rw [beq_eq_false_iff_ne]; omega
              have Hsuc := Lib.hid hsuc
              generalize cs.getD k 0 = c at *
              clear hsuc he
              generalize getT g k = t at *
              go_wp2_with fail
              go_roundw
              case rel => exact ⟨k + 1, by omega, by go_num, Lib.hid (Hx.out.alloc _), by rw [Hsuc.out]; exact Lib.hid (Hown.out.kept ((Ext.refl wr).alloc _))⟩
              case measure => simp [intOf]; omega
          · have hkn : k = g.length := by omega
            subst hkn
            have hsl := Hown.out.sl (fun b hb => by have h := Hst.out.ext.size; show w.heap.size ≤ b; omega)
            have Hsl := Lib.hid hsl
            clear hsl hlt
            go_wp2_with fail
            refine (Hlast.out _ Hx.out).mono ?_
            rintro e w5 ⟨v5, rfl, hv5, hx5⟩
            have Hv5 := Lib.hid hv5
            have Hx5 := Lib.hid (Hst2.out.ext.trans hx5)
            have Hsl5 := Lib.hid (Hsl.out.any.mono hx5)
            clear hv5 hx5 c7 c8 l7 l8
            go_wp2_with fail
            go_ret3
            refine ⟨u13, v5, rfl, by rw [Hpl.out]; exact Hsl5.out, ?_, Hx5.out⟩
            rw [Hpl.out]
            have h := Hv5.out.any
            rw [List.map_map] at h
            exact h
  · rw [if_neg h0, if_neg h0]
    have hne : (errG g [] != 0) = true := by simpa using h0
    generalize errG g [] = er at hop hne ⊢
    have Hop := Lib.hid hop
    clear hop hcl hg hg' hs hT hG h0 hmk hty
    go_enter Tryz.func31, Tryz.ntmps31
    go_wp2_with fail
    refine Hop.out.mono ?_
    rintro e w1 ⟨rfl, hx1⟩
    go_wp2_with fail
    go_ret3
    exact ⟨_, _, rfl, Sl.nil _ _, Sl.nil _ _, hx1.alloc _⟩
end Go.Proofs.YtldnjnnhfeobdaaGreatDoor
/- The law's own example: what the plain functions say of it. No program. -/
namespace Go.Proofs.YtldnjnnhfeobdaaGreatDoor
set_option linter.all false
set_option linter.unusedSimpArgs false
set_option linter.unusedVariables false
open Go.RowKit Go.Shelf

def headS : ByteArray := ⟨#[104, 101, 97, 100]⟩
def tailS : ByteArray := ⟨#[116, 97, 105, 108]⟩
def emptyS : ByteArray := ⟨#[]⟩
def recT (a b : Int) : Ty := ⟨10, 0, 0, false, emptyS, emptyS, 0, [⟨headS, a⟩, ⟨tailS, b⟩], [], []⟩
def listsG : Graph := [⟨1, 0, 0, false, emptyS, emptyS, 0, [], [], []⟩, recT 0 1, recT 0 3, recT 0 2, ⟨9, 0, 0, false, emptyS, emptyS, 0, [⟨emptyS, 1⟩], [], []⟩, ⟨3, 0, 9, false, emptyS, emptyS, 0, [], [], []⟩, recT 5 6]
theorem lists_check : checkG listsG = (0, 0) := by decide +kernel
theorem lists_classes : classesG listsG = [0, 1, 1, 1, 4, 5, 6] := by decide +kernel
theorem lists_way : wayN (agN listsG) (refsN listsG) 7 1 6 = some [0] := by decide +kernel
theorem lists_err (ats : List Int) (h : ats.any (outB 7) = false) : errG listsG ats = 0 := by
  unfold errG
  rw [lists_check]
  simp [listsG] at h ⊢
  exact h
theorem lists_equal : equalG listsG 1 2 = true := by
  unfold equalG sameG
  rw [lists_err _ (by decide), lists_classes]
  decide
theorem lists_differ : equalG listsG 1 6 = false := by
  unfold equalG sameG
  rw [lists_err _ (by decide), lists_classes]
  decide
theorem lists_apart : apartG listsG 1 6 = some [0] := by
  unfold apartG
  rw [lists_err _ (by decide), if_pos rfl]
  exact lists_way
theorem lists_told : checkApartG listsG 1 6 [1, 0] = true := by
  unfold checkApartG
  rw [lists_err _ (by decide), if_pos rfl]
  decide +kernel
theorem lists_merge : (mergeG listsG).length = 5 := by
  unfold mergeG
  rw [lists_err _ (by decide), if_pos rfl, lists_classes]
  decide +kernel
theorem lists_to : mergeTo listsG = [0, 1, 1, 1, 2, 3, 4] := by
  unfold mergeTo
  rw [lists_err _ (by decide), if_pos rfl, lists_classes]
  decide +kernel
theorem lists_text : (textG listsG 3).toArray = #[49, 48, 32, 45, 32, 104, 101, 97, 100, 58, 49, 32, 116, 97, 105, 108, 58, 48, 10, 49, 10] := by decide +kernel
theorem lists_text0 : (textG listsG 0).toArray = #[49, 10] := by decide +kernel
theorem empty_digest : digestB ⟨#[]⟩ = ⟨#[84, 48, 48, 48, 48, 48, 48, 48, 48, 48, 52, 53, 72]⟩ := by decide +kernel
end Go.Proofs.YtldnjnnhfeobdaaGreatDoor
/- Contracts: record, lists, of the law. No condition. -/
namespace Go.Proofs.YtldnjnnhfeobdaaGreatDoor
set_option linter.all false
set_option linter.unusedSimpArgs false
set_option linter.unusedVariables false
open Go.RowKit Go.Shelf

theorem lit_sl {α : Type} {E : Elt α} {F : Nat → Prop} (W : World) (t : TypeId) (xs : List α) (rows : List (List Value)) (n : Nat) (hl : rows.length = xs.length) (hn : n = xs.length) (hF : F W.heap.size)
    (hr : ∀ (i : Nat) (x : α) (r : List Value), xs[i]? = some x → rows[i]? = some r → E.rel F W x r) : SlF F E (W.alloc (.cells rows.flatten.toArray t)) (.slice (some ⟨W.heap.size, 0, none⟩) n n) xs := by
  subst hn
  have hk : ∀ r ∈ rows, r.length = E.k := by
    intro r hm
    obtain ⟨i, hi, rfl⟩ := List.mem_iff_getElem.1 hm
    exact E.len _ _ _ _ (hr i (xs[i]'(by omega)) rows[i] (List.getElem?_eq_getElem (by omega)) (List.getElem?_eq_getElem hi))
  refine ⟨_, _, rfl, fun i x hi => ?_⟩
  have hlt : i < xs.length := (List.getElem?_eq_some_iff.1 hi).1
  have hrow : rows[i]? = some (rows[i]'(by omega)) := List.getElem?_eq_getElem (by omega)
  refine ⟨W.heap.size, 0, rows[i]'(by omega), rfl, ⟨hF, Nat.le_refl _⟩, Elt.ext (hr i x _ hi hrow) ((Ext.refl W).alloc _), fun j u hj => ?_⟩
  rw [World.cell?_alloc_new]
  have := flatten_get rows hk i j _ u hrow hj
  simpa using this

set_option maxRecDepth 100000 in
set_option maxHeartbeats 4000000 in
theorem record_any (w : World) (a b : Int) : Calls Tryz.prog 101 #[.int .i64 a, .int .i64 b] w (RetP w (Res tyE w (recT a b))) := by
  go_enter Tryz.func101, Tryz.ntmps101
  go_wp2_with fail
  have e := Ext.heap ((Ext.refl (w.alloc (.cells #[.int .u8 10, .int .i64 0, .int .i64 0, .bool false, .string ⟨#[]⟩, .string ⟨#[]⟩, .int .i64 0, .slice (some ⟨w.heap.size + 1, 0, none⟩) 2 2, .slice none 0 0, .slice none 0 0] 42))).alloc (.cells #[.string ⟨#[104, 101, 97, 100]⟩, .int .i64 a, .string ⟨#[116, 97, 105, 108]⟩, .int .i64 b] 95)) (heap_alloc_self w (.cells #[.int .u8 10, .int .i64 0, .int .i64 0, .bool false, .string ⟨#[]⟩, .string ⟨#[]⟩, .int .i64 0, .slice (some ⟨w.heap.size + 1, 0, none⟩) 2 2, .slice none 0 0, .slice none 0 0] 42))
  have d0 := heap_cell e 0 _ rfl
  have d1 := heap_cell e 1 _ rfl
  have d2 := heap_cell e 2 _ rfl
  have d3 := heap_cell e 3 _ rfl
  have d4 := heap_cell e 4 _ rfl
  have d5 := heap_cell e 5 _ rfl
  have d6 := heap_cell e 6 _ rfl
  have d7 := heap_cell e 7 _ rfl
  have d8 := heap_cell e 8 _ rfl
  have d9 := heap_cell e 9 _ rfl
  refine bodyPost_ret (v := .agg #[.int .u8 10, .int .i64 0, .int .i64 0, .bool false, .string ⟨#[]⟩, .string ⟨#[]⟩, .int .i64 0, .slice (some ⟨w.heap.size + 1, 0, none⟩) 2 2, .slice none 0 0, .slice none 0 0]) ?_ rfl ?_
  · simp [results, Tryz.results101, go_sem, d0, d1, d2, d3, d4, d5, d6, d7, d8, d9]
  · refine ⟨_, rfl, ⟨_, ⟨_, _, _, rfl, ?_, SlF.nil _ _ _, SlF.nil _ _ _⟩, rfl⟩, ((Ext.refl w).alloc _).alloc _⟩
    have h := lit_sl (F := New w) (E := partE) (w.alloc (.cells #[.int .u8 10, .int .i64 0, .int .i64 0, .bool false, .string ⟨#[]⟩, .string ⟨#[]⟩, .int .i64 0, .slice (some ⟨w.heap.size + 1, 0, none⟩) 2 2, .slice none 0 0, .slice none 0 0] 42)) 95 [⟨headS, a⟩, ⟨tailS, b⟩] [[.string headS, .int .i64 a], [.string tailS, .int .i64 b]] 2 rfl rfl (by unfold New; simp) (fun i x r h1 h2 => by
      match i with
      | 0 => simp at h1 h2; subst h1 h2; rfl
      | 1 => simp at h1 h2; subst h1 h2; rfl
      | i + 2 => simp at h1)
    rw [World.size_alloc] at h
    exact h
set_option maxRecDepth 100000 in
set_option maxHeartbeats 4000000 in
theorem lists_any (w : World) : Calls Tryz.prog 53 #[] w (RetP w (fun w' v => SlF (New w) tyE w' v listsG)) := by
  have hr := record_any
  have Hr := Lib.hid hr
  clear hr
  go_enter Tryz.func53, Tryz.ntmps53
  go_wp2_with fail
  refine (Hr.out _ _ _).mono ?_
  rintro e w1 ⟨_, rfl, ⟨_, ⟨p1, m1', o1, rfl, h1p, h1m, h1o⟩, rfl⟩, hx1⟩
  simp only [pack]
  go_wp2_with fail
  refine (Hr.out _ _ _).mono ?_
  rintro e w2 ⟨_, rfl, ⟨_, ⟨p2, m2', o2, rfl, h2p, h2m, h2o⟩, rfl⟩, hx2⟩
  simp only [pack]
  go_wp2_with fail
  refine (Hr.out _ _ _).mono ?_
  rintro e w3 ⟨_, rfl, ⟨_, ⟨p3, m3', o3, rfl, h3p, h3m, h3o⟩, rfl⟩, hx3⟩
  simp only [pack]
  go_wp2_with fail
  refine (Hr.out _ _ _).mono ?_
  rintro e w4 ⟨_, rfl, ⟨_, ⟨p4, m4', o4, rfl, h4p, h4m, h4o⟩, rfl⟩, hx4⟩
  simp only [pack]
  go_wp2_with fail
  have hx := (hx1.trans (hx2.trans hx3)).alloc (.cells #[.string ⟨#[]⟩, .int .i64 1] 95)
  have hs1 := hx1.size
  have hs2 := hx2.size
  have hs3 := hx3.size
  have hs4 := hx4.size
  rw [World.size_alloc] at hs4
  have m1 : ∀ {α : Type} {E : Elt α} {v : Value} {xs : List α}, SlF (New w) E w1 v xs → SlF (New w) E w4 v xs := fun h => h.ext ((hx2.trans hx3).trans (((Ext.refl _).alloc _).trans hx4))
  have m2 : ∀ {α : Type} {E : Elt α} {v : Value} {xs : List α}, SlF (New w1) E w2 v xs → SlF (New w) E w4 v xs := fun h => (h.mono (fun _ _ _ => rfl) (fun b hb _ => by unfold New at hb ⊢; omega)).ext (hx3.trans (((Ext.refl _).alloc _).trans hx4))
  have m3 : ∀ {α : Type} {E : Elt α} {v : Value} {xs : List α}, SlF (New w2) E w3 v xs → SlF (New w) E w4 v xs := fun h => (h.mono (fun _ _ _ => rfl) (fun b hb _ => by unfold New at hb ⊢; omega)).ext (((Ext.refl _).alloc _).trans hx4)
  have m4 : ∀ {α : Type} {E : Elt α} {v : Value} {xs : List α}, SlF (New (w3.alloc (.cells #[.string ⟨#[]⟩, .int .i64 1] 95))) E w4 v xs → SlF (New w) E w4 v xs := fun h => h.mono (fun _ _ _ => rfl) (fun b hb _ => by unfold New at hb ⊢; rw [World.size_alloc] at hb; omega)
  have hp : SlF (New w) partE w4 (.slice (some ⟨w3.heap.size, 0, none⟩) 1 1) [(⟨emptyS, 1⟩ : Part)] := SlF.ext (lit_sl (α := Part) (E := partE) (F := New w) w3 95 [(⟨emptyS, 1⟩ : Part)] [[.string emptyS, .int .i64 1]] 1 rfl rfl (by unfold New; omega) (fun i x r h1 h2 => by
      match i with
      | 0 => simp at h1 h2; subst h1 h2; rfl
      | i + 1 => simp at h1)) hx4
  go_ret
  refine ⟨_, rfl, lit_sl (F := New w) w4 42 listsG [[.int .u8 1, .int .i64 0, .int .i64 0, .bool false, .string ⟨#[]⟩, .string ⟨#[]⟩, .int .i64 0, .slice none 0 0, .slice none 0 0, .slice none 0 0], [.int .u8 10, .int .i64 0, .int .i64 0, .bool false, .string ⟨#[]⟩, .string ⟨#[]⟩, .int .i64 0, p1, m1', o1], [.int .u8 10, .int .i64 0, .int .i64 0, .bool false, .string ⟨#[]⟩, .string ⟨#[]⟩, .int .i64 0, p2, m2', o2], [.int .u8 10, .int .i64 0, .int .i64 0, .bool false, .string ⟨#[]⟩, .string ⟨#[]⟩, .int .i64 0, p3, m3', o3], [.int .u8 9, .int .i64 0, .int .i64 0, .bool false, .string ⟨#[]⟩, .string ⟨#[]⟩, .int .i64 0, .slice (some ⟨w3.heap.size, 0, none⟩) 1 1, .slice none 0 0, .slice none 0 0], [.int .u8 3, .int .i64 0, .int .i64 9, .bool false, .string ⟨#[]⟩, .string ⟨#[]⟩, .int .i64 0, .slice none 0 0, .slice none 0 0, .slice none 0 0], [.int .u8 10, .int .i64 0, .int .i64 0, .bool false, .string ⟨#[]⟩, .string ⟨#[]⟩, .int .i64 0, p4, m4', o4]] 7 rfl rfl (by unfold New; omega) ?_, ?_⟩
  · intro i x r h1 h2
    match i with
    | 0 => simp [listsG] at h1 h2; subst h1 h2; exact ⟨_, _, _, rfl, SlF.nil _ _ _, SlF.nil _ _ _, SlF.nil _ _ _⟩
    | 1 => simp [listsG] at h1 h2; subst h1 h2; exact ⟨_, _, _, rfl, m1 h1p, m1 h1m, m1 h1o⟩
    | 2 => simp [listsG] at h1 h2; subst h1 h2; exact ⟨_, _, _, rfl, m2 h2p, m2 h2m, m2 h2o⟩
    | 3 => simp [listsG] at h1 h2; subst h1 h2; exact ⟨_, _, _, rfl, m3 h3p, m3 h3m, m3 h3o⟩
    | 4 => simp [listsG] at h1 h2; subst h1 h2; exact ⟨_, _, _, rfl, hp, SlF.nil _ _ _, SlF.nil _ _ _⟩
    | 5 => simp [listsG] at h1 h2; subst h1 h2; exact ⟨_, _, _, rfl, SlF.nil _ _ _, SlF.nil _ _ _, SlF.nil _ _ _⟩
    | 6 => simp [listsG] at h1 h2; subst h1 h2; exact ⟨_, _, _, rfl, m4 h4p, m4 h4m, m4 h4o⟩
    | i + 7 => simp [listsG] at h1
  · exact (hx.trans hx4).alloc _
end Go.Proofs.YtldnjnnhfeobdaaGreatDoor
/- Contract: alive, of the law. Condition: the tables of the library are laid. -/
namespace Go.Proofs.YtldnjnnhfeobdaaGreatDoor
set_option linter.all false
set_option linter.unusedSimpArgs false
set_option linter.unusedVariables false
open Go.RowKit Go.Shelf

theorem lists_tidy : Tidy listsG := by
  refine ⟨by decide, ?_⟩
  intro t ht
  simp only [listsG, List.mem_cons, List.not_mem_nil, or_false] at ht
  rcases ht with rfl | rfl | rfl | rfl | rfl | rfl | rfl <;>
    exact ⟨⟨by decide, by decide, by decide, by simp only [recT, List.forall_mem_cons, List.not_mem_nil, false_imp_iff, implies_true, and_true]; first | done | decide, by decide, by simp [recT], by decide, by simp [recT]⟩, by decide, by decide⟩
theorem lists_errs : errG listsG [1, 2] = 0 ∧ errG listsG [1, 6] = 0 ∧ errG listsG [] = 0 ∧ errG listsG [3] = 0 ∧ errG listsG [0] = 0 := by
  refine ⟨?_, ?_, ?_, ?_, ?_⟩ <;> exact lists_err _ (by decide)
theorem lists_textS : textS listsG 3 = ⟨#[49, 48, 32, 45, 32, 104, 101, 97, 100, 58, 49, 32, 116, 97, 105, 108, 58, 48, 10, 49, 10]⟩ := by
  unfold textS
  rw [lists_errs.2.2.2.1, if_pos rfl]
  exact congrArg ByteArray.mk lists_text
theorem lists_textS0 : textS listsG 0 = ⟨#[49, 10]⟩ := by
  unfold textS
  rw [lists_errs.2.2.2.2, if_pos rfl]
  exact congrArg ByteArray.mk lists_text0
theorem lists_apartP {w w' : World} {e : Ending} : ApartPost w (apartG listsG 1 6) (errG listsG [1, 6]) e w' → ∃ A c b off, e = .returned (.tuple #[.slice A 1 c, .bool true, .int .i64 0]) ∧ A = some ⟨b, off, none⟩ ∧ w'.cell? ⟨b, off, none⟩ = some (.int .i64 0) ∧ Ext w w' := by
  rw [lists_apart, lists_errs.2.1]
  rintro ⟨v, rfl, hv, hx⟩
  obtain ⟨A, c, rfl, hs⟩ := Sl.nat hv
  obtain ⟨b, off, rfl, hc⟩ := hs 0 (by simp)
  exact ⟨_, c, b, off, rfl, rfl, hc, hx⟩
theorem lists_mergeP {w w' : World} {e : Ending} : MergePost w listsG e w' → ∃ A c B k b off, e = .returned (.tuple #[.slice A 5 c, .slice B 7 k, .int .i64 0]) ∧ B = some ⟨b, off, none⟩ ∧ w'.cell? ⟨b, off + 3, none⟩ = some (.int .i64 1) ∧ Ext w w' := by
  rintro ⟨v1, v2, rfl, h1, h2, hx⟩
  obtain ⟨A, c, rfl⟩ := h1.len
  rw [lists_to] at h2
  obtain ⟨B, k, rfl, hs⟩ := h2.int
  obtain ⟨b, off, rfl, hc⟩ := hs 3 (by decide)
  rw [lists_merge, lists_errs.2.2.1]
  exact ⟨A, c, _, k, b, off, rfl, rfl, hc, hx⟩

set_option maxRecDepth 100000 in
set_option maxHeartbeats 16000000 in
theorem alive_any (w : World) (hG : Glob w) : Calls Tryz.prog 14 #[] w (Ret w (.bool true)) := by
  have hl := lists_any
  have he := fun (w' : World) (v : Value) (hx : Ext w w') (hv : Sl tyE w' v listsG) => equal_any w' v listsG 1 2 hv lists_tidy (hG.mono hx)
  have hd := fun (w' : World) (v : Value) (hx : Ext w w') (hv : Sl tyE w' v listsG) => equal_any w' v listsG 1 6 hv lists_tidy (hG.mono hx)
  have ha := fun (w' : World) (v : Value) (hx : Ext w w') (hv : Sl tyE w' v listsG) => (apart_any w' v listsG 1 6 hv lists_tidy (hG.mono hx)).mono fun e w'' h => lists_apartP h
  have hc := fun (w' : World) (v u : Value) (hx : Ext w w') (hv : Sl tyE w' v listsG) (hu : Sl intE w' u [1, 0]) => checkApart_any w' v u listsG 1 6 [1, 0] hv lists_tidy (hG.mono hx) hu (by decide)
  have hm := fun (w' : World) (v : Value) (hx : Ext w w') (hv : Sl tyE w' v listsG) => (merge_any w' v listsG hv lists_tidy (hG.mono hx)).mono fun e w'' h => lists_mergeP h
  have ht := fun (w' : World) (v : Value) (hx : Ext w w') (hv : Sl tyE w' v listsG) => Text_any w' v listsG 3 hv lists_tidy (hG.mono hx)
  have hp := fun (w' : World) (v : Value) (hx : Ext w w') (hv : Sl tyE w' v listsG) => Print_any w' v listsG 0 hv lists_tidy (hG.mono hx) (by rw [lists_textS0]; decide)
  have hg1 := fun (w' : World) => digest_any ⟨#[49, 10]⟩ w' (by decide)
  have hg2 := fun (w' : World) => digest_any ⟨#[]⟩ w' (by decide)
  simp only [lists_errs.1, lists_equal] at he
  simp only [lists_errs.2.1, lists_differ] at hd
  simp only [lists_errs.2.1, lists_told] at hc
  simp only [lists_errs.2.2.2.1, lists_textS] at ht
  simp only [lists_errs.2.2.2.2, lists_textS0, if_true] at hp
  simp only [empty_digest] at hg2
  generalize digestB ⟨#[49, 10]⟩ = dg at *
  have Hl := Lib.hid hl
  have He := Lib.hid he
  have Hd := Lib.hid hd
  have Ha := Lib.hid ha
  have Hc := Lib.hid hc
  have Hm := Lib.hid hm
  have Ht := Lib.hid ht
  have Hp := Lib.hid hp
  have Hg1 := Lib.hid hg1
  have Hg2 := Lib.hid hg2
  clear hl he hd ha hc hm ht hp hg1 hg2 hG
  go_enter Tryz.func14, Tryz.ntmps14
  go_wp2_with fail
  refine (Hl.out _).mono ?_
  rintro e w1 ⟨v, rfl, hv, hx⟩
  obtain ⟨A, cap, rfl⟩ := hv.any.len
  have Hv := Lib.hid hv.any
  have Hx := Lib.hid hx
  clear hv hx
  go_wp2_with fail
  refine (He.out _ _ Hx.out Hv.out).mono ?_
  rintro e w2 ⟨rfl, hx⟩
  replace Hv := Lib.hid (Hv.out.mono hx)
  replace Hx := Lib.hid (Hx.out.trans hx)
  clear hx
  go_wp2_with fail
  refine (Hd.out _ _ Hx.out Hv.out).mono ?_
  rintro e w3 ⟨rfl, hx⟩
  replace Hv := Lib.hid (Hv.out.mono hx)
  replace Hx := Lib.hid (Hx.out.trans hx)
  clear hx
  go_wp2_with fail
  refine (Ha.out _ _ Hx.out Hv.out).mono ?_
  rintro e w4 ⟨Aa, ca, ba, oa, rfl, rfl, cell1, hx⟩
  replace Hv := Lib.hid (Hv.out.mono hx)
  replace Hx := Lib.hid (Hx.out.trans hx)
  clear hx
  have hx := (Ext.refl w4).alloc (.cells #[.int .i64 1, .int .i64 0] 3)
  have Hw := Lib.hid (lit_ints w4 [1, 0] 2 rfl)
  replace Hv := Lib.hid (Hv.out.mono hx)
  replace Hx := Lib.hid (Hx.out.trans hx)
  replace cell1 := hx.cell cell1
  clear hx
  go_wp2_with fail
  refine (Hc.out _ _ _ Hx.out Hv.out Hw.out).mono ?_
  rintro e w5 ⟨rfl, hx⟩
  replace Hv := Lib.hid (Hv.out.mono hx)
  replace Hx := Lib.hid (Hx.out.trans hx)
  replace cell1 := hx.cell cell1
  clear hx
  go_wp2_with fail
  refine (Hm.out _ _ Hx.out Hv.out).mono ?_
  rintro e w6 ⟨Am, cm, Bm, km, bm, om, rfl, rfl, cell2, hx⟩
  replace Hv := Lib.hid (Hv.out.mono hx)
  replace Hx := Lib.hid (Hx.out.trans hx)
  replace cell1 := hx.cell cell1
  clear hx
  go_wp2_with fail
  refine (Ht.out _ _ Hx.out Hv.out).mono ?_
  rintro e w7 ⟨rfl, hx⟩
  replace Hv := Lib.hid (Hv.out.mono hx)
  replace Hx := Lib.hid (Hx.out.trans hx)
  replace cell1 := hx.cell cell1
  replace cell2 := hx.cell cell2
  clear hx
  go_wp2_with fail
  refine (Hp.out _ _ Hx.out Hv.out).mono ?_
  rintro e w8 ⟨rfl, hx⟩
  replace Hv := Lib.hid (Hv.out.mono hx)
  replace Hx := Lib.hid (Hx.out.trans hx)
  replace cell1 := hx.cell cell1
  replace cell2 := hx.cell cell2
  clear hx
  go_wp2_with fail
  refine (Hg1.out _).mono ?_
  rintro e w9 ⟨rfl, hx⟩
  replace Hx := Lib.hid (Hx.out.trans hx)
  clear hx cell1 cell2
  go_wp2_with fail
  refine (Hg2.out _).mono ?_
  rintro e w10 ⟨rfl, hx⟩
  replace Hx := Lib.hid (Hx.out.trans hx)
  clear hx
  go_wp2_with fail
  go_ret
  exact ⟨rfl, Hx.out⟩
end Go.Proofs.YtldnjnnhfeobdaaGreatDoor
/- Contracts of the reference: names, symbols, brands. Conditions: lengths below 2^20. -/
namespace Go.Proofs.YtldnjnnhfeobdaaGreatDoor
set_option linter.all false
set_option linter.unusedSimpArgs false
set_option linter.unusedVariables false
open Go.RowKit Go.Shelf

theorem name_bad {s : ByteArray} {k : Nat} (hk : k < s.size) (h : notNameB (s[k].toNat : Int) = true) : isNameB s = false := by
  unfold isNameB isNameL
  have : (byts s).any notNameB = true := List.any_eq_true.2 ⟨(s[k].toNat : Int), by rw [← byts_get s k hk]; exact List.getElem_mem _, h⟩
  rw [this]; simp
theorem name_good {s : ByteArray} (h1 : 1 ≤ s.size) (h2 : s.size ≤ 12) (hh : isLetterB (s[0].toNat : Int) = true) (h : ∀ j (hj : j < s.size), notNameB (s[j].toNat : Int) = false) : isNameB s = true := by
  unfold isNameB isNameL
  rw [byts_head s (by omega), hh, byts_length]
  have hr : inB ((s.size : Nat) : Int) 1 12 = true := by unfold inB; simp; omega
  have : (byts s).any notNameB = false := by
    rw [List.any_eq_false]
    intro x hx
    obtain ⟨i, hi, rfl⟩ := List.mem_iff_getElem.1 hx
    rw [byts_length] at hi
    rw [byts_get s i hi, h i hi]
    simp
  rw [hr, this]; rfl
set_option maxRecDepth 100000 in
set_option maxHeartbeats 4000000 in
theorem rname_any (s : ByteArray) (w : World) (hs : s.size ≤ 1048576) : Calls Tryz.prog 28 #[.string s] w fun e w' => e = .returned (.bool (isNameB s)) ∧ w' = w := by
  by_cases h1 : 1 ≤ s.size
  · by_cases h2 : s.size ≤ 12
    · have p1 : ¬ (s.size : Int) < 1 := by omega
      have p2 : ¬ (12 : Int) < (s.size : Int) := by omega
      cases hh : isLetterB (s[0].toNat : Int) with
      | false =>
        have hb : isNameB s = false := by unfold isNameB isNameL; rw [byts_head s (by omega), hh]; simp
        have Hh := Lib.hid hh
        clear hh
        rw [hb]
        go_enter Tryz.func28, Tryz.ntmps28
        go_wp2_with fail
        refine (letter_any _ _).mono ?_
        rintro e w' ⟨rfl, rfl⟩
        rw [Hh.out]
        go_wp2_with fail
        go_ret
        exact ⟨rfl, rfl⟩
      | true =>
        have Hh := Lib.hid hh
        clear hh
        go_enter Tryz.func28, Tryz.ntmps28
        go_wp2_with fail
        refine (letter_any _ _).mono ?_
        rintro e w' ⟨rfl, rfl⟩
        rw [Hh.out]
        go_wp2_with fail
        go_loopw [3] (fun u wr => ∃ k : Nat, k ≤ s.size ∧ u = .int .i64 k ∧ wr = w ∧ Hid (∀ j (hj : j < s.size), j < k → notNameB (s[j].toNat : Int) = false)) (fun u _ => s.size - (intOf u).toNat)
        case atStart => exact ⟨0, by omega, rfl, rfl, Lib.hid (fun j _ h => by omega)⟩
        case round =>
          obtain ⟨k, hk, rfl, rfl, Hno⟩ := hrel
          by_cases hlt : k < s.size
          · have i0 : (0 : Int) ≤ (k : Int) := by omega
            have i1 : (k : Int) < (s.size : Int) := by omega
            cases hl : isLetterB (s[k].toNat : Int) with
            | true =>
              have Hl := Lib.hid hl
              clear hl
              go_wp2_with fail
              refine (letter_any _ _).mono ?_
              rintro e w' ⟨rfl, rfl⟩
              rw [Hl.out]
              go_wp2_with fail
              go_roundw
              case rel => exact ⟨k + 1, by omega, by go_num, trivial, Lib.hid (fun j hj hjk => if e : j = k then by subst e; unfold notNameB; rw [Hl.out]; rfl else Hno.out j hj (by omega))⟩
              case measure => simp [intOf]; omega
            | false =>
              cases hd : isDigitB (s[k].toNat : Int) with
              | true =>
                have Hl := Lib.hid hl
                have Hd := Lib.hid hd
                clear hl hd
                go_wp2_with fail
                refine (letter_any _ _).mono ?_
                rintro e w' ⟨rfl, rfl⟩
                rw [Hl.out]
                go_wp2_with fail
                refine (digit_any _ _).mono ?_
                rintro e w' ⟨rfl, rfl⟩
                rw [Hd.out]
                go_wp2_with fail
                go_roundw
                case rel => exact ⟨k + 1, by omega, by go_num, trivial, Lib.hid (fun j hj hjk => if e : j = k then by subst e; unfold notNameB; rw [Hl.out, Hd.out]; rfl else Hno.out j hj (by omega))⟩
                case measure => simp [intOf]; omega
              | false =>
                have hb : isNameB s = false := name_bad hlt (by unfold notNameB; rw [hl, hd]; rfl)
                have Hl := Lib.hid hl
                have Hd := Lib.hid hd
                have Hb := Lib.hid hb
                clear hl hd hb
                go_wp2_with fail
                refine (letter_any _ _).mono ?_
                rintro e w' ⟨rfl, rfl⟩
                rw [Hl.out]
                go_wp2_with fail
                refine (digit_any _ _).mono ?_
                rintro e w' ⟨rfl, rfl⟩
                rw [Hd.out]
                go_wp2_with fail
                go_ret
                rw [Hb.out]
                exact ⟨rfl, rfl⟩
          · have hb : isNameB s = true := name_good h1 h2 Hh.out (fun j hj => Hno.out j hj (by omega))
            have i1 : ¬ (k : Int) < (s.size : Int) := by omega
            have Hb := Lib.hid hb
            clear hb
            go_wp2_with fail
            go_ret
            rw [Hb.out]
            exact ⟨rfl, rfl⟩
    · have p1 : ¬ (s.size : Int) < 1 := by omega
      have p2 : (12 : Int) < (s.size : Int) := by omega
      have hb : isNameB s = false := by
        unfold isNameB isNameL
        have hr : inB ((byts s).length : Int) 1 12 = false := by rw [byts_length]; unfold inB; simp; omega
        rw [hr]; rfl
      rw [hb]
      go_enter Tryz.func28, Tryz.ntmps28
      go_wp2_with fail
      go_ret
      exact ⟨rfl, rfl⟩
  · have p1 : (s.size : Int) < 1 := by omega
    have hb : isNameB s = false := by
      unfold isNameB isNameL
      have hr : inB ((byts s).length : Int) 1 12 = false := by rw [byts_length]; unfold inB; simp; omega
      rw [hr]; rfl
    rw [hb]
    go_enter Tryz.func28, Tryz.ntmps28
    go_wp2_with fail
    go_ret
    exact ⟨rfl, rfl⟩
theorem dot_uniq : ∀ {a a' b b' : List UInt8}, a ++ 46 :: b = a' ++ 46 :: b' → (46 : UInt8) ∉ a → (46 : UInt8) ∉ a' → a = a' ∧ b = b'
  | [], [], _, _, h, _, _ => by simp at h; exact ⟨rfl, h⟩
  | [], x :: a', _, _, h, _, h2 => by simp at h; exact absurd h.1 (fun e => h2 (by simp [e]))
  | x :: a, [], _, _, h, h1, _ => by simp at h; exact absurd h.1 (fun e => h1 (by simp [e]))
  | x :: a, y :: a', b, b', h, h1, h2 => by
    simp at h
    obtain ⟨e1, e2⟩ := dot_uniq h.2 (fun hm => h1 (by simp [hm])) (fun hm => h2 (by simp [hm]))
    exact ⟨by rw [h.1, e1], e2⟩
theorem symbol_dot {s : ByteArray} {a b : List UInt8} (h : s.data.toList = a ++ 46 :: b) (hn : (46 : UInt8) ∉ a) : isSymbolB s = (isNameB ⟨a.toArray⟩ && isNameB ⟨b.toArray⟩) := by
  rcases index_dot s.data.toList with ⟨_, h5⟩ | ⟨a', b', h4, h5, h6⟩
  · exact absurd (by rw [h]; simp) h5
  · obtain ⟨rfl, rfl⟩ := dot_uniq (h.symm.trans h4) hn h5
    have e : Lib.cut s.data.toList [46] = (a, b, true) := by
      unfold Lib.cut
      rw [h6, if_pos (by omega), h4]
      simp
    unfold isSymbolB cutB
    rw [e]; rfl
theorem symbol_none {s : ByteArray} (h : (46 : UInt8) ∉ s.data.toList) : isSymbolB s = false := by
  rcases index_dot s.data.toList with ⟨h4, _⟩ | ⟨a', b', h4, h5, h6⟩
  · unfold isSymbolB cutB Lib.cut
    rw [h4, if_neg (by decide)]
    rfl
  · exact absurd (by rw [h4]; simp) h
theorem byte_at (s : ByteArray) (j : Nat) (hj : j < s.size) : s.data.toList[j]'(by rw [toList_length]; exact hj) = s[j] := by simp; rfl
theorem symbol_at {s : ByteArray} {k : Nat} (hk : k < s.size) (h : (s[k].toNat : Int) = 46) (hno : ∀ j (hj : j < s.size), j < k → (s[j].toNat : Int) ≠ 46) :
    isSymbolB s = (isNameB (s.extract 0 k) && isNameB (s.extract (k + 1) s.size)) := by
  have hlen := toList_length s
  have e46 : s[k] = 46 := by
    apply UInt8.toNat_inj.1
    have : s[k].toNat = 46 := by omega
    rw [this]; rfl
  have hsplit : s.data.toList = s.data.toList.take k ++ 46 :: s.data.toList.drop (k + 1) := by
    have h1 := List.take_append_drop k s.data.toList
    rw [List.drop_eq_getElem_cons (by rw [hlen]; exact hk), byte_at s k hk, e46] at h1
    exact h1.symm
  have hn : (46 : UInt8) ∉ s.data.toList.take k := by
    intro hm
    obtain ⟨j, hj, e⟩ := List.mem_iff_getElem.1 hm
    rw [List.length_take] at hj
    rw [List.getElem_take, byte_at s j (by omega)] at e
    exact hno j (by omega) (by omega) (by rw [e]; rfl)
  rw [symbol_dot hsplit hn]
  have e1 : (⟨(s.data.toList.take k).toArray⟩ : ByteArray) = s.extract 0 k := by
    apply ByteArray.ext
    apply Array.toList_inj.1
    simp [ByteArray.data_extract, List.extract]
  have e2 : (⟨(s.data.toList.drop (k + 1)).toArray⟩ : ByteArray) = s.extract (k + 1) s.size := by
    apply ByteArray.ext
    apply Array.toList_inj.1
    simp [ByteArray.data_extract, List.extract]
    rw [List.take_of_length_le]
    rw [List.length_drop, hlen]
    omega
  rw [e1, e2]
set_option maxRecDepth 100000 in
set_option maxHeartbeats 4000000 in
theorem rsymbol_any (s : ByteArray) (w : World) (hs : s.size ≤ 1048576) : Calls Tryz.prog 30 #[.string s] w fun e w' => e = .returned (.bool (isSymbolB s)) ∧ w' = w := by
  go_enter Tryz.func30, Tryz.ntmps30
  go_wp2_with fail
  go_loopw [3] (fun u wr => ∃ k : Nat, k ≤ s.size ∧ u = .int .i64 k ∧ wr = w ∧ Hid (∀ j (hj : j < s.size), j < k → (s[j].toNat : Int) ≠ 46)) (fun u _ => s.size - (intOf u).toNat)
  case atStart => exact ⟨0, by omega, rfl, rfl, Lib.hid (fun j _ h => by omega)⟩
  case round =>
    obtain ⟨k, hk, rfl, rfl, Hno⟩ := hrel
    by_cases hlt : k < s.size
    · have i0 : (0 : Int) ≤ (k : Int) := by omega
      have i1 : (k : Int) < (s.size : Int) := by omega
      by_cases hd : (s[k].toNat : Int) = 46
      · have hd' : ((s[k].toNat : Int) == 46) = true := by simpa using hd
        go_wp2_with fail
        have hsym := symbol_at hlt hd (fun j hj hjk => Hno.out j hj hjk)
        refine (rname_any _ _ (by simp; omega)).mono ?_
        rintro e w' ⟨rfl, rfl⟩
        cases h1 : isNameB (s.extract 0 k) with
        | false =>
          rw [h1, Bool.false_and] at hsym
          have Hs := Lib.hid hsym
          clear hsym h1
          go_wp2_with fail
          go_ret
          rw [Hs.out]
          exact ⟨rfl, rfl⟩
        | true =>
          rw [h1, Bool.true_and] at hsym
          have Hs := Lib.hid hsym
          clear hsym h1
          go_wp2_with fail
          refine (rname_any _ _ (by simp; omega)).mono ?_
          rintro e w' ⟨rfl, rfl⟩
          rw [← Hs.out]
          go_wp2_with fail
          go_ret
          exact ⟨rfl, rfl⟩
      · have hd' : ((s[k].toNat : Int) == 46) = false := by rw [beq_eq_false_iff_ne]; exact hd
        have Hd := Lib.hid hd
        clear hd
        go_wp2_with fail
        go_roundw
        case rel => exact ⟨k + 1, by omega, by go_num, trivial, Lib.hid (fun j hj hjk => if e : j = k then by subst e; exact Hd.out else Hno.out j hj (by omega))⟩
        case measure => simp [intOf]; omega
    · have i1 : ¬ (k : Int) < (s.size : Int) := by omega
      have hb : isSymbolB s = false := symbol_none (fun hm => by
        obtain ⟨j, hj, e⟩ := List.mem_iff_getElem.1 hm
        have hjs : j < s.size := by rw [toList_length] at hj; exact hj
        rw [byte_at s j hjs] at e
        exact Hno.out j hjs (by omega) (by rw [e]; rfl))
      have Hb := Lib.hid hb
      clear hb
      go_wp2_with fail
      go_ret
      rw [Hb.out]
      exact ⟨rfl, rfl⟩
end Go.Proofs.YtldnjnnhfeobdaaGreatDoor
/- Contracts of the reference: brands, parts, what may be above. Conditions: lengths below 2^20. -/
namespace Go.Proofs.YtldnjnnhfeobdaaGreatDoor
set_option linter.all false
set_option linter.unusedSimpArgs false
set_option linter.unusedVariables false
open Go.RowKit Go.Shelf

theorem brand_bad {s : ByteArray} {k : Nat} (hk : k < s.size) (h : (s[k].toNat : Int) < 32 ∨ (s[k].toNat : Int) > 126 ∨ (s[k].toNat : Int) = 34) : isBrandB s = false := by
  unfold isBrandB
  have : ((byts s).any fun n => decide (n < 32 ∨ n > 126 ∨ n = 34)) = true := List.any_eq_true.2 ⟨(s[k].toNat : Int), by rw [← byts_get s k hk]; exact List.getElem_mem _, by simpa using h⟩
  rw [this]; simp
theorem brand_good {s : ByteArray} (h : ∀ j (hj : j < s.size), ¬ ((s[j].toNat : Int) < 32 ∨ (s[j].toNat : Int) > 126 ∨ (s[j].toNat : Int) = 34)) : isBrandB s = decide (s.size ≤ 20) := by
  unfold isBrandB
  have : ((byts s).any fun n => decide (n < 32 ∨ n > 126 ∨ n = 34)) = false := by
    rw [List.any_eq_false]
    intro x hx
    obtain ⟨i, hi, rfl⟩ := List.mem_iff_getElem.1 hx
    rw [byts_length] at hi
    rw [byts_get s i hi]
    simpa using h i hi
  rw [this]; simp
set_option maxRecDepth 100000 in
set_option maxHeartbeats 4000000 in
theorem rbrand_any (s : ByteArray) (w : World) (hs : s.size ≤ 1048576) : Calls Tryz.prog 117 #[.string s] w fun e w' => e = .returned (.bool (isBrandB s)) ∧ w' = w := by
  go_enter Tryz.func117, Tryz.ntmps117
  go_wp2_with fail
  go_loopw [3] (fun u wr => ∃ k : Nat, k ≤ s.size ∧ u = .int .i64 k ∧ wr = w ∧ Hid (∀ j (hj : j < s.size), j < k → ¬ ((s[j].toNat : Int) < 32 ∨ (s[j].toNat : Int) > 126 ∨ (s[j].toNat : Int) = 34))) (fun u _ => s.size - (intOf u).toNat)
  case atStart => exact ⟨0, by omega, rfl, rfl, Lib.hid (fun j _ h => by omega)⟩
  case round =>
    obtain ⟨k, hk, rfl, rfl, Hno⟩ := hrel
    by_cases hlt : k < s.size
    · have i0 : (0 : Int) ≤ (k : Int) := by omega
      have i1 : (k : Int) < (s.size : Int) := by omega
      have hbad := brand_bad hlt
      have hnext := fun (h : ¬ ((s[k].toNat : Int) < 32 ∨ (s[k].toNat : Int) > 126 ∨ (s[k].toNat : Int) = 34)) j (hj : j < s.size) (hjk : j < k + 1) => if e : j = k then by subst e; exact h else Hno.out j hj (by omega)
      have Hbad := Lib.hid hbad
      have Hnext := Lib.hid hnext
      clear hbad hnext
      by_cases h1 : (s[k].toNat : Int) < 32
      · have Hb := Lib.hid (Hbad.out (.inl h1))
        go_wp2_with fail
        go_ret
        rw [Hb.out]
        exact ⟨rfl, rfl⟩
      · by_cases h2 : (126 : Int) < (s[k].toNat : Int)
        · have Hb := Lib.hid (Hbad.out (.inr (.inl h2)))
          go_wp2_with fail
          go_ret
          rw [Hb.out]
          exact ⟨rfl, rfl⟩
        · by_cases h3 : (s[k].toNat : Int) = 34
          · have h3' : ((s[k].toNat : Int) == 34) = true := by simpa using h3
            have Hb := Lib.hid (Hbad.out (.inr (.inr h3)))
            clear h3
            go_wp2_with fail
            go_ret
            rw [Hb.out]
            exact ⟨rfl, rfl⟩
          · have h3' : ((s[k].toNat : Int) == 34) = false := by rw [beq_eq_false_iff_ne]; exact h3
            have hn := Hnext.out (by omega)
            have Hn := Lib.hid hn
            clear hn h3
            go_wp2_with fail
            go_roundw
            case rel => exact ⟨k + 1, by omega, by go_num, trivial, Hn⟩
            case measure => simp [intOf]; omega
    · have i1 : ¬ (k : Int) < (s.size : Int) := by omega
      have hb : isBrandB s = decide (s.size ≤ 20) := brand_good (fun j hj => Hno.out j hj (by omega))
      have Hb := Lib.hid hb
      clear hb
      by_cases h20 : s.size ≤ 20
      · have q : (s.size : Int) ≤ 20 := by omega
        have hb : isBrandB s = true := by rw [Hb.out, decide_eq_true h20]
        have Hb2 := Lib.hid hb
        clear hb
        go_wp2_with fail
        go_ret
        rw [Hb2.out]
        exact ⟨rfl, rfl⟩
      · have q : ¬ (s.size : Int) ≤ 20 := by omega
        have hb : isBrandB s = false := by rw [Hb.out, decide_eq_false h20]
        have Hb2 := Lib.hid hb
        clear hb
        go_wp2_with fail
        go_ret
        rw [Hb2.out]
        exact ⟨rfl, rfl⟩
end Go.Proofs.YtldnjnnhfeobdaaGreatDoor
/- Contract of the reference: what may be above a type. Conditions: lengths below 2^20. -/
namespace Go.Proofs.YtldnjnnhfeobdaaGreatDoor
set_option linter.all false
set_option linter.unusedSimpArgs false
set_option linter.unusedVariables false
open Go.RowKit Go.Shelf

theorem over_out {g : Graph} {i : Int} {ks : List Int} (h : ¬ (0 ≤ i ∧ i < g.length)) : overB g i ks = false := by
  unfold overB
  have : hasB g.length i = false := by
    cases hb : hasB g.length i with
    | false => rfl
    | true => exact absurd (hasB_iff.1 hb) h
  rw [this, Bool.false_and]
theorem over_at {g : Graph} {i : Nat} {ks : List Int} (h : i < g.length) : overB g (i : Int) ks = ks.any fun y => g[i].kind == y := by
  unfold overB
  rw [hasB_iff.2 (by omega), Bool.true_and, Int.toNat_natCast, List.getElem?_eq_getElem h]
  rfl
set_option maxRecDepth 100000 in
set_option maxHeartbeats 8000000 in
theorem rsuper_any (w : World) (gv : Value) (g : Graph) (t : Ty) (vp vm vo : Value) (hg : Sl tyE w gv g) (hn : g.length ≤ 1048576) :
    Calls Tryz.prog 119 #[gv, tyV t vp vm vo] w (Ret w (.bool (overB g t.super (if t.kind = 13 then kindsOpaque else kindsObject)))) := by
  obtain ⟨A, cap, rfl, hs⟩ := hg.ty
  by_cases h0 : t.super < 0
  · rw [over_out (by omega)]
    clear hs hg
    go_enter Tryz.func119, Tryz.ntmps119
    unfold tyV
    go_wp2_with fail
    go_ret
    exact ⟨rfl, (Ext.refl _).alloc _⟩
  · by_cases h1 : t.super < (g.length : Int)
    · have h1' : ¬ (g.length : Int) ≤ t.super := by omega
      obtain ⟨i, hi⟩ := Int.eq_ofNat_of_zero_le (show 0 ≤ t.super by omega)
      have hlt : i < g.length := by omega
      obtain ⟨b, off, vp', vm', vo', rfl, hat, _⟩ := hs i hlt
      have c0 := hat.c0
      have l0 := cell_lt c0
      rw [hi, over_at hlt]
      have i0 : (0 : Int) ≤ (i : Int) := by omega
      have i1 : (i : Int) < (g.length : Int) := by omega
      generalize g[i].kind = k at *
      obtain ⟨kd, lo, hi', br, bd, op, su, ps, ms, os⟩ := t
      simp only at hi h0 h1 h1'
      subst hi
      unfold tyV
      simp only
      clear hs hg hat
      by_cases k12 : k = 12
      · subst k12
        have hv : ((if kd = 13 then kindsOpaque else kindsObject).any fun y => (12 : Int) == y) = true := by split <;> rfl
        rw [hv]
        go_enter Tryz.func119, Tryz.ntmps119
        go_wp2_with fail
        go_ret
        exact ⟨rfl, (Ext.refl _).alloc _⟩
      by_cases k6 : k = 6
      · subst k6
        have hv : ((if kd = 13 then kindsOpaque else kindsObject).any fun y => (6 : Int) == y) = true := by split <;> rfl
        rw [hv]
        go_enter Tryz.func119, Tryz.ntmps119
        go_wp2_with fail
        go_ret
        exact ⟨rfl, (Ext.refl _).alloc _⟩
      by_cases k7 : k = 7
      · subst k7
        have hv : ((if kd = 13 then kindsOpaque else kindsObject).any fun y => (7 : Int) == y) = true := by split <;> rfl
        rw [hv]
        go_enter Tryz.func119, Tryz.ntmps119
        go_wp2_with fail
        go_ret
        exact ⟨rfl, (Ext.refl _).alloc _⟩
      by_cases k8 : k = 8
      · subst k8
        have hv : ((if kd = 13 then kindsOpaque else kindsObject).any fun y => (8 : Int) == y) = true := by split <;> rfl
        rw [hv]
        go_enter Tryz.func119, Tryz.ntmps119
        go_wp2_with fail
        go_ret
        exact ⟨rfl, (Ext.refl _).alloc _⟩
      by_cases k13 : k = 13
      · subst k13
        have hv : ((if kd = 13 then kindsOpaque else kindsObject).any fun y => (13 : Int) == y) = true := by split <;> rfl
        rw [hv]
        go_enter Tryz.func119, Tryz.ntmps119
        go_wp2_with fail
        go_ret
        exact ⟨rfl, (Ext.refl _).alloc _⟩
      by_cases k4 : k = 4
      · subst k4
        by_cases kd13 : kd = 13
        · have q : (kd == 13) = true := by simpa using kd13
          rw [if_pos kd13]
          clear kd13
          go_enter Tryz.func119, Tryz.ntmps119
          go_wp2_with fail
          go_ret
          exact ⟨rfl, (Ext.refl _).alloc _⟩
        · have q : (kd == 13) = false := by rw [beq_eq_false_iff_ne]; exact kd13
          rw [if_neg kd13]
          clear kd13
          go_enter Tryz.func119, Tryz.ntmps119
          go_wp2_with fail
          go_ret
          exact ⟨rfl, (Ext.refl _).alloc _⟩
      have q12 : (k == 12) = false := by rw [beq_eq_false_iff_ne]; exact k12
      have q6 : (k == 6) = false := by rw [beq_eq_false_iff_ne]; exact k6
      have q7 : (k == 7) = false := by rw [beq_eq_false_iff_ne]; exact k7
      have q8 : (k == 8) = false := by rw [beq_eq_false_iff_ne]; exact k8
      have q13 : (k == 13) = false := by rw [beq_eq_false_iff_ne]; exact k13
      have q4 : (k == 4) = false := by rw [beq_eq_false_iff_ne]; exact k4
      have hv : ((if kd = 13 then kindsOpaque else kindsObject).any fun y => k == y) = false := by
        split <;> simp [kindsOpaque, kindsObject, k12, k6, k7, k8, k13, k4]
      rw [hv]
      clear k12 k6 k7 k8 k13 k4 hv
      go_enter Tryz.func119, Tryz.ntmps119
      go_wp2_with fail
      go_ret
      exact ⟨rfl, (Ext.refl _).alloc _⟩
    · have h1' : (g.length : Int) ≤ t.super := by omega
      rw [over_out (by omega)]
      clear hs hg
      go_enter Tryz.func119, Tryz.ntmps119
      unfold tyV
      go_wp2_with fail
      go_ret
      exact ⟨rfl, (Ext.refl _).alloc _⟩
end Go.Proofs.YtldnjnnhfeobdaaGreatDoor
/- Plain law: what the reference asks of a type is what the program asks; a walk up that comes back does so in as many steps as there are types. No condition. -/
namespace Go.Proofs.YtldnjnnhfeobdaaGreatDoor
set_option linter.all false
set_option linter.unusedSimpArgs false
set_option linter.unusedVariables false
open Go.RowKit

/-! ### names of parts, methods, overrides -/
def partsFrom (n : Nat) (seen : List ByteArray) : List Part → Bool
  | [] => true
  | p :: r => isNameB p.name && (hasB n p.type && (!memB p.name seen && partsFrom n (seen ++ [p.name]) r))
def methsFrom (n : Nat) (seen : List ByteArray) : List Method → Bool
  | [] => true
  | m :: r => isNameB m.name && ((strEq m.proc ByteArray.empty || isSymbolB m.proc) && (sigB n m && (!memB m.name seen && methsFrom n (seen ++ [m.name]) r)))
def oversFrom (seen : List ByteArray) : List Over → Bool
  | [] => true
  | o :: r => isNameB o.name && (isSymbolB o.proc && (!memB o.name seen && oversFrom (seen ++ [o.name]) r))
theorem distinct_step (seen : List ByteArray) (x : ByteArray) (r : List ByteArray) : distinctFrom seen (x :: r) = if memB x seen then false else isNameB x && distinctFrom (seen ++ [x]) r := rfl
theorem parts_law (n : Nat) : ∀ (l : List Part) (seen : List ByteArray), partsFrom n seen l = (!l.any (partBad n) && distinctFrom seen (l.map Part.name))
  | [], seen => rfl
  | p :: r, seen => by
    have ih := parts_law n r (seen ++ [p.name])
    unfold partsFrom
    rw [ih, List.any_cons, List.map_cons, distinct_step]
    generalize r.any (partBad n) = x
    generalize distinctFrom (seen ++ [p.name]) (r.map Part.name) = y
    unfold partBad
    cases isNameB p.name <;> cases hasB n p.type <;> cases memB p.name seen <;> cases x <;> simp
theorem meths_law (n : Nat) : ∀ (l : List Method) (seen : List ByteArray), methsFrom n seen l = (!l.any (badMethod n) && distinctFrom seen (l.map Method.name))
  | [], seen => rfl
  | m :: r, seen => by
    have ih := meths_law n r (seen ++ [m.name])
    unfold methsFrom
    rw [ih, List.any_cons, List.map_cons, distinct_step]
    generalize r.any (badMethod n) = x
    generalize distinctFrom (seen ++ [m.name]) (r.map Method.name) = y
    unfold badMethod
    cases isNameB m.name <;> cases sigB n m <;> cases memB m.name seen <;> cases x <;> cases strEq m.proc ByteArray.empty <;> cases isSymbolB m.proc <;> simp
theorem overs_law : ∀ (l : List Over) (seen : List ByteArray), oversFrom seen l = (!l.any badOver && distinctFrom seen (l.map Over.name))
  | [], seen => rfl
  | o :: r, seen => by
    have ih := overs_law r (seen ++ [o.name])
    unfold oversFrom
    rw [ih, List.any_cons, List.map_cons, distinct_step]
    generalize r.any badOver = x
    generalize distinctFrom (seen ++ [o.name]) (r.map Over.name) = y
    unfold badOver
    cases isNameB o.name <;> cases memB o.name seen <;> cases x <;> cases isSymbolB o.proc <;> simp
def partsB (n : Nat) (l : List Part) : Bool := partsFrom n [] l && decide (l.length ≤ 8)
def methsB (n : Nat) (t : Ty) : Bool := methsFrom n [] t.methods && (oversFrom [] t.overs && (decide (t.methods.length ≤ 8) && decide (t.overs.length ≤ 8)))
/-! ### a type in itself -/
def numsB (t : Ty) : Bool := decide (t.low = 0) && decide (t.high = 0)
def brandlessB (t : Ty) : Bool := !t.branded && strEq t.brand ByteArray.empty
def plainsB (t : Ty) : Bool := decide (t.methods.length = 0) && decide (t.overs.length = 0)
def brandingB (t : Ty) : Bool := isBrandB t.brand && (t.branded || strEq t.brand ByteArray.empty)
def topB (t : Ty) : Bool := decide (t.super = 0)
def bareB (t : Ty) : Bool := decide (t.parts.length = 0)
def clearB (t : Ty) : Bool := strEq t.opaq ByteArray.empty
def oneB (n : Nat) (t : Ty) : Bool := decide (t.parts.length = 1) && (strEq ((t.parts.head?.map Part.name).getD ByteArray.empty) ByteArray.empty && hasB n ((t.parts.head?.map Part.type).getD 0))
def saidB (g : Graph) (t : Ty) : Bool :=
  if t.kind = 3 then decide (-1000000000 ≤ t.low) && (decide (t.low ≤ t.high) && (decide (t.high ≤ 1000000000) && (brandlessB t && (topB t && (bareB t && (plainsB t && clearB t))))))
  else if t.kind = 9 ∨ t.kind = 11 then numsB t && (brandingB t && (topB t && (oneB g.length t && (plainsB t && clearB t))))
  else if t.kind = 10 then numsB t && (brandingB t && (topB t && (decide (1 ≤ t.parts.length) && (partsB g.length t.parts && (plainsB t && clearB t)))))
  else if t.kind = 12 then numsB t && (brandingB t && (overB g t.super kindsObject && (partsB g.length t.parts && (methsB g.length t && clearB t))))
  else if t.kind = 13 then numsB t && (brandlessB t && (overB g t.super kindsOpaque && (bareB t && (plainsB t && isSymbolB t.opaq))))
  else if 1 ≤ t.kind ∧ t.kind < 14 then numsB t && (brandlessB t && (topB t && (bareB t && (plainsB t && clearB t)))) else false
theorem isEmpty_strEq (s : ByteArray) : s.toList.isEmpty = strEq s ByteArray.empty := (strEq_empty s).symm
theorem lens_zero (a b c : Nat) : decide (a + b + c = 0) = (decide (a = 0) && (decide (b = 0) && decide (c = 0))) := by
  rw [Bool.eq_iff_iff]; simp; omega
theorem le8 (n : Nat) : decide ((n : Int) ≤ 8) = decide (n ≤ 8) := by rw [Bool.eq_iff_iff]; simp; omega
set_option maxHeartbeats 1000000 in
theorem said_right (g : Graph) (t : Ty) : saidB g t = rightB g t := by
  unfold saidB rightB
  by_cases h3 : t.kind = 3
  · rw [if_pos h3, if_pos h3]
    unfold rangedB zeroB noRange brandlessB topB bareB plainsB clearB inB
    simp only [isEmpty_strEq, lens_zero]
    generalize decide (-1000000000 ≤ t.low) = a1
    generalize decide (t.low ≤ t.high) = a2
    generalize decide (t.high ≤ 1000000000) = a3
    generalize t.branded = a4
    generalize strEq t.brand ByteArray.empty = a5
    generalize strEq t.opaq ByteArray.empty = a6
    generalize decide (t.super = 0) = a7
    generalize decide (t.parts.length = 0) = a8
    generalize decide (t.methods.length = 0) = a9
    generalize decide (t.overs.length = 0) = b1
    rw [Bool.eq_iff_iff]
    simp
    grind
  rw [if_neg h3, if_neg h3]
  by_cases h9 : t.kind = 9 ∨ t.kind = 11
  · rw [if_pos h9, if_pos h9]
    unfold heldB brandedB zeroB noParts noBrand brandingB topB plainsB clearB numsB oneB
    simp only [isEmpty_strEq, lens_zero]
    match hp : t.parts with
    | [] => simp
    | [p] =>
      have : strEq ByteArray.empty ByteArray.empty = true := by unfold strEq; simp
      simp only [this, List.any_cons, List.any_nil, partBad, List.length_cons, List.length_nil, List.head?_cons, Option.map_some, Option.getD_some]
      generalize isBrandB t.brand = a1
      generalize t.branded = a2
      generalize strEq t.brand ByteArray.empty = a3
      generalize strEq t.opaq ByteArray.empty = a4
      generalize strEq p.name ByteArray.empty = a5
      generalize hasB g.length p.type = a6
      generalize decide (t.low = 0) = a7
      generalize decide (t.high = 0) = a8
      generalize decide (t.super = 0) = a9
      rw [Bool.eq_iff_iff]
      simp
      grind
    | p :: q :: r => simp
  rw [if_neg h9, if_neg h9]
  have he : strEq ByteArray.empty ByteArray.empty = true := by unfold strEq; simp
  by_cases h10 : t.kind = 10
  · rw [if_pos h10, if_pos h10]
    unfold recordedB brandedB zeroB noParts noBrand brandingB topB plainsB clearB numsB partsB differentB
    simp only [isEmpty_strEq, lens_zero, parts_law, he, List.length_map, le8]
    have h1 : decide (1 ≤ t.parts.length) = decide (0 < t.parts.length) := rfl
    rw [h1]
    generalize isBrandB t.brand = a1
    generalize t.branded = a2
    generalize strEq t.brand ByteArray.empty = a3
    generalize strEq t.opaq ByteArray.empty = a4
    generalize t.parts.any (partBad g.length) = a5
    generalize distinctFrom [] (t.parts.map Part.name) = a6
    generalize decide (0 < t.parts.length) = a7
    generalize decide (t.parts.length ≤ 8) = a8
    generalize decide (t.low = 0) = a9
    generalize decide (t.high = 0) = b1
    generalize decide (t.super = 0) = b2
    rw [Bool.eq_iff_iff]
    simp
    grind
  rw [if_neg h10, if_neg h10]
  by_cases h12 : t.kind = 12
  · rw [if_pos h12, if_pos h12]
    unfold objectsB brandedB zeroB noObject noBrand brandingB clearB numsB partsB differentB objectB methsB differentB
    simp only [isEmpty_strEq, lens_zero, parts_law, meths_law, overs_law, he, List.length_map, le8]
    generalize isBrandB t.brand = a1
    generalize t.branded = a2
    generalize strEq t.brand ByteArray.empty = a3
    generalize strEq t.opaq ByteArray.empty = a4
    generalize t.parts.any (partBad g.length) = a5
    generalize distinctFrom [] (t.parts.map Part.name) = a6
    generalize decide (t.parts.length ≤ 8) = a7
    generalize decide (t.low = 0) = a8
    generalize decide (t.high = 0) = a9
    generalize t.methods.any (badMethod g.length) = b1
    generalize distinctFrom [] (t.methods.map Method.name) = b2
    generalize decide (t.methods.length ≤ 8) = b3
    generalize t.overs.any badOver = b4
    generalize distinctFrom [] (t.overs.map Over.name) = b5
    generalize decide (t.overs.length ≤ 8) = b6
    generalize overB g t.super kindsObject = b7
    rw [Bool.eq_iff_iff]
    simp
    grind
  rw [if_neg h12, if_neg h12]
  by_cases h13 : t.kind = 13
  · rw [if_pos h13, if_pos h13]
    unfold opaqueB zeroB noOpaque brandlessB plainsB numsB bareB
    simp only [isEmpty_strEq, lens_zero, he]
    cases isSymbolB t.opaq <;> cases t.branded <;> cases strEq t.brand ByteArray.empty <;> cases overB g t.super kindsOpaque <;> cases decide (t.low = 0) <;> cases decide (t.high = 0) <;> cases decide (t.parts.length = 0) <;> simp
  rw [if_neg h13, if_neg h13]
  by_cases h1 : 1 ≤ t.kind ∧ t.kind < 14
  · rw [if_pos h1, decide_eq_true h1]
    unfold zeroB brandlessB topB plainsB numsB bareB clearB
    simp only [isEmpty_strEq, lens_zero, Bool.true_and]
    cases t.branded <;> cases strEq t.brand ByteArray.empty <;> cases strEq t.opaq ByteArray.empty <;> cases decide (t.low = 0) <;> cases decide (t.high = 0) <;> cases decide (t.super = 0) <;> cases decide (t.parts.length = 0) <;> simp
  · rw [if_neg h1, decide_eq_false h1, Bool.false_and]
/-! ### the walk up -/
def upN (g : Graph) : Nat → Nat → Nat
  | 0, a => a
  | k + 1, a => upN g k (superN g a)
theorem upN_succ (g : Graph) : ∀ k a, upN g (k + 1) a = superN g (upN g k a)
  | 0, a => rfl
  | k + 1, a => by rw [upN, upN_succ g k]; rfl
theorem upN_add (g : Graph) (j : Nat) : ∀ k a, upN g (j + k) a = upN g j (upN g k a)
  | 0, a => rfl
  | k + 1, a => by rw [← Nat.add_assoc, upN, upN_add g j k]; rfl
theorem cycN_iff (g : Graph) (i : Nat) : ∀ m a, cycN g i m a = true ↔ ∃ k, 1 ≤ k ∧ k ≤ m ∧ (∀ j, j < k → hasSuperB (getT g (upN g j a)).kind = true) ∧ upN g k a = i
  | 0, a => by
    constructor
    · intro h; simp [cycN] at h
    · rintro ⟨k, h1, h2, _⟩; omega
  | m + 1, a => by
    unfold cycN
    rw [Bool.and_eq_true, Bool.or_eq_true, decide_eq_true_iff, cycN_iff g i m]
    constructor
    · rintro ⟨h1, h2 | ⟨k, k1, k2, k3, k4⟩⟩
      · exact ⟨1, by omega, by omega, fun j hj => by obtain rfl : j = 0 := by omega
                                                     exact h1, h2⟩
      · refine ⟨k + 1, by omega, by omega, fun j hj => ?_, k4⟩
        cases j with
        | zero => exact h1
        | succ j => exact k3 j (by omega)
    · rintro ⟨k, k1, k2, k3, k4⟩
      refine ⟨k3 0 (by omega), ?_⟩
      cases k with
      | zero => omega
      | succ k =>
        by_cases hk : k = 0
        · subst hk; exact .inl k4
        · exact .inr ⟨k, by omega, by omega, fun j hj => k3 (j + 1) (by omega), k4⟩
theorem cyc_more {g : Graph} (hr : ∀ t ∈ g, rightB g t = true) {i : Nat} (hi : i < g.length) : cycN g i (g.length + 1) i = cycN g i g.length i := by
  rw [Bool.eq_iff_iff, cycN_iff, cycN_iff]
  constructor
  · rintro h
    obtain ⟨k, _, ⟨k1, k2, k3, k4⟩, hmin⟩ := least_exists (p := fun k => 1 ≤ k ∧ k ≤ g.length + 1 ∧ (∀ j, j < k → hasSuperB (getT g (upN g j i)).kind = true) ∧ upN g k i = i) _ h.choose_spec
    refine ⟨k, k1, ?_, k3, k4⟩
    have hrng : ∀ j, j < k → upN g j i < g.length := by
      intro j hj
      induction j with
      | zero => exact hi
      | succ j ih =>
        have h0 := ih (by omega)
        have hs := k3 j (by omega)
        have hf := right_fine (hr _ (getT_mem h0))
        rw [upN_succ]
        have := hf.super hs
        unfold superN
        omega
    have hnd : ((List.range k).map fun j => upN g j i).Nodup := by
      rw [List.nodup_iff_pairwise_ne, List.pairwise_map]
      refine List.Pairwise.imp_of_mem ?_ (List.pairwise_lt_range (n := k))
      intro p q hp hq hpq he
      rw [List.mem_range] at hp hq
      have h2 : upN g (k - q + p) i = i := by
        rw [upN_add, he, ← upN_add, show k - q + q = k by omega]
        exact k4
      exact hmin (k - q + p) (by omega) ⟨by omega, by omega, fun j hj => k3 j (by omega), h2⟩
    have := nodup_length_le (l := List.range g.length) hnd (fun x hx => by
      obtain ⟨j, hj, rfl⟩ := List.mem_map.1 hx
      rw [List.mem_range] at hj ⊢
      exact hrng j hj)
    simpa using this
  · rintro ⟨k, k1, k2, k3, k4⟩
    exact ⟨k, k1, by omega, k3, k4⟩
end Go.Proofs.YtldnjnnhfeobdaaGreatDoor
